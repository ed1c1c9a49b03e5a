/- The digest's plain functions (layer 4): rotations, schedule, rounds. No program in sight. -/
import Derived.WalkKit
import Derived.Lib.Hide
import Derived.IntWalk
set_option linter.unusedVariables false
namespace Go.Proofs.YteggcfcjajpcgaaDoor
open Go
/-- right-rotation of a word -/
def ror (x n : Int) : Int := bits .or .u32 (x / 2 ^ n.toNat) (x * 2 ^ (32 - n).toNat % 4294967296)
def u32w (x : Int) : Int := x % 4294967296
def be4 (a b c d : Int) : Int := bits .or .u32 (bits .or .u32 (bits .or .u32 (u32w (u32w a * 16777216)) (u32w (u32w b * 65536))) (u32w (u32w c * 256))) (u32w d)
def sg0 (x : Int) : Int := bits .xor .u32 (bits .xor .u32 (ror x 7) (ror x 18)) (x / 8)
def sg1 (x : Int) : Int := bits .xor .u32 (bits .xor .u32 (ror x 17) (ror x 19)) (x / 1024)
def schN (b : Nat → Int) (k : Nat) (l : List Int) : Int :=
  if k < 16 then be4 (b (4 * k)) (b (4 * k + 1)) (b (4 * k + 2)) (b (4 * k + 3))
  else u32w (l.getD (k - 16) 0 + l.getD (k - 7) 0 + sg0 (l.getD (k - 15) 0) + sg1 (l.getD (k - 2) 0))
def schL (b : Nat → Int) : Nat → List Int
  | 0 => []
  | k + 1 => schL b k ++ [schN b k (schL b k)]
/-- word k of a block's schedule -/
def sch (b : Nat → Int) (k : Nat) : Int := schN b k (schL b k)
theorem schL_length (b : Nat → Int) (k : Nat) : (schL b k).length = k := by
  induction k with
  | zero => rfl
  | succ k ih => simp [schL, ih]
theorem schL_get (b : Nat → Int) (k j : Nat) (h : j < k) : (schL b k).getD j 0 = sch b j := by
  induction k with
  | zero => omega
  | succ k ih =>
    rw [schL, List.getD_eq_getElem?_getD]
    by_cases e : j < k
    · rw [List.getElem?_append_left (by rw [schL_length]; exact e), ← List.getD_eq_getElem?_getD, ih e]
    · have : j = k := by omega
      subst this
      rw [List.getElem?_append_right (by rw [schL_length]; omega), schL_length]
      simp [sch]
theorem sch_lo (b : Nat → Int) (k : Nat) (h : k < 16) : sch b k = be4 (b (4 * k)) (b (4 * k + 1)) (b (4 * k + 2)) (b (4 * k + 3)) := by
  unfold sch schN; rw [if_pos h]
theorem sch_hi (b : Nat → Int) (k : Nat) (h : ¬ k < 16) : sch b k = u32w (sch b (k - 16) + sch b (k - 7) + sg0 (sch b (k - 15)) + sg1 (sch b (k - 2))) := by
  rw [sch, schN, if_neg h, schL_get b k _ (by omega), schL_get b k _ (by omega), schL_get b k _ (by omega), schL_get b k _ (by omega)]
structure W8 where
  a : Int
  b : Int
  c : Int
  d : Int
  e : Int
  f : Int
  g : Int
  h : Int
def W8.get (s : W8) : Nat → Int
  | 0 => s.a | 1 => s.b | 2 => s.c | 3 => s.d | 4 => s.e | 5 => s.f | 6 => s.g | 7 => s.h
  | _ => 0
def bigS1 (e : Int) : Int := bits .xor .u32 (bits .xor .u32 (ror e 6) (ror e 11)) (ror e 25)
def bigS0 (a : Int) : Int := bits .xor .u32 (bits .xor .u32 (ror a 2) (ror a 13)) (ror a 22)
def kL : List Int := [1116352408, 1899447441, 3049323471, 3921009573, 961987163, 1508970993, 2453635748, 2870763221, 3624381080, 310598401, 607225278, 1426881987, 1925078388, 2162078206, 2614888103, 3248222580, 3835390401, 4022224774, 264347078, 604807628, 770255983, 1249150122, 1555081692, 1996064986, 2554220882, 2821834349, 2952996808, 3210313671, 3336571891, 3584528711, 113926993, 338241895, 666307205, 773529912, 1294757372, 1396182291, 1695183700, 1986661051, 2177026350, 2456956037, 2730485921, 2820302411, 3259730800, 3345764771, 3516065817, 3600352804, 4094571909, 275423344, 430227734, 506948616, 659060556, 883997877, 958139571, 1322822218, 1537002063, 1747873779, 1955562222, 2024104815, 2227730452, 2361852424, 2428436474, 2756734187, 3204031479, 3329325298]
def kAt (k : Nat) : Int := kL.getD k 0
def kV : Array Value := (kL.map fun x => Value.int .u32 x).toArray
theorem kV_at (k : Nat) (h : k < 64) : kV[k]? = some (.int .u32 (kAt k)) := by
  have hl : k < kL.length := h
  simp [kV, kAt, hl]
theorem kV_size : kV.size = 64 := rfl
def notw (x : Int) : Int := bits .xor .u32 4294967295 x
def chW (v : W8) : Int := bits .xor .u32 (bits .and .u32 v.e v.f) (bits .and .u32 (notw v.e) v.g)
def majW (v : W8) : Int := bits .xor .u32 (bits .xor .u32 (bits .and .u32 v.a v.b) (bits .and .u32 v.a v.c)) (bits .and .u32 v.b v.c)
def t1W (K W : Int) (v : W8) : Int := u32w (v.h + bigS1 v.e + chW v + K + W)
def t2W (v : W8) : Int := u32w (bigS0 v.a + majW v)
def stepW (K W : Int) (v : W8) : W8 := ⟨u32w (t1W K W v + t2W v), v.a, v.b, v.c, u32w (v.d + t1W K W v), v.e, v.f, v.g⟩
def rnds (v : W8) (ws : Nat → Int) : Nat → W8
  | 0 => v
  | k + 1 => stepW (kAt k) (ws k) (rnds v ws k)
/-- the words behind a block more -/
def comp (v : W8) (b : Nat → Int) : W8 :=
  let r := rnds v (sch b) 64
  ⟨u32w (v.a + r.a), u32w (v.b + r.b), u32w (v.c + r.c), u32w (v.d + r.d), u32w (v.e + r.e), u32w (v.f + r.f), u32w (v.g + r.g), u32w (v.h + r.h)⟩
/-- whole blocks are taken off the front -/
def feed (st : W8) (xs : List Int) : W8 × List Int :=
  if h : 64 ≤ xs.length then feed (comp st (fun i => xs.getD i 0)) (xs.drop 64) else (st, xs)
termination_by xs.length
decreasing_by simp; omega
theorem feed_big (st : W8) (xs : List Int) (h : 64 ≤ xs.length) : feed st xs = feed (comp st (fun i => xs.getD i 0)) (xs.drop 64) := by
  rw [feed]; rw [dif_pos h]
theorem feed_small (st : W8) (xs : List Int) (h : ¬ 64 ≤ xs.length) : feed st xs = (st, xs) := by
  rw [feed]; rw [dif_neg h]
/-- a digest's cells -/
def dgF (st : W8) (v : Value) (n : Int) (i : Nat) : Value := if i < 8 then .int .u32 (st.get i) else if i = 8 then v else if i = 9 then .int .u64 n else .bool true
/-- how many noughts are put behind so many bytes -/
def padZ (n : Nat) : Nat := (120 - n % 64) % 64
theorem padZ_stop (n j : Nat) (h : j ≤ padZ n) : ((n + j) % 64 = 56 ↔ j = padZ n) := by unfold padZ at *; omega
theorem padZ_lt (n : Nat) : padZ n < 64 := by unfold padZ; omega
/-- byte i (from the least) of the number of bits -/
def bitB (n : Int) (i : Nat) : Int := IntKind.u8.wrap (IntKind.u64.wrap (n * 8) / 2 ^ (8 * i))
def bitsL (n : Int) (k : Nat) : List Int := (List.range k).map fun i => bitB n (7 - i)
theorem bitsL_succ (n : Int) (k : Nat) : bitsL n (k + 1) = bitsL n k ++ [bitB n (7 - k)] := by simp [bitsL, List.range_succ]
theorem bitsL_length (n : Int) (k : Nat) : (bitsL n k).length = k := by simp [bitsL]
/-- what a digest's last blocks hold, behind the bytes -/
def padded (xs : List Int) (n : Int) : List Int := xs ++ [128] ++ List.replicate (padZ (xs.length + 1)) 0 ++ bitsL n 8
/-- byte j of the words -/
def outB (st : W8) (j : Nat) : Int := st.get (j / 4) / 2 ^ (24 - 8 * (j % 4)) % 256
def outL (st : W8) : List Int := (List.range 32).map (outB st)
def outV (l : List Int) : Array Value := (l.map fun x => Value.int .u8 x).toArray
theorem outB_at (st : W8) (k : Nat) : outB st (4 * k) = st.get k / 16777216 % 256 ∧ outB st (4 * k + 1) = st.get k / 65536 % 256 ∧ outB st (4 * k + 2) = st.get k / 256 % 256 ∧ outB st (4 * k + 3) = st.get k % 256 := by
  refine ⟨?_, ?_, ?_, ?_⟩
  · rw [outB, show 4 * k / 4 = k by omega, show 4 * k % 4 = 0 by omega]; rfl
  · rw [outB, show (4 * k + 1) / 4 = k by omega, show (4 * k + 1) % 4 = 1 by omega]; rfl
  · rw [outB, show (4 * k + 2) / 4 = k by omega, show (4 * k + 2) % 4 = 2 by omega]; rfl
  · rw [outB, show (4 * k + 3) / 4 = k by omega, show (4 * k + 3) % 4 = 3 by omega]; simp
theorem outV_size (l : List Int) : (outV l).size = l.length := by simp [outV]
theorem outV_one (l : List Int) : (outV l).all (·.oneCell') = true := by simp [outV, Value.oneCell']
theorem outL_length (st : W8) : (outL st).length = 32 := by simp [outL]
theorem outV_at (st : W8) (i : Nat) (h : i < 32) : (outV (outL st))[i]? = some (.int .u8 (outB st i)) := by simp [outV, outL, h]
end Go.Proofs.YteggcfcjajpcgaaDoor
