/- Walks: the reference's Put, whole; a table's clone; with no name twice both Puts leave the same. -/
import Derived.Test.YthofnhmehpdnbaaR4
set_option linter.unusedVariables false
namespace Go.Proofs.Ythofnhmehpdnbaa
open Go.RowKit
set_option maxHeartbeats 1000000
section
variable {σ : World} {Hs : List Hp} {H M N Ha : Hp}
theorem rput_any (b : Nat) (xs : List Ent) (now ttl : Int) (nm : ByteArray) (v : Value) (addrs : List Ad) (w : World) (hw : Sat σ w (M :: Hs)) (hT : RTab M b xs) (hHa : Ha ∈ Hs) (hv : kAd.IsSl Ha v addrs) (hs : nm.size ≤ 9223372036854775807) :
    Calls Try.prog 17 #[.pointer (some ⟨b, 0, none⟩), .int .i64 now, .string nm, v, .int .i64 ttl] w (RPutP σ Hs b (putE xs now nm addrs.length ttl) (rputR xs now nm addrs ttl)) := by
  obtain ⟨Aa, ca, rfl, hca1, hca2, _⟩ := hv.form
  obtain ⟨A', c', hb', hsl⟩ := hT.sl
  cases hbad : putBad now nm addrs.length ttl
  · by_cases h0 : xs.length = 0
    · rw [h0] at hb'
      refine (rput_full b A' c' now ttl nm Aa _ ca w hw (Lib.hid hb') hs (by omega) hbad).mono fun e w' ⟨he, h⟩ => ⟨by rw [he, putE, hbad, h0]; rfl, M, h, ?_⟩
      rw [rputR, putE, hbad, h0]
      exact hT
    · by_cases hz : ttl = 0
      · subst hz
        refine (rput_zero b xs now nm Aa _ ca w hw hT (by omega) hs (by omega) hbad).mono fun e w' ⟨he, M', h, h2⟩ => ⟨by rw [he, putE, hbad, if_neg (show ¬ (false = true) by simp), if_neg h0], M', h, ?_⟩
        rw [rputR, putE, hbad, if_neg (show ¬ (false = true) by simp), if_neg h0, if_pos rfl]
        exact h2
      · refine (rput_some b xs now ttl nm _ addrs w hw hT (by omega) hHa hv hs hbad hz).mono fun e w' ⟨he, M', h, h2⟩ => ⟨by rw [he, putE, hbad, if_neg (show ¬ (false = true) by simp), if_neg h0], M', h, ?_⟩
        rw [rputR, putE, hbad, if_neg (show ¬ (false = true) by simp), if_neg h0, if_pos rfl]
        exact h2
  · refine (rput_bad b A' xs.length c' now ttl nm Aa _ ca w hw hs (by omega) hbad).mono fun e w' ⟨he, h⟩ => ⟨by rw [he, putE, hbad]; rfl, M, h, ?_⟩
    rw [rputR, putE, hbad]
    exact hT
theorem rput_eq {xs : List Ent} (hu : Uniq xs) (now : Int) (nm : ByteArray) (addrs : List Ad) (ttl : Int) : rputR xs now nm addrs ttl = putR xs now nm addrs ttl := by
  unfold rputR putR
  by_cases h0 : putE xs now nm addrs.length ttl = 0
  · rw [if_pos h0, if_pos h0]
    obtain ⟨hbad, -⟩ := putR_get hu h0
    obtain ⟨hne, -⟩ := bad_name hbad
    unfold rputL putL
    by_cases hz : ttl = 0
    · rw [if_pos hz, if_pos hz]
      rcases idx_cases (nmP nm) xs with ⟨h1, h2⟩ | ⟨q, y, h1, h2, _, h3, _⟩
      · rw [h1, if_neg (by omega)]
        have : ∀ x ∈ xs, zap nm x = id x := fun x hx => by
          have := List.find?_eq_none.1 h2 x hx
          unfold zap
          rw [if_neg this]
          rfl
        rw [List.map_congr_left this, List.map_id]
      · rw [h1, if_pos (by omega), Int.toNat_natCast]
        have hq := (List.getElem?_eq_some_iff.1 h2).1
        refine List.ext_getElem? fun i => ?_
        rw [List.getElem?_map, List.getElem?_set]
        by_cases hi : q = i
        · subst hi
          rw [if_pos rfl, if_pos hq, h2]
          show some (zap nm y) = _
          unfold zap
          rw [if_pos h3]
        · rw [if_neg hi]
          cases hx : xs[i]? with
          | none => rfl
          | some x =>
            show some (zap nm x) = _
            unfold zap
            rw [if_neg]
            intro hp
            exact hi (hu q i y x h2 hx (by rw [nmP_iff.1 h3, nmP_iff.1 hp]) (by rw [nmP_iff.1 h3]; exact hne))
    · rw [if_neg hz, if_neg hz]
  · rw [if_neg h0, if_neg h0]
theorem uniq_put {xs : List Ent} (hu : Uniq xs) (now : Int) (nm : ByteArray) (addrs : List Ad) (ttl : Int) : Uniq (putR xs now nm addrs ttl) := by
  by_cases h0 : putE xs now nm addrs.length ttl = 0
  · exact (putR_get hu h0).2.1
  · unfold putR; rw [if_neg h0]; exact hu
theorem uniq_new (n : Nat) : Uniq (List.replicate n ⟨⟨#[]⟩, [], 0⟩) := by
  intro i j x y hx hy _ hxe
  obtain ⟨_, rfl⟩ := List.mem_replicate.1 (List.mem_of_getElem? hx)
  simp [ByteArray.toList_eq] at hxe
theorem clone_any (b : Nat) (xs : List Ent) (w : World) (hw : Sat σ w (M :: Hs)) (hT : TabRep M b xs) :
    Calls Try.prog 18 #[.pointer (some ⟨b, 0, none⟩)] w fun e w' => ∃ b2 M2, e = .returned (.pointer (some ⟨b2, 0, none⟩)) ∧ Sat σ w' (M2 :: M :: Hs) ∧ ∀ M', Keep M b M' → Hp.dj M2 M' → TabRep (Hp.or M2 M') b2 xs := by
  have hT' := hT
  obtain ⟨v, Hi, cells, hb, hown, hreps, hle, hib, hig, htill, hlen, hal⟩ := hT.out
  have hsafe : Safe M b Hi := ⟨hle, hib, fun a n c tl t fr he => by
    rw [hb] at he
    simp at he
    have he1 := he.1.1
    subst he1
    exact (hig a.block (by simp [Value.ownBlock])).1⟩
  have cb1 : w.cell? ⟨b, 1, none⟩ = some (.bool true) := hw.m_cell hb rfl
  have cb0 : w.cell? ⟨b, 0, none⟩ = some v := hw.m_cell hb rfl
  obtain ⟨A, c, rfl, _⟩ := hown.slice
  have HOWN := Lib.hid hown; have HREPS := Lib.hid hreps; have HSAFE := Lib.hid hsafe; have HX := Lib.hid (And.intro htill (And.intro hlen hal)); have HONE := Lib.hid (Kd.reps_one hreps)
  have HHI := Lib.hid (fun k o (h : Hi k = some o) => hw.blk_lt (H := M) (by simp) (hle k o h))
  clear hown hreps hle hib hig htill hal hT hT' hb hsafe
  go_enter Try.func18, Try.ntmps18
  go_wp2_with (first | (go_at_call 24; refine (is_any b true _ cb1).mono ?_; rintro e w3 ⟨rfl, rfl⟩))
  refine (cloneE_own (H := M) _ xs.length cells _ hw (by simp) HOWN.out HONE.out (by omega)).mono ?_
  rintro e w3 ⟨A1, c1, N1, rfl, hw3, ho⟩
  clear cb1 cb0
  go_wp2
  go_ret
  have hb2 := hw3.alloc (.cells #[.slice A1 xs.length c1, .bool true] 53)
  have hN : ∀ j o, N1 j = some o → j < w3.heap.size := fun j o e => hw3.lt (H := N1) (by simp) e
  have hM : ∀ j o, M j = some o → j < w3.heap.size := fun j o e => hw3.lt (H := M) (by simp) e
  have hdNM := hw3.dj2
  refine ⟨w3.heap.size, _, rfl, hb2.join, fun M' hk hd => ?_⟩
  have hs' := hk.out _ HSAFE.out
  have hone := hb2.dj2
  refine ⟨.slice A1 xs.length c1, Hi, cells, Hp.le_or_left _ _ _ _ (Hp.le_or_left _ _ _ _ (Hp.one_self _ _)), (ho.le (Hp.le_or_right hone)).le (Hp.le_or_left _ _), HREPS.out, Hp.le_trans hs'.le (Hp.le_or_right hd), ?_, fun g hg => ⟨?_, ?_⟩, HX.out.1, HX.out.2.1, HX.out.2.2⟩
  · cases h : Hi w3.heap.size with
    | none => rfl
    | some o => have := hM _ _ (HSAFE.out.le _ _ h); omega
  · cases h : Hi g with
    | none => rfl
    | some o =>
      exfalso
      rcases ho.out.2 with ⟨e, _⟩ | ⟨g', cap, cur, e, hg', _⟩
      · rw [e] at hg; cases hg
      · rw [e] at hg
        obtain rfl : g' = g := by simpa [Value.ownBlock] using hg
        have := hdNM g' _ hg'
        rw [HSAFE.out.le _ _ h] at this
        cases this
  · rcases ho.out.2 with ⟨e, _⟩ | ⟨g', cap, cur, e, hg', _⟩
    · rw [e] at hg; cases hg
    · rw [e] at hg
      obtain rfl : g' = g := by simpa [Value.ownBlock] using hg
      have := hN _ _ hg'
      omega
/-- A row of bytes, and maybe more. -/
structure Bytes4 (N : Hp) (g : Nat) (t : TypeId) (n : Nat) : Prop where mk :: (out : ∃ cs, N g = some (.cells cs t (0, 0)) ∧ ∀ j, j < n → ∃ x, cs[j]? = some (.int .u8 x))
theorem bytes4_set {N : Hp} {g : Nat} {t : TypeId} {n : Nat} {w : World} (h : Bytes4 N g t n) (hw : Sat σ w (N :: Hs)) (j : Nat) (hj : j < n) : ∃ x, w.cell? ⟨g, j, none⟩ = some (.int .u8 x) ∧ ∀ y, ∃ N', Sat σ (w.setCell ⟨g, j, none⟩ (.int .u8 y)) (N' :: Hs) ∧ Bytes4 N' g t n := by
  obtain ⟨cs, hg, hall⟩ := h.out
  obtain ⟨x, hx⟩ := hall j hj
  refine ⟨x, hw.m_cell hg hx, fun y => ⟨_, hw.upd hg _, ⟨_, Hp.upd_self _ _ _, fun i hi => ?_⟩⟩⟩
  obtain ⟨z, hz⟩ := hall i hi
  by_cases e : i = j
  · subst e
    exact ⟨y, by simp [(Array.getElem?_eq_some_iff.1 hz).1]⟩
  · exact ⟨z, by rw [Array.getElem?_setIfInBounds_ne (fun h => e h.symm)]; exact hz⟩
theorem reps_bytes {H : Hp} : ∀ {xs : List Ad} {cs : List Value}, kAd.reps H xs cs → ∀ j, j < xs.length * 4 → ∃ x, cs[j]? = some (.int .u8 x)
  | [], _, _ => fun j hj => by simp at hj
  | x :: xs, _, ⟨c, r, e, hc, hr⟩ => fun j hj => by
    have hc' := kAd_cells hc
    subst e; subst hc'
    match j with
    | 0 => exact ⟨_, rfl⟩
    | 1 => exact ⟨_, rfl⟩
    | 2 => exact ⟨_, rfl⟩
    | 3 => exact ⟨_, rfl⟩
    | j + 4 =>
      simp only [List.length_cons] at hj
      obtain ⟨y, hy⟩ := reps_bytes hr j (by omega)
      exact ⟨y, by simpa using hy⟩
theorem own_bytes {N H : Hp} {t : TypeId} {v : Value} {xs : List Ad} {cells : List Value} (h : Own N t 4 v xs.length cells) (hr : kAd.reps H xs cells) (h0 : 0 < xs.length) : ∃ g c, v = .slice (some ⟨g, 0, none⟩) xs.length c ∧ Bytes4 N g t (xs.length * 4) := by
  rcases h.out.2 with ⟨_, e⟩ | ⟨g, cap, cur, e, hg, k1, k2, k3, k4⟩
  · omega
  · refine ⟨g, cap, e, ⟨cur, hg, fun j hj => ?_⟩⟩
    obtain ⟨x, hx⟩ := reps_bytes hr j hj
    rw [← k4, List.getElem?_take, if_pos hj] at hx
    exact ⟨x, by simpa using hx⟩
end
end Go.Proofs.Ythofnhmehpdnbaa
