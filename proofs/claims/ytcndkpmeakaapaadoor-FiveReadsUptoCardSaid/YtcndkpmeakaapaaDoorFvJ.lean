/- Walks: the law's works. -/
import Derived.Test.YtcndkpmeakaapaaDoorFvI
import Derived.Test.YtcndkpmeakaapaaDoorErr3
import Derived.DeepKeys
set_option linter.unusedVariables false
set_option linter.unusedSimpArgs false
namespace Go.Proofs.YtcndkpmeakaapaaDoor
open Go Go.RowKit
def hiL : List Int := [5, 1, 0, 255]
def rqL : List Int := [5, 1, 0, 3, 1, 97, 0, 80]
def rtL : List Int := [5, 1, 0, 4]
theorem gr_hi : grO hiL = ([0], 3) ∧ (gr2 hiL).2.err = none := ⟨by kernel_rfl, by kernel_rfl⟩
theorem rq_rq : reqO rqL = (1, #[.int .u8 0, .int .u8 0, .int .u8 0, .int .u8 0, .string ⟨#[97]⟩, .int .i64 80], 8) ∧ (req6 rqL).2.err = none := ⟨by kernel_rfl, by kernel_rfl⟩
theorem rq_rt : reqO rtL = (0, #[.int .u8 0, .int .u8 0, .int .u8 0, .int .u8 0, .string ⟨#[]⟩, .int .i64 0], 0) ∧ (req6 rtL).2.err = some ([(fiveB, 3)], 71) := ⟨by kernel_rfl, by kernel_rfl⟩
set_option maxHeartbeats 4000000
theorem dest_refl (W : World) (a0 a1 a2 a3 p : Int) (s : ByteArray) :
    (Op.equal 29 (.agg #[.int .u8 a0, .int .u8 a1, .int .u8 a2, .int .u8 a3, .string s, .int .i64 p]) (.agg #[.int .u8 a0, .int .u8 a1, .int .u8 a2, .int .u8 a3, .string s, .int .i64 p])).run Tryd.prog W = .ok true W := by
  have hs1 : ∀ w : World, (sizeOf 27).run Tryd.prog w = .ok 5 w := fun w => by kernel_rfl
  have hs2 : ∀ w : World, (sizeOf 25).run Tryd.prog w = .ok 4 w := fun w => by kernel_rfl
  have eb : ∀ (w : World) (x : Int), (Op.equalIn 9997 5 (.int .u8 x) (.int .u8 x)).run Tryd.prog w = .ok true w := fun w x => by rw [run_equalIn_int w 9996 5 .u8 .u8 x x Tryd.underlying5]; simp
  have es : ∀ (w : World) (x : ByteArray), (Op.equalIn 9998 9 (.string x) (.string x)).run Tryd.prog w = .ok true w := fun w x => by rw [run_equalIn_string w 9997 9 x x Tryd.underlying9]; simp
  have ei : ∀ (w : World) (x : Int), (Op.equalIn 9999 3 (.int .i64 x) (.int .i64 x)).run Tryd.prog w = .ok true w := fun w x => by rw [run_equalIn_int w 9998 3 .i64 .i64 x x Tryd.underlying3]; simp
  have ea : (Op.equalIn 9998 25 (.agg #[.int .u8 a0, .int .u8 a1, .int .u8 a2, .int .u8 a3]) (.agg #[.int .u8 a0, .int .u8 a1, .int .u8 a2, .int .u8 a3])).run Tryd.prog W = .ok true W := by
    rw [run_equalIn_struct W 9997 25 _ _ (by simp only [Program.fieldsOf, Tryd.underlying25]) (by kernel_rfl)]
    simp only [Program.fieldsOf, Tryd.underlying25]
    simp [Op.eqFields, part, run_underlying Tryd.underlying5, isAgg, eb]
  have eh : (Op.equalIn 9999 27 (.agg #[.int .u8 a0, .int .u8 a1, .int .u8 a2, .int .u8 a3, .string s]) (.agg #[.int .u8 a0, .int .u8 a1, .int .u8 a2, .int .u8 a3, .string s])).run Tryd.prog W = .ok true W := by
    rw [run_equalIn_struct W 9998 27 _ _ (by simp only [Program.fieldsOf, Tryd.underlying27]) (by kernel_rfl)]
    simp only [Program.fieldsOf, Tryd.underlying27]
    simp [Op.eqFields, part, run_underlying Tryd.underlying9, run_underlying Tryd.underlying25, isAgg, es, ea, hs2]
  unfold Op.equal Op.maxDepth
  rw [run_equalIn_struct W 9999 29 _ _ (by simp only [Program.fieldsOf, Tryd.underlying29]) (by kernel_rfl)]
  simp only [Program.fieldsOf, Tryd.underlying29]
  simp [Op.eqFields, part, run_underlying Tryd.underlying3, run_underlying Tryd.underlying27, isAgg, ei, eh, hs1]
section
variable {σ w w' : World} {Hs : List Hp} {H H1 H2 M N Y R E X HB : Hp}
set_option maxRecDepth 10000 in
theorem works_any (m : Int) (w : World) (hw : Sat σ w Hs) (hH : H ∈ Hs) (hm : Hp.cell H 1 0 = some (.int .i64 m)) :
    Calls Tryd.prog 8 #[] w fun e w' => e = .returned (.bool true) ∧ Sat σ w' Hs := by
  have HG := Lib.hid (fun w (b : Nat) (Hs' : List Hp) (h : Sat σ w (Hp.one b (.cells (ints .u8 hiL).toArray 5 (0, 0)) :: Hs')) => greeting_any _ hiL (by decide) w h List.mem_cons_self (bytes_lit b hiL (by decide) 5))
  have HR1 := Lib.hid (fun w (b : Nat) (Hs' : List Hp) (h : Sat σ w (Hp.one b (.cells (ints .u8 rqL).toArray 5 (0, 0)) :: Hs')) (hH' : H ∈ Hs') => request_any _ rqL (by decide) m w h List.mem_cons_self (bytes_lit b rqL (by decide) 5) (List.mem_cons_of_mem _ hH') hm)
  have HR2 := Lib.hid (fun w (b : Nat) (Hs' : List Hp) (h : Sat σ w (Hp.one b (.cells (ints .u8 rtL).toArray 5 (0, 0)) :: Hs')) (hH' : H ∈ Hs') => request_any _ rtL (by decide) m w h List.mem_cons_self (bytes_lit b rtL (by decide) 5) (List.mem_cons_of_mem _ hH') hm)
  unfold GrP at HG
  rw [gr_hi.1, gr_hi.2] at HG
  rw [rq_rq.1, rq_rq.2] at HR1
  rw [rq_rt.1, rq_rt.2] at HR2
  clear hm
  have deq : ∀ W : World, (Op.equalIn 10000 29 (.agg #[.int .u8 0, .int .u8 0, .int .u8 0, .int .u8 0, .string ⟨#[97]⟩, .int .i64 80]) (.agg #[.int .u8 0, .int .u8 0, .int .u8 0, .int .u8 0, .string ⟨#[97]⟩, .int .i64 80])).run Tryd.prog W = .ok true W := fun W => dest_refl W 0 0 0 0 80 ⟨#[97]⟩
  go_enter Tryd.func8, Tryd.ntmps8
  go_wp2_with fail
  refine (HG.out _ _ _ (hw.alloc _)).mono ?_
  rintro e w2 ⟨v, u, N, E1, rfl, hw2, h2, hn2⟩
  obtain rfl : u = .nilIface := h2
  obtain ⟨A, c, rfl, _⟩ := hn2.form
  have hw3 := hw2.drop.drop.drop
  clear hn2 hw2 hw
  go_wp2_with fail
  refine (HR1.out _ _ _ (hw3.alloc _) hH).mono ?_
  rintro e w4 ⟨v, E2, rfl, hw4, h4⟩
  obtain rfl : v = .nilIface := h4
  have hw5 := hw4.drop.drop
  clear hw4 hw3 HG HR1
  go_wp2_with fail
  have hw6 := (hw5.alloc (.cells #[.int .u8 0, .int .u8 0, .int .u8 0, .int .u8 0, .string ⟨#[97]⟩, .int .i64 80] 29)).alloc (.cells (ints .u8 rtL).toArray 5)
  rw [World.size_alloc] at hw6
  generalize w4.heap.size = nd at *
  refine (HR2.out _ _ _ hw6 (List.mem_cons_of_mem _ hH)).mono ?_
  rintro e w7 ⟨v, E3, rfl, hw7, h7⟩
  clear hw6 hw5 HR2
  obtain ⟨tv, uv, rfl⟩ := ev_form h7
  have H7 := Lib.hid h7
  have hw8 : Sat σ w7 (Hp.one nd (.cells #[.int .u8 0, .int .u8 0, .int .u8 0, .int .u8 0, .string ⟨#[97]⟩, .int .i64 80] 29 (0, 0)) :: E3 :: Hs) := hw7.up2.sub (List.Sublist.cons_cons _ (List.Sublist.cons_cons _ (List.sublist_cons_self _ _)))
  have d0 : w7.cell? ⟨nd, 0, none⟩ = some (.int .u8 0) := hw8.one_cell rfl
  have d1 : w7.cell? ⟨nd, 1, none⟩ = some (.int .u8 0) := hw8.one_cell rfl
  have d2 : w7.cell? ⟨nd, 2, none⟩ = some (.int .u8 0) := hw8.one_cell rfl
  have d3 : w7.cell? ⟨nd, 3, none⟩ = some (.int .u8 0) := hw8.one_cell rfl
  have d4 : w7.cell? ⟨nd, 4, none⟩ = some (.string ⟨#[97]⟩) := hw8.one_cell rfl
  have d5 : w7.cell? ⟨nd, 5, none⟩ = some (.int .i64 80) := hw8.one_cell rfl
  have hlt := hw8.one_lt
  have HF := Lib.hid (fun w' (h : Sat σ w' (E3 :: Hs)) => fail_any fiveB 3 71 w' h)
  have HI := Lib.hid (fun w' (h : Sat σ w' (E3 :: Hs)) => isE_any (.iface tv uv) _ w' h List.mem_cons_self H7.out)
  have HW8 := Lib.hid (hw8.drop.alloc' (.cells #[.int .u8 0, .int .u8 0, .int .u8 0, .int .u8 0, .string ⟨#[]⟩, .int .i64 0] 29))
  clear hw7 h7 H7 hw8
  go_wp2_with (first
    | (go_at_call 13; go_must (refine (HF.out _ HW8.out).mono ?_); rintro e w9 ⟨rfl, hw9⟩; have HW9 := Lib.hid hw9; clear hw9)
    | (go_at_call 12; go_must (refine (HI.out _ HW9.out).mono ?_); rintro e w10 ⟨rfl, hw10⟩))
  go_ret
  exact ⟨rfl, hw10.drop⟩
end
end Go.Proofs.YtcndkpmeakaapaaDoor
