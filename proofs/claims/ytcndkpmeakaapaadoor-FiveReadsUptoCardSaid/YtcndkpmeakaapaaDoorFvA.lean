/- Walks of layer 7: the reader: fail, take. -/
import Derived.Test.YtcndkpmeakaapaaDoorHsC
set_option linter.unusedVariables false
set_option linter.unusedSimpArgs false
namespace Go.Proofs.YtcndkpmeakaapaaDoor
open Go Go.RowKit
def fiveB : ByteArray := ⟨#[102, 105, 118, 101]⟩
/-- A reader: its struct, and what its error is made of. -/
structure FvR (R E : Hp) (r : Nat) (bv : Value) (at_ : Int) (er : Option (Ch × Int)) : Prop where mk :: (out : ∃ ev, R = Hp.one r (.cells #[bv, .int .i64 at_, ev] 75 (0, 0)) ∧ EV E ev er)
/-- What is kept: the first that is wrong. -/
def keep (er : Option (Ch × Int)) (n : Option (Ch × Int)) : Option (Ch × Int) := match er with
  | some e => some e
  | none => n
theorem ev_form {H : Hp} {v : Value} {x : Ch × Int} (h : EV H v (some x)) : ∃ t u, v = .iface t u := by
  obtain ⟨h1, _, h3⟩ := h
  obtain ⟨ch, c⟩ := x
  cases ch with
  | nil => exact absurd h3 (Nat.lt_irrefl 0)
  | cons y r => obtain ⟨b, v', rfl, _⟩ := h1; exact ⟨_, _, rfl⟩
theorem errv_form {H : Hp} : ∀ {v : Value} {ch : Ch} {c : Int}, ErrV H v ch c → ∃ t u, v = .iface t u
  | _, [], _, h => ⟨_, _, h⟩
  | _, x :: r, _, ⟨b, v', h1, _, _⟩ => ⟨_, _, h1⟩
section
variable {σ w w' : World} {Hs : List Hp} {H H1 H2 M N Y R E X : Hp}
set_option maxHeartbeats 4000000
theorem fail5_any {r : Nat} {bv : Value} {at_ : Int} {er : Option (Ch × Int)} (a : Int) (x : Value) (ch : Ch) (c : Int) (w : World) (hw : Sat σ w (R :: E :: X :: Hs)) (h : FvR R E r bv at_ er) (hx : ErrV X x ch c) (hc : ch.length ≤ 3) :
    Calls Tryd.prog 40 #[.pointer (some ⟨r, 0, none⟩), .int .i64 a, x] w fun e w' => ∃ v R' E', e = .returned v ∧ Sat σ w' (R' :: E' :: Hs) ∧ FvR R' E' r bv at_ (keep er (some ((fiveB, a) :: ch, c))) := by
  obtain ⟨ev, rfl, hev⟩ := h.out
  have c2 : w.cell? ⟨r, 2, none⟩ = some ev := hw.one_cell rfl
  obtain ⟨tx, ux, rfl⟩ := errv_form hx
  cases er with
  | some e0 =>
    obtain ⟨t0, u0, rfl⟩ := ev_form hev
    have HEV := Lib.hid hev
    clear hev h
    go_enter Tryd.func40, Tryd.ntmps40
    go_wp2
    go_end0
    exact ⟨_, _, E, rfl, hw.sub (List.Sublist.cons_cons _ (List.Sublist.cons_cons _ (List.sublist_cons_self _ _))), ⟨⟨_, rfl, HEV.out⟩⟩⟩
  | none =>
    obtain rfl : ev = .nilIface := hev
    have f2 := heap_free hw.heap 2
    have hw2 := hw.set (o := 2) (.iface 100 (.pointer (some ⟨w.heap.size, 0, none⟩)))
    have hw3 := hw2.alloc (.cells #[.string ⟨#[102, 105, 118, 101]⟩, .int .i64 a, .iface tx ux] 102)
    rw [show (w.setCell ⟨r, 2, none⟩ (.iface 100 (.pointer (some ⟨w.heap.size, 0, none⟩)))).heap.size = w.heap.size by simp [World.setCell]] at hw3
    have hrl := hw.one_lt
    have HW3 := Lib.hid hw3
    have HX := Lib.hid hx
    clear hw2 hw3 h hx
    go_enter Tryd.func40, Tryd.ntmps40
    go_wp2
    go_end0
    have h1 := HW3.out
    have h2 := h1.sub (List.Sublist.cons_cons _ (List.Sublist.cons_cons _ (List.sublist_cons_self _ _)))
    have h3 := h2.swap1
    have hdj := h3.dj2
    refine ⟨_, _, _, rfl, h3.join.swap, ⟨⟨_, rfl, ⟨w.heap.size, _, rfl, Hp.le_or_left _ _ _ _ (Hp.one_self _ _), HX.out.le (Hp.le_or_right hdj)⟩, ?_, ?_⟩⟩⟩
    · show ch.length + 1 ≤ 4
      omega
    · exact Nat.succ_pos _
end
end Go.Proofs.YtcndkpmeakaapaaDoor
