/- Walks: a table that no call made; NamesNone. -/
import Derived.Test.YthofnhmehpdnbaaN13
set_option linter.unusedVariables false
namespace Go.Proofs.Ythofnhmehpdnbaa
open Go.RowKit
set_option maxHeartbeats 1000000
section
variable {σ : World} {Hs : List Hp} {H M N : Hp}
/-- A table that no call made. -/
def NoTab (σ : World) (Hs : List Hp) (p : Value) : Prop := ∀ w', Sat σ w' Hs → Calls Try.prog 24 #[p] w' fun e w2 => e = .returned (.bool false) ∧ w' = w2
theorem noTab_nil : NoTab σ Hs (.pointer none) := fun w' _ => is_nil w'
theorem noTab_zero {b : Nat} {cs : Array Value} {t : TypeId} (hH : Hp.one b (.cells cs t (0, 0)) ∈ Hs) (hc : cs[1]? = some (.bool false)) : NoTab σ Hs (.pointer (some ⟨b, 0, none⟩)) := fun w' h => is_any b false w' (h.cellAt hH ((Hp.one_cell _ _ _ _).trans hc))
theorem put_nil (a : Option Addr) (now ttl : Int) (nm : ByteArray) (v : Value) (w : World) (hp : NoTab σ Hs (.pointer a)) (hw : Sat σ w Hs) :
    Calls Try.prog 11 #[.pointer a, .int .i64 now, .string nm, v, .int .i64 ttl] w fun e w' => e = .returned (.int .i64 1) ∧ Sat σ w' Hs := by
  have HP := Lib.hid hp; clear hp
  go_enter Try.func11, Try.ntmps11
  go_wp2_with fail
  refine (HP.out _ ((hw.alloc' _).alloc' _)).mono ?_
  rintro e w2 ⟨rfl, rfl⟩
  go_wp2
  go_ret
  exact ⟨rfl, (hw.alloc' _).alloc' _⟩
theorem get_nil (a : Option Addr) (now : Int) (nm : ByteArray) (w : World) (hp : NoTab σ Hs (.pointer a)) (hw : Sat σ w Hs) :
    Calls Try.prog 12 #[.pointer a, .int .i64 now, .string nm] w fun e w' => e = .returned (.tuple #[.slice none 0 0, .int .i64 0, .int .i64 1]) ∧ Sat σ w' Hs := by
  have HP := Lib.hid hp; clear hp
  go_enter Try.func12, Try.ntmps12
  go_wp2_with fail
  refine (HP.out _ ((hw.alloc' _).alloc' _)).mono ?_
  rintro e w2 ⟨rfl, rfl⟩
  go_wp2
  go_ret3
  exact ⟨rfl, (hw.alloc' _).alloc' _⟩
theorem used_nil (a : Option Addr) (now : Int) (w : World) (hp : NoTab σ Hs (.pointer a)) (hw : Sat σ w Hs) :
    Calls Try.prog 15 #[.pointer a, .int .i64 now] w fun e w' => e = .returned (.int .i64 0) ∧ Sat σ w' Hs := by
  have HP := Lib.hid hp; clear hp
  go_enter Try.func15, Try.ntmps15
  go_wp2_with fail
  refine (HP.out _ hw).mono ?_
  rintro e w2 ⟨rfl, rfl⟩
  go_wp2
  go_ret
  exact ⟨rfl, hw⟩
theorem list_nil (a : Option Addr) (w : World) (hp : NoTab σ Hs (.pointer a)) (hw : Sat σ w Hs) :
    Calls Try.prog 14 #[.pointer a] w fun e w' => e = .returned (.slice none 0 0) ∧ Sat σ w' Hs := by
  have HP := Lib.hid hp; clear hp
  go_enter Try.func14, Try.ntmps14
  go_wp2_with fail
  refine (HP.out _ hw).mono ?_
  rintro e w2 ⟨rfl, rfl⟩
  go_wp2
  go_ret
  exact ⟨rfl, hw⟩
theorem clone_nil (a : Option Addr) (w : World) (hp : NoTab σ Hs (.pointer a)) (hw : Sat σ w Hs) :
    Calls Try.prog 18 #[.pointer a] w fun e w' => e = .returned (.pointer none) ∧ Sat σ w' Hs := by
  have HP := Lib.hid hp; clear hp
  go_enter Try.func18, Try.ntmps18
  go_wp2_with fail
  refine (HP.out _ hw).mono ?_
  rintro e w2 ⟨rfl, rfl⟩
  go_wp2
  go_ret
  exact ⟨rfl, hw⟩
set_option maxRecDepth 100000 in
theorem none_any (now : Int) (nm : ByteArray) (w : World) (hw : Sat σ w Hs) :
    Calls Try.prog 7 #[.int .i64 now, .string nm] w fun e w' => e = .returned (.bool true) ∧ Sat σ w' Hs := by
  go_enter Try.func7, Try.ntmps7
  go_wp2_with fail
  refine (works_any w hw).mono ?_
  rintro e w1 ⟨rfl, hw1⟩
  go_wp2_with fail
  have hz := hw1.alloc (.cells #[.slice none 0 0, .bool false] 53)
  have H0 : Hid (NoTab σ (Hp.one w1.heap.size (.cells #[.slice none 0 0, .bool false] 53 (0, 0)) :: Hs) (.pointer none)) := noTab_nil
  have H1 : Hid (NoTab σ (Hp.one w1.heap.size (.cells #[.slice none 0 0, .bool false] 53 (0, 0)) :: Hs) (.pointer (some ⟨w1.heap.size, 0, none⟩))) := noTab_zero List.mem_cons_self rfl
  generalize w1.alloc _ = w2 at *
  generalize w1.heap.size = n0 at *
  clear hw hw1
  go_wp2_with (first | (go_at_call 12; (first | (with_reducible refine (get_nil none _ _ _ H0.out hz).mono ?_) | (with_reducible refine (get_nil (some ⟨n0, 0, none⟩) _ _ _ H1.out hz).mono ?_)); clear hz; rintro e w3 ⟨rfl, hz⟩) | (go_at_call 11; (first | (with_reducible refine (put_nil none _ _ _ _ _ H0.out hz).mono ?_) | (with_reducible refine (put_nil (some ⟨n0, 0, none⟩) _ _ _ _ _ H1.out hz).mono ?_)); clear hz; rintro e w3 ⟨rfl, hz⟩) | (go_at_call 15; (first | (with_reducible refine (used_nil none _ _ H0.out hz).mono ?_) | (with_reducible refine (used_nil (some ⟨n0, 0, none⟩) _ _ H1.out hz).mono ?_)); clear hz; rintro e w3 ⟨rfl, hz⟩) | (go_at_call 14; (first | (with_reducible refine (list_nil none _ H0.out hz).mono ?_) | (with_reducible refine (list_nil (some ⟨n0, 0, none⟩) _ H1.out hz).mono ?_)); clear hz; rintro e w3 ⟨rfl, hz⟩) | (go_at_call 18; (first | (with_reducible refine (clone_nil none _ H0.out hz).mono ?_) | (with_reducible refine (clone_nil (some ⟨n0, 0, none⟩) _ H1.out hz).mono ?_)); clear hz; rintro e w3 ⟨rfl, hz⟩))
  go_ret
  exact ⟨rfl, hz.drop⟩
end
end Go.Proofs.Ythofnhmehpdnbaa
