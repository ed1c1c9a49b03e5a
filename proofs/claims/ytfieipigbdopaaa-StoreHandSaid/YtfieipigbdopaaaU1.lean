/- Walks: a store that no call made. -/
import Derived.Test.YtfieipigbdopaaaS9
set_option linter.unusedVariables false
set_option linter.unusedSimpArgs false
namespace Go.Proofs.Ytfieipigbdopaaa
open Go.RowKit
set_option maxHeartbeats 1000000
section
variable {σ : World} {Hs : List Hp} {H M N : Hp}
/-- A store that no call made. -/
def NoSto (σ : World) (Hs : List Hp) (p : Value) : Prop := ∀ w', Sat σ w' Hs → Calls Try.prog 34 #[p] w' fun e w2 => e = .returned (.bool false) ∧ w' = w2
theorem noSto_nil : NoSto σ Hs (.pointer none) := fun w' _ => is_nil w'
theorem noSto_zero {b : Nat} {cs : Array Value} {t : TypeId} (hH : Hp.one b (.cells cs t (0, 0)) ∈ Hs) (hc : cs[3]? = some (.bool false)) : NoSto σ Hs (.pointer (some ⟨b, 0, none⟩)) := fun w' h => is_any b false w' (h.cellAt hH ((Hp.one_cell _ _ _ _).trans hc))
theorem put_nil (a : Option Addr) (now age : Int) (k : ByteArray) (v : Value) (w : World) (hp : NoSto σ Hs (.pointer a)) (hw : Sat σ w Hs) (hs : k.size ≤ 9223372036854775807) :
    Calls Try.prog 12 #[.pointer a, .int .i64 now, .string k, v, .int .i64 age] w fun e w' => e = .returned (.int .i64 1) ∧ Sat σ w' Hs := by
  have HP := Lib.hid (asks_any _ false now k w (hp _ hw) hs)
  go_enter Try.func12, Try.ntmps12
  go_wp2_with fail
  refine HP.out.mono ?_
  rintro e w2 ⟨rfl, rfl⟩
  go_wp2
  go_ret
  exact ⟨rfl, hw⟩
theorem get_nil (a : Option Addr) (now : Int) (k : ByteArray) (w : World) (hp : NoSto σ Hs (.pointer a)) (hw : Sat σ w Hs) (hs : k.size ≤ 9223372036854775807) :
    Calls Try.prog 13 #[.pointer a, .int .i64 now, .string k] w fun e w' => e = .returned (.tuple #[.slice none 0 0, .int .i64 0, .int .i64 1]) ∧ Sat σ w' Hs := by
  have HP := Lib.hid (asks_any _ false now k w (hp _ hw) hs)
  go_enter Try.func13, Try.ntmps13
  go_wp2_with fail
  refine HP.out.mono ?_
  rintro e w2 ⟨rfl, rfl⟩
  go_wp2
  go_ret3
  exact ⟨rfl, hw⟩
theorem drop_nil (a : Option Addr) (k : ByteArray) (w : World) (hp : NoSto σ Hs (.pointer a)) (hw : Sat σ w Hs) :
    Calls Try.prog 17 #[.pointer a, .string k] w fun e w' => e = .returned (.bool false) ∧ Sat σ w' Hs := by
  have HP := Lib.hid (hp _ hw)
  go_enter Try.func17, Try.ntmps17
  go_wp2_with fail
  refine HP.out.mono ?_
  rintro e w2 ⟨rfl, rfl⟩
  go_wp2
  go_ret
  exact ⟨rfl, hw⟩
theorem used_nil (a : Option Addr) (w : World) (hp : NoSto σ Hs (.pointer a)) (hw : Sat σ w Hs) :
    Calls Try.prog 18 #[.pointer a] w fun e w' => e = .returned (.int .i64 0) ∧ Sat σ w' Hs := by
  have HP := Lib.hid (hp _ hw)
  go_enter Try.func18, Try.ntmps18
  go_wp2_with fail
  refine HP.out.mono ?_
  rintro e w2 ⟨rfl, rfl⟩
  go_wp2
  go_ret
  exact ⟨rfl, hw⟩
theorem hand_nil (a : Option Addr) (w : World) (hp : NoSto σ Hs (.pointer a)) (hw : Sat σ w Hs) :
    Calls Try.prog 19 #[.pointer a] w fun e w' => e = .returned (.int .i64 0) ∧ Sat σ w' Hs := by
  have HP := Lib.hid (hp _ hw)
  go_enter Try.func19, Try.ntmps19
  go_wp2_with fail
  refine HP.out.mono ?_
  rintro e w2 ⟨rfl, rfl⟩
  go_wp2
  go_ret
  exact ⟨rfl, hw⟩
theorem keys_nil (a : Option Addr) (w : World) (hp : NoSto σ Hs (.pointer a)) (hw : Sat σ w Hs) :
    Calls Try.prog 14 #[.pointer a] w fun e w' => e = .returned (.slice none 0 0) ∧ Sat σ w' Hs := by
  have HP := Lib.hid (hp _ hw)
  go_enter Try.func14, Try.ntmps14
  go_wp2_with fail
  refine HP.out.mono ?_
  rintro e w2 ⟨rfl, rfl⟩
  go_wp2
  go_ret
  exact ⟨rfl, hw⟩
theorem clone_nil (a : Option Addr) (w : World) (hp : NoSto σ Hs (.pointer a)) (hw : Sat σ w Hs) :
    Calls Try.prog 26 #[.pointer a] w fun e w' => e = .returned (.pointer none) ∧ Sat σ w' Hs := by
  have HP := Lib.hid (hp _ hw)
  go_enter Try.func26, Try.ntmps26
  go_wp2_with fail
  refine HP.out.mono ?_
  rintro e w2 ⟨rfl, rfl⟩
  go_wp2
  go_ret
  exact ⟨rfl, hw⟩
end
end Go.Proofs.Ytfieipigbdopaaa
