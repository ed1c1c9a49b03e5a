/- Walk: StoreNone. -/
import Derived.Test.YtfieipigbdopaaaW2
set_option linter.unusedVariables false
set_option linter.unusedSimpArgs false
namespace Go.Proofs.Ytfieipigbdopaaa
open Go.RowKit
set_option maxHeartbeats 4000000
section
variable {σ : World} {Hs : List Hp} {H M N : Hp}
set_option maxRecDepth 100000 in
theorem none_any (now : Int) (k : ByteArray) (w : World) (hw : Sat σ w Hs) (hs : k.size ≤ 9223372036854775807) :
    Calls Try.prog 8 #[.int .i64 now, .string k] w fun e w' => e = .returned (.bool true) ∧ Sat σ w' Hs := by
  go_enter Try.func8, Try.ntmps8
  go_wp2_with fail
  refine (works_any w hw).mono ?_
  rintro e w1 ⟨rfl, hw1⟩
  go_wp2_with fail
  have hz := hw1.alloc (.cells #[.slice none 0 0, .int .i64 0, .int .i64 0, .bool false] 57)
  have H0 : Hid (NoSto σ (Hp.one w1.heap.size (.cells #[.slice none 0 0, .int .i64 0, .int .i64 0, .bool false] 57 (0, 0)) :: Hs) (.pointer none)) := noSto_nil
  have H1 : Hid (NoSto σ (Hp.one w1.heap.size (.cells #[.slice none 0 0, .int .i64 0, .int .i64 0, .bool false] 57 (0, 0)) :: Hs) (.pointer (some ⟨w1.heap.size, 0, none⟩))) := noSto_zero List.mem_cons_self rfl
  generalize w1.alloc _ = w2 at *
  generalize w1.heap.size = n0 at *
  clear hw hw1
  have ks : (⟨#[97]⟩ : ByteArray).size ≤ 9223372036854775807 := by decide
  go_wp2_with (first | (go_at_call 13; (first | (with_reducible refine (get_nil none _ _ _ H0.out hz hs).mono ?_) | (with_reducible refine (get_nil (some ⟨n0, 0, none⟩) _ _ _ H1.out hz hs).mono ?_)); clear hz; rintro e w3 ⟨rfl, hz⟩) | (go_at_call 12; (first | (with_reducible refine (put_nil none _ _ _ _ _ H0.out hz ks).mono ?_) | (with_reducible refine (put_nil (some ⟨n0, 0, none⟩) _ _ _ _ _ H1.out hz ks).mono ?_)); clear hz; rintro e w3 ⟨rfl, hz⟩) | (go_at_call 18; (first | (with_reducible refine (used_nil none _ H0.out hz).mono ?_) | (with_reducible refine (used_nil (some ⟨n0, 0, none⟩) _ H1.out hz).mono ?_)); clear hz; rintro e w3 ⟨rfl, hz⟩) | (go_at_call 19; (first | (with_reducible refine (hand_nil none _ H0.out hz).mono ?_) | (with_reducible refine (hand_nil (some ⟨n0, 0, none⟩) _ H1.out hz).mono ?_)); clear hz; rintro e w3 ⟨rfl, hz⟩) | (go_at_call 14; (first | (with_reducible refine (keys_nil none _ H0.out hz).mono ?_) | (with_reducible refine (keys_nil (some ⟨n0, 0, none⟩) _ H1.out hz).mono ?_)); clear hz; rintro e w3 ⟨rfl, hz⟩) | (go_at_call 17; (first | (with_reducible refine (drop_nil none _ _ H0.out hz).mono ?_) | (with_reducible refine (drop_nil (some ⟨n0, 0, none⟩) _ _ H1.out hz).mono ?_)); clear hz; rintro e w3 ⟨rfl, hz⟩) | (go_at_call 26; (first | (with_reducible refine (clone_nil none _ H0.out hz).mono ?_) | (with_reducible refine (clone_nil (some ⟨n0, 0, none⟩) _ H1.out hz).mono ?_)); clear hz; rintro e w3 ⟨rfl, hz⟩))
  go_ret
  exact ⟨rfl, hz.drop⟩
end
end Go.Proofs.Ytfieipigbdopaaa
