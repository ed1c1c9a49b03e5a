/- Walk: ChunkWrites. -/
import Derived.Test.YtgpmkiamfbbfmaaDoorCwF
import Derived.Test.YtgpmkiamfbbfmaaDoorCkW
set_option linter.unusedVariables false
set_option linter.unusedSimpArgs false
namespace Go.Proofs.YtgpmkiamfbbfmaaDoor
open Go Go.RowKit
section
variable {σ w w' : World} {Hs : List Hp} {H H1 H2 H3 M N Y : Hp}
set_option maxHeartbeats 8000000
theorem own_nilcap {e : TypeId} {sz n c : Nat} {A : Option Addr} {cells : List Value} (h : Own N e sz (.slice A n c) n cells) : A = none → c = 0 := fun hA => by
  rcases h.out.2 with ⟨e1, _⟩ | ⟨g, cap, cur, e1, _⟩
  · injection e1
  · injection e1 with e1; rw [hA] at e1; cases e1
set_option maxRecDepth 10000 in
theorem writes_any (A : Option Addr) (c : Nat) (bs : List Int) (size : Int) (s : ByteArray) (w : World) (hw : Sat σ w Hs) (hH : H ∈ Hs) (hs : kB.IsSl H (.slice A bs.length c) bs) (hA : A = none → c = 0) (hH2 : H2 ∈ Hs) (hk : H2 4 = some (.cells tabV 101 (0, 0))) (hL : LibV H2) (hlen : bs.length ≤ 1048576) (hsz : s.size ≤ 281474976710656) :
    Calls Tryd.prog 4 #[.slice A bs.length c, .int .i64 size, .string s] w fun e w' => e = .returned (.bool true) ∧ Sat σ w' Hs := by
  have HB := Lib.hid hs
  obtain ⟨lv, hlv⟩ : ∃ lv, lenD s.data.toList = lv := ⟨_, rfl⟩
  have HLEN := Lib.hid (fun w' Hs' (h : Sat σ w' Hs') (hm : H2 ∈ Hs') => len_any s hsz w' h hm hL)
  have HRLEN := Lib.hid (fun w' => rlen_any s hsz w')
  rw [hlv] at HLEN HRLEN
  have HPUT := Lib.hid (fun A' c' (sz : Nat) w' Hs' H' (h : Sat σ w' Hs') (hm : H' ∈ Hs') (hm2 : H2 ∈ Hs') (hsl : kB.IsSl H' (.slice A' bs.length c') bs) (hA' : A' = none → c' = 0) (h0 : 0 < sz) (h1 : sz ≤ 65536) => put_any A' c' bs sz w' h hm hsl hA' h0 h1 hm2 hk hlen)
  have HRPUT := Lib.hid (fun (sz : Nat) w' Hs' (h : Sat σ w' Hs') (hm : H ∈ Hs') (h0 : 0 < sz) (h1 : sz ≤ 65536) => rput_any A c bs sz w' h hm hs hA h0 h1 hlen)
  clear hs hk hL hlv hA
  go_enter Tryd.func4, Tryd.ntmps4
  go_wp2_with fail
  refine (bytesO_any _ bs w hw hH HB.out (by omega)).mono ?_
  rintro e w1 ⟨A3, c3, N3, cells, rfl, hw1, ho3, hcs⟩
  obtain rfl := reps_is hcs
  have HN3 := Lib.hid (own_nilcap ho3)
  have HS3 := Lib.hid (ho3.isSl (d := kB) (reps_ints _) rfl (Hp.le_refl _))
  clear hw hcs ho3
  by_cases hz : size < 1 ∨ 65536 < size
  · have HP := Lib.hid (fun v w' => put_bad v size w' hz)
    have HRP := Lib.hid (fun v w' => rput_bad v size w' hz)
    have HNIL : Hid (kB.IsSl H (.slice none 0 0) []) := Lib.hid Kd.IsSl.nil
    clear HPUT HRPUT hz
    go_wp2_with fail
    refine (HP.out _ _).mono ?_
    rintro e w2 ⟨rfl, rfl⟩
    go_wp2_with fail
    refine (HRP.out _ _).mono ?_
    rintro e w3 ⟨rfl, rfl⟩
    cases lv with
    | none =>
      have e0 := lenV_none
      rw [e0] at HLEN HRLEN
      clear e0
      go_wp2_with fail
      refine (HLEN.out _ _ hw1 (by simp [hH2])).mono ?_
      rintro e w6 ⟨rfl, hw6⟩
      go_wp2_with fail
      refine (HRLEN.out _).mono ?_
      rintro e w7 ⟨rfl, rfl⟩
      clear hw1
      go_wp2_with (first
        | (go_at_call 11; first
            | (refine (sameB_any (H1 := H) (H2 := H) _ _ [] w7 hw6 (by simp [hH]) (by simp [hH]) HNIL.out HNIL.out).mono ?_; rintro e w8 ⟨rfl, hw8⟩)
            | (refine (sameB_any (H1 := N3) (H2 := H) _ _ bs w8 hw8 (by simp) (by simp [hH]) HS3.out HB.out).mono ?_; rintro e w9 ⟨rfl, hw9⟩))
        | (go_at_call 5; refine (works_any w9 hw9).mono ?_; rintro e w10 ⟨rfl, hw10⟩))
      go_ret
      exact ⟨rfl, hw10.drop⟩
    | some n =>
      have e0 := lenV_some n
      rw [e0] at HLEN HRLEN
      clear e0
      go_wp2_with fail
      refine (HLEN.out _ _ hw1 (by simp [hH2])).mono ?_
      rintro e w6 ⟨rfl, hw6⟩
      go_wp2_with fail
      refine (HRLEN.out _).mono ?_
      rintro e w7 ⟨rfl, rfl⟩
      clear hw1
      go_wp2_with (first
        | (go_at_call 11; first
            | (refine (sameB_any (H1 := H) (H2 := H) _ _ [] w7 hw6 (by simp [hH]) (by simp [hH]) HNIL.out HNIL.out).mono ?_; rintro e w8 ⟨rfl, hw8⟩)
            | (refine (sameB_any (H1 := N3) (H2 := H) _ _ bs w8 hw8 (by simp) (by simp [hH]) HS3.out HB.out).mono ?_; rintro e w9 ⟨rfl, hw9⟩))
        | (go_at_call 5; refine (works_any w9 hw9).mono ?_; rintro e w10 ⟨rfl, hw10⟩))
      go_ret
      exact ⟨rfl, hw10.drop⟩
  · obtain ⟨sz, rfl⟩ : ∃ n : Nat, size = n := ⟨size.toNat, by omega⟩
    have h0 : 0 < sz := by omega
    have h1 : sz ≤ 65536 := by omega
    go_wp2_with fail
    refine (HPUT.out A3 c3 sz w1 _ N3 hw1 (by simp) (by simp [hH2]) HS3.out HN3.out h0 h1).mono ?_
    rintro e w2 ⟨v2, NX, rfl, hw2, ho2⟩
    have HS2 := Lib.hid (ho2.isSl (d := kB) (reps_ints _) rfl (Hp.le_refl _))
    obtain ⟨A2, c2, rfl, _⟩ := ho2.slice
    clear hw1 ho2
    go_wp2_with fail
    refine (HRPUT.out sz w2 _ hw2 (by simp [hH]) h0 h1).mono ?_
    rintro e w3 ⟨v4, NY, rfl, hw3, ho4⟩
    have HS4 := Lib.hid (ho4.isSl (d := kB) (reps_ints _) rfl (Hp.le_refl _))
    obtain ⟨A4, c4, rfl, _⟩ := ho4.slice
    clear hw2 ho4 HPUT HRPUT hz
    generalize putL sz bs = px at *
    cases lv with
    | none =>
      have e0 := lenV_none
      rw [e0] at HLEN HRLEN
      clear e0
      go_wp2_with fail
      refine (HLEN.out _ _ hw3 (by simp [hH2])).mono ?_
      rintro e w6 ⟨rfl, hw6⟩
      go_wp2_with fail
      refine (HRLEN.out _).mono ?_
      rintro e w7 ⟨rfl, rfl⟩
      clear hw3
      go_wp2_with (first
        | (go_at_call 11; first
            | (refine (sameB_any (H1 := NX) (H2 := NY) _ _ px w7 hw6 (by simp [hH]) (by simp [hH]) HS2.out HS4.out).mono ?_; rintro e w8 ⟨rfl, hw8⟩)
            | (refine (sameB_any (H1 := N3) (H2 := H) _ _ bs w8 hw8 (by simp) (by simp [hH]) HS3.out HB.out).mono ?_; rintro e w9 ⟨rfl, hw9⟩))
        | (go_at_call 5; refine (works_any w9 hw9).mono ?_; rintro e w10 ⟨rfl, hw10⟩))
      go_ret
      exact ⟨rfl, hw10.drop.drop.drop⟩
    | some n =>
      have e0 := lenV_some n
      rw [e0] at HLEN HRLEN
      clear e0
      go_wp2_with fail
      refine (HLEN.out _ _ hw3 (by simp [hH2])).mono ?_
      rintro e w6 ⟨rfl, hw6⟩
      go_wp2_with fail
      refine (HRLEN.out _).mono ?_
      rintro e w7 ⟨rfl, rfl⟩
      clear hw3
      go_wp2_with (first
        | (go_at_call 11; first
            | (refine (sameB_any (H1 := NX) (H2 := NY) _ _ px w7 hw6 (by simp [hH]) (by simp [hH]) HS2.out HS4.out).mono ?_; rintro e w8 ⟨rfl, hw8⟩)
            | (refine (sameB_any (H1 := N3) (H2 := H) _ _ bs w8 hw8 (by simp) (by simp [hH]) HS3.out HB.out).mono ?_; rintro e w9 ⟨rfl, hw9⟩))
        | (go_at_call 5; refine (works_any w9 hw9).mono ?_; rintro e w10 ⟨rfl, hw10⟩))
      go_ret
      exact ⟨rfl, hw10.drop.drop.drop⟩
end
end Go.Proofs.YtgpmkiamfbbfmaaDoor
