/- Walk: made. -/
import Derived.Test.YteggcfcjajpcgaaDoorAuF
set_option linter.unusedVariables false
set_option linter.unusedSimpArgs false
namespace Go.Proofs.YteggcfcjajpcgaaDoor
open Go Go.RowKit
structure Nt where
  at_ : Int
  text : ByteArray
def kN : Kd Nt := {
  sz := 2
  rep := fun _ x cs => cs = [.int .i64 x.at_, .string x.text]
  len := fun h => by rw [h]; rfl
  mono := fun _ h => h
  one := fun h v hv => by rw [h] at hv; simp at hv; rcases hv with rfl | rfl <;> rfl }
def madeL (ns : List Nt) : List Ent := (ns.take 60).foldl (fun l x => logAdd l x.at_ x.text) []
theorem fold_take {α β : Type} (f : β → α → β) (b : β) (l : List α) (k : Nat) (x : α) (h : l[k]? = some x) : (l.take (k + 1)).foldl f b = f ((l.take k).foldl f b) x := by
  rw [List.take_add_one, h, List.foldl_append]; rfl
section
variable {σ w w' : World} {Hs : List Hp} {H H1 H2 M N Y G : Hp}
def MadeP (σ : World) (Hs : List Hp) (xs : List Ent) (e : Ending) (w' : World) : Prop := ∃ g G N, e = .returned (.pointer (some ⟨g, 0, none⟩)) ∧ Sat σ w' (G :: N :: Hs) ∧ LogR G N g xs
set_option maxHeartbeats 4000000
set_option maxRecDepth 10000 in
theorem made_any (v : Value) (ns : List Nt) (w : World) (hw : Sat σ w Hs) (hH1 : H1 ∈ Hs) (hs : kN.IsSl H1 v ns) (hts : ∀ x ∈ ns, x.text.size ≤ 9223372036854775807) (hH : H ∈ Hs) {tt : TypeId} {fr : Nat × Nat} (hk : H 1 = some (.cells powV tt fr)) (hk0 : H 0 = some (.cells kV 90 (0, 0))) :
    Calls Tryd.prog 9 #[v] w (MadeP σ Hs (madeL ns)) := by
  unfold MadeP
  obtain ⟨A, c, rfl, hc1, hc2, _⟩ := hs.form
  have HNS := Lib.hid hs; have HTS := Lib.hid hts
  have HADD := Lib.hid (fun (g : Nat) (xs : List Ent) (x : Nt) G N w' Hs' (h : Sat σ w' (G :: N :: Hs')) (hl : LogR G N g xs) (hm : H ∈ Hs') (ht : x.text.size ≤ 9223372036854775807) => aadd_any x.at_ x.text ht w' h hl hm hk hk0)
  have HML : Hid (∀ k, 60 ≤ k ∨ ns.length ≤ k → k ≤ 60 → (ns.take k).foldl (fun l x => logAdd l x.at_ x.text) [] = madeL ns) := Lib.hid (fun k h h2 => by
    unfold madeL
    rcases h with h | h
    · rw [show k = 60 from by omega]
    · rw [List.take_of_length_le h, List.take_of_length_le (by omega)])
  clear hs hts hk hk0
  go_enter Tryd.func9, Tryd.ntmps9
  go_wp2_with fail
  refine (anew_any w hw).mono ?_
  rintro e w1 ⟨g, G0, N0, rfl, hw1, hl0⟩
  clear hw
  go_wp2_with fail
  go_loopw [4] (fun i wr => ∃ (k : Nat) (G N : Hp) (xs : List Ent), k ≤ 60 ∧ k ≤ ns.length ∧ i = .int .i64 k ∧ Sat σ wr (G :: N :: Hs) ∧ Eager (LogR G N g xs ∧ (ns.take k).foldl (fun l x => logAdd l x.at_ x.text) [] = xs)) (fun i _ => ns.length - (intOf i).toNat)
  case atStart => exact ⟨0, G0, N0, [], by omega, by omega, rfl, hw1, ⟨hl0, rfl⟩⟩
  case round =>
    obtain ⟨k, G, N, xs, hk60, hkl, rfl, hwr, hst⟩ := hrel
    obtain ⟨hlr, hf⟩ := hst.out
    have HLR := Lib.hid hlr; have HF := Lib.hid hf
    clear hst hw1 hl0 hlr hf
    by_cases hlt : k < ns.length
    · by_cases h60 : k < 60
      · obtain ⟨x, hx⟩ : ∃ x, ns[k]? = some x := ⟨_, List.getElem?_eq_getElem hlt⟩
        obtain ⟨b, off, cs, rfl, hcs, hcell⟩ := HNS.out.get k x hx
        obtain rfl : cs = _ := hcs
        have hki : (k : Int) < ns.length := by omega
        have hki6 : (k : Int) < 60 := by omega
        have hk0 : (0 : Int) ≤ k := by omega
        have HS : Hid (∀ W Hs', Sat σ W Hs' → H1 ∈ Hs' → (W.cell? ⟨b, off + k * 2, none⟩ = some (.int .i64 x.at_) ∧ W.cell? ⟨b, off + k * 2 + 1, none⟩ = some (.string x.text))) := Lib.hid (fun W Hs' h hm => ⟨h.cellAt hm (hcell 0 _ rfl), h.cellAt hm (hcell 1 _ rfl)⟩)
        have hmem1 : H1 ∈ G :: N :: Hs := List.mem_cons_of_mem _ (List.mem_cons_of_mem _ hH1)
        have HCALL := Lib.hid (HADD.out g xs x G N wr.drew Hs hwr.drew HLR.out hH (HTS.out x (List.mem_of_getElem? hx)))
        have HXX := Lib.hid hx
        unfold AddP at HCALL
        clear hcell hx
        go_upto_region 5 with fail
        go_region_held3 (fun W => W.cell? ⟨b, off + k * 2, none⟩ = some (.int .i64 x.at_) ∧ W.cell? ⟨b, off + k * 2 + 1, none⟩ = some (.string x.text))
          (first | exact HS.out _ _ hwr hmem1 | exact HS.out _ _ hwr.drew hmem1 | exact HS.out _ _ hw2 (List.mem_cons_of_mem _ (List.mem_cons_of_mem _ hH1)))
          (first | (go_at_call 15; refine HCALL.out.mono ?_; rintro e w2 ⟨G2, N2, rfl, hw2, hl2⟩; have HL2 := Lib.hid hl2; clear hl2))
        have HNX : Hid ((ns.take (k + 1)).foldl (fun l x => logAdd l x.at_ x.text) [] = logAdd xs x.at_ x.text) := Lib.hid (by rw [fold_take _ _ _ _ _ HXX.out, HF.out])
        generalize logAdd xs x.at_ x.text = xs2 at *
        go_wp2
        exact ⟨⟨k + 1, G2, N2, xs2, by omega, by omega, by go_num, hw2, ⟨HL2.out, HNX.out⟩⟩, by simp [intOf]; omega⟩
      · have hki : (k : Int) < ns.length := by omega
        have hki6 : ¬ (k : Int) < 60 := by omega
        have HE : Hid (xs = madeL ns) := Lib.hid (by rw [← HF.out]; exact HML.out k (.inl (by omega)) hk60)
        go_wp2
        go_ret
        exact ⟨g, rfl, G, N, hwr, by rw [← HE.out]; exact HLR.out⟩
    · have hki : ¬ (k : Int) < ns.length := by omega
      have HE : Hid (xs = madeL ns) := Lib.hid (by rw [← HF.out]; exact HML.out k (.inr (by omega)) hk60)
      go_wp2
      go_ret
      exact ⟨g, rfl, G, N, hwr, by rw [← HE.out]; exact HLR.out⟩
end
end Go.Proofs.YteggcfcjajpcgaaDoor
