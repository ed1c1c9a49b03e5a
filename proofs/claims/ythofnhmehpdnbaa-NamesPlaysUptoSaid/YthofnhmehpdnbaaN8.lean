/- Walks: Put, where it is refused. -/
import Derived.Test.YthofnhmehpdnbaaN7
set_option linter.unusedVariables false
namespace Go.Proofs.Ythofnhmehpdnbaa
open Go.RowKit
set_option maxHeartbeats 1000000
def putBad (now : Int) (nm : ByteArray) (n : Nat) (ttl : Int) : Bool := !momB now || nm.toList.isEmpty || decide (253 < nm.size) || decide (16 < n) || decide (ttl < 0) || decide (1048576 < ttl)
section
variable {σ : World} {Hs : List Hp} {H M N : Hp}
theorem put_bad0 (b : Nat) (Al : Option Addr) (n cl : Nat) (now ttl : Int) (nm : ByteArray) (A : Option Addr) (m c : Nat) (w : World) (hw : Sat σ w (M :: Hs)) (HB : Hid (M b = some (.cells #[.slice Al n cl, .bool true] 53 (0, 0)))) (hs : nm.size ≤ 9223372036854775807) (hn : m ≤ 9223372036854775807) (hbad : putBad now nm m ttl = true) :
    Calls Try.prog 11 #[.pointer (some ⟨b, 0, none⟩), .int .i64 now, .string nm, .slice A m c, .int .i64 ttl] w fun e w' => e = .returned (.int .i64 2) ∧ Sat σ w' (M :: Hs) := by
  have HBAD := Lib.hid hbad; clear hbad
  cases h1 : momB now
  · (go_enter Try.func11, Try.ntmps11; go_wp2_with fail; have hw2 := (hw.alloc (.cells #[.int .i64 now] 3)).alloc (.cells #[.string nm] 9); generalize hW : World.alloc (World.alloc w _) _ = w2 at *; simp only [World.size_alloc] at hw2; clear hW hw; generalize w.heap.size = n0 at *; have cb1 : w2.cell? ⟨b, 1, none⟩ = some (.bool true) := hw2.drop.drop.m_cell HB.out rfl; have cb0 : w2.cell? ⟨b, 0, none⟩ = some (.slice Al n cl) := hw2.drop.drop.m_cell HB.out rfl; have ct : w2.cell? ⟨n0, 0, none⟩ = some (.int .i64 now) := hw2.drop.one_cell rfl; have cn : w2.cell? ⟨n0 + 1, 0, none⟩ = some (.string nm) := hw2.one_cell rfl; refine (is_any b true w2 cb1).mono ?_; rintro e w3 ⟨rfl, rfl⟩)
    go_wp2_with (go_at_call 25; refine (moment_any _ _).mono ?_; rintro e w3 ⟨rfl, rfl⟩)
    go_ret
    exact ⟨rfl, hw2.drop.drop⟩
  cases h2 : nm.toList.isEmpty
  rotate_left
  · (go_enter Try.func11, Try.ntmps11; go_wp2_with fail; have hw2 := (hw.alloc (.cells #[.int .i64 now] 3)).alloc (.cells #[.string nm] 9); generalize hW : World.alloc (World.alloc w _) _ = w2 at *; simp only [World.size_alloc] at hw2; clear hW hw; generalize w.heap.size = n0 at *; have cb1 : w2.cell? ⟨b, 1, none⟩ = some (.bool true) := hw2.drop.drop.m_cell HB.out rfl; have cb0 : w2.cell? ⟨b, 0, none⟩ = some (.slice Al n cl) := hw2.drop.drop.m_cell HB.out rfl; have ct : w2.cell? ⟨n0, 0, none⟩ = some (.int .i64 now) := hw2.drop.one_cell rfl; have cn : w2.cell? ⟨n0 + 1, 0, none⟩ = some (.string nm) := hw2.one_cell rfl; refine (is_any b true w2 cb1).mono ?_; rintro e w3 ⟨rfl, rfl⟩)
    go_wp2_with (go_at_call 25; refine (moment_any _ _).mono ?_; rintro e w3 ⟨rfl, rfl⟩)
    go_ret
    exact ⟨rfl, hw2.drop.drop⟩
  by_cases h3 : 253 < nm.size
  · (go_enter Try.func11, Try.ntmps11; go_wp2_with fail; have hw2 := (hw.alloc (.cells #[.int .i64 now] 3)).alloc (.cells #[.string nm] 9); generalize hW : World.alloc (World.alloc w _) _ = w2 at *; simp only [World.size_alloc] at hw2; clear hW hw; generalize w.heap.size = n0 at *; have cb1 : w2.cell? ⟨b, 1, none⟩ = some (.bool true) := hw2.drop.drop.m_cell HB.out rfl; have cb0 : w2.cell? ⟨b, 0, none⟩ = some (.slice Al n cl) := hw2.drop.drop.m_cell HB.out rfl; have ct : w2.cell? ⟨n0, 0, none⟩ = some (.int .i64 now) := hw2.drop.one_cell rfl; have cn : w2.cell? ⟨n0 + 1, 0, none⟩ = some (.string nm) := hw2.one_cell rfl; refine (is_any b true w2 cb1).mono ?_; rintro e w3 ⟨rfl, rfl⟩)
    go_wp2_with (go_at_call 25; refine (moment_any _ _).mono ?_; rintro e w3 ⟨rfl, rfl⟩)
    go_ret
    exact ⟨rfl, hw2.drop.drop⟩
  by_cases h4 : 16 < m
  · (go_enter Try.func11, Try.ntmps11; go_wp2_with fail; have hw2 := (hw.alloc (.cells #[.int .i64 now] 3)).alloc (.cells #[.string nm] 9); generalize hW : World.alloc (World.alloc w _) _ = w2 at *; simp only [World.size_alloc] at hw2; clear hW hw; generalize w.heap.size = n0 at *; have cb1 : w2.cell? ⟨b, 1, none⟩ = some (.bool true) := hw2.drop.drop.m_cell HB.out rfl; have cb0 : w2.cell? ⟨b, 0, none⟩ = some (.slice Al n cl) := hw2.drop.drop.m_cell HB.out rfl; have ct : w2.cell? ⟨n0, 0, none⟩ = some (.int .i64 now) := hw2.drop.one_cell rfl; have cn : w2.cell? ⟨n0 + 1, 0, none⟩ = some (.string nm) := hw2.one_cell rfl; refine (is_any b true w2 cb1).mono ?_; rintro e w3 ⟨rfl, rfl⟩)
    go_wp2_with (go_at_call 25; refine (moment_any _ _).mono ?_; rintro e w3 ⟨rfl, rfl⟩)
    go_ret
    exact ⟨rfl, hw2.drop.drop⟩
  by_cases h5 : ttl < 0
  · (go_enter Try.func11, Try.ntmps11; go_wp2_with fail; have hw2 := (hw.alloc (.cells #[.int .i64 now] 3)).alloc (.cells #[.string nm] 9); generalize hW : World.alloc (World.alloc w _) _ = w2 at *; simp only [World.size_alloc] at hw2; clear hW hw; generalize w.heap.size = n0 at *; have cb1 : w2.cell? ⟨b, 1, none⟩ = some (.bool true) := hw2.drop.drop.m_cell HB.out rfl; have cb0 : w2.cell? ⟨b, 0, none⟩ = some (.slice Al n cl) := hw2.drop.drop.m_cell HB.out rfl; have ct : w2.cell? ⟨n0, 0, none⟩ = some (.int .i64 now) := hw2.drop.one_cell rfl; have cn : w2.cell? ⟨n0 + 1, 0, none⟩ = some (.string nm) := hw2.one_cell rfl; refine (is_any b true w2 cb1).mono ?_; rintro e w3 ⟨rfl, rfl⟩)
    go_wp2_with (go_at_call 25; refine (moment_any _ _).mono ?_; rintro e w3 ⟨rfl, rfl⟩)
    go_ret
    exact ⟨rfl, hw2.drop.drop⟩
  have h6 : 1048576 < ttl := by have := HBAD.out; simp [putBad, h1, h2, h3, h4, h5] at this; omega
  · (go_enter Try.func11, Try.ntmps11; go_wp2_with fail; have hw2 := (hw.alloc (.cells #[.int .i64 now] 3)).alloc (.cells #[.string nm] 9); generalize hW : World.alloc (World.alloc w _) _ = w2 at *; simp only [World.size_alloc] at hw2; clear hW hw; generalize w.heap.size = n0 at *; have cb1 : w2.cell? ⟨b, 1, none⟩ = some (.bool true) := hw2.drop.drop.m_cell HB.out rfl; have cb0 : w2.cell? ⟨b, 0, none⟩ = some (.slice Al n cl) := hw2.drop.drop.m_cell HB.out rfl; have ct : w2.cell? ⟨n0, 0, none⟩ = some (.int .i64 now) := hw2.drop.one_cell rfl; have cn : w2.cell? ⟨n0 + 1, 0, none⟩ = some (.string nm) := hw2.one_cell rfl; refine (is_any b true w2 cb1).mono ?_; rintro e w3 ⟨rfl, rfl⟩)
    go_wp2_with (go_at_call 25; refine (moment_any _ _).mono ?_; rintro e w3 ⟨rfl, rfl⟩)
    go_ret
    exact ⟨rfl, hw2.drop.drop⟩
theorem put_full0 (b : Nat) (Al : Option Addr) (cl : Nat) (now ttl : Int) (nm : ByteArray) (A : Option Addr) (m c : Nat) (w : World) (hw : Sat σ w (M :: Hs)) (HB : Hid (M b = some (.cells #[.slice Al 0 cl, .bool true] 53 (0, 0)))) (hs : nm.size ≤ 9223372036854775807) (hn : m ≤ 9223372036854775807) (hbad : putBad now nm m ttl = false) :
    Calls Try.prog 11 #[.pointer (some ⟨b, 0, none⟩), .int .i64 now, .string nm, .slice A m c, .int .i64 ttl] w fun e w' => e = .returned (.int .i64 4) ∧ Sat σ w' (M :: Hs) := by
  simp [putBad] at hbad
  obtain ⟨⟨⟨⟨⟨h1, h2⟩, h3⟩, h4⟩, h5⟩, h6⟩ := hbad
  have h2 : nm.toList.isEmpty = false := by simpa using h2
  obtain ⟨n, rfl⟩ : ∃ n : Nat, n = 0 := ⟨0, rfl⟩
  go_enter Try.func11, Try.ntmps11
  go_wp2_with fail
  have hw2 := (hw.alloc (.cells #[.int .i64 now] 3)).alloc (.cells #[.string nm] 9)
  generalize hW : World.alloc (World.alloc w _) _ = w2 at *
  simp only [World.size_alloc] at hw2
  clear hW hw
  generalize w.heap.size = n0 at *
  have cb1 : w2.cell? ⟨b, 1, none⟩ = some (.bool true) := hw2.drop.drop.m_cell HB.out rfl
  have cb0 : w2.cell? ⟨b, 0, none⟩ = some (.slice Al 0 cl) := hw2.drop.drop.m_cell HB.out rfl
  have ct : w2.cell? ⟨n0, 0, none⟩ = some (.int .i64 now) := hw2.drop.one_cell rfl
  have cn : w2.cell? ⟨n0 + 1, 0, none⟩ = some (.string nm) := hw2.one_cell rfl
  refine (is_any b true w2 cb1).mono ?_
  rintro e w3 ⟨rfl, rfl⟩
  go_wp2_with (go_at_call 25; refine (moment_any _ _).mono ?_; rintro e w3 ⟨rfl, rfl⟩)
  go_ret
  exact ⟨rfl, hw2.drop.drop⟩
end
end Go.Proofs.Ythofnhmehpdnbaa
