/- The law FnExactReadRing: the walk through the law's own text. Conditions: the library's variables as the rows lay them. -/
import Derived.Test.YtpdfebalkkbpoaaDoorReadRing
namespace Go.Proofs.YtpdfebalkkbpoaaDoor
set_option linter.unusedVariables false
open Go.RowKit

set_option maxRecDepth 100000 in
theorem c_eqRingV (x : RingD) (w : World) : Calls Tryd.prog 7 #[ringV x, ringV x] w fun e w' => e = .returned (.bool true) ∧ IsX w w' := by
  unfold ringV
  go_enter Tryd.func7, Tryd.ntmps7
  go_wp2
  go_ret
  exact ⟨rfl, ((IsX.refl w).alloc _).alloc _⟩
set_option maxHeartbeats 1600000 in
set_option maxRecDepth 100000 in
theorem law_FnExactReadRing (s : ByteArray) (w : World) (he : EnvOk w) :
    Calls Tryd.prog 3 #[.string s] w fun e w' => e = .returned (.bool true) ∧ IsX w w' := by
  obtain ⟨n, hn⟩ : ∃ n, n = s.size := ⟨_, rfl⟩
  have HN := hide hn
  have hsz := hn.symm
  clear hn
  by_cases hb : 1048576 < n
  · have g : decide ((n : Int) > 1048576) = true := decide_eq_true (by omega)
    go_enter Tryd.func3, Tryd.ntmps3
    go_wp2_with fail
    go_ret
    exact ⟨rfl, IsX.refl _⟩
  have g : decide ((n : Int) > 1048576) = false := decide_eq_false (by omega)
  obtain ⟨x, hx⟩ : ∃ x, ringZ s = x := ⟨_, rfl⟩
  obtain ⟨b, hbb⟩ : ∃ b, ringB s = b := ⟨_, rfl⟩
  have HS := hide (fun W => s_ReadRing s W (by omega))
  have HI := hide (fun W hW => i_ReadRing s W (by omega) hW)
  have HQ := hide (c_eqRingV x)
  have HE := hide he
  rw [hx, hbb] at HS HI
  simp only [ringV] at HS HI HQ
  clear hx hbb he
  go_enter Tryd.func3, Tryd.ntmps3
  go_wp2_with fail
  refine (HS.out w).mono ?_
  rintro e w3 ⟨rfl, hx3⟩
  have X3 := hx3.alloc (.cells #[.int .i64 x.Radius, .int .i64 x.Count, .int .i64 x.From, .int .i64 x.Step, .int .i64 x.Price] 23)
  have B3 := Blk.new w3 23 #[.int .i64 x.Radius, .int .i64 x.Count, .int .i64 x.From, .int .i64 x.Step, .int .i64 x.Price]
  go_wp2_with fail
  obtain ⟨b3, hb3⟩ : ∃ b, b = w3.heap.size := ⟨_, rfl⟩
  rw [← hb3] at B3 ⊢
  clear hb3
  generalize w3.alloc (.cells #[.int .i64 x.Radius, .int .i64 x.Count, .int .i64 x.From, .int .i64 x.Step, .int .i64 x.Price] 23) = W3 at *
  refine (HI.out W3 (HE.out.x X3)).mono ?_
  rintro e w5 ⟨rfl, hx5'⟩
  have X5 := (X3.trans hx5').alloc (.cells #[.int .i64 x.Radius, .int .i64 x.Count, .int .i64 x.From, .int .i64 x.Step, .int .i64 x.Price] 23)
  have B5 := Blk.new w5 23 #[.int .i64 x.Radius, .int .i64 x.Count, .int .i64 x.From, .int .i64 x.Step, .int .i64 x.Price]
  have B3' := B3.x hx5'
  have a0 := B3'.cell 0
  have a1 := B3'.cell 1
  have a2 := B3'.cell 2
  have a3 := B3'.cell 3
  have a4 := B3'.cell 4
  simp at a0 a1 a2 a3 a4
  have hl3 := B3'.lt
  go_wp2_with fail
  generalize w5.alloc (.cells #[.int .i64 x.Radius, .int .i64 x.Count, .int .i64 x.From, .int .i64 x.Step, .int .i64 x.Price] 23) = W5 at *
  refine (HQ.out W5).mono ?_
  rintro e w6 ⟨rfl, hx6'⟩
  cases b
  · go_wp2_with fail
    go_ret
    exact ⟨rfl, X5.trans hx6'⟩
  · go_wp2_with fail
    go_ret
    exact ⟨rfl, X5.trans hx6'⟩

end Go.Proofs.YtpdfebalkkbpoaaDoor
