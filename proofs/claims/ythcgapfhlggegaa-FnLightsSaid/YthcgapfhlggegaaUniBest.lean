/- Widths that can be patched (the program's test), and what FewestUniverses answers. Conditions: lists no longer than 2^40. -/
import Derived.Test.YthcgapfhlggegaaUniLaw
import Derived.Test.YthcgapfhlggegaaSearch
import Derived.Test.YthcgapfhlggegaaNumsOwn
namespace Go.Proofs.Ythcgapfhlggegaa
set_option linter.unusedVariables false
open Go.RowKit

/-- what a search for universes has in its struct -/
structure UG where
  used : List Int
  left : Nat
  full : Bool
theorem apart_sym {v u : Value} (h : Apart v u) : Apart u v := by
  unfold Apart at *
  rcases h with h | h
  · cases hv : v.ownBlock with
    | none => exact .inl rfl
    | some j => exact .inr (by rw [h]; exact fun e => by cases e)
  · exact .inr (fun e => h e.symm)
/-- a row beside one that is written to -/
theorem own_beside {w : World} {base e size n n2 c2 : Nat} {v : Value} {L : List Value} {g : Nat} (h : w.ownsRow base e size v n L) (ha : Apart v (.slice (some ⟨g, 0, none⟩) n2 c2)) (j : Nat) (u : Value) : (w.setCell ⟨g, j, none⟩ u).ownsRow base e size v n L := by
  refine h.kept (gr_of_set w g j u) ?_
  rcases ha with ha | ha
  · exact absurd ha (by simp [Value.ownBlock])
  · exact .inr (fun e => ha (by rw [e]; rfl))
theorem flat_set (L : List Int) (u : Nat) (y : Int) : (L.set u y).flatMap intC = (L.flatMap intC).set u (.int .i64 y) := by
  have e : ∀ K : List Int, K.flatMap intC = K.map (Value.int .i64) := fun K => by
    induction K with
    | nil => rfl
    | cons a K ih => simp [intC, List.flatMap_cons, ih]
  rw [e, e, List.map_set]
theorem set_back {U : List Int} {u : Nat} {y z : Int} (hu : u < U.length) (h : U[u] = y) : (U.set u z).set u y = U := by
  rw [List.set_set]
  subst h
  exact List.set_getElem_self hu
theorem flat_len1 (L : List Int) : (L.flatMap intC).length = L.length := by rw [flat_len intC_len]; omega
theorem own_int_at {w : World} {base e g n c : Nat} {L : List Int} (h : w.ownsRow base e 1 (.slice (some ⟨g, 0, none⟩) n c) n (L.flatMap intC)) {u : Nat} (hu : u < L.length) : w.cell? ⟨g, u, none⟩ = some (.int .i64 L[u]) := by
  have hr : Rd intC 1 w (some ⟨g, 0, none⟩) L := Own.rd (cells := intC) (k := 1) (by omega) intC_len (by
    have hl : n = L.length := by have := h.1; rw [flat_len1] at this; omega
    subst hl; exact h) rfl
  obtain ⟨b, off, e, _, hc⟩ := int_rd hr (List.getElem?_eq_getElem hu)
  injection e with e
  injection e with e1 e2
  subst e1 e2
  simpa using hc

theorem bump_bd {used : List Int} {u : Nat} {wd : Int} (h : ∀ x ∈ used, 1 ≤ x ∧ x ≤ 512) (h1 : 1 ≤ wd) (h2 : wd ≤ 512) (hb : tooBig used u wd = false) : ∀ x ∈ bump used u wd, 1 ≤ x ∧ x ≤ 512 := by
  intro x hx
  unfold bump at hx
  split at hx
  · rename_i hu
    have hh : ¬ 512 < used.getD u 0 + wd := by
      intro h3
      simp [tooBig, hu] at hb
      simp only [List.getD_eq_getElem?_getD, List.getElem?_eq_getElem hu, Option.getD_some] at h3
      omega
    have hm : 1 ≤ used.getD u 0 := by
      rw [List.getD_eq_getElem?_getD, List.getElem?_eq_getElem hu]
      exact (h _ (List.getElem_mem hu)).1
    rcases List.mem_or_eq_of_mem_set hx with h3 | h3
    · exact h x h3
    · subst h3; omega
  · rcases List.mem_append.1 hx with h3 | h3
    · exact h x h3
    · simp at h3; omega
def widthNot (n : Int) : Bool := !(inB n 1 64)
theorem widths_all {ws : List Int} : ws.all (fun n => inB n 1 64) = !(ws.any widthNot) := by
  induction ws with
  | nil => rfl
  | cons a ws ih => simp [List.all_cons, List.any_cons, ih, widthNot]
theorem widths_of {ws : List Int} (h : widthsB ws = true) : ws.length ≤ 16 ∧ ∀ x ∈ ws, 1 ≤ x ∧ x ≤ 64 := by
  simp only [widthsB, Bool.and_eq_true, decide_eq_true_eq, List.all_eq_true] at h
  exact ⟨h.1, fun x hx => inB_true.1 (h.2 x hx)⟩
theorem c_clo_width (n : Int) (w : World) : Calls Try.prog 38 #[.int .i64 n] w fun e w' => e = .returned (.bool (widthNot n)) ∧ IsX w w' := by
  go_enter Try.func38, Try.ntmps38
  go_wp2_with (go_at_call 23; refine (c_within _ _ _ _).mono ?_; rintro e w' ⟨rfl, rfl⟩)
  go_ret
  exact ⟨rfl, IsX.refl _⟩

set_option maxHeartbeats 400000 in
theorem c_Index_width (A : Option Addr) (c : Nat) (xs : List Int) (w : World) (hn : xs.length ≤ 1099511627776) (hA : Rd intC 1 w A xs) :
    Calls Try.prog 41 #[.slice A xs.length c, .func (.func 38) #[] #[]] w fun e w' => e = .returned (.int .i64 (idxI widthNot xs)) ∧ IsX w w' := by
  obtain ⟨n, hnn⟩ : ∃ n, n = xs.length := ⟨_, rfl⟩
  have HN := hide hnn
  rw [← hnn] at hn ⊢
  clear hnn
  go_enter Try.func41, Try.ntmps41
  go_wp2
  go_loopw [8] (fun i wr => ∃ k : Nat, k ≤ n ∧ i = .int .i64 k ∧ (∀ i (h : i < xs.length), i < k → widthNot xs[i] = false) ∧ IsX w wr) (fun i _ => n - (intOf i).toNat)
  case atStart => exact ⟨0, Nat.zero_le _, rfl, fun i h hi => absurd hi (by omega), IsX.refl _⟩
  case round =>
    obtain ⟨k, hk, rfl, hall, p, rfl⟩ := hrel
    have HA := hide hall
    clear hall
    by_cases hlt : k < n
    · have hltx : k < xs.length := HN.out ▸ hlt
      obtain ⟨b, off, rfl, hb, c0⟩ := int_rd hA (show xs[k]? = some xs[k] from List.getElem?_eq_getElem _)
      clear hA
      cases hp : widthNot xs[k]
      · have HP := hide hp
        go_wp2_with (go_at_call 38; refine (c_clo_width xs[k] _).mono ?_; rintro e w1 ⟨rfl, q, rfl⟩)
        go_roundw
        case rel => exact ⟨k + 1, by omega, by go_num, step_all hltx HA.out HP.out, IsX.xt ⟨p, rfl⟩ q⟩
        case measure => simp [intOf]; omega
      · have HR := hide (idxI_at hltx HA.out hp)
        go_wp2_with (go_at_call 38; refine (c_clo_width xs[k] _).mono ?_; rintro e w1 ⟨rfl, q, rfl⟩)
        go_ret
        exact ⟨by rw [HR.out]; rfl, IsX.xt ⟨p, rfl⟩ q⟩
    · have HR := hide (idxI_none (p := widthNot) (xs := xs) (fun i h => HA.out i h (by have := HN.out; omega)))
      go_wp2
      go_ret
      exact ⟨by rw [HR.out]; rfl, ⟨p, rfl⟩⟩

theorem c_Contains_width (A : Option Addr) (c : Nat) (xs : List Int) (w : World) (hn : xs.length ≤ 1099511627776) (hA : Rd intC 1 w A xs) :
    Calls Try.prog 37 #[.slice A xs.length c, .func (.func 38) #[] #[]] w fun e w' => e = .returned (.bool (xs.any widthNot)) ∧ IsX w w' := by
  have HI := hide (idxI_ge widthNot xs)
  go_enter Try.func37, Try.ntmps37
  go_wp2_with fail
  refine (c_Index_width A c xs w hn hA).mono ?_
  rintro e w1 ⟨rfl, hx⟩
  go_wp2_with fail
  go_ret
  exact ⟨by rw [← HI.out.2.2]; rfl, hx⟩

theorem c_areWidths (A : Option Addr) (c : Nat) (xs : List Int) (w : World) (hn : xs.length ≤ 1099511627776) (hA : Rd intC 1 w A xs) :
    Calls Try.prog 28 #[.slice A xs.length c] w fun e w' => e = .returned (.bool (widthsB xs)) ∧ IsX w w' := by
  by_cases hl : 16 < xs.length
  · have HR := hide (show widthsB xs = false by rw [widthsB, decide_eq_false (by omega)]; rfl)
    generalize xs.length = n at hn hl ⊢
    go_enter Try.func28, Try.ntmps28
    go_wp2_with fail
    go_ret
    exact ⟨by rw [HR.out]; rfl, IsX.refl _⟩
  · have HR := hide (show widthsB xs = !(xs.any widthNot) by rw [widthsB, decide_eq_true (by omega), widths_all]; rfl)
    have HC := hide (c_Contains_width A c xs w hn hA)
    generalize hnn : xs.length = n at hn hl HC ⊢
    clear hnn
    go_enter Try.func28, Try.ntmps28
    go_wp2_with fail
    refine HC.out.mono ?_
    rintro e w1 ⟨rfl, hx⟩
    go_wp2_with fail
    go_ret
    exact ⟨by rw [HR.out]; rfl, hx⟩

theorem uniAns_no {xs : List Int} {bud : Int} (h : ¬ (widthsB xs = true ∧ inB bud 1 20000 = true)) : uniAns xs bud = ([], 0, 2) := by unfold uniAns; rw [if_neg h]
theorem uniAns_go {xs : List Int} {bud : Int} (h : widthsB xs = true ∧ inB bud 1 20000 = true) : uniAns xs bud = fewU xs (xs.length + 1) 0 bud.toNat := by unfold uniAns; rw [if_pos h]
theorem fewU_found {ws : List Int} {k m left : Nat} {c : List Int} (h : putU m ws [] [] left = .found c) : fewU ws (k + 1) m left = (c, (m : Int), 0) := by simp [fewU, h]
theorem fewU_full {ws : List Int} {k m left : Nat} (h : putU m ws [] [] left = .full) : fewU ws (k + 1) m left = ([], 0, 5) := by simp [fewU, h]
theorem fewU_none {ws : List Int} {k m left l : Nat} (h : putU m ws [] [] left = .none l) : fewU ws (k + 1) m left = fewU ws k (m + 1) l := by simp [fewU, h]
end Go.Proofs.Ythcgapfhlggegaa
