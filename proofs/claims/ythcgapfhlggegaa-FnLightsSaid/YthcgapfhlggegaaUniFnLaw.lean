/- Universes: a list that is found has room; first fit uses no fewer. Plain Lean. Conditions: none. -/
import Derived.Test.YthcgapfhlggegaaUniBest
namespace Go.Proofs.Ythcgapfhlggegaa
set_option linter.unusedVariables false

/-- a list of universes (from 1) that has room, from loads on -/
def okU (m : Nat) : List Int → List Int → (Nat → Int) → Prop
  | [], [], _ => True
  | w :: ws, c :: cs, f => ∃ u : Nat, c = ((u + 1 : Nat) : Int) ∧ u < m ∧ f u + w ≤ 512 ∧ okU m ws cs (fun v => f v + (if v = u then w else 0))
  | _, _, _ => False
def loadU (used : List Int) (v : Nat) : Int := used.getD v 0
theorem load_bump {used : List Int} {u : Nat} {w : Int} (h : u ≤ used.length) (v : Nat) : loadU (bump used u w) v = loadU used v + (if v = u then w else 0) := by
  unfold loadU bump
  split
  · rename_i hu
    simp only [List.getD_eq_getElem?_getD, List.getElem?_set]
    by_cases e : u = v
    · subst e; simp [hu]
    · rw [if_neg e, if_neg (fun h => e h.symm)]; omega
  · obtain rfl : u = used.length := by omega
    simp only [List.getD_eq_getElem?_getD]
    by_cases e : v = used.length
    · subst e; simp
    · rw [if_neg e]
      rcases Nat.lt_or_ge v used.length with h1 | h1
      · rw [List.getElem?_append_left h1]; omega
      · rw [List.getElem?_append_right h1, List.getElem?_eq_none h1, List.getElem?_eq_none (by simp; omega)]; simp
theorem okU_congr {m : Nat} : ∀ {ws cs : List Int} {f g : Nat → Int}, (∀ v, f v = g v) → okU m ws cs f → okU m ws cs g
  | [], [], _, _, _, h => h
  | w :: ws, c :: cs, f, g, he, h => by
    obtain ⟨u, h1, h2, h3, h4⟩ := h
    exact ⟨u, h1, h2, he u ▸ h3, okU_congr (fun v => by simp only [he v]) h4⟩
  | [], _ :: _, _, _, _, h => h
  | _ :: _, [], _, _, _, h => h
theorem not_big {used : List Int} {u : Nat} {w : Int} (hu : u ≤ used.length) (hw : w ≤ 512) (h : tooBig used u w = false) : loadU used u + w ≤ 512 := by
  unfold loadU
  rcases Nat.lt_or_ge u used.length with h1 | h1
  · simp only [tooBig, h1, decide_true, Bool.true_and, decide_eq_false_iff_not] at h
    omega
  · rw [List.getD_eq_getElem?_getD, List.getElem?_eq_none h1]; simp; exact hw
theorem tryU_ok {m : Nat} {ws : List Int} {w : Int} {used ch c : List Int} (hw : w ≤ 512) {rec : List Int → List Int → Nat → UOut}
    (hrec : ∀ used' ch' left' c, rec used' ch' left' = .found c → ∃ cs, c = ch' ++ cs ∧ okU m ws cs (loadU used')) :
    ∀ (k u left : Nat), u + k ≤ min m (used.length + 1) → tryU rec w used ch k u left = .found c → ∃ cs, c = ch ++ cs ∧ okU m (w :: ws) cs (loadU used)
  | 0, u, left, _, h => by cases h
  | k + 1, u, left, hk, h => by
    cases hb : tooBig used u w with
    | true => rw [tryU_big hb] at h; exact tryU_ok hw hrec k (u + 1) left (by omega) h
    | false =>
      by_cases hl : left = 0
      · subst hl; rw [tryU_full hb] at h; cases h
      · cases hr : rec (bump used u w) (ch ++ [((u + 1 : Nat) : Int)]) (left - 1) with
        | found c' =>
          rw [tryU_found hb hl hr] at h
          injection h with h
          subst h
          obtain ⟨cs, e, ho⟩ := hrec _ _ _ _ hr
          exact ⟨((u + 1 : Nat) : Int) :: cs, by rw [e]; simp, u, rfl, by omega, not_big (by omega) hw hb, okU_congr (fun v => load_bump (by omega) v) ho⟩
        | full => rw [tryU_rec_full hb hl hr] at h; cases h
        | none l' => rw [tryU_none hb hl hr] at h; exact tryU_ok hw hrec k (u + 1) l' (by omega) h
theorem putU_ok (m : Nat) : ∀ (ws used ch : List Int) (left : Nat) (c : List Int), (∀ x ∈ ws, x ≤ 512) → putU m ws used ch left = .found c → ∃ cs, c = ch ++ cs ∧ okU m ws cs (loadU used)
  | [], used, ch, left, c, _, h => by simp only [putU] at h; injection h with h; subst h; exact ⟨[], by simp, trivial⟩
  | w :: ws, used, ch, left, c, hw, h => by
    simp only [putU] at h
    exact tryU_ok (hw w List.mem_cons_self) (fun used' ch' left' c' h' => putU_ok m ws used' ch' left' c' (fun x hx => hw x (List.mem_cons_of_mem _ hx)) h') _ 0 left (by omega) h

theorem app_head (a b : List Int) (hb : b ≠ []) : (a ++ b)[a.length]? = some (b.head hb) := by
  rw [List.getElem?_append_right (Nat.le_refl _), Nat.sub_self, List.head_eq_getElem, List.getElem?_eq_getElem]
/-- the first universe that has room, and the universes that first fit takes -/
def ffit (used : List Int) (w : Int) : Nat := (used.takeWhile (fun y => decide (512 < y + w))).length
def ffPath : List Int → List Int → List Nat
  | [], _ => []
  | w :: ws, used => ffit used w :: ffPath ws (bump used (ffit used w) w)
theorem ffit_le (used : List Int) (w : Int) : ffit used w ≤ used.length := (List.takeWhile_sublist _).length_le
theorem ffit_big {used : List Int} {w : Int} {v : Nat} (h : v < ffit used w) : tooBig used v w = true := by
  have hl := ffit_le used w
  have hv : v < used.length := by omega
  have h1 := List.all_takeWhile (p := fun y => decide (512 < y + w)) (l := used)
  rw [List.all_eq_true] at h1
  have h2 : (used.takeWhile (fun y => decide (512 < y + w)))[v]'h = used[v] := (List.IsPrefix.getElem (List.takeWhile_prefix _) h)
  have h3 := h1 _ (List.getElem_mem h)
  rw [h2] at h3
  simp only [tooBig, hv, decide_true, Bool.true_and, List.getD_eq_getElem?_getD, List.getElem?_eq_getElem hv, Option.getD_some]
  exact h3
theorem ffit_of {used : List Int} {w : Int} {u : Nat} (hu : u ≤ used.length) (hlow : ∀ v, v < u → 512 < loadU used v + w) (hat : loadU used u + w ≤ 512) : ffit used w = u := by
  have h1 : ¬ ffit used w < u := fun h => by
    have h2 := hlow _ h
    have hlt : ffit used w < used.length := by omega
    have e : used.takeWhile (fun y => decide (512 < y + w)) ++ used.dropWhile (fun y => decide (512 < y + w)) = used := List.takeWhile_append_dropWhile
    have hne : used.dropWhile (fun y => decide (512 < y + w)) ≠ [] := fun h0 => by
      rw [h0, List.append_nil] at e
      have := congrArg List.length e
      simp only [ffit] at hlt
      omega
    have h3 := List.head_dropWhile_not (fun y => decide (512 < y + w)) hne
    have h4 : used[ffit used w] = (used.dropWhile (fun y => decide (512 < y + w))).head hne := by
      have : used[ffit used w]? = some ((used.dropWhile (fun y => decide (512 < y + w))).head hne) := by
        have h5 := app_head (used.takeWhile (fun y => decide (512 < y + w))) _ hne
        rw [e] at h5
        exact h5
      rw [List.getElem?_eq_getElem hlt] at this
      exact Option.some.inj this
    rw [← h4] at h3
    simp only [loadU, List.getD_eq_getElem?_getD, List.getElem?_eq_getElem hlt, Option.getD_some] at h2
    simp at h3
    omega
  have h2 : ¬ u < ffit used w := fun h => by
    have := ffit_big h
    have hl := ffit_le used w
    have hv : u < used.length := by omega
    simp only [tooBig, hv, decide_true, Bool.true_and, decide_eq_true_eq] at this
    simp only [loadU] at hat
    omega
  omega
theorem ffit_fits {used : List Int} {w : Int} (hw : w ≤ 512) : tooBig used (ffit used w) w = false := by
  cases h : tooBig used (ffit used w) w with
  | false => rfl
  | true =>
    exfalso
    simp only [tooBig, Bool.and_eq_true, decide_eq_true_eq] at h
    obtain ⟨hlt, h2⟩ := h
    have e : used.takeWhile (fun y => decide (512 < y + w)) ++ used.dropWhile (fun y => decide (512 < y + w)) = used := List.takeWhile_append_dropWhile
    have hne : used.dropWhile (fun y => decide (512 < y + w)) ≠ [] := fun h0 => by
      rw [h0, List.append_nil] at e
      have := congrArg List.length e
      simp only [ffit] at hlt
      omega
    have h3 := List.head_dropWhile_not (fun y => decide (512 < y + w)) hne
    have h4 : used[ffit used w]? = some ((used.dropWhile (fun y => decide (512 < y + w))).head hne) := by
      have h5 := app_head (used.takeWhile (fun y => decide (512 < y + w))) _ hne
      rw [e] at h5
      exact h5
    rw [List.getD_eq_getElem?_getD, h4] at h2
    simp at h2 h3
    omega
theorem ffPath_lt : ∀ (ws used : List Int) (u : Nat), u ∈ ffPath ws used → u < used.length + ws.length
  | [], _, _, h => by simp [ffPath] at h
  | w :: ws, used, u, h => by
    simp only [ffPath, List.mem_cons] at h
    have hl := ffit_le used w
    simp only [List.length_cons]
    rcases h with h | h
    · omega
    · have := ffPath_lt ws _ u h
      rw [bump_len] at this
      split at this <;> omega
/-- where first fit does with m universes the search finds something too, or the budget is lacking -/
theorem putU_ff (m : Nat) : ∀ (ws used ch : List Int) (left : Nat), (∀ x ∈ ws, x ≤ 512) → (∀ u ∈ ffPath ws used, u < m) → ∀ l, putU m ws used ch left ≠ .none l
  | [], _, _, _, _, _ => by simp [putU]
  | w :: ws, used, ch, left, hw, hp => by
    have hu : ffit used w < m := hp _ (by simp [ffPath])
    have hl := ffit_le used w
    have hfit := ffit_fits (used := used) (hw w List.mem_cons_self)
    have hrec : ∀ left', ∀ l, putU m ws (bump used (ffit used w) w) (ch ++ [((ffit used w + 1 : Nat) : Int)]) left' ≠ .none l := fun left' =>
      putU_ff m ws _ _ left' (fun x hx => hw x (List.mem_cons_of_mem _ hx)) (fun u hu => hp u (by simp only [ffPath]; exact List.mem_cons_of_mem _ hu))
    simp only [putU]
    have key : ∀ (d u k left : Nat), u + d = ffit used w → d < k → ∀ l, tryU (fun used' ch' left' => putU m ws used' ch' left') w used ch k u left ≠ .none l := by
      intro d
      induction d with
      | zero =>
        intro u k left hu' hk l
        obtain ⟨k', rfl⟩ : ∃ k', k = k' + 1 := ⟨k - 1, by omega⟩
        obtain rfl : u = ffit used w := by omega
        by_cases hl0 : left = 0
        · subst hl0; rw [tryU_full hfit]; exact fun e => by cases e
        · cases hr : putU m ws (bump used (ffit used w) w) (ch ++ [((ffit used w + 1 : Nat) : Int)]) (left - 1) with
          | found c => rw [tryU_found hfit hl0 hr]; exact fun e => by cases e
          | full => rw [tryU_rec_full hfit hl0 hr]; exact fun e => by cases e
          | none l' => exact absurd hr (hrec _ _)
      | succ d ih =>
        intro u k left hu' hk l
        obtain ⟨k', rfl⟩ : ∃ k', k = k' + 1 := ⟨k - 1, by omega⟩
        rw [tryU_big (ffit_big (by omega))]
        exact ih (u + 1) k' left (by omega) (by omega) l
    exact fun l => key (ffit used w) 0 _ left (by omega) (by omega) l
/-- what is found with n universes was not found with fewer -/
theorem fewU_least (ws : List Int) : ∀ (k m left : Nat), (fewU ws k m left).2.2 = 0 → ∃ n : Nat, (fewU ws k m left).2.1 = (n : Int) ∧ m ≤ n ∧ (∃ l, putU n ws [] [] l = .found (fewU ws k m left).1) ∧ ∀ m', m ≤ m' → m' < n → ∃ l l', putU m' ws [] [] l = .none l'
  | 0, m, left, h => by simp [fewU] at h
  | k + 1, m, left, h => by
    simp only [fewU] at h ⊢
    cases hr : putU m ws [] [] left with
    | found c => exact ⟨m, rfl, Nat.le_refl _, ⟨left, hr⟩, fun m' h1 h2 => absurd h1 (by omega)⟩
    | full => rw [hr] at h; simp at h
    | none l =>
      rw [hr] at h
      obtain ⟨n, e, hmn, hf, hall⟩ := fewU_least ws k (m + 1) l h
      refine ⟨n, e, by omega, hf, fun m' h1 h2 => ?_⟩
      by_cases hm : m' = m
      · subst hm; exact ⟨left, l, hr⟩
      · exact hall m' (by omega) h2
/-- all that FnLights asks of the fewest universes -/
theorem uniAns_says (ws : List Int) (bud : Int) :
    (uniAns ws bud).2.2 ≠ 0 ∨ ((uniAns ws bud).2.2 = 0 ∧ widthsB ws = true ∧ ∃ n : Nat, (uniAns ws bud).2.1 = (n : Int) ∧ n ≤ ws.length ∧ (uniAns ws bud).1.length = ws.length ∧ okU n ws (uniAns ws bud).1 (fun _ => 0) ∧
      ∀ M : Nat, (∀ u ∈ ffPath ws [], u < M) → n ≤ M) := by
  by_cases hv : widthsB ws = true ∧ inB bud 1 20000 = true
  · rw [uniAns_go hv]
    by_cases hc : (fewU ws (ws.length + 1) 0 bud.toNat).2.2 = 0
    · refine .inr ⟨hc, hv.1, ?_⟩
      obtain ⟨n, e, _, ⟨l, hf⟩, hall⟩ := fewU_least ws _ _ _ hc
      have hw : ∀ x ∈ ws, x ≤ 512 := fun x hx => by have := (widths_of hv.1).2 x hx; omega
      have hM : ∀ M : Nat, (∀ u ∈ ffPath ws [], u < M) → n ≤ M := fun M hM => by
        rcases Nat.lt_or_ge M n with h | h
        · obtain ⟨l1, l2, h3⟩ := hall M (by omega) h
          exact absurd h3 (putU_ff M ws [] [] l1 hw hM l2)
        · exact h
      refine ⟨n, e, hM _ (fun u hu => by have := ffPath_lt ws [] u hu; simpa using this), ?_, ?_, hM⟩
      · have := putU_len _ _ _ _ _ _ hf; simpa using this
      · obtain ⟨cs, e2, ho⟩ := putU_ok n ws [] [] l _ hw hf
        rw [e2, List.nil_append]
        exact okU_congr (fun v => by simp [loadU]) ho
    · exact .inl hc
  · rw [uniAns_no hv]; exact .inl (by simp)
end Go.Proofs.Ythcgapfhlggegaa
