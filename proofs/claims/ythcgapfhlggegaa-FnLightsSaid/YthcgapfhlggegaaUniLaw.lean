/- Universes for widths: the search that tries one number of universes, in plain Lean, and that it ends. Conditions: none. -/
import Derived.Test.YthcgapfhlggegaaBase
import Derived.Test.YthcgapfhlggegaaNums
namespace Go.Proofs.Ythcgapfhlggegaa
set_option linter.unusedVariables false

/-- what a search ends with: a list, none (and what is left of the budget), or the budget was lacking -/
inductive UOut
  | found (ch : List Int)
  | none (left : Nat)
  | full
def bump (used : List Int) (u : Nat) (w : Int) : List Int := if u < used.length then used.set u (used.getD u 0 + w) else used ++ [w]
/-- universe u will not do -/
def tooBig (used : List Int) (u : Nat) (w : Int) : Bool := decide (u < used.length) && decide (512 < used.getD u 0 + w)
/-- the universes from u on, k of them -/
def tryU (rec : List Int → List Int → Nat → UOut) (w : Int) (used ch : List Int) : Nat → Nat → Nat → UOut
  | 0, _, left => .none left
  | k + 1, u, left =>
    if tooBig used u w = true then tryU rec w used ch k (u + 1) left
    else if left = 0 then .full
    else match rec (bump used u w) (ch ++ [((u + 1 : Nat) : Int)]) (left - 1) with
      | .found c => .found c
      | .full => .full
      | .none l => tryU rec w used ch k (u + 1) l
/-- widths are still to be placed in at most m universes -/
def putU (m : Nat) : List Int → List Int → List Int → Nat → UOut
  | [], _, ch, _ => .found ch
  | w :: ws, used, ch, left => tryU (fun used' ch' left' => putU m ws used' ch' left') w used ch (min m (used.length + 1)) 0 left
section
variable {rec : List Int → List Int → Nat → UOut} {w : Int} {used ch : List Int} {k u left : Nat}
theorem tryU_zero : tryU rec w used ch 0 u left = .none left := rfl
theorem tryU_big (h : tooBig used u w = true) : tryU rec w used ch (k + 1) u left = tryU rec w used ch k (u + 1) left := by simp [tryU, h]
theorem tryU_full (h : tooBig used u w = false) : tryU rec w used ch (k + 1) u 0 = .full := by simp [tryU, h]
theorem tryU_found {c : List Int} (h : tooBig used u w = false) (hl : left ≠ 0) (hr : rec (bump used u w) (ch ++ [((u + 1 : Nat) : Int)]) (left - 1) = .found c) : tryU rec w used ch (k + 1) u left = .found c := by simp only [tryU, h, hl, hr]; simp
theorem tryU_rec_full (h : tooBig used u w = false) (hl : left ≠ 0) (hr : rec (bump used u w) (ch ++ [((u + 1 : Nat) : Int)]) (left - 1) = .full) : tryU rec w used ch (k + 1) u left = .full := by simp only [tryU, h, hl, hr]; simp
theorem tryU_none {l : Nat} (h : tooBig used u w = false) (hl : left ≠ 0) (hr : rec (bump used u w) (ch ++ [((u + 1 : Nat) : Int)]) (left - 1) = .none l) : tryU rec w used ch (k + 1) u left = tryU rec w used ch k (u + 1) l := by simp only [tryU, h, hl, hr]; simp
theorem bump_len : (bump used u w).length = if u < used.length then used.length else used.length + 1 := by
  unfold bump; split <;> simp
theorem bump_old (h : u < used.length) : bump used u w = used.set u (used[u] + w) := by simp [bump, h]
theorem bump_new (h : u = used.length) : bump used u w = used ++ [w] := by simp [bump, h]
end
/-- with a universe for each width that is still to come something is always found, or the budget is lacking -/
theorem putU_ends (m : Nat) : ∀ (ws used ch : List Int) (left : Nat), used.length + ws.length ≤ m → (∀ l, putU m ws used ch left ≠ .none l)
  | [], _, _, _, _ => by simp [putU]
  | w :: ws, used, ch, left, h => by
    simp only [putU]
    simp only [List.length_cons] at h
    rw [show min m (used.length + 1) = used.length + 1 by omega]
    have key : ∀ (k u left : Nat), u + k = used.length → ∀ l, tryU (fun used' ch' left' => putU m ws used' ch' left') w used ch (k + 1) u left ≠ .none l := by
      intro k
      induction k with
      | zero =>
        intro u left hu l
        have hb : tooBig used u w = false := by simp [tooBig]; omega
        by_cases hl : left = 0
        · subst hl; rw [tryU_full hb]; exact fun e => by cases e
        · have hrec := putU_ends m ws (bump used u w) (ch ++ [((u + 1 : Nat) : Int)]) (left - 1) (by rw [bump_len]; split <;> omega)
          cases hr : putU m ws (bump used u w) (ch ++ [((u + 1 : Nat) : Int)]) (left - 1) with
          | found c => rw [tryU_found hb hl hr]; exact fun e => by cases e
          | full => rw [tryU_rec_full hb hl hr]; exact fun e => by cases e
          | none l' => exact absurd hr (hrec l')
      | succ k ih =>
        intro u left hu l
        cases hb : tooBig used u w with
        | true => rw [tryU_big hb]; exact ih (u + 1) left (by omega) l
        | false =>
          by_cases hl : left = 0
          · subst hl; rw [tryU_full hb]; exact fun e => by cases e
          · have hrec := putU_ends m ws (bump used u w) (ch ++ [((u + 1 : Nat) : Int)]) (left - 1) (by rw [bump_len]; split <;> omega)
            cases hr : putU m ws (bump used u w) (ch ++ [((u + 1 : Nat) : Int)]) (left - 1) with
            | found c => rw [tryU_found hb hl hr]; exact fun e => by cases e
            | full => rw [tryU_rec_full hb hl hr]; exact fun e => by cases e
            | none l' => exact absurd hr (hrec l')
    exact fun l => key used.length 0 left (by omega) l
/-- what is found has the length of all widths -/
theorem tryU_len {rec : List Int → List Int → Nat → UOut} {w : Int} {used ch c : List Int} {n : Nat} (hrec : ∀ used' ch' left' c, ch'.length = ch.length + 1 → rec used' ch' left' = .found c → c.length = n) :
    ∀ (k u left : Nat), tryU rec w used ch k u left = .found c → c.length = n
  | 0, u, left, h => by cases h
  | k + 1, u, left, h => by
    cases hb : tooBig used u w with
    | true => rw [tryU_big hb] at h; exact tryU_len hrec k (u + 1) left h
    | false =>
      by_cases hl : left = 0
      · subst hl; rw [tryU_full hb] at h; cases h
      · cases hr : rec (bump used u w) (ch ++ [((u + 1 : Nat) : Int)]) (left - 1) with
        | found c' =>
          rw [tryU_found hb hl hr] at h
          injection h with h
          subst h
          exact hrec _ _ _ _ (by simp) hr
        | full => rw [tryU_rec_full hb hl hr] at h; cases h
        | none l' => rw [tryU_none hb hl hr] at h; exact tryU_len hrec k (u + 1) l' h
theorem putU_len (m : Nat) : ∀ (ws used ch : List Int) (left : Nat) (c : List Int), putU m ws used ch left = .found c → c.length = ch.length + ws.length
  | [], _, ch, _, c, h => by simp only [putU] at h; injection h with h; subst h; simp
  | w :: ws, used, ch, left, c, h => by
    simp only [putU] at h
    exact tryU_len (fun used' ch' left' c' hc h' => by have := putU_len m ws used' ch' left' c' h'; simp only [List.length_cons]; omega) _ _ _ h
theorem tryU_left {rec : List Int → List Int → Nat → UOut} {w : Int} {used ch : List Int} (hrec : ∀ used' ch' left' l, rec used' ch' left' = .none l → l ≤ left') : ∀ (k u left l : Nat), tryU rec w used ch k u left = .none l → l ≤ left
  | 0, u, left, l, h => by injection h with h; omega
  | k + 1, u, left, l, h => by
    cases hb : tooBig used u w with
    | true => rw [tryU_big hb] at h; exact tryU_left hrec k (u + 1) left l h
    | false =>
      by_cases hl : left = 0
      · subst hl; rw [tryU_full hb] at h; cases h
      · cases hr : rec (bump used u w) (ch ++ [((u + 1 : Nat) : Int)]) (left - 1) with
        | found c => rw [tryU_found hb hl hr] at h; cases h
        | full => rw [tryU_rec_full hb hl hr] at h; cases h
        | none l' =>
          rw [tryU_none hb hl hr] at h
          have h1 := tryU_left hrec k (u + 1) l' l h
          have h2 := hrec _ _ _ _ hr
          omega
/-- the budget only goes down -/
theorem putU_left (m : Nat) : ∀ (ws used ch : List Int) (left l : Nat), putU m ws used ch left = .none l → l ≤ left
  | [], _, _, _, _, h => by cases h
  | w :: ws, used, ch, left, l, h => by
    simp only [putU] at h
    exact tryU_left (fun used' ch' left' l' h' => putU_left m ws used' ch' left' l' h') _ _ _ _ h
/-- from m universes on, k more may be tried -/
def fewU (ws : List Int) : Nat → Nat → Nat → List Int × Int × Int
  | 0, _, _ => ([], 0, 5)
  | k + 1, m, left => match putU m ws [] [] left with
    | .found c => (c, (m : Int), 0)
    | .full => ([], 0, 5)
    | .none l => fewU ws k (m + 1) l
def widthsB (ws : List Int) : Bool := decide (ws.length ≤ 16) && ws.all (fun n => inB n 1 64)
/-- what FewestUniverses answers -/
def uniAns (ws : List Int) (bud : Int) : List Int × Int × Int :=
  if widthsB ws = true ∧ inB bud 1 20000 = true then fewU ws (ws.length + 1) 0 bud.toNat else ([], 0, 2)
theorem fewU_len (ws : List Int) : ∀ (k m left : Nat), (fewU ws k m left).1.length ≤ ws.length
  | 0, _, _ => by simp [fewU]
  | k + 1, m, left => by
    simp only [fewU]
    cases hr : putU m ws [] [] left with
    | found c => have := putU_len m ws [] [] left c hr; simp at this; simp; omega
    | full => simp
    | none l => exact fewU_len ws k (m + 1) l
theorem uniAns_len (ws : List Int) (bud : Int) : (uniAns ws bud).1.length ≤ 1099511627776 := by
  unfold uniAns
  split
  · rename_i h
    have h1 := h.1
    simp only [widthsB, Bool.and_eq_true, decide_eq_true_eq] at h1
    have := fewU_len ws (ws.length + 1) 0 bud.toNat
    omega
  · simp
end Go.Proofs.Ythcgapfhlggegaa
