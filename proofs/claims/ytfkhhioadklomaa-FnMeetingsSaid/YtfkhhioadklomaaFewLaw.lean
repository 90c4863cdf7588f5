/- The fewest days: the search, in plain Lean; masks of names. Conditions: none. -/
import Derived.Test.YtfkhhioadklomaaMeetDays
namespace Go.Proofs.Ytfkhhioadklomaa
set_option linter.unusedVariables false

/-- what a search for days ends with -/
inductive Fnd where
  | none (left : Nat)
  | found (ch : List Int) (left : Nat)
  | full
def visF (lp : List Int → Nat → Fnd) (cov : List Int → Bool) (most : Nat) (ch : List Int) (left : Nat) : Fnd :=
  if left = 0 then .full else if cov ch = true then .found ch (left - 1) else if ch.length = most then .none (left - 1) else lp ch (left - 1)
def loopF (F : List Int) (cov : List Int → Bool) (most : Nat) : Nat → List Int → Nat → Fnd
  | 0, _, left => .none left
  | r + 1, ch, left => match visF (loopF F cov most r) cov most (ch ++ [F.getD (F.length - (r + 1)) 0]) left with
    | .none l => loopF F cov most r ch l
    | .found c l => .found c l
    | .full => .full
def visR (F : List Int) (cov : List Int → Bool) (most r : Nat) (ch : List Int) (left : Nat) : Fnd := visF (loopF F cov most r) cov most ch left
section
variable {F : List Int} {cov : List Int → Bool} {most r left i : Nat} {ch : List Int}
theorem visR_full : visR F cov most r ch 0 = .full := by simp [visR, visF]
theorem visR_cov (hl : left ≠ 0) (hc : cov ch = true) : visR F cov most r ch left = .found ch (left - 1) := by simp [visR, visF, hl, hc]
theorem visR_most (hl : left ≠ 0) (hc : cov ch = false) (hm : ch.length = most) : visR F cov most r ch left = .none (left - 1) := by simp [visR, visF, hl, hc, hm]
theorem visR_loop (hl : left ≠ 0) (hc : cov ch = false) (hm : ¬ ch.length = most) : visR F cov most r ch left = loopF F cov most r ch (left - 1) := by simp [visR, visF, hl, hc, hm]
theorem loopF_eq (hi : F.length - (r + 1) = i) (hF : i < F.length) : loopF F cov most (r + 1) ch left = match visR F cov most r (ch ++ [F[i]]) left with
    | .none l => loopF F cov most r ch l
    | .found c l => .found c l
    | .full => .full := by
  rw [loopF, hi, List.getD_eq_getElem?_getD, List.getElem?_eq_getElem hF, Option.getD_some]
  rfl
end
def fewGo (F : List Int) (cov : List Int → Bool) : Nat → Nat → Nat → List Int × Int
  | 0, _, _ => ([], 3)
  | k + 1, m, left => match visR F cov m F.length [] left with
    | .none l => fewGo F cov k (m + 1) l
    | .found c _ => (c, 0)
    | .full => ([], 5)
/-- all of the names are free on some day of a list -/
def covN (ps : List PersonD) (ns : List ByteArray) (ch : List Int) : Bool := ns.all fun nm => ch.any fun d => freeN ps nm d
def few (ps : List PersonD) (ns : List ByteArray) (fr un bud : Int) : List Int × Int := fewGo (allF ps fr un) (covN ps ns) (ns.length + 1) 0 bud.toNat
def fewZ (ps : List PersonD) (ns : List ByteArray) (fr un bud : Int) : List Int := if okP ps ns = true then (if (inB bud 1 20000 && rangeB fr un) = true then (few ps ns fr un bud).1 else []) else []
def fewC (ps : List PersonD) (ns : List ByteArray) (fr un bud : Int) : Int := if okP ps ns = true then (if (inB bud 1 20000 && rangeB fr un) = true then (few ps ns fr un bud).2 else 2) else 1
section
variable {ps : List PersonD} {ns : List ByteArray} {fr un bud : Int}
theorem few_bad (h : okP ps ns = false) : fewZ ps ns fr un bud = [] ∧ fewC ps ns fr un bud = 1 := by simp [fewZ, fewC, h]
theorem few_range (h : okP ps ns = true) (h2 : (inB bud 1 20000 && rangeB fr un) = false) : fewZ ps ns fr un bud = [] ∧ fewC ps ns fr un bud = 2 := by simp [fewZ, fewC, h, h2]
theorem few_ok (h : okP ps ns = true) (h2 : (inB bud 1 20000 && rangeB fr un) = true) : fewZ ps ns fr un bud = (few ps ns fr un bud).1 ∧ fewC ps ns fr un bud = (few ps ns fr un bud).2 := by simp [fewZ, fewC, h, h2]
end
/-- a found list is no longer than the most -/
theorem vis_len {F : List Int} {cov : List Int → Bool} {most : Nat} : ∀ (r : Nat) (ch : List Int) (left : Nat), ch.length ≤ most → (∀ c l, visR F cov most r ch left = .found c l → c.length ≤ most) ∧ (∀ c l, loopF F cov most r ch left = .found c l → (ch.length < most ∨ r = 0) → c.length ≤ most)
  | 0, ch, left, hl => by
    refine ⟨fun c l h => ?_, fun c l h _ => by simp [loopF] at h⟩
    by_cases h0 : left = 0
    · subst h0; rw [visR_full] at h; cases h
    · cases hc : cov ch with
      | true => rw [visR_cov h0 hc] at h; injection h with h1 h2; subst h1; exact hl
      | false =>
        by_cases hm : ch.length = most
        · rw [visR_most h0 hc hm] at h; cases h
        · rw [visR_loop h0 hc hm] at h; simp [loopF] at h
  | r + 1, ch, left, hl => by
    have hloop : ∀ c l left, loopF F cov most (r + 1) ch left = .found c l → ch.length < most → c.length ≤ most := fun c l left h hlt => by
      simp only [loopF] at h
      have ih := vis_len (F := F) (cov := cov) (most := most) r (ch ++ [F.getD (F.length - (r + 1)) 0]) left (by simp; omega)
      simp only [visR] at ih
      split at h
      · rename_i l2 he
        exact (vis_len (F := F) (cov := cov) r ch l2 hl).2 c l h (.inl hlt)
      · rename_i c2 l2 he
        injection h with h1 h2; subst h1
        exact ih.1 _ _ he
      · cases h
    refine ⟨fun c l h => ?_, fun c l h hlt => hloop c l left h (hlt.resolve_right (by omega))⟩
    by_cases h0 : left = 0
    · subst h0; rw [visR_full] at h; cases h
    · cases hc : cov ch with
      | true => rw [visR_cov h0 hc] at h; injection h with h1 h2; subst h1; exact hl
      | false =>
        by_cases hm : ch.length = most
        · rw [visR_most h0 hc hm] at h; cases h
        · rw [visR_loop h0 hc hm] at h; exact hloop c l _ h (by omega)
theorem fewGo_len {F : List Int} {cov : List Int → Bool} : ∀ (k m left : Nat), (fewGo F cov k m left).1.length ≤ m + k
  | 0, m, left => by simp [fewGo]
  | k + 1, m, left => by
    simp only [fewGo]
    split
    · rename_i l h; have := fewGo_len (F := F) (cov := cov) k (m + 1) l; omega
    · rename_i c l h; have := (vis_len F.length [] left (by simp)).1 c l h; simp only; omega
    · simp
theorem fewZ_len (ps : List PersonD) (ns : List ByteArray) (fr un bud : Int) : (fewZ ps ns fr un bud).length ≤ 1048576 := by
  unfold fewZ
  split
  · rename_i h
    split
    · have h2 : ns.length ≤ 12 := need_len (by simp only [okP, Bool.and_eq_true] at h; exact h.2)
      have := fewGo_len (F := allF ps fr un) (cov := covN ps ns) (ns.length + 1) 0 bud.toNat
      simp only [few]; omega
    · simp
  · simp
/-- the mask of those i below n for which f holds -/
def maskN (f : Nat → Bool) : Nat → Nat
  | 0 => 0
  | n + 1 => if f n = true then maskN f n ||| 2 ^ n else maskN f n
theorem maskN_bit (f : Nat → Bool) : ∀ (n i : Nat), (maskN f n).testBit i = (decide (i < n) && f i)
  | 0, i => by simp [maskN]
  | n + 1, i => by
    have ih := maskN_bit f n i
    simp only [maskN]
    by_cases e : i = n
    · subst e
      cases h : f i with
      | true => simp [Nat.testBit_or, Nat.testBit_two_pow_self]
      | false => simp [ih]
    · have h1 : (decide (i < n + 1)) = decide (i < n) := by simp only [decide_eq_decide]; omega
      split
      · rw [Nat.testBit_or, ih, h1, Nat.testBit_two_pow_of_ne (by omega), Bool.or_false]
      · rw [ih, h1]
theorem maskN_lt (f : Nat → Bool) (n : Nat) : maskN f n < 2 ^ n := by
  refine Nat.lt_pow_two_of_testBit _ (fun i hi => ?_)
  rw [maskN_bit, decide_eq_false (by omega), Bool.false_and]
theorem maskN_or (f g : Nat → Bool) (n : Nat) : maskN f n ||| maskN g n = maskN (fun i => f i || g i) n := by
  refine Nat.eq_of_testBit_eq (fun i => ?_)
  rw [Nat.testBit_or, maskN_bit, maskN_bit, maskN_bit, Bool.and_or_distrib_left]
theorem maskN_none (n : Nat) : maskN (fun _ => false) n = 0 := by
  refine Nat.eq_of_testBit_eq (fun i => ?_)
  rw [maskN_bit, Nat.zero_testBit, Bool.and_false]
theorem maskN_all (f : Nat → Bool) (n : Nat) : (maskN f n = 2 ^ n - 1) ↔ ∀ i, i < n → f i = true := by
  constructor
  · intro h i hi
    have h1 := maskN_bit f n i
    rw [h, Nat.testBit_two_pow_sub_one, decide_eq_true hi, Bool.true_and] at h1
    exact h1.symm
  · intro h
    refine Nat.eq_of_testBit_eq (fun i => ?_)
    rw [maskN_bit, Nat.testBit_two_pow_sub_one]
    by_cases hi : i < n
    · rw [h i hi, Bool.and_true]
    · rw [decide_eq_false hi, Bool.false_and]
/-- the names that are free on some day of a list, as a mask -/
def metN (ps : List PersonD) (ns : List ByteArray) (ch : List Int) : Nat := maskN (fun i => ch.any fun d => freeN ps (ns.getD i ⟨#[]⟩) d) ns.length
def dayN (ps : List PersonD) (ns : List ByteArray) (d : Int) : Nat := maskN (fun i => freeN ps (ns.getD i ⟨#[]⟩) d) ns.length
theorem met_nil (ps : List PersonD) (ns : List ByteArray) : metN ps ns [] = 0 := by simp only [metN, List.any_nil]; exact maskN_none _
theorem met_snoc (ps : List PersonD) (ns : List ByteArray) (ch : List Int) (d : Int) : metN ps ns ch ||| dayN ps ns d = metN ps ns (ch ++ [d]) := by
  simp only [metN, dayN, maskN_or, List.any_append, List.any_cons, List.any_nil, Bool.or_false]
theorem met_all (ps : List PersonD) (ns : List ByteArray) (ch : List Int) : (metN ps ns ch = 2 ^ ns.length - 1) ↔ covN ps ns ch = true := by
  rw [metN, maskN_all, covN, List.all_eq_true]
  constructor
  · intro h nm hm
    obtain ⟨i, hi, rfl⟩ := List.getElem_of_mem hm
    have := h i hi
    rw [List.getD_eq_getElem?_getD, List.getElem?_eq_getElem hi, Option.getD_some] at this
    exact this
  · intro h i hi
    rw [List.getD_eq_getElem?_getD, List.getElem?_eq_getElem hi, Option.getD_some]
    exact h _ (List.getElem_mem hi)
theorem met_lt (ps : List PersonD) (ns : List ByteArray) (ch : List Int) (hn : ns.length ≤ 12) : metN ps ns ch < 4096 := by
  have h := maskN_lt (fun i => ch.any fun d => freeN ps (ns.getD i ⟨#[]⟩) d) ns.length
  have := Nat.pow_le_pow_right (show 0 < 2 by omega) hn
  simp only [metN]; omega
theorem day_lt (ps : List PersonD) (ns : List ByteArray) (d : Int) (hn : ns.length ≤ 12) : dayN ps ns d < 4096 := by
  have h := maskN_lt (fun i => freeN ps (ns.getD i ⟨#[]⟩) d) ns.length
  have := Nat.pow_le_pow_right (show 0 < 2 by omega) hn
  simp only [dayN]; omega
end Go.Proofs.Ytfkhhioadklomaa
