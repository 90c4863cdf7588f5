/- Booking seats: what the functions answer belongs together. Plain lists. Conditions: told with each. -/
import Derived.Test.YtfcfgkkkepifhaaGreatDoorBestZ
import Derived.Test.YtfcfgkkkepifhaaGreatDoorBestI
import Derived.Test.YtfcfgkkkepifhaaGreatDoorFirstAll
import Derived.Test.YtfcfgkkkepifhaaGreatDoorCheapest
import Derived.Test.YtfcfgkkkepifhaaGreatDoorBookFns
import Derived.Test.YtfcfgkkkepifhaaGreatDoorSeatScore
namespace Go.Proofs.YtfcfgkkkepifhaaGreatDoor
set_option linter.unusedVariables false
open Go.RowKit Go.Sort

theorem bestL_from (f : Nat → Int) : ∀ (ks : List Nat) (b : Nat), ∃ c, ks.foldl (fun o k => match o with | none => some k | some b => if f b < f k then some k else some b) (some b) = some c ∧ (c = b ∨ c ∈ ks) ∧ f b ≤ f c ∧ ∀ k ∈ ks, f k ≤ f c
  | [], b => ⟨b, rfl, .inl rfl, Int.le_refl _, by simp⟩
  | k :: ks, b => by
    simp only [List.foldl_cons]
    by_cases h : f b < f k
    · rw [if_pos h]
      obtain ⟨c, h1, h2, h3, h4⟩ := bestL_from f ks k
      refine ⟨c, h1, .inr ?_, by omega, fun y hy => ?_⟩
      · rcases h2 with h2 | h2
        · subst h2; exact List.mem_cons_self ..
        · exact List.mem_cons_of_mem _ h2
      · rcases List.mem_cons.1 hy with e | e
        · subst e; exact h3
        · exact h4 y e
    · rw [if_neg h]
      obtain ⟨c, h1, h2, h3, h4⟩ := bestL_from f ks b
      refine ⟨c, h1, ?_, h3, fun y hy => ?_⟩
      · rcases h2 with h2 | h2
        · exact .inl h2
        · exact .inr (List.mem_cons_of_mem _ h2)
      · rcases List.mem_cons.1 hy with e | e
        · subst e; omega
        · exact h4 y e
theorem bestL_max {f : Nat → Int} {k : Nat} {ks : List Nat} : ∃ c, bestL f (k :: ks) = some c ∧ c ∈ k :: ks ∧ f k ≤ f c := by
  obtain ⟨c, h1, h2, h3, _⟩ := bestL_from f ks k
  refine ⟨c, h1, ?_, h3⟩
  rcases h2 with h2 | h2
  · subst h2; exact List.mem_cons_self ..
  · exact List.mem_cons_of_mem _ h2
theorem inc_extZ : ∀ {a b : List Int}, a.Pairwise (· < ·) → b.Pairwise (· < ·) → (∀ x, x ∈ a ↔ x ∈ b) → a = b := fun ha hb h =>
  sorted_eq (lt_le ha) (lt_le hb) (List.perm_iff_count.2 fun x => by
    rw [List.Nodup.count (lt_nodup ha), List.Nodup.count (lt_nodup hb)]
    simp only [h x])
/-- rising numbers below m -/
def BookedTo (F : List Int) (m : Nat) : Prop := F.Pairwise (· < ·) ∧ ∀ x ∈ F, 0 ≤ x ∧ x < (m : Int)
theorem BookedTo.nil (m : Nat) : BookedTo [] m := ⟨List.Pairwise.nil, by simp⟩
theorem BookedTo.skip {F : List Int} {m : Nat} (h : BookedTo F m) : BookedTo F (m + 1) := ⟨h.1, fun x hx => by have := h.2 x hx; omega⟩
theorem BookedTo.push {F : List Int} {m : Nat} (h : BookedTo F m) : BookedTo (F ++ [(m : Int)]) (m + 1) := by
  refine ⟨?_, fun x hx => ?_⟩
  · rw [List.pairwise_append]
    refine ⟨h.1, List.pairwise_singleton _ _, fun a ha b hb => ?_⟩
    simp only [List.mem_singleton] at hb
    subst hb
    exact (h.2 a ha).2
  · rcases List.mem_append.1 hx with h1 | h1
    · have := h.2 x h1; omega
    · simp only [List.mem_singleton] at h1; subst h1; omega
theorem filt_len (p : Int → Bool) : ∀ l : List Int, (l.filter (fun i => !p i)).length + (l.filter p).length = l.length
  | [] => rfl
  | x :: l => by
    have ih := filt_len p l
    cases h : p x <;> simp [h] <;> omega
theorem bk_rises {xs : List RingD} {F : List Int} {m : Nat} (_hv : ringsB xs = true) (hm : sumCount xs = (m : Int)) (hF : BookedTo F m) : risesB F 0 (sumCount xs - 1) = true := pw_rises hF.1 (fun x hx => by have := hF.2 x hx; omega)
theorem bk_len0 {F : List Int} {m : Nat} (hF : BookedTo F m) : (openTo F m).length + F.length = m := by
  have h1 : F = ((List.range m).map (fun (i : Nat) => (i : Int))).filter (fun i => hasB F i) := by
    refine inc_extZ hF.1 ?_ fun x => ?_
    · refine List.Pairwise.filter _ ?_
      rw [List.pairwise_map]
      exact List.pairwise_lt_range.imp (by intro a b h; omega)
    · simp only [List.mem_filter, List.mem_map, List.mem_range, hasB, decide_eq_true_eq]
      constructor
      · intro h; exact ⟨⟨x.toNat, by have := hF.2 x h; omega, by have := hF.2 x h; omega⟩, h⟩
      · rintro ⟨_, h⟩; exact h
  have h2 := filt_len (fun i => hasB F i) ((List.range m).map (fun (i : Nat) => (i : Int)))
  have h3 : ((List.range m).map (fun (i : Nat) => (i : Int))).length = m := by simp
  rw [h3] at h2
  have h4 : F.length = (((List.range m).map (fun (i : Nat) => (i : Int))).filter (fun i => hasB F i)).length := congrArg List.length h1
  unfold openTo
  omega
section
variable {xs : List RingD} {F : List Int} {m : Nat} (hv : ringsB xs = true) (hm : sumCount xs = (m : Int)) (hF : BookedTo F m)
include hv hm hF
theorem bk_ok : bookedB xs F = true := by simp [bookedB, hv, bk_rises hv hm hF]
theorem bk_open : openZ xs F = openTo F m := by simp [openZ, bk_ok hv hm hF, hm]
theorem bk_many {n : Nat} (h1 : 1 ≤ n) (h2 : n ≤ 60) : manyC xs F (n : Int) = 0 := many_ok (bk_ok hv hm hF) (inB_true.2 (by omega))
end
theorem upTo_sum (xs : List RingD) (ps : List Int) : ∀ k, k ≤ ps.length → upTo (incomeStep xs ps) 0 k = sumP (priceOf xs) (ps.take k)
  | 0, _ => by simp [upTo, sumP]
  | k + 1, h => by
    rw [upTo_succ, upTo_sum xs ps k (by omega), sumP_take (by omega)]
    simp only [incomeStep, List.getElem?_eq_getElem (show k < ps.length by omega)]
theorem income_sum {xs : List RingD} {ps : List Int} (h : bookedB xs ps = true) : incomeOf xs ps = sumP (priceOf xs) ps := by
  rw [incomeOf, if_pos h, upTo_sum xs ps _ (Nat.le_refl _), List.take_length]
theorem price_all {xs : List RingD} (hv : ringsB xs = true) (k : Int) : 0 ≤ priceOf xs k ∧ priceOf xs k ≤ 10000 := price_bd (xs := xs) (fun x hx => by have := rings_ok hv x hx; omega) k
theorem pw_strict {zs : List Int} (h : zs.Pairwise (· ≤ ·)) (hn : zs.Nodup) : zs.Pairwise (· < ·) := by
  have := h.and hn
  exact this.imp (fun h => by omega)
/-- what the law says about the cheapest seats -/
theorem cheap_all {xs : List RingD} {F : List Int} {m n : Nat} (hv : ringsB xs = true) (hm : sumCount xs = (m : Int)) (hF : BookedTo F m) (h1 : 1 ≤ n) (h2 : n ≤ 60) (hl : n ≤ (openTo F m).length) :
    (cheapZ xs F (n : Int)).length = n ∧ bookedC xs (cheapZ xs F (n : Int)) = 0 ∧ incomeOf xs (cheapZ xs F (n : Int)) = cheapS xs F (n : Int) ∧ bookC xs F (cheapZ xs F (n : Int)) = 0 ∧ bookedC xs (bookZ xs F (cheapZ xs F (n : Int))) = 0 ∧ incomeOf xs (bookZ xs F (cheapZ xs F (n : Int))) = incomeOf xs F + cheapS xs F (n : Int) ∧ (∀ x ∈ bookZ xs F (cheapZ xs F (n : Int)), intWf x) ∧ (∀ x ∈ cheapZ xs F (n : Int), intWf x) ∧ 0 ≤ cheapS xs F (n : Int) ∧ cheapS xs F (n : Int) ≤ 600000 ∧ cheapC xs F (n : Int) = 0 := by
  have hfl : freeL xs F = openTo F m := by simp [freeL, hm]
  obtain ⟨e1, e2, e3⟩ := cheap_ok (xs := xs) (ps := F) (n := (n : Int)) (bk_many hv hm hF h1 h2) (by rw [hfl]; omega)
  have hm120 : m ≤ 120 := by have := (rings_len hv).2; omega
  have hnd := lt_nodup (open_pw F m)
  have hL : cheapL xs F (n : Int) = (ordB (priceOf xs) (openTo F m)).take n := by simp [cheapL, hfl]
  obtain ⟨T, hT⟩ : ∃ T, T = cheapL xs F (n : Int) := ⟨_, rfl⟩
  have hTn : T.Nodup := by rw [hT, hL]; exact ((ordB_perm _).nodup_iff.2 hnd).sublist (List.take_sublist _ _)
  have hTm : ∀ z ∈ T, (0 ≤ z ∧ z < (m : Int)) ∧ hasB F z = false := fun z hz => by
    rw [hT, hL] at hz
    exact open_mem.1 ((ordB_perm _).mem_iff.1 (List.mem_of_mem_take hz))
  have hTl : T.length = n := by rw [hT, hL, List.length_take, ordB_len]; omega
  rw [← hT] at e1 e2
  have hSn : (sortI T).Pairwise (· < ·) := pw_strict (sortI_le T) ((sortI_perm T).nodup_iff.2 hTn)
  have hSm : ∀ z ∈ sortI T, (0 ≤ z ∧ z < (m : Int)) ∧ hasB F z = false := fun z hz => hTm z ((sortI_perm T).mem_iff.1 hz)
  have hSr : risesB (sortI T) 0 (sumCount xs - 1) = true := pw_rises hSn (fun x hx => by have := (hSm x hx).1; omega)
  have hSb : bookedB xs (sortI T) = true := by simp [bookedB, hv, hSr]
  have hFr := bk_rises hv hm hF
  have hFb := bk_ok hv hm hF
  have hany : (sortI T).any (hasB F) = false := by
    rw [List.any_eq_false]
    intro x hx
    rw [(hSm x hx).2]; simp
  have hok : bookOk xs F (sortI T) = true := by simp [bookOk, hFb, hSr]
  obtain ⟨b1, b2⟩ := book_ok hok hany
  have hfold := book_fold hFr hSr hany
  have hrise : risesB (sortI (F ++ sortI T)) 0 (sumCount xs - 1) = true := by rw [book_rises hFr hSr, hany]; rfl
  have hBb : bookedB xs (sortI (F ++ sortI T)) = true := by simp [bookedB, hv, hrise]
  have hsb := sumP_bd (pr := priceOf xs) (price_all hv) T
  rw [e1, e2, b1, b2, ← hfold]
  refine ⟨by rw [sortI_len]; exact hTl, by simp [bookedC, hSb], ?_, rfl, by simp [bookedC, hBb], ?_, fun x hx => ?_, fun x hx => ?_, hsb.1, by have := hsb.2; omega, e3⟩
  · rw [income_sum hSb, sumP_perm (sortI_perm T)]
  · rw [income_sum hBb, income_sum hFb, sumP_perm (sortI_perm _), sumP_append, sumP_perm (sortI_perm T)]
  · have := rises_mem hrise x hx
    unfold intWf; omega
  · have := (hSm x hx).1
    unfold intWf; omega
theorem cheap_not {xs : List RingD} {F : List Int} {m n : Nat} (hv : ringsB xs = true) (hm : sumCount xs = (m : Int)) (hF : BookedTo F m) (h1 : 1 ≤ n) (h2 : n ≤ 60) (hl : ¬ n ≤ (openTo F m).length) : cheapC xs F (n : Int) = 3 := by
  have hfl : freeL xs F = openTo F m := by simp [freeL, hm]
  exact (cheap_few (xs := xs) (ps := F) (n := (n : Int)) (bk_many hv hm hF h1 h2) (by rw [hfl]; omega)).2.2
theorem bk_income {xs : List RingD} {F : List Int} {m : Nat} (hv : ringsB xs = true) (hm : sumCount xs = (m : Int)) (hF : BookedTo F m) : 0 ≤ incomeOf xs F ∧ incomeOf xs F ≤ 1200000 := by
  have hsb := sumP_bd (pr := priceOf xs) (price_all hv) F
  have hm120 : m ≤ 120 := by have := (rings_len hv).2; omega
  have := bk_len0 hF
  rw [income_sum (bk_ok hv hm hF)]
  have : (F.length : Int) ≤ 120 := by omega
  omega
/-- the first and the best block: none, or both -/
theorem blocks_all {x : DomeD} {xs : List RingD} {F : List Int} {m n : Nat} (hx : x.okB = true) (hv : ringsB xs = true) (hm : sumCount xs = (m : Int)) (hF : BookedTo F m) (h1 : 1 ≤ n) (h2 : n ≤ 60) :
    (firstC xs F (n : Int) = 3 ∧ firstZ xs F (n : Int) = [] ∧ bestC x xs F (n : Int) = 3 ∧ bestZ x xs F (n : Int) = [] ∧ bestM x xs F (n : Int) = 0) ∨
    (∃ k b : Nat, firstC xs F (n : Int) = 0 ∧ firstZ xs F (n : Int) = blockL (k : Int) n ∧ bestC x xs F (n : Int) = 0 ∧ bestZ x xs F (n : Int) = blockL (b : Int) n ∧ bestM x xs F (n : Int) = fS x.Radius xs n b ∧ fS x.Radius xs n k ≤ fS x.Radius xs n b ∧ k + n ≤ m ∧ b + n ≤ m ∧ (∀ j : Nat, j < n → hasB (openTo F m) ((k : Int) + (j : Int)) = true ∧ hasB (openTo F m) ((b : Int) + (j : Int)) = true)) := by
  have hz := bk_many hv hm hF h1 h2
  have hK : bestK x xs F (n : Int) = 0 := by rw [bestK_ok hx, hz]
  have hhd := firstB_head (blockB xs F n) m
  cases hks : startsB (blockB xs F n) m with
  | nil =>
    rw [hks] at hhd
    have e1 := first_nil hz hm hhd
    have e2 := best_none (x := x) (N := n) hK hm rfl (by rw [hks]; rfl)
    exact .inl ⟨e1.2, e1.1, e2.2.2, e2.1, e2.2.1⟩
  | cons k ks =>
    rw [hks] at hhd
    have e1 := first_some hz hm hhd
    obtain ⟨b, hb, hbm, hle⟩ := bestL_max (f := fS x.Radius xs n) (k := k) (ks := ks)
    have e2 := best_some (x := x) (N := n) hK hm rfl (by rw [hks]; exact hb)
    have hk := startsB_mem.1 (show k ∈ startsB (blockB xs F n) m by rw [hks]; exact List.mem_cons_self ..)
    have hb' := startsB_mem.1 (show b ∈ startsB (blockB xs F n) m by rw [hks]; exact hbm)
    have ke := block_end hv hm h1 hk.1 hk.2
    have be := block_end hv hm h1 hb'.1 hb'.2
    refine .inr ⟨k, b, e1.2, e1.1, e2.2.2, e2.1, e2.2.1, hle, ke, be, fun j hj => ⟨?_, ?_⟩⟩
    · simp only [hasB, decide_eq_true_eq]
      exact open_mem.2 ⟨by omega, block_free hk.2 hj⟩
    · simp only [hasB, decide_eq_true_eq]
      exact open_mem.2 ⟨by omega, block_free hb'.2 hj⟩
def mainDome : DomeD := ⟨⟨#[109, 97, 105, 110]⟩, 9000, 0⟩
theorem main_ok : mainDome.okB = true := by decide +kernel
theorem main_score {xs : List RingD} {m k : Nat} (hv : ringsB xs = true) (hm : sumCount xs = (m : Int)) (hk : k < m) : scoreW mainDome xs (k : Int) = scoreOf 9000 xs (k : Int) ∧ scoreK mainDome xs (k : Int) = 0 :=
  scoreW_ok main_ok (askR_ok hv (inB_true.2 (by omega)))

end Go.Proofs.YtfcfgkkkepifhaaGreatDoor
