/- Free times and shows do not overlap and fill the day together. Plain lists. Conditions: told with each. -/
import Derived.Test.YtmipphgekcdaoaaGreatDoorFreeFns
namespace Go.Proofs.YtmipphgekcdaoaaGreatDoor
set_option linter.unusedVariables false
open Go.RowKit

theorem posR_spec {α : Type} (g : α → Bool) (l : List α) : ∀ a, a ≤ l.length → (∀ i (h : i < l.length), posR g l a ≤ i → i < a → g l[i] = true) ∧ (∀ i (h : i < l.length), posR g l a = i + 1 → g l[i] = false)
  | 0, _ => ⟨fun i h _ h2 => absurd h2 (by omega), fun i h h2 => by simp [posR] at h2⟩
  | a + 1, ha => by
    have ih := posR_spec g l a (by omega)
    have hl : a < l.length := by omega
    cases hg : g l[a]
    · rw [posR_stop hl hg]
      refine ⟨fun i h h1 h2 => by omega, fun i h h2 => ?_⟩
      obtain rfl : i = a := by omega
      exact hg
    · rw [posR_go hl hg]
      refine ⟨fun i h h1 h2 => ?_, ih.2⟩
      rcases Nat.lt_or_ge i a with h3 | h3
      · exact ih.1 i h h1 h3
      · obtain rfl : i = a := by omega
        exact hg
theorem insR_sorted {α : Type} {key : α → Int} {l : List α} {x : α} (h : l.Pairwise fun p q => key p ≤ key q) : (insR (fun a b => decide (key a < key b)) l x).Pairwise fun p q => key p ≤ key q := by
  obtain ⟨s1, s2⟩ := posR_spec (fun b => decide (key x < key b)) l l.length (Nat.le_refl _)
  have hk := posR_le (fun b => decide (key x < key b)) l l.length
  unfold insR
  generalize posR (fun b => decide (key x < key b)) l l.length = k at *
  have hL : (l.take k ++ l.drop k).Pairwise fun p q => key p ≤ key q := by rw [List.take_append_drop]; exact h
  obtain ⟨p1, p2, p3⟩ := List.pairwise_append.1 hL
  have hx : ∀ p ∈ l.take k, key p ≤ key x := fun p hp => by
    obtain ⟨i, hi, rfl⟩ := List.getElem_of_mem hp
    rw [List.length_take] at hi
    rw [List.getElem_take]
    obtain ⟨j, rfl⟩ : ∃ j, k = j + 1 := ⟨k - 1, by omega⟩
    have h2 := s2 j (by omega) rfl
    rw [decide_eq_false_iff_not] at h2
    rcases Nat.lt_or_ge i j with h3 | h3
    · have := List.pairwise_iff_getElem.1 h i j (by omega) (by omega) h3
      omega
    · obtain rfl : i = j := by omega
      omega
  have hy : ∀ q ∈ l.drop k, key x ≤ key q := fun q hq => by
    obtain ⟨i, hi, rfl⟩ := List.getElem_of_mem hq
    rw [List.length_drop] at hi
    rw [List.getElem_drop]
    have := s1 (k + i) (by omega) (by omega) (by omega)
    rw [decide_eq_true_eq] at this
    omega
  rw [List.pairwise_append]
  refine ⟨p1, List.pairwise_cons.2 ⟨hy, p2⟩, fun p hp q hq => ?_⟩
  rcases List.mem_cons.1 hq with rfl | hq
  · exact hx p hp
  · exact p3 p hp q hq
theorem fold_sorted {α : Type} {key : α → Int} : ∀ (xs l : List α), l.Pairwise (fun p q => key p ≤ key q) → (xs.foldl (insR (fun a b => decide (key a < key b))) l).Pairwise fun p q => key p ≤ key q
  | [], l, h => h
  | x :: xs, l, h => by rw [List.foldl_cons]; exact fold_sorted xs _ (insR_sorted h)
theorem startZ_sorted (xs : List OfferD) (ps : List Int) : (startZ xs ps).Pairwise fun p q => startAt xs p ≤ startAt xs q := fold_sorted (key := startAt xs) ps [] List.Pairwise.nil
def Busy (xs : List OfferD) (ps : List Int) (m : Int) : Prop := ∃ o ∈ ps, startAt xs o ≤ m ∧ m < startAt xs o + lenAt xs o
def InL (L : List (Int × Int)) (m : Int) : Prop := ∃ p ∈ L, p.1 ≤ m ∧ m < p.2
theorem Busy_snoc {xs : List OfferD} {ps : List Int} {o m : Int} : Busy xs (ps ++ [o]) m ↔ Busy xs ps m ∨ (startAt xs o ≤ m ∧ m < startAt xs o + lenAt xs o) := by
  unfold Busy
  constructor
  · rintro ⟨q, hq, h⟩
    rcases List.mem_append.1 hq with hq | hq
    · exact .inl ⟨q, hq, h⟩
    · rw [List.mem_singleton] at hq; subst hq; exact .inr h
  · rintro (⟨q, hq, h⟩ | h)
    · exact ⟨q, List.mem_append_left _ hq, h⟩
    · exact ⟨o, by simp, h⟩
theorem InL_snoc {L : List (Int × Int)} {p : Int × Int} {m : Int} : InL (L ++ [p]) m ↔ InL L m ∨ (p.1 ≤ m ∧ m < p.2) := by
  unfold InL
  constructor
  · rintro ⟨q, hq, h⟩
    rcases List.mem_append.1 hq with hq | hq
    · exact .inl ⟨q, hq, h⟩
    · rw [List.mem_singleton] at hq; subst hq; exact .inr h
  · rintro (⟨q, hq, h⟩ | h)
    · exact ⟨q, List.mem_append_left _ hq, h⟩
    · exact ⟨p, by simp, h⟩
/-- the day up to a: free pieces L, shows done; the others begin later -/
structure FtInv (xs : List OfferD) (done rest : List Int) (op en a : Int) (L : List (Int × Int)) : Prop where
  opa : op ≤ a
  pw : L.Pairwise fun p q => p.2 < q.1
  each : ∀ p ∈ L, op ≤ p.1 ∧ p.1 < p.2 ∧ p.2 ≤ en ∧ p.2 < a
  lat : ∀ p ∈ L, ∀ o ∈ rest, p.2 ≤ startAt xs o
  lo : ∀ m, op ≤ m → m < en → m < a → (InL L m ↔ ¬ Busy xs done m)
  hi : ∀ m, a ≤ m → ¬ Busy xs done m
theorem FtInv.off {xs : List OfferD} {done rest : List Int} {op en a m : Int} {L : List (Int × Int)} (h : FtInv xs done rest op en a L) (hm : a ≤ m) : ¬ InL L m := fun ⟨p, hp, h1, h2⟩ => by
  have := (h.each p hp).2.2.2
  omega
theorem FtInv.start (xs : List OfferD) (rest : List Int) (op en : Int) : FtInv xs [] rest op en op [] :=
  ⟨Int.le_refl _, List.Pairwise.nil, fun p hp => by simp at hp, fun p hp => by simp at hp, fun m h1 _ h2 => by omega, fun m _ ⟨o, ho, _⟩ => by simp at ho⟩
theorem FtInv.step {xs : List OfferD} {done rest : List Int} {op en a o : Int} {L : List (Int × Int)} (h : FtInv xs done (o :: rest) op en a L) (h1 : 1 ≤ lenAt xs o) (hs : ∀ q ∈ rest, startAt xs o ≤ startAt xs q) :
    FtInv xs (done ++ [o]) rest op en (ftStep xs en (a, L) o).1 (ftStep xs en (a, L) o).2 := by
  have hopa := h.opa
  have hlt : ∀ m, InL L m → m < startAt xs o := fun m ⟨p, hp, g1, g2⟩ => by
    have := h.lat p hp o (by simp)
    omega
  by_cases c : a < startAt xs o ∧ a < en
  · obtain ⟨e, he⟩ : ∃ e, e = if en < startAt xs o then en else startAt xs o := ⟨_, rfl⟩
    have e1 : e ≤ en := by rw [he]; split <;> omega
    have e2 : e ≤ startAt xs o := by rw [he]; split <;> omega
    have e3 : a < e := by rw [he]; split <;> omega
    have e4 : ∀ m, m < en → (m < e ↔ m < startAt xs o) := fun m hm => by rw [he]; split <;> omega
    have ea : ftStep xs en (a, L) o = (startAt xs o + lenAt xs o, L ++ [(a, e)]) := by
      simp only [ftStep]
      rw [if_pos c, if_pos (show a < startAt xs o + lenAt xs o by omega), ← he]
    rw [ea]
    refine ⟨by show op ≤ _ + _; omega, ?_, fun p hp => ?_, fun p hp q hq => ?_, fun m g1 g2 g3 => ?_, fun m g => ?_⟩
    · rw [List.pairwise_append]
      refine ⟨h.pw, List.pairwise_singleton _ _, fun p hp q hq => ?_⟩
      rw [List.mem_singleton] at hq
      subst hq
      exact (h.each p hp).2.2.2
    · rcases List.mem_append.1 hp with hp | hp
      · have := h.each p hp
        show _ ∧ _ ∧ _ ∧ _ < _ + _
        omega
      · rw [List.mem_singleton] at hp
        subst hp
        show op ≤ a ∧ a < e ∧ e ≤ en ∧ e < _ + _
        omega
    · have hq2 := hs q hq
      rcases List.mem_append.1 hp with hp | hp
      · exact h.lat p hp q (List.mem_cons_of_mem _ hq)
      · rw [List.mem_singleton] at hp
        subst hp
        show e ≤ _
        omega
    · show InL (L ++ [(a, e)]) m ↔ _
      rw [InL_snoc, Busy_snoc]
      have g3' : m < startAt xs o + lenAt xs o := g3
      have h4 := e4 m g2
      rcases Int.lt_or_le m a with g4 | g4
      · have hlo := h.lo m g1 g2 g4
        constructor
        · rintro (g | ⟨g, _⟩)
          · rintro (b | ⟨b, _⟩)
            · exact hlo.1 g b
            · have := hlt m g; omega
          · have : a ≤ m := g
            omega
        · intro g
          exact .inl (hlo.2 (fun b => g (.inl b)))
      · have hno := h.off g4
        have hnb := h.hi m g4
        constructor
        · rintro (g | ⟨_, g⟩)
          · exact absurd g hno
          · rintro (b | ⟨b, _⟩)
            · exact hnb b
            · have g' : m < e := g
              omega
        · intro g
          refine .inr ⟨g4, ?_⟩
          show m < e
          rw [h4]
          rcases Int.lt_or_le m (startAt xs o) with g5 | g5
          · exact g5
          · exact absurd (.inr ⟨g5, g3'⟩) g
    · have g' : startAt xs o + lenAt xs o ≤ m := g
      rw [Busy_snoc]
      rintro (b | b)
      · exact h.hi m (by omega) b
      · omega
  · have ea : ftStep xs en (a, L) o = (if a < startAt xs o + lenAt xs o then startAt xs o + lenAt xs o else a, L) := by
      simp only [ftStep]
      rw [if_neg c]
    rw [ea]
    obtain ⟨a', ha'⟩ : ∃ a', a' = if a < startAt xs o + lenAt xs o then startAt xs o + lenAt xs o else a := ⟨_, rfl⟩
    rw [← ha']
    have f1 : a ≤ a' := by rw [ha']; split <;> omega
    have f2 : startAt xs o + lenAt xs o ≤ a' := by rw [ha']; split <;> omega
    have f3 : ∀ m, a ≤ m → m < a' → m < startAt xs o + lenAt xs o := fun m g1 g2 => by rw [ha'] at g2; split at g2 <;> omega
    refine ⟨by show op ≤ a'; omega, h.pw, fun p hp => ?_, fun p hp q hq => h.lat p hp q (List.mem_cons_of_mem _ hq), fun m g1 g2 g3 => ?_, fun m g => ?_⟩
    · have := h.each p hp
      show _ ∧ _ ∧ _ ∧ _ < a'
      omega
    · have g3' : m < a' := g3
      rw [Busy_snoc]
      rcases Int.lt_or_le m a with g4 | g4
      · have hlo := h.lo m g1 g2 g4
        constructor
        · rintro g (b | ⟨b, _⟩)
          · exact hlo.1 g b
          · have := hlt m g; omega
        · intro g
          exact hlo.2 (fun b => g (.inl b))
      · have hno := h.off g4
        constructor
        · intro g; exact absurd g hno
        · intro g
          exfalso
          have := f3 m g4 g3'
          exact g (.inr ⟨by omega, this⟩)
    · have g' : a' ≤ m := g
      rw [Busy_snoc]
      rintro (b | b)
      · exact h.hi m (by omega) b
      · omega
theorem FtInv.all {xs : List OfferD} {op en : Int} : ∀ (rest done : List Int) (a : Int) (L : List (Int × Int)), FtInv xs done rest op en a L → (∀ o ∈ rest, 1 ≤ lenAt xs o) → rest.Pairwise (fun p q => startAt xs p ≤ startAt xs q) →
    FtInv xs (done ++ rest) [] op en (rest.foldl (ftStep xs en) (a, L)).1 (rest.foldl (ftStep xs en) (a, L)).2
  | [], done, a, L, h, _, _ => by rw [List.append_nil]; exact h
  | o :: rest, done, a, L, h, hl, hp => by
    rw [List.pairwise_cons] at hp
    have hst := h.step (hl o (by simp)) hp.1
    rw [List.foldl_cons, show done ++ o :: rest = (done ++ [o]) ++ rest by simp]
    cases hq : ftStep xs en (a, L) o with
    | mk a' L' =>
      rw [hq] at hst
      exact FtInv.all rest (done ++ [o]) a' L' hst (fun q hq => hl q (List.mem_cons_of_mem _ hq)) hp.2
/-- free times: apart from one another, within the day, and just where no show is -/
theorem free_ok {xs : List OfferD} {ps : List Int} {op en : Int} (h : askB xs ps = 0) (ht : timeB op en = true) :
    (timesZ xs ps op en).Pairwise (fun p q => p.2 < q.1) ∧ (∀ p ∈ timesZ xs ps op en, op ≤ p.1 ∧ p.1 < p.2 ∧ p.2 ≤ en) ∧ ∀ m, op ≤ m → m < en → (InL (timesZ xs ps op en) m ↔ ¬ Busy xs ps m) := by
  obtain ⟨hv, hr⟩ := ask_zero' h
  have hin := (ask_few h).2.2
  have hl : ∀ o ∈ startZ xs ps, 1 ≤ lenAt xs o := fun o ho => by
    obtain ⟨o0, o1⟩ := hin o (startZ_mem.1 ho)
    obtain ⟨j, rfl⟩ := Int.eq_ofNat_of_zero_le o0
    have hj : j < xs.length := by omega
    rw [lenAt_at rfl hj]
    exact (offers_ok hv _ (List.getElem_mem hj)).2.2.2.2.1
  have hI := FtInv.all (startZ xs ps) [] op [] (FtInv.start xs _ op en) hl (startZ_sorted xs ps)
  rw [List.nil_append] at hI
  have hB : ∀ m, Busy xs (startZ xs ps) m ↔ Busy xs ps m := fun m => by
    unfold Busy
    constructor
    · rintro ⟨o, ho, g⟩; exact ⟨o, startZ_mem.1 ho, g⟩
    · rintro ⟨o, ho, g⟩; exact ⟨o, startZ_mem.2 ho, g⟩
  rw [(times_ok h ht).1]
  unfold freeL ftTo
  rw [List.take_length]
  cases hf : (startZ xs ps).foldl (ftStep xs en) (op, []) with
  | mk a L =>
    rw [hf] at hI
    have hI : FtInv xs (startZ xs ps) [] op en a L := hI
    simp only
    by_cases c : a < en
    · rw [if_pos c]
      refine ⟨?_, fun p hp => ?_, fun m g1 g2 => ?_⟩
      · rw [List.pairwise_append]
        refine ⟨hI.pw, List.pairwise_singleton _ _, fun p hp q hq => ?_⟩
        rw [List.mem_singleton] at hq
        subst hq
        exact (hI.each p hp).2.2.2
      · rcases List.mem_append.1 hp with hp | hp
        · have := hI.each p hp; omega
        · rw [List.mem_singleton] at hp
          subst hp
          have := hI.opa
          exact ⟨this, c, Int.le_refl _⟩
      · rw [InL_snoc, ← hB]
        rcases Int.lt_or_le m a with g3 | g3
        · rw [← hI.lo m g1 g2 g3]
          constructor
          · rintro (g | ⟨g, _⟩)
            · exact g
            · have : a ≤ m := g
              omega
          · exact .inl
        · exact ⟨fun _ => hI.hi m g3, fun _ => .inr ⟨g3, g2⟩⟩
    · rw [if_neg c]
      refine ⟨hI.pw, fun p hp => ?_, fun m g1 g2 => ?_⟩
      · have := hI.each p hp; omega
      · rw [← hB]; exact hI.lo m g1 g2 (by omega)
end Go.Proofs.YtmipphgekcdaoaaGreatDoor
