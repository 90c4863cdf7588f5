/- Days: what the greedy choice, the conflicts and the search answer, in plain Lean. Conditions: none. -/
import Derived.Test.YtdedaoafihomoaaRichLaw
import Derived.Test.YtdedaoafihomoaaGreedyLaw
import Derived.Test.YtdedaoafihomoaaConflictFns
import Derived.Test.YtdedaoafihomoaaDays
import Derived.Test.YtdedaoafihomoaaHuntMore
namespace Go.Proofs.Ytdedaoafihomoaa
set_option linter.unusedVariables false

def worF (xs : List OfferD) (p : Int) : Int := (offerAt xs p.toNat).Worth
theorem worF_at {xs : List OfferD} {j : Nat} (h : j < xs.length) : worF xs (j : Int) = xs[j].Worth := by simp only [worF, Int.toNat_natCast]; rw [offerAt_eq h]
theorem worth_sum {xs : List OfferD} {ps : List Int} (hr : ∀ t ∈ ps, 0 ≤ t ∧ t < (xs.length : Int)) : ∀ k, k ≤ ps.length → upTo (worthStep xs ps) 0 k = sumF (worF xs) (ps.take k)
  | 0, _ => by simp [upTo, sumF]
  | k + 1, h => by
    have h1 := hr _ (List.getElem_mem (show k < ps.length by omega))
    obtain ⟨j, hj⟩ := Int.eq_ofNat_of_zero_le h1.1
    have hjx : j < xs.length := by omega
    rw [worth_next (by omega) hjx hj, worth_sum hr k (by omega), sumF_take (by omega), hj, worF_at hjx]
/-- no two of a list clash -/
def NoClash (xs : List OfferD) (ch : Int) (S : List Int) : Prop := ∀ a ∈ S, ∀ b ∈ S, a ≠ b → clashAt xs ch b.toNat a = false
theorem clashAt_sym {xs : List OfferD} {ch : Int} (hv : offersB xs = true) (hc : 0 ≤ ch) {a b : Int} (ha : 0 ≤ a ∧ a < (xs.length : Int)) (hb : 0 ≤ b ∧ b < (xs.length : Int)) : clashAt xs ch b.toNat a = clashAt xs ch a.toNat b := by
  obtain ⟨i, rfl⟩ := Int.eq_ofNat_of_zero_le ha.1
  obtain ⟨j, rfl⟩ := Int.eq_ofNat_of_zero_le hb.1
  have hi : i < xs.length := by omega
  have hj : j < xs.length := by omega
  rw [Int.toNat_natCast, Int.toNat_natCast, clash_at hi hj rfl, clash_at hj hi rfl]
  have h1 := offers_ok hv _ (List.getElem_mem hi)
  have h2 := offers_ok hv _ (List.getElem_mem hj)
  exact clash_sym (by omega) (by omega) hc
theorem NoClash.snoc {xs : List OfferD} {ch : Int} {S : List Int} {o : Int} (hv : offersB xs = true) (hc : 0 ≤ ch) (h : NoClash xs ch S) (hS : ∀ t ∈ S, 0 ≤ t ∧ t < (xs.length : Int)) (ho : 0 ≤ o ∧ o < (xs.length : Int)) (hn : S.any (clashAt xs ch o.toNat) = false) : NoClash xs ch (S ++ [o]) := by
  rw [List.any_eq_false] at hn
  intro a ha b hb hab
  rcases List.mem_append.1 ha with h1 | h1
  · rcases List.mem_append.1 hb with h2 | h2
    · exact h a h1 b h2 hab
    · simp at h2; subst h2
      simpa using hn a h1
  · simp at h1; subst h1
    rcases List.mem_append.1 hb with h2 | h2
    · rw [clashAt_sym hv hc ho (hS b h2)]
      simpa using hn b h2
    · simp at h2; exact absurd h2.symm hab
theorem NoClash.perm {xs : List OfferD} {ch : Int} {S T : List Int} (h : NoClash xs ch S) (hp : T.Perm S) : NoClash xs ch T := fun a ha b hb => h a (hp.mem_iff.1 ha) b (hp.mem_iff.1 hb)
theorem gI_free {xs : List OfferD} {ch : Int} (hv : offersB xs = true) (hc : 0 ≤ ch) : ∀ k, k ≤ (orderE xs).length → NoClash xs ch (gI xs ch k) ∧ (gI xs ch k).Nodup
  | 0, _ => by simp [gI, NoClash]
  | k + 1, h => by
    have ih := gI_free hv hc k (by omega)
    have hk : k < (orderE xs).length := by omega
    rw [gI_succ hk]
    have ho : 0 ≤ (orderE xs)[k] ∧ (orderE xs)[k] < (xs.length : Int) := by
      obtain ⟨j, hj, e⟩ := orderE_mem (List.getElem_mem hk)
      omega
    unfold stepI
    split
    · exact ih
    · rename_i hf
      refine ⟨ih.1.snoc hv hc (gI_in (by omega)) ho (by simpa using hf), ?_⟩
      rw [List.nodup_append]
      exact ⟨ih.2, by simp, fun a ha b hb e => by simp at hb; subst hb; subst e; exact gI_new hk ha⟩
theorem day_of {xs : List OfferD} {ch : Int} {ps : List Int} (hv : offersB xs = true) (hc : inB ch 0 240 = true) (hr : RiseTo xs.length ps) (hf : NoClash xs ch ps) : dayB xs ch ps = true := by
  have hall : dayAll xs ch ps = true := day_all (fun i hi => by
    rw [List.any_eq_false]
    intro t ht
    rw [List.getD_eq_getElem?_getD, List.getElem?_eq_getElem hi, Option.getD_some]
    obtain ⟨m, hm, e⟩ := List.getElem_of_mem ht
    rw [List.getElem_take] at e
    have hmi : m < i := by simp at hm; omega
    have hlt := List.pairwise_iff_getElem.1 hr.1 m i (by omega) hi hmi
    have := hf t (List.mem_of_mem_take ht) ps[i] (List.getElem_mem hi) (by omega)
    simpa using this)
  have hrise : risesB ps 0 ((xs.length : Nat) - 1 : Int) = true := hr.rises
  simp only [dayB, hv, hc, hrise, hall, Bool.and_self]
/-- the greedy day -/
theorem greedy_says {xs : List OfferD} {ch : Int} : (greedyC xs ch ≠ 0 ∧ greedyZ xs ch = [] ∧ (offersB xs = false ∨ inB ch 0 240 = false)) ∨ (greedyC xs ch = 0 ∧ offersB xs = true ∧ inB ch 0 240 = true ∧ RiseTo xs.length (greedyZ xs ch) ∧ NoClash xs ch (greedyZ xs ch)) := by
  cases hv : offersB xs with
  | false => exact .inl ⟨by rw [(greedy_bad hv).2]; omega, (greedy_bad hv).1, .inl rfl⟩
  | true =>
    cases hc : inB ch 0 240 with
    | false => exact .inl ⟨by rw [(greedy_range hv hc).2]; omega, (greedy_range hv hc).1, .inr rfl⟩
    | true =>
      obtain ⟨hz, hcode⟩ := greedy_ok hv hc
      have hlen : xs.length ≤ (orderE xs).length := by rw [orderE_len]; exact Nat.le_refl _
      have hfree := gI_free hv (inB_true.1 hc).1 xs.length hlen
      have hsame := g_same xs ch xs.length hlen
      refine .inr ⟨hcode, rfl, rfl, ?_, ?_⟩
      · rw [hz]
        refine ⟨?_, gS_in hlen⟩
        have hnd : (gS xs ch xs.length).Nodup := hsame.1.nodup_iff.2 hfree.2
        exact (List.Pairwise.and hsame.2 hnd).imp (fun h => by omega)
      · rw [hz]; exact hfree.1.perm hsame.1
/-- pairs that conflict -/
theorem confRow_mem {xs : List OfferD} {ch : Int} {i : Nat} : ∀ (k : Nat) (p : Int × Int), p ∈ confRow xs ch i k → ∃ j : Nat, p = ((i : Int), (j : Int)) ∧ i < j ∧ j < k ∧ clashN xs ch i j = true
  | 0, p, h => by simp [confRow] at h
  | k + 1, p, h => by
    by_cases hik : i < k
    · cases hc : clashN xs ch i k with
      | true =>
        rw [confRow_yes hik hc] at h
        rcases List.mem_append.1 h with h1 | h1
        · obtain ⟨j, e, h2, h3, h4⟩ := confRow_mem k p h1
          exact ⟨j, e, h2, by omega, h4⟩
        · simp at h1; exact ⟨k, h1, hik, by omega, hc⟩
      | false =>
        rw [confRow_no hc] at h
        obtain ⟨j, e, h2, h3, h4⟩ := confRow_mem k p h
        exact ⟨j, e, h2, by omega, h4⟩
    · rw [confRow_nil xs ch i (k + 1) (by omega)] at h
      simp at h
theorem confTo_mem {xs : List OfferD} {ch : Int} : ∀ (i : Nat) (p : Int × Int), p ∈ confTo xs ch i → ∃ a b : Nat, p = ((a : Int), (b : Int)) ∧ a < b ∧ b < xs.length ∧ clashN xs ch a b = true
  | 0, p, h => by simp [confTo] at h
  | i + 1, p, h => by
    simp only [confTo, List.mem_append] at h
    rcases h with h | h
    · exact confTo_mem i p h
    · obtain ⟨j, e, h2, h3, h4⟩ := confRow_mem _ p h
      exact ⟨i, j, e, h2, h3, h4⟩
theorem confZ_mem {xs : List OfferD} {ch : Int} {p : Int × Int} (h : p ∈ confZ xs ch) : ∃ a b : Nat, p = ((a : Int), (b : Int)) ∧ a < b ∧ b < xs.length ∧ clashN xs ch a b = true := by
  unfold confZ at h
  split at h
  · exact confTo_mem _ p h
  · simp at h
theorem pair_none {xs : List OfferD} {ch : Int} {a b : Nat} (hab : a < b) (hb : b < xs.length) (hc : clashN xs ch a b = true) : dayB xs ch [(a : Int), (b : Int)] = false := by
  have ha : a < xs.length := by omega
  have h : dayAll xs ch [(a : Int), (b : Int)] = false := day_bad (i := 1) (j := b) (by simp) rfl (by
    rw [clashN_at ha hb] at hc
    simp only [List.take_succ_cons, List.take_zero, List.any_cons, List.any_nil, Bool.or_false]
    rw [clash_at ha hb rfl]; exact hc)
  simp [dayB, h]
theorem pair_both {xs : List OfferD} {ch : Int} {a b : Nat} (hab : a < b) (hb : b < xs.length) (hc : clashN xs ch a b = true) {G : List Int} (hG : NoClash xs ch G) : ¬ ((a : Int) ∈ G ∧ (b : Int) ∈ G) := fun h => by
  have ha : a < xs.length := by omega
  have h1 := hG _ h.1 _ h.2 (by omega)
  rw [Int.toNat_natCast, clash_at ha hb rfl, ← clashN_at ha hb, hc] at h1
  cases h1
/-- the richest day -/
def RichP (xs : List OfferD) (ch : Int) (l : List Int) (m : Int) : Prop := m < 0 ∨ (RiseTo xs.length l ∧ m = sumF (worF xs) l ∧ NoClash xs ch l)
theorem richGot_keeps (xs : List OfferD) (ch bud : Int) (hv : offersB xs = true) (hc : 0 ≤ ch) : RichP xs ch (richGot xs ch bud).best (richGot xs ch bud).most := by
  have h := hunt_keeps (richHunt xs ch) (RichP xs ch) (fun i l a b => RiseTo i l ∧ a = sumF (worF xs) l ∧ NoClash xs ch l) (fun l a b h => .inr h)
    (fun i l a b m hi h ht => ?_) (fun i l a b hi h => ⟨h.1.more, h.2⟩) xs.length [] 0 0 ⟨[], -1, bud.toNat, false⟩ (Nat.le_refl _) ?_ (.inl (by simp))
  · exact h.1
  · simp only [richHunt, Bool.and_eq_true, Bool.not_eq_true'] at ht hi
    refine ⟨h.1.snoc, ?_, h.2.2.snoc hv hc (fun t ht => by have := h.1.2 t ht; omega) (by omega) (by rw [Int.toNat_natCast]; exact ht.1)⟩
    rw [sumF_snoc, h.2.1]; simp [richHunt, worF]
  · simp only [richHunt, Nat.sub_self]
    exact ⟨⟨List.Pairwise.nil, fun t ht => by simp at ht⟩, rfl, fun a ha => by simp at ha⟩
theorem worFrom_le {xs : List OfferD} (hv : ∀ x ∈ xs, 0 ≤ x.Worth) {os : List Int} (hnd : os.Nodup) (hos : ∀ t ∈ os, 0 ≤ t ∧ t < (xs.length : Int)) : ∀ (r i : Nat), i + r = xs.length → sumFrom (worF xs) os i ≤ sumWor (xs.drop i)
  | 0, i, hi => by
    obtain rfl : i = xs.length := by omega
    rw [sumFrom_end _ _ _ (fun t ht => (hos t ht).2), List.drop_length]; simp [sumWor]
  | r + 1, i, hi => by
    have hlt : i < xs.length := by omega
    have ih := worFrom_le hv hnd hos r (i + 1) (by omega)
    have h0 := hv _ (List.getElem_mem hlt)
    rw [sumFrom_step _ _ _ hnd, sumWor_drop xs i hlt, worF_at hlt]
    split <;> omega
theorem rich_best_go (xs : List OfferD) (ch : Int) (hv : ∀ x ∈ xs, 0 ≤ x.Worth) {os : List Int} (hnd : os.Nodup) (hos : ∀ t ∈ os, 0 ≤ t ∧ t < (xs.length : Int)) (hf0 : NoClash xs ch os) :
    ∀ (r i : Nat) (l : List Int) (a : Int) (g : Got), i + r = xs.length → (∀ t ∈ l, t ∈ os ∧ t < (i : Int)) → (hunt (richHunt xs ch) r l a 0 g).full = false → a + sumFrom (worF xs) os i ≤ (hunt (richHunt xs ch) r l a 0 g).most
  | 0, i, l, a, g, hi, hl, hf => by
    obtain rfl : i = xs.length := by omega
    rw [sumFrom_end _ _ _ (fun t ht => (hos t ht).2)]
    simp only [hunt, richHunt]
    by_cases h : g.most < a
    · simp [h]
    · simp [h]; omega
  | r + 1, i, l, a, g, hi, hl, hf => by
    have hlt : i < xs.length := by omega
    have hI : (richHunt xs ch).n - (r + 1) = i := by simp only [richHunt]; omega
    have hml : ∀ a b m, (richHunt xs ch).leaf a b m = true → m ≤ a := fun a b m h => by simp only [richHunt, decide_eq_true_eq] at h; omega
    rw [hunt_eq hI] at hf ⊢
    have hfl := worFrom_le hv hnd hos (r + 1) i hi
    have hf1 : (hunt1 (richHunt xs ch) r i l a 0 g).full = false := by
      cases h : (hunt1 (richHunt xs ch) r i l a 0 g).full with
      | false => rfl
      | true => rw [hunt2_full h] at hf; cases hf
    rw [sumFrom_step _ _ _ hnd] at hfl ⊢
    rw [worF_at hlt] at hfl ⊢
    by_cases hm : (i : Int) ∈ os
    · rw [if_pos hm] at hfl ⊢
      refine Int.le_trans ?_ (hunt2_mono _ hml r i l a 0 _)
      have hfree : l.any (clashAt xs ch i) = false := by
        rw [List.any_eq_false]
        intro t ht
        obtain ⟨h1, h2⟩ := hl t ht
        have := hf0 t h1 _ hm (by omega)
        rw [Int.toNat_natCast] at this
        simpa using this
      by_cases ht : (richHunt xs ch).takes i a 0 l g.most = true
      · cases h : g.may ((richHunt xs ch).takes i a 0 l g.most) with
        | false => rw [hunt1_no h, not_may h ht] at hf1; cases hf1
        | true =>
          rw [hunt1_yes h] at hf1 ⊢
          have h1 := rich_best_go xs ch hv hnd hos hf0 r (i + 1) (l ++ [(i : Int)]) (a + (richHunt xs ch).g1 i) g.pay (by omega) (fun t ht => by
            rcases List.mem_append.1 ht with h2 | h2
            · have := hl t h2; exact ⟨this.1, by omega⟩
            · simp at h2; subst h2; exact ⟨hm, by omega⟩) (by simpa [richHunt] using hf1)
          have e : (0 : Int) + (richHunt xs ch).g2 i = 0 := by simp [richHunt]
          rw [e]
          refine Int.le_trans ?_ h1
          simp only [richHunt]; rw [offerAt_eq hlt]; omega
      · have hge : a + sumWor (xs.drop i) ≤ g.most := by
          simp only [richHunt, hfree, Bool.not_false, Bool.true_and, decide_eq_true_eq] at ht
          omega
        have hlow : g.most ≤ (hunt1 (richHunt xs ch) r i l a 0 g).most := by
          rw [hunt1_no (by simp only [Got.may]; simp only [Bool.not_eq_true] at ht; rw [ht]; rfl)]; exact Int.le_refl _
        omega
    · rw [if_neg hm] at hfl ⊢
      have hfl2 := worFrom_le hv hnd hos r (i + 1) (by omega)
      generalize hunt1 (richHunt xs ch) r i l a 0 g = g1 at hf hf1 ⊢
      by_cases ht : (richHunt xs ch).leaves i a 0 g1.most = true
      · cases h : g1.may ((richHunt xs ch).leaves i a 0 g1.most) with
        | false => rw [hunt2_no h, not_may h ht] at hf; cases hf
        | true =>
          rw [hunt2_yes h] at hf ⊢
          have h1 := rich_best_go xs ch hv hnd hos hf0 r (i + 1) l a g1.pay (by omega) (fun t ht => by have := hl t ht; exact ⟨this.1, by omega⟩) hf
          omega
      · simp only [richHunt, decide_eq_true_eq] at ht
        have := hunt2_mono _ hml r i l a 0 g1
        simp only [richHunt] at this ⊢
        omega
theorem RiseTo.nodup {n : Nat} {l : List Int} (h : RiseTo n l) : l.Nodup := h.1.imp (fun h => by omega)
theorem rich_best {xs : List OfferD} {ch bud : Int} (hv : offersB xs = true) {os : List Int} (hr : RiseTo xs.length os) (hf0 : NoClash xs ch os) (hf : (richGot xs ch bud).full = false) : sumF (worF xs) os ≤ (richGot xs ch bud).most := by
  have h := rich_best_go xs ch (fun x hx => ((offersB_ok hv).2 x hx).1) hr.nodup hr.2 hf0 xs.length 0 [] 0 ⟨[], -1, bud.toNat, false⟩ (by omega) (fun t ht => by simp at ht) hf
  rw [sumFrom_zero _ _ (fun t ht => (hr.2 t ht).1)] at h
  simp only [richGot]
  omega
theorem richAns_says (xs : List OfferD) (ch bud : Int) :
    ((richAns xs ch bud).2.2 ≠ 0 ∧ (richAns xs ch bud).1 = [] ∧ (richAns xs ch bud).2.1 = 0) ∨
    ((richAns xs ch bud).2.2 = 0 ∧ offersB xs = true ∧ inB ch 0 240 = true ∧ RiseTo xs.length (richAns xs ch bud).1 ∧ (richAns xs ch bud).2.1 = sumF (worF xs) (richAns xs ch bud).1 ∧ NoClash xs ch (richAns xs ch bud).1 ∧
      ∀ os : List Int, RiseTo xs.length os → NoClash xs ch os → sumF (worF xs) os ≤ (richAns xs ch bud).2.1) := by
  cases hv : offersB xs with
  | false => rw [richAns_bad hv]; exact .inl (by simp)
  | true =>
    by_cases hr : inB ch 0 240 = true ∧ inB bud 1 20000 = true
    · rw [richAns_go hv hr]
      cases hf : (richGot xs ch bud).full with
      | true => exact .inl (by simp)
      | false =>
        have hm : ¬ (richGot xs ch bud).most < 0 := by
          have := rich_best hv (os := []) ⟨List.Pairwise.nil, fun t ht => by simp at ht⟩ (fun a ha => by simp at ha) hf
          simp [sumF] at this
          omega
        have h := (richGot_keeps xs ch bud hv (inB_true.1 hr.1).1).resolve_left hm
        exact .inr ⟨rfl, rfl, hr.1, h.1, h.2.1, h.2.2, fun os h1 h2 => rich_best hv h1 h2 hf⟩
    · rw [richAns_range hv hr]; exact .inl (by simp)
/-- the worth of a day that is one -/
theorem worth_says {xs : List OfferD} {ps : List Int} (hv : offersB xs = true) (hr : RiseTo xs.length ps) : askB xs ps = 0 ∧ worthOf xs ps = sumF (worF xs) ps := by
  have h1 : askB xs ps = 0 := ask_ok hv hr.rises
  refine ⟨h1, ?_⟩
  unfold worthOf
  rw [if_pos h1, worth_sum hr.2 _ (Nat.le_refl _), List.take_length]
end Go.Proofs.Ytdedaoafihomoaa
