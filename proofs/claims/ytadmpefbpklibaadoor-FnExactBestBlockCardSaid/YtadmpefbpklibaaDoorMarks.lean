/- Marks: what the laws write into slices, and what they find there. Conditions: lists no longer than 2^40. -/
import Derived.Test.YtadmpefbpklibaaDoorProg
import Derived.Test.YtadmpefbpklibaaDoorBase
import Derived.Test.YtadmpefbpklibaaDoorOwn
import Derived.Laws.OwnMore
import Derived.Laws.BytesArg
import Derived.Lib.Strings
namespace Go.Proofs.YtadmpefbpklibaaDoor
set_option linter.unusedVariables false
open Go.RowKit

section
variable {w w1 w2 : World} {base e size n g : Nat} {v : Value} {L : List Value} {row : Option Nat}
theorem own_x (h : w.ownsRow base e size v n L) (hx : IsX w w1) : w1.ownsRow base e size v n L := by
  refine ⟨h.1, ?_⟩
  rcases h.2 with h2 | ⟨g, cap, cur, hv, hb, hh, r⟩
  · exact .inl h2
  · exact .inr ⟨g, cap, cur, hv, hb, (hx.below.block g (Array.getElem?_eq_some_iff.1 hh).1).trans hh, r⟩
theorem own_under (h : w.ownsRow base e size v n L) (hg : w.grownBy w1 (some g)) (hlt : g < base) : w1.ownsRow base e size v n L := by
  refine h.kept hg ?_
  cases hb : v.ownBlock with
  | none => exact .inl rfl
  | some k => refine .inr ?_; have := (h.lt k hb).1; intro e; injection e with e; omega
theorem own_kept_ne {b c d : Nat} (h : w.ownsRow base e size (.slice (some ⟨b, 0, none⟩) c d) n L) (hg : w.grownBy w1 (some g)) (hne : b ≠ g) : w1.ownsRow base e size (.slice (some ⟨b, 0, none⟩) c d) n L :=
  h.kept hg (.inr fun e => by injection e with e; exact hne e)
/-- a slice and a code: the slice is the call's own -/
def SlPost {α : Type} (cells : α → List Value) (k t : Nat) (w : World) (zs : List α) (code : Int) (e : Ending) (w' : World) : Prop :=
  ∃ A c, e = .returned (.tuple #[.slice A zs.length c, .int .i64 code]) ∧ Own cells k t w' w.heap.size (.slice A zs.length c) zs ∧ IsX w w'
theorem SlPost.none {α : Type} {cells : α → List Value} {k t : Nat} {w w' : World} {zs : List α} {code : Int} {e : Ending} (hz : zs = []) (he : e = .returned (.tuple #[.slice none 0 0, .int .i64 code])) (hx : IsX w w') : SlPost cells k t w zs code e w' := by
  subst hz; exact ⟨Option.none, 0, he, World.ownsRow_nil _ _ _ _, hx⟩
theorem gr_refl (w : World) (row : Option Nat) : w.grownBy w row := ⟨rfl, rfl, rfl, Nat.le_refl _, fun _ _ _ => rfl⟩
theorem gr_x (h : w.grownBy w1 row) (hx : IsX w1 w2) : w.grownBy w2 row :=
  ⟨hx.below.os.trans h.os, hx.below.tape.trans h.tape, hx.below.output.trans h.output, Nat.le_trans h.size hx.size, fun k hk hne => (hx.below.block k (Nat.lt_of_lt_of_le hk h.size)).trans (h.block k hk hne)⟩
theorem gr_set (h : w.grownBy w1 (some g)) (j : Nat) (u : Value) : w.grownBy (w1.setCell ⟨g, j, none⟩ u) (some g) :=
  ⟨h.os, h.tape, h.output, by simpa [World.setCell] using h.size, fun k hk hne => by
    have hk' : k ≠ g := fun e => hne (by rw [e])
    exact (Below.heap_setCell w1 ⟨g, j, none⟩ u k hk').trans (h.block k hk hne)⟩
theorem mk_step {M : Nat → Value} {a : Nat} {u : Value} (h : ∀ j, j < a → L[j]? = some (M j)) (ha : a < L.length) (hu : M a = u) : ∀ j, j < a + 1 → (L.set a u)[j]? = some (M j) := by
  intro j hj
  rw [List.getElem?_set]
  by_cases e : a = j
  · subst e; rw [if_pos rfl, if_pos ha, hu]
  · rw [if_neg e]; exact h j (by omega)
end
/-- the text of a mark -/
def mkGo : Nat → Int → ByteArray → ByteArray
  | 0, _, out => out
  | f + 1, k, out => if 0 < k then mkGo f (k.tdiv 10) (strOfNums [48 + k % 10] ++ out) else out
def mkText (k : Int) : ByteArray := if k ≤ 0 then ⟨#[109, 48]⟩ else (⟨#[109]⟩ : ByteArray) ++ mkGo k.toNat k ⟨#[]⟩
def mkB (k : Int) : Bool := k % 3 == 0
theorem mkGo_done (f : Nat) (k : Int) (out : ByteArray) (h : ¬ 0 < k) : mkGo f k out = out := by
  cases f with
  | zero => rfl
  | succ f => simp only [mkGo, if_neg h]
theorem mkGo_fuel : ∀ (f g : Nat) (k : Int) (out : ByteArray), k ≤ f → k ≤ g → mkGo f k out = mkGo g k out
  | 0, g, k, out, h1, _ => by rw [mkGo_done 0 k out (by omega), mkGo_done g k out (by omega)]
  | f + 1, 0, k, out, _, h2 => by rw [mkGo_done (f + 1) k out (by omega), mkGo_done 0 k out (by omega)]
  | f + 1, g + 1, k, out, h1, h2 => by
    by_cases h : 0 < k
    · have hd : k.tdiv 10 < k := by rw [Int.tdiv_eq_ediv_of_nonneg (by omega)]; omega
      simp only [mkGo, if_pos h]
      exact mkGo_fuel f g _ _ (by omega) (by omega)
    · rw [mkGo_done _ _ _ h, mkGo_done _ _ _ h]

theorem ownsRow_form' {w : World} {base e size n m c : Nat} {A : Option Addr} {L : List Value} (h : w.ownsRow base e size (.slice A m c) n L) (hn : 0 < n) : ∃ g, A = some ⟨g, 0, none⟩ := by
  rcases h.2 with ⟨_, h0⟩ | ⟨g, cap, cur, hv, _⟩
  · omega
  · injection hv with hA _ _
    exact ⟨g, hA⟩

def markInt64C (k : Int) (j : Nat) : Value := .int .i64 (k + j)
theorem markInt64C_0 {k q : Int} {i : Nat} (h : q = k + i * 1) : markInt64C k (i * 1) = .int .i64 (q) := by
  subst h
  have e : (((i * 1 : Nat)) : Int) = i * 1 := by simp
  have ek : k + (((i * 1 : Nat)) : Int) = k + i * 1 := by omega
  unfold markInt64C
  rw [ek]

set_option maxHeartbeats 1600000 in
theorem c_markInt64S (A : Option Addr) (c n base : Nat) (L : List Value) (k : Int) (w : World) (hn : n ≤ 1099511627776) (h0 : 0 ≤ k) (h1 : k ≤ 35184372088832) (ho : w.ownsRow base 2 1 (.slice A n c) n L) :
    Calls Tryd.prog 17 #[.slice A n c, .int .i64 k] w fun e w' => e = .returned (.int .i64 (k + n * 1)) ∧ ∃ L', w'.ownsRow base 2 1 (.slice A n c) n L' ∧ (∀ j, j < n * 1 → L'[j]? = some (markInt64C k j)) ∧ w.grownBy w' (Value.slice A n c).ownBlock := by
  go_enter Tryd.func17, Tryd.ntmps17
  go_wp2
  go_loopw [1, 5] (fun kv iv wr => ∃ (i : Nat) (q : Int) (L : List Value), i ≤ n ∧ iv = .int .i64 i ∧ kv = .int .i64 q ∧ q = k + i * 1 ∧ wr.ownsRow base 2 1 (.slice A n c) n L ∧ (∀ j, j < i * 1 → L[j]? = some (markInt64C k j)) ∧ w.grownBy wr (Value.slice A n c).ownBlock) (fun _ iv _ => n - (intOf iv).toNat)
  case atStart => exact ⟨0, k, L, Nat.zero_le _, rfl, rfl, by simp, ho, fun j hj => absurd hj (by omega), gr_refl _ _⟩
  case round =>
    clear ho L
    obtain ⟨i, q, L, hi, rfl, rfl, hq, hown, hM, hgr⟩ := hrel
    by_cases hlt : i < n
    · obtain ⟨g, rfl⟩ := ownsRow_form' hown (by omega)
      have hqn : q ≤ 281474976710656 := by omega
      have hq0 : 0 ≤ q := by omega
      have HQ := hide hq
      have hL := hown.1
      have HGR := hide (show w.grownBy wr (some g) from hgr)
      have HM := hide hM
      clear hM hgr hq
      have hgs : g < wr.heap.size := (hown.lt g rfl).2
      obtain ⟨p0v0, p0e0⟩ : ∃ v, wr.cell? ⟨g, i, none⟩ = some v := ⟨_, (hown.cellAt (i) (by omega)).trans (List.getElem?_eq_getElem (show i < (L).length by first | omega | (simp only [List.length_set]; omega)))⟩
      have p0f0 := hown.frozenAt (i)
      have HO := hide hown
      clear hown
      go_wp2
      go_roundw
      case rel => exact ⟨i + 1, q + 1, _, by omega, by go_num, rfl, by have := HQ.out; omega, own_set (j := i) (HO.out) (by first | omega | (simp only [List.length_set]; omega)) (.int .i64 (q)), fun j hj => (mk_step (a := i) (fun j hj => HM.out j (by omega)) (by omega) (by have := markInt64C_0 (i := i) HQ.out; rwa [Nat.mul_one] at this)) j (by omega), gr_set (HGR.out) (i) (.int .i64 (q))⟩
      case measure => simp [intOf]; omega
    · obtain rfl : i = n := by omega
      have HR := hide hq
      have HM := hide hM
      clear hM hq
      go_wp2
      go_ret
      exact ⟨by rw [HR.out]; rfl, L, hown, HM.out, hgr⟩

set_option maxHeartbeats 1600000 in
theorem c_heldInt64S (A : Option Addr) (c n base : Nat) (L : List Value) (k : Int) (w : World) (hn : n ≤ 1099511627776) (h0 : 0 ≤ k) (h1 : k ≤ 35184372088832) (ho : w.ownsRow base 2 1 (.slice A n c) n L) (hM : ∀ j, j < n * 1 → L[j]? = some (markInt64C k j)) :
    Calls Tryd.prog 18 #[.slice A n c, .int .i64 k] w fun e w' => e = .returned (.int .i64 (k + n * 1)) ∧ IsX w w' := by
  have HO := hide ho
  have HM := hide hM
  clear ho hM
  go_enter Tryd.func18, Tryd.ntmps18
  go_wp2
  go_loopw [1, 5] (fun kv iv wr => ∃ (i : Nat) (q : Int), i ≤ n ∧ iv = .int .i64 i ∧ kv = .int .i64 q ∧ q = k + i * 1 ∧ IsX w wr) (fun _ iv _ => n - (intOf iv).toNat)
  case atStart => exact ⟨0, k, Nat.zero_le _, rfl, rfl, by simp, IsX.refl _⟩
  case round =>
    obtain ⟨i, q, hi, rfl, rfl, hq, p, rfl⟩ := hrel
    by_cases hlt : i < n
    · obtain ⟨g, rfl⟩ := ownsRow_form' HO.out (by omega)
      have hqn : q ≤ 281474976710656 := by omega
      have hq0 : 0 ≤ q := by omega
      have HQ := hide hq
      have hb : g < w.heap.size := (HO.out.lt g rfl).2
      have e0 := (HO.out.cellAt (i) (by omega)).trans (HM.out (i) (by omega))
      rw [show markInt64C k i = .int .i64 q by have := markInt64C_0 (i := i) hq; rwa [Nat.mul_one] at this] at e0
      clear hq
      go_wp2
      go_roundw
      case rel => exact ⟨i + 1, q + 1, by omega, by go_num, rfl, by have := HQ.out; omega, ⟨p, rfl⟩⟩
      case measure => simp [intOf]; omega
    · obtain rfl : i = n := by omega
      have HR := hide hq
      clear hq
      go_wp2
      go_ret
      exact ⟨by rw [HR.out]; rfl, ⟨p, rfl⟩⟩

def markRingC (k : Int) (j : Nat) : Value := .int .i64 (k + j)
theorem markRingC_0 {k q : Int} {i : Nat} (h : q = k + i * 5) : markRingC k (i * 5) = .int .i64 (q) := by
  subst h
  have e : (((i * 5 : Nat)) : Int) = i * 5 := by simp
  have ek : k + (((i * 5 : Nat)) : Int) = k + i * 5 := by omega
  unfold markRingC
  rw [ek]
theorem markRingC_1 {k q : Int} {i : Nat} (h : q = k + i * 5) : markRingC k (i * 5 + 1) = .int .i64 (q + 1) := by
  subst h
  have e : (((i * 5 + 1 : Nat)) : Int) = i * 5 + 1 := by simp
  have ek : k + (((i * 5 + 1 : Nat)) : Int) = k + i * 5 + 1 := by omega
  unfold markRingC
  rw [ek]
theorem markRingC_2 {k q : Int} {i : Nat} (h : q = k + i * 5) : markRingC k (i * 5 + 2) = .int .i64 (q + 1 + 1) := by
  subst h
  have e : (((i * 5 + 2 : Nat)) : Int) = i * 5 + 2 := by simp
  have ek : k + (((i * 5 + 2 : Nat)) : Int) = k + i * 5 + 1 + 1 := by omega
  unfold markRingC
  rw [ek]
theorem markRingC_3 {k q : Int} {i : Nat} (h : q = k + i * 5) : markRingC k (i * 5 + 3) = .int .i64 (q + 1 + 1 + 1) := by
  subst h
  have e : (((i * 5 + 3 : Nat)) : Int) = i * 5 + 3 := by simp
  have ek : k + (((i * 5 + 3 : Nat)) : Int) = k + i * 5 + 1 + 1 + 1 := by omega
  unfold markRingC
  rw [ek]
theorem markRingC_4 {k q : Int} {i : Nat} (h : q = k + i * 5) : markRingC k (i * 5 + 4) = .int .i64 (q + 1 + 1 + 1 + 1) := by
  subst h
  have e : (((i * 5 + 4 : Nat)) : Int) = i * 5 + 4 := by simp
  have ek : k + (((i * 5 + 4 : Nat)) : Int) = k + i * 5 + 1 + 1 + 1 + 1 := by omega
  unfold markRingC
  rw [ek]

set_option maxHeartbeats 1600000 in
theorem c_markRingS (A : Option Addr) (c n base : Nat) (L : List Value) (k : Int) (w : World) (hn : n ≤ 1099511627776) (h0 : 0 ≤ k) (h1 : k ≤ 35184372088832) (ho : w.ownsRow base 51 5 (.slice A n c) n L) :
    Calls Tryd.prog 16 #[.slice A n c, .int .i64 k] w fun e w' => e = .returned (.int .i64 (k + n * 5)) ∧ ∃ L', w'.ownsRow base 51 5 (.slice A n c) n L' ∧ (∀ j, j < n * 5 → L'[j]? = some (markRingC k j)) ∧ w.grownBy w' (Value.slice A n c).ownBlock := by
  go_enter Tryd.func16, Tryd.ntmps16
  go_wp2
  go_loopw [1, 5] (fun kv iv wr => ∃ (i : Nat) (q : Int) (L : List Value), i ≤ n ∧ iv = .int .i64 i ∧ kv = .int .i64 q ∧ q = k + i * 5 ∧ wr.ownsRow base 51 5 (.slice A n c) n L ∧ (∀ j, j < i * 5 → L[j]? = some (markRingC k j)) ∧ w.grownBy wr (Value.slice A n c).ownBlock) (fun _ iv _ => n - (intOf iv).toNat)
  case atStart => exact ⟨0, k, L, Nat.zero_le _, rfl, rfl, by simp, ho, fun j hj => absurd hj (by omega), gr_refl _ _⟩
  case round =>
    clear ho L
    obtain ⟨i, q, L, hi, rfl, rfl, hq, hown, hM, hgr⟩ := hrel
    by_cases hlt : i < n
    · obtain ⟨g, rfl⟩ := ownsRow_form' hown (by omega)
      have hqn : q ≤ 281474976710656 := by omega
      have hq0 : 0 ≤ q := by omega
      have HQ := hide hq
      have hL := hown.1
      have HGR := hide (show w.grownBy wr (some g) from hgr)
      have HM := hide hM
      clear hM hgr hq
      have hgs : g < wr.heap.size := (hown.lt g rfl).2
      obtain ⟨p0v0, p0e0⟩ : ∃ v, wr.cell? ⟨g, i * 5, none⟩ = some v := ⟨_, (hown.cellAt (i * 5) (by omega)).trans (List.getElem?_eq_getElem (show i * 5 < (L).length by first | omega | (simp only [List.length_set]; omega)))⟩
      have p0f0 := hown.frozenAt (i * 5)
      obtain ⟨p0v1, p0e1⟩ : ∃ v, wr.cell? ⟨g, i * 5 + 1, none⟩ = some v := ⟨_, (hown.cellAt (i * 5 + 1) (by omega)).trans (List.getElem?_eq_getElem (show i * 5 + 1 < (L).length by first | omega | (simp only [List.length_set]; omega)))⟩
      have p0f1 := hown.frozenAt (i * 5 + 1)
      obtain ⟨p0v2, p0e2⟩ : ∃ v, wr.cell? ⟨g, i * 5 + 2, none⟩ = some v := ⟨_, (hown.cellAt (i * 5 + 2) (by omega)).trans (List.getElem?_eq_getElem (show i * 5 + 2 < (L).length by first | omega | (simp only [List.length_set]; omega)))⟩
      have p0f2 := hown.frozenAt (i * 5 + 2)
      obtain ⟨p0v3, p0e3⟩ : ∃ v, wr.cell? ⟨g, i * 5 + 3, none⟩ = some v := ⟨_, (hown.cellAt (i * 5 + 3) (by omega)).trans (List.getElem?_eq_getElem (show i * 5 + 3 < (L).length by first | omega | (simp only [List.length_set]; omega)))⟩
      have p0f3 := hown.frozenAt (i * 5 + 3)
      obtain ⟨p0v4, p0e4⟩ : ∃ v, wr.cell? ⟨g, i * 5 + 4, none⟩ = some v := ⟨_, (hown.cellAt (i * 5 + 4) (by omega)).trans (List.getElem?_eq_getElem (show i * 5 + 4 < (L).length by first | omega | (simp only [List.length_set]; omega)))⟩
      have p0f4 := hown.frozenAt (i * 5 + 4)
      have HO := hide hown
      clear hown
      go_wp2
      go_roundw
      case rel => exact ⟨i + 1, q + 1 + 1 + 1 + 1 + 1, _, by omega, by go_num, rfl, by have := HQ.out; omega, own_set (j := i * 5 + 4) (own_set (j := i * 5 + 3) (own_set (j := i * 5 + 2) (own_set (j := i * 5 + 1) (own_set (j := i * 5) (HO.out) (by first | omega | (simp only [List.length_set]; omega)) (.int .i64 (q))) (by first | omega | (simp only [List.length_set]; omega)) (.int .i64 (q + 1))) (by first | omega | (simp only [List.length_set]; omega)) (.int .i64 (q + 1 + 1))) (by first | omega | (simp only [List.length_set]; omega)) (.int .i64 (q + 1 + 1 + 1))) (by first | omega | (simp only [List.length_set]; omega)) (.int .i64 (q + 1 + 1 + 1 + 1)), fun j hj => (mk_step (a := i * 5 + 4) (mk_step (a := i * 5 + 3) (mk_step (a := i * 5 + 2) (mk_step (a := i * 5 + 1) (mk_step (a := i * 5) (HM.out) (by first | omega | (simp only [List.length_set]; omega)) (markRingC_0 HQ.out)) (by first | omega | (simp only [List.length_set]; omega)) (markRingC_1 HQ.out)) (by first | omega | (simp only [List.length_set]; omega)) (markRingC_2 HQ.out)) (by first | omega | (simp only [List.length_set]; omega)) (markRingC_3 HQ.out)) (by first | omega | (simp only [List.length_set]; omega)) (markRingC_4 HQ.out)) j (by omega), gr_set (gr_set (gr_set (gr_set (gr_set (HGR.out) (i * 5) (.int .i64 (q))) (i * 5 + 1) (.int .i64 (q + 1))) (i * 5 + 2) (.int .i64 (q + 1 + 1))) (i * 5 + 3) (.int .i64 (q + 1 + 1 + 1))) (i * 5 + 4) (.int .i64 (q + 1 + 1 + 1 + 1))⟩
      case measure => simp [intOf]; omega
    · obtain rfl : i = n := by omega
      have HR := hide hq
      have HM := hide hM
      clear hM hq
      go_wp2
      go_ret
      exact ⟨by rw [HR.out]; rfl, L, hown, HM.out, hgr⟩

end Go.Proofs.YtadmpefbpklibaaDoor
