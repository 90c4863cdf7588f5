/- Marks: what the laws write into slices, and what they find there. Conditions: lists no longer than 2^40. -/
import Derived.Test.YtmipphgekcdaoaaGreatDoorProg
import Derived.Test.YtmipphgekcdaoaaGreatDoorBase
import Derived.Test.YtmipphgekcdaoaaGreatDoorOwn
import Derived.Laws.OwnMore
import Derived.Laws.BytesArg
import Derived.Lib.Strings
namespace Go.Proofs.YtmipphgekcdaoaaGreatDoor
set_option linter.unusedVariables false
open Go.RowKit

section
variable {w w1 w2 : World} {base e size n g : Nat} {v : Value} {L : List Value} {row : Option Nat}
theorem own_x (h : w.ownsRow base e size v n L) (hx : IsX w w1) : w1.ownsRow base e size v n L := by
  refine ⟨h.1, ?_⟩
  rcases h.2 with h2 | ⟨g, cap, cur, hv, hb, hh, r⟩
  · exact .inl h2
  · exact .inr ⟨g, cap, cur, hv, hb, (hx.below.block g (Array.getElem?_eq_some_iff.1 hh).1).trans hh, r⟩
theorem own_under (h : w.ownsRow base e size v n L) (hg : w.grownBy w1 (some g)) (hlt : g < base) : w1.ownsRow base e size v n L := by
  refine h.kept hg ?_
  cases hb : v.ownBlock with
  | none => exact .inl rfl
  | some k => refine .inr ?_; have := (h.lt k hb).1; intro e; injection e with e; omega
theorem own_kept_ne {b c d : Nat} (h : w.ownsRow base e size (.slice (some ⟨b, 0, none⟩) c d) n L) (hg : w.grownBy w1 (some g)) (hne : b ≠ g) : w1.ownsRow base e size (.slice (some ⟨b, 0, none⟩) c d) n L :=
  h.kept hg (.inr fun e => by injection e with e; exact hne e)
/-- a slice and a code: the slice is the call's own -/
def SlPost {α : Type} (cells : α → List Value) (k t : Nat) (w : World) (zs : List α) (code : Int) (e : Ending) (w' : World) : Prop :=
  ∃ A c, e = .returned (.tuple #[.slice A zs.length c, .int .i64 code]) ∧ Own cells k t w' w.heap.size (.slice A zs.length c) zs ∧ IsX w w'
theorem SlPost.none {α : Type} {cells : α → List Value} {k t : Nat} {w w' : World} {zs : List α} {code : Int} {e : Ending} (hz : zs = []) (he : e = .returned (.tuple #[.slice none 0 0, .int .i64 code])) (hx : IsX w w') : SlPost cells k t w zs code e w' := by
  subst hz; exact ⟨Option.none, 0, he, World.ownsRow_nil _ _ _ _, hx⟩
theorem gr_refl (w : World) (row : Option Nat) : w.grownBy w row := ⟨rfl, rfl, rfl, Nat.le_refl _, fun _ _ _ => rfl⟩
theorem gr_x (h : w.grownBy w1 row) (hx : IsX w1 w2) : w.grownBy w2 row :=
  ⟨hx.below.os.trans h.os, hx.below.tape.trans h.tape, hx.below.output.trans h.output, Nat.le_trans h.size hx.size, fun k hk hne => (hx.below.block k (Nat.lt_of_lt_of_le hk h.size)).trans (h.block k hk hne)⟩
theorem gr_set (h : w.grownBy w1 (some g)) (j : Nat) (u : Value) : w.grownBy (w1.setCell ⟨g, j, none⟩ u) (some g) :=
  ⟨h.os, h.tape, h.output, by simpa [World.setCell] using h.size, fun k hk hne => by
    have hk' : k ≠ g := fun e => hne (by rw [e])
    exact (Below.heap_setCell w1 ⟨g, j, none⟩ u k hk').trans (h.block k hk hne)⟩
theorem mk_step {M : Nat → Value} {a : Nat} {u : Value} (h : ∀ j, j < a → L[j]? = some (M j)) (ha : a < L.length) (hu : M a = u) : ∀ j, j < a + 1 → (L.set a u)[j]? = some (M j) := by
  intro j hj
  rw [List.getElem?_set]
  by_cases e : a = j
  · subst e; rw [if_pos rfl, if_pos ha, hu]
  · rw [if_neg e]; exact h j (by omega)
end
/-- the text of a mark -/
def mkGo : Nat → Int → ByteArray → ByteArray
  | 0, _, out => out
  | f + 1, k, out => if 0 < k then mkGo f (k.tdiv 10) (strOfNums [48 + k % 10] ++ out) else out
def mkText (k : Int) : ByteArray := if k ≤ 0 then ⟨#[109, 48]⟩ else (⟨#[109]⟩ : ByteArray) ++ mkGo k.toNat k ⟨#[]⟩
def mkB (k : Int) : Bool := k % 3 == 0
theorem mkGo_done (f : Nat) (k : Int) (out : ByteArray) (h : ¬ 0 < k) : mkGo f k out = out := by
  cases f with
  | zero => rfl
  | succ f => simp only [mkGo, if_neg h]
theorem mkGo_fuel : ∀ (f g : Nat) (k : Int) (out : ByteArray), k ≤ f → k ≤ g → mkGo f k out = mkGo g k out
  | 0, g, k, out, h1, _ => by rw [mkGo_done 0 k out (by omega), mkGo_done g k out (by omega)]
  | f + 1, 0, k, out, _, h2 => by rw [mkGo_done (f + 1) k out (by omega), mkGo_done 0 k out (by omega)]
  | f + 1, g + 1, k, out, h1, h2 => by
    by_cases h : 0 < k
    · have hd : k.tdiv 10 < k := by rw [Int.tdiv_eq_ediv_of_nonneg (by omega)]; omega
      simp only [mkGo, if_pos h]
      exact mkGo_fuel f g _ _ (by omega) (by omega)
    · rw [mkGo_done _ _ _ h, mkGo_done _ _ _ h]

theorem ownsRow_form' {w : World} {base e size n m c : Nat} {A : Option Addr} {L : List Value} (h : w.ownsRow base e size (.slice A m c) n L) (hn : 0 < n) : ∃ g, A = some ⟨g, 0, none⟩ := by
  rcases h.2 with ⟨_, h0⟩ | ⟨g, cap, cur, hv, _⟩
  · omega
  · injection hv with hA _ _
    exact ⟨g, hA⟩

end Go.Proofs.YtmipphgekcdaoaaGreatDoor
