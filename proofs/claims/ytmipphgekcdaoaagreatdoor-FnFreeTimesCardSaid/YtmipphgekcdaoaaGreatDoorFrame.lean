/- A struct behind a pointer that a search turns, with two rows of its own: what stays as it was. Conditions: none; nothing of the program is named here. -/
import Derived.Test.YtmipphgekcdaoaaGreatDoorOwn
namespace Go.Proofs.YtmipphgekcdaoaaGreatDoor
set_option linter.unusedVariables false
open Go.RowKit

/-- the blocks below B, but block X, are as they were -/
structure Fr (B X : Nat) (w w' : World) : Prop where
  os : w'.os = w.os
  tape : w'.tape = w.tape
  output : w'.output = w.output
  size : w.heap.size ≤ w'.heap.size
  block : ∀ k, k < B → k ≠ X → w'.heap[k]? = w.heap[k]?

section
variable {B X : Nat} {w w0 w1 w2 : World} {row : Option Nat}
theorem Fr.refl (B X : Nat) (w : World) : Fr B X w w := ⟨rfl, rfl, rfl, Nat.le_refl _, fun _ _ _ => rfl⟩
theorem Fr.trans (h : Fr B X w w1) (k : Fr B X w1 w2) : Fr B X w w2 :=
  ⟨k.os.trans h.os, k.tape.trans h.tape, k.output.trans h.output, Nat.le_trans h.size k.size, fun i hi hx => (k.block i hi hx).trans (h.block i hi hx)⟩
theorem Fr.of_gr (hg : w.grownBy w1 row) (hB : B ≤ w.heap.size) (hr : ∀ k, row = some k → B ≤ k ∨ k = X) : Fr B X w w1 :=
  ⟨hg.os, hg.tape, hg.output, hg.size, fun k hk hx => hg.block k (by omega) (fun e => by rcases hr k e.symm with h | h <;> omega)⟩
theorem Fr.of_x (hx : IsX w w1) (hB : B ≤ w.heap.size) : Fr B X w w1 :=
  ⟨hx.below.os, hx.below.tape, hx.below.output, hx.below.size, fun k hk _ => hx.below.block k (by omega)⟩
theorem Fr.of_set (w : World) (a : Addr) (u : Value) (h : a.block = X ∨ B ≤ a.block) : Fr B X w (w.setCell a u) :=
  ⟨rfl, rfl, rfl, by simp [World.setCell], fun k hk hx => Below.heap_setCell w a u k (by intro e; subst e; rcases h with h | h <;> omega)⟩
theorem Fr.x (h : Fr B X w w1) (hx : IsX w1 w2) (hB : B ≤ w.heap.size) : Fr B X w w2 := h.trans (Fr.of_x hx (Nat.le_trans hB h.size))
theorem Fr.gr (h : Fr B X w w1) (hg : w1.grownBy w2 row) (hB : B ≤ w.heap.size) (hr : ∀ k, row = some k → B ≤ k ∨ k = X) : Fr B X w w2 := h.trans (Fr.of_gr hg (Nat.le_trans hB h.size) hr)
theorem Fr.set (h : Fr B X w w1) (a : Addr) (u : Value) (ha : a.block = X ∨ B ≤ a.block) : Fr B X w (w1.setCell a u) := h.trans (Fr.of_set w1 a u ha)
/-- seen from a world in which the struct was not yet there -/
theorem Fr.isx (h : Fr B X w w1) (hx : IsX w0 w) (h0 : w0.heap.size ≤ X) (hB : w0.heap.size ≤ B) : IsX w0 w1 :=
  IsX.of_below ⟨h.os.trans hx.below.os, h.tape.trans hx.below.tape, h.output.trans hx.below.output, Nat.le_trans hx.size h.size, fun k hk => (h.block k (by omega) (by omega)).trans (hx.below.block k hk)⟩

/-- a slice's block is below B and is not X -/
def Out (B X : Nat) (A : Option Addr) : Prop := ∀ b off, A = some ⟨b, off, none⟩ → b < B ∧ b ≠ X
theorem Rd.fr {α : Type} {cells : α → List Value} {k : Nat} {A : Option Addr} {xs : List α} (h : Rd cells k w A xs) (ho : Out B X A) (hf : Fr B X w w1) : Rd cells k w1 A xs := fun i x hi => by
  obtain ⟨b, off, e, hb, hc⟩ := h i x hi
  obtain ⟨h1, h2⟩ := ho b off e
  exact ⟨b, off, e, Nat.lt_of_lt_of_le hb hf.size, fun j u hu => (World.cell?_of_block (a := ⟨b, off + i * k + j, none⟩) (hf.block b h1 h2)).trans (hc j u hu)⟩
theorem Blk.gr {g t : Nat} {cs : Array Value} (h : Blk w g t cs) (hg : w.grownBy w1 row) (hn : some g ≠ row) : Blk w1 g t cs := (hg.block g h.lt hn).trans h
theorem gr_trans (h : w.grownBy w1 row) (k : w1.grownBy w2 row) : w.grownBy w2 row :=
  ⟨k.os.trans h.os, k.tape.trans h.tape, k.output.trans h.output, Nat.le_trans h.size k.size, fun i hi hx => (k.block i (Nat.lt_of_lt_of_le hi h.size) hx).trans (h.block i hi hx)⟩
theorem gr_of_x (h : IsX w w1) (row : Option Nat) : w.grownBy w1 row := ⟨h.below.os, h.below.tape, h.below.output, h.below.size, fun i hi _ => h.below.block i hi⟩
theorem gr_of_set (w : World) (g : Nat) (j : Nat) (u : Value) : w.grownBy (w.setCell ⟨g, j, none⟩ u) (some g) :=
  ⟨rfl, rfl, rfl, by simp [World.setCell], fun k _ hne => Below.heap_setCell w ⟨g, j, none⟩ u k (fun e => hne (by rw [e]))⟩

/-- two slices that do not share a block -/
def Apart (v u : Value) : Prop := u.ownBlock = none ∨ u.ownBlock ≠ v.ownBlock
theorem own_pop {base e n c : Nat} {A : Option Addr} {L : List Value} {u : Value} (h : w.ownsRow base e 1 (.slice A (n + 1) c) (n + 1) (L ++ [u])) : w.ownsRow base e 1 (.slice A n c) n L := by
  have hl : L.length = n := by have := h.1; simp at this; omega
  refine ⟨by omega, ?_⟩
  rcases h.2 with ⟨_, h0⟩ | ⟨g, cap, cur, hv, hb, hh, h1, h2, h3, h4⟩
  · omega
  · injection hv with hA hn hc
    subst hA hc
    refine .inr ⟨g, c, cur, rfl, hb, hh, by omega, h2, h3, ?_⟩
    have := congrArg (List.take n) h4
    rw [List.take_take] at this
    simpa [hl, Nat.min_eq_left (show n ≤ n + 1 by omega)] using this
theorem own_cap {base e size n c : Nat} {A : Option Addr} {L : List Value} (h : w.ownsRow base e size (.slice A n c) n L) : n ≤ c := by
  rcases h.2 with ⟨hv, h0⟩ | ⟨g, cap, cur, hv, hb, hh, h1, h2, h3, h4⟩
  · omega
  · injection hv with hA hn hc
    omega
theorem own_some {base e size n c : Nat} {A : Option Addr} {L : List Value} (h : w.ownsRow base e size (.slice A n c) n L) (hn : 0 < n) : ∃ g, A = some ⟨g, 0, none⟩ ∧ base ≤ g ∧ g < w.heap.size := by
  rcases h.2 with ⟨_, h0⟩ | ⟨g, cap, cur, hv, hb, hh, _⟩
  · omega
  · injection hv with hA _ _
    exact ⟨g, hA, hb, (Array.getElem?_eq_some_iff.1 hh).1⟩
/-- a row lies at the head of its block, or nowhere -/
theorem own_addr {base e size n c : Nat} {A : Option Addr} {L : List Value} (h : w.ownsRow base e size (.slice A n c) n L) : A = none ∨ ∃ g, A = some ⟨g, 0, none⟩ ∧ base ≤ g ∧ g < w.heap.size := by
  rcases h.2 with ⟨hv, h0⟩ | ⟨g, cap, cur, hv, hb, hh, _⟩
  · injection hv with hA _ _; exact .inl hA
  · injection hv with hA _ _
    exact .inr ⟨g, hA, hb, (Array.getElem?_eq_some_iff.1 hh).1⟩
theorem row_le' {base base' e size n : Nat} {v : Value} {L : List Value} (h : w.ownsRow base e size v n L) (hb : base' ≤ base) : w.ownsRow base' e size v n L := by
  refine ⟨h.1, ?_⟩
  rcases h.2 with h2 | ⟨g, cap, cur, hv, hg, r⟩
  · exact .inl h2
  · exact .inr ⟨g, cap, cur, hv, Nat.le_trans hb hg, r⟩
theorem apart_new {base e e' size size' n n' : Nat} {v u : Value} {L L' : List Value} (h : w.ownsRow base e size v n L) (k : w1.ownsRow w.heap.size e' size' u n' L') : Apart v u := by
  unfold Apart
  cases hu : u.ownBlock with
  | none => exact .inl rfl
  | some j =>
    refine .inr fun e => ?_
    have h1 := (k.lt j hu).1
    have h2 := (h.lt j e.symm).2
    omega
theorem apart_none (u : Value) : Apart (.slice none 0 0) u := by
  unfold Apart
  cases u.ownBlock <;> simp [Value.ownBlock]
/-- the row that is appended to stays apart from the other -/
theorem apart_app {base e size n : Nat} {v v' u : Value} {L : List Value} (h : Apart v u) (hu : w.ownsRow base e size u n L) (hv : v'.ownBlock = v.ownBlock ∨ v'.ownBlock = some w.heap.size) : Apart v' u := by
  unfold Apart at h ⊢
  rcases h with h | h
  · exact .inl h
  rcases hv with hv | hv
  · exact .inr (by rw [hv]; exact h)
  · cases hb : u.ownBlock with
    | none => exact .inl rfl
    | some j =>
      refine .inr fun e => ?_
      have := (hu.lt j hb).2
      rw [hv] at e
      injection e with e
      omega
theorem own_x' {base e size n : Nat} {v : Value} {L : List Value} (h : w.ownsRow base e size v n L) (hx : IsX w w1) : w1.ownsRow base e size v n L := by
  refine ⟨h.1, ?_⟩
  rcases h.2 with h2 | ⟨g, cap, cur, hv, hb, hh, r⟩
  · exact .inl h2
  · exact .inr ⟨g, cap, cur, hv, hb, (hx.below.block g (Array.getElem?_eq_some_iff.1 hh).1).trans hh, r⟩
/-- a row of the call's own behind a change of block X alone -/
theorem own_grX {base e size n : Nat} {v : Value} {L : List Value} (h : w.ownsRow base e size v n L) (hg : w.grownBy w1 (some X)) (hX : X < base) : w1.ownsRow base e size v n L := by
  refine h.kept hg ?_
  cases hv : v.ownBlock with
  | none => exact .inl rfl
  | some j => refine .inr fun e => ?_; have := (h.lt j hv).1; injection e with e; omega
theorem own_set_other {base e size n : Nat} {v : Value} {L : List Value} (h : w.ownsRow base e size v n L) (i : Nat) (u : Value) (hX : X < base) : (w.setCell ⟨X, i, none⟩ u).ownsRow base e size v n L := own_grX h (gr_of_set w X i u) hX
theorem blk_app {g t : Nat} {cs : Array Value} {v : Value} {o : Obj} (h : Blk w g t cs) (hg : (w.alloc o).grownBy w1 v.ownBlock) (hne : ∀ j, v.ownBlock = some j → j ≠ g) : Blk w1 g t cs := (h.alloc o).gr hg (fun e => hne g e.symm rfl)
theorem own_app_other {base e size n : Nat} {v u : Value} {L : List Value} {o : Obj} (h : w.ownsRow base e size u n L) (hA : Apart v u) (hg : (w.alloc o).grownBy w1 v.ownBlock) : w1.ownsRow base e size u n L := (h.alloc o).kept hg hA
/-- a search's struct: two rows of its own, and the rest -/
def At {γ : Type} (T X B tI : Nat) (cs : Value → Value → γ → Array Value) (bst : γ → List Int) (ic : Int → List Value) (ch : List Int) (g : γ) (w : World) : Prop :=
  ∃ Ac cc Ab cb, Blk w X T (cs (.slice Ac ch.length cc) (.slice Ab (bst g).length cb) g) ∧ w.ownsRow B tI 1 (.slice Ac ch.length cc) ch.length (ch.flatMap ic) ∧ w.ownsRow B tI 1 (.slice Ab (bst g).length cb) (bst g).length ((bst g).flatMap ic) ∧
    Apart (.slice Ac ch.length cc) (.slice Ab (bst g).length cb)
theorem At.x {γ : Type} {T X B tI : Nat} {cs : Value → Value → γ → Array Value} {bst : γ → List Int} {ic : Int → List Value} {ch : List Int} {g : γ} (h : At T X B tI cs bst ic ch g w) (hx : IsX w w1) : At T X B tI cs bst ic ch g w1 := by
  obtain ⟨Ac, cc, Ab, cb, h1, h2, h3, h4⟩ := h
  exact ⟨Ac, cc, Ab, cb, h1.x hx, own_x' h2 hx, own_x' h3 hx, h4⟩
end
end Go.Proofs.YtmipphgekcdaoaaGreatDoor
