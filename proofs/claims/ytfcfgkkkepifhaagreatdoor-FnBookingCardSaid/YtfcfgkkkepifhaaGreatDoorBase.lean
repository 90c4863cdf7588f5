/- Worlds that are the old one with more blocks: the class in which the walks of this seat are told. Conditions: none; nothing of the program is named here. -/
import Derived.WalkKit
import Derived.BigQuiet
import Derived.WalkLawsBesides
import Derived.WalkSpells
import Derived.Lib.QuietBelow
namespace Go.Proofs.YtfcfgkkkepifhaaGreatDoor
set_option linter.unusedVariables false
open Go.RowKit Go.Sort

theorem hide {p : Prop} (h : p) : Hid p := h

/-- w with another count of draws and some blocks behind its heap -/
def xt (w : World) (p : Regrown) : World := grow (redrawn w p.d) p.os
def IsX (w w' : World) : Prop := ∃ p : Regrown, w' = xt w p

section
variable {w w' w'' : World} {p q : Regrown}
theorem below_xt (w : World) (p : Regrown) : Below w.heap.size w (xt w p) := below_regrown w p.d p.os
theorem IsX.of_below (h : Below w.heap.size w w') : IsX w w' := regrown_of_below h
theorem IsX.below (h : IsX w w') : Below w.heap.size w w' := by obtain ⟨p, rfl⟩ := h; exact below_xt w p
theorem IsX.refl (w : World) : IsX w w := IsX.of_below (Below.refl _ _)
theorem IsX.size (h : IsX w w') : w.heap.size ≤ w'.heap.size := h.below.size
theorem IsX.trans (h : IsX w w') (k : IsX w' w'') : IsX w w'' := IsX.of_below (h.below.trans (k.below.mono h.size))
theorem IsX.alloc (h : IsX w w') (o : Obj) : IsX w (w'.alloc o) := IsX.of_below (h.below.alloc h.size o)
theorem IsX.drew (h : IsX w w') : IsX w w'.drew := IsX.of_below h.below.drew
theorem IsX.drewN (h : IsX w w') (n : Nat) : IsX w (w'.drewN n) := IsX.of_below ⟨h.below.os, h.below.tape, h.below.output, h.below.size, h.below.block⟩
theorem IsX.xt (h : IsX w w') (q : Regrown) : IsX w (xt w' q) := h.trans ⟨q, rfl⟩
theorem IsX.setCell (h : IsX w w') {a : Addr} (ha : w.heap.size ≤ a.block) (u : Value) : IsX w (w'.setCell a u) := IsX.of_below (h.below.setCell ha u)
theorem IsX.grown (h : IsX w w') {row : Option Nat} (hg : w'.grownBy w'' row) (hr : ∀ k, row = some k → w.heap.size ≤ k) : IsX w w'' := IsX.of_below (h.below.grown hg h.size hr)
theorem IsX.drawn (h : IsX w w') (n : Nat) : IsX w { w' with drawn := n } := IsX.of_below ⟨h.below.os, h.below.tape, h.below.output, h.below.size, h.below.block⟩
theorem size_xt (w : World) (p : Regrown) : w.heap.size ≤ (xt w p).heap.size := (below_xt w p).size

@[go_sem] theorem cell_xt_past {b i : Nat} (hb : b < w.heap.size) : (xt w p).cell? ⟨b, i, none⟩ = w.cell? ⟨b, i, none⟩ := (below_xt w p).cell (p := ⟨b, i, none⟩) hb
@[go_sem] theorem frozen_xt_past {b i : Nat} (hb : b < w.heap.size) : (xt w p).frozen? ⟨b, i, none⟩ = w.frozen? ⟨b, i, none⟩ := (below_xt w p).frozen (p := ⟨b, i, none⟩) hb
@[go_sem] theorem lt_size_xt {b : Nat} (hb : b < w.heap.size) : (b < (xt w p).heap.size) = True := by
  have := size_xt w p
  simp; omega
@[go_sem] theorem lt_size_xt' {b : Nat} (hb : b < w.heap.size) : (b < (xt w p).heap.size + 1) = True := by
  have := size_xt w p
  simp; omega
@[go_sem] theorem lt_size_succ {b n : Nat} (hb : b < n) : (b < n + 1) = True := by simp; omega
@[go_sem] theorem lt_size_succ2 {b n : Nat} (hb : b < n) : (b < n + 1 + 1) = True := by simp; omega
end

/-- an old cell, in a later world -/
theorem keep {w w' : World} {b i : Nat} {v : Value} (hx : IsX w w') (hb : b < w.heap.size) (hc : w.cell? ⟨b, i, none⟩ = some v) : w'.cell? ⟨b, i, none⟩ = some v :=
  (hx.below.cell (p := ⟨b, i, none⟩) hb).trans hc

/-- A region that draws its order, of which every operation leaves the old blocks alone: walked once, in the order of the text. -/
theorem wp_region_x {P : Program} {id : Nat} {Q : Exit → Act → World → Prop} {a : Act} {w : World} {l : List Oper} (hm : P.follows .mixedOrders = true) (hB : Region.lexB .any l.toArray = true)
    (h : wpQuiet P l.toArray (fun w' => ∃ p : Regrown, w' = xt w p) (fun a' => ∀ w', (∃ p : Regrown, w' = xt w p) → Q .normal a' w') l a) : (Code.region id l.toArray true).wp P Q a w :=
  wp_region_quiet (C := fun w' => ∃ p : Regrown, w' = xt w p) hm hB ⟨⟨w.drawn + 1, #[]⟩, by unfold xt; rw [grow_empty]; rfl⟩ (by simpa using h)
/-- a contract met in a world of the class -/
theorem call_x {P : Program} {f : FuncId} {args : Array Value} {w : World} {p : Regrown} {v : Value}
    (h : Calls P f args (xt w p) fun e w' => e = .returned v ∧ IsX (xt w p) w') : Calls P f args (xt w p) fun e w'' => e = .returned v ∧ ∃ p : Regrown, w'' = xt w p :=
  h.mono fun _ _ ⟨he, hb⟩ => ⟨he, IsX.trans ⟨p, rfl⟩ hb⟩
/-- a contract whose Bool is known -/
theorem cb {P : Program} {f : FuncId} {args : Array Value} {w : World} {b c : Bool} {R : World → Prop} (h : Calls P f args w fun e w' => e = .returned (.bool b) ∧ R w') (hb : b = c) :
    Calls P f args w fun e w' => e = .returned (.bool c) ∧ R w' := hb ▸ h
/-- .. one that leaves the world alone -/
theorem call_q {P : Program} {f : FuncId} {args : Array Value} {w : World} {p : Regrown} {v : Value}
    (h : Calls P f args (xt w p) fun e w' => e = .returned v ∧ xt w p = w') : Calls P f args (xt w p) fun e w'' => e = .returned v ∧ ∃ p : Regrown, w'' = xt w p :=
  h.mono fun _ _ ⟨he, hb⟩ => ⟨he, p, hb.symm⟩

/- ### a block that is known whole -/
def Blk (w : World) (g : Nat) (t : TypeId) (cs : Array Value) : Prop := w.heap[g]? = some (.cells cs t (0, 0))
section
variable {w w' : World} {g : Nat} {t : TypeId} {cs : Array Value}
theorem Blk.lt (h : Blk w g t cs) : g < w.heap.size := by
  rcases Nat.lt_or_ge g w.heap.size with hlt | hge
  · exact hlt
  · unfold Blk at h; rw [Array.getElem?_eq_none hge] at h; cases h
theorem Blk.cell (h : Blk w g t cs) (i : Nat) : w.cell? ⟨g, i, none⟩ = cs[i]? := cell_of_row w g i cs t (0, 0) h
theorem Blk.frozen (h : Blk w g t cs) (i : Nat) : w.frozen? ⟨g, i, none⟩ = false := by
  unfold Blk at h
  simp [World.frozen?, h]
theorem Blk.has {i : Nat} (h : Blk w g t cs) (hi : i < cs.size) : ∃ v, w.cell? ⟨g, i, none⟩ = some v := ⟨cs[i], (h.cell i).trans (Array.getElem?_eq_getElem hi)⟩
theorem Blk.new (w : World) (t : TypeId) (cs : Array Value) : Blk (w.alloc (.cells cs t)) w.heap.size t cs := heap_alloc_new w _
theorem Blk.alloc (h : Blk w g t cs) (o : Obj) : Blk (w.alloc o) g t cs := (Below.heap_alloc w o g h.lt).trans h
theorem Blk.set_ (h : Blk w g t cs) (i : Nat) (u : Value) : Blk (w.setCell ⟨g, i, none⟩ u) g t (cs.setIfInBounds i u) := by
  unfold Blk at h ⊢
  simp [World.setCell, Array.getElem?_modify, h]
theorem Blk.far (h : Blk w g t cs) {p : Addr} (hp : g ≠ p.block) (u : Value) : Blk (w.setCell p u) g t cs := (Below.heap_setCell w p u g hp).trans h
theorem Blk.x (h : Blk w g t cs) (hx : IsX w w') : Blk w' g t cs := (hx.below.block g h.lt).trans h
theorem Blk.grown {row : Option Nat} (h : Blk w g t cs) (hb : w.grownBy w' row) (hg : some g ≠ row) : Blk w' g t cs := (hb.block g h.lt hg).trans h
theorem Blk.own (h : Blk w g t cs) {base k n : Nat} (hb : base ≤ g) (hn : n ≤ maxLen) (hs : cs.size = n * k) : w.ownsRow base t k (.slice (some ⟨g, 0, none⟩) n n) n cs.toList :=
  ⟨by simpa using hs, .inr ⟨g, n, cs, rfl, hb, h, Nat.le_refl _, hn, hs, List.take_of_length_le (by simp [hs])⟩⟩
end

/-- a slice's block, if it has one, is number lo or a later one -/
def From (lo : Nat) (A : Option Addr) : Prop := ∀ b off s, A = some ⟨b, off, s⟩ → lo ≤ b

/- ### a slice that reads as a list of elements, each of k cells -/
def Rd {α : Type} (cells : α → List Value) (k : Nat) (w : World) (A : Option Addr) (xs : List α) : Prop :=
  ∀ i x, xs[i]? = some x → ∃ b off, A = some ⟨b, off, none⟩ ∧ b < w.heap.size ∧ ∀ j u, (cells x)[j]? = some u → w.cell? ⟨b, off + i * k + j, none⟩ = some u
section
variable {α : Type} {cells : α → List Value} {k : Nat} {w w' : World} {A : Option Addr} {xs : List α}
theorem Rd.x (h : Rd cells k w A xs) (hx : IsX w w') : Rd cells k w' A xs := fun i x hi => by
  obtain ⟨b, off, e, hb, hc⟩ := h i x hi
  exact ⟨b, off, e, Nat.lt_of_lt_of_le hb hx.size, fun j u hu => (hx.below.cell (p := ⟨b, off + i * k + j, none⟩) hb).trans (hc j u hu)⟩
theorem Rd.nil (cells : α → List Value) (k : Nat) (w : World) (A : Option Addr) : Rd cells k w A [] := fun i x h => by simp at h
theorem Rd.far (h : Rd cells k w A xs) {a : Addr} (ha : ∀ b off, A = some ⟨b, off, none⟩ → b ≠ a.block) (u : Value) : Rd cells k (w.setCell a u) A xs := fun i x hi => by
  obtain ⟨b, off, e, hb, hc⟩ := h i x hi
  refine ⟨b, off, e, by simpa [World.setCell] using hb, fun j v hu => ?_⟩
  rw [World.cell?_setCell_other]
  · exact hc j v hu
  · intro e2; exact ha b off e (by rw [e2])
theorem flat_at (hk : ∀ x, (cells x).length = k) : ∀ (xs : List α) (i j : Nat) (x : α) (u : Value), xs[i]? = some x → (cells x)[j]? = some u → (xs.flatMap cells)[i * k + j]? = some u
  | [], i, j, x, u, h, _ => by simp at h
  | y :: ys, 0, j, x, u, h, hu => by
    simp at h; subst h
    have hj : j < (cells y).length := (List.getElem?_eq_some_iff.1 hu).1
    simp only [List.flatMap_cons, Nat.zero_mul, Nat.zero_add]
    rw [List.getElem?_append_left hj]; exact hu
  | y :: ys, i + 1, j, x, u, h, hu => by
    simp only [List.getElem?_cons_succ] at h
    have := flat_at hk ys i j x u h hu
    simp only [List.flatMap_cons]
    rw [List.getElem?_append_right (by rw [hk, Nat.add_mul]; omega), hk]
    rw [show (i + 1) * k + j - k = i * k + j by rw [Nat.add_mul]; omega]
    exact this
theorem flat_len (hk : ∀ x, (cells x).length = k) (xs : List α) : (xs.flatMap cells).length = xs.length * k := by
  induction xs with
  | nil => simp
  | cons y ys ih => simp only [List.flatMap_cons, List.length_append, ih, hk, List.length_cons, Nat.add_mul]; omega
theorem Rd.of_own {base t : Nat} {n c : Nat} (h0 : 0 < k) (hk : ∀ x, (cells x).length = k) (h : w.ownsRow base t k (.slice A n c) n (xs.flatMap cells)) : Rd cells k w A xs := fun i x hi => by
  have hil : i < xs.length := (List.getElem?_eq_some_iff.1 hi).1
  have hl := h.1
  rw [flat_len hk] at hl
  have hl := Nat.eq_of_mul_eq_mul_right h0 hl
  rcases h.2 with ⟨_, hn⟩ | ⟨g, cap, cur, hv, hb, hh, _, _, hcs, htake⟩
  · omega
  · injection hv with hA
    subst hA
    refine ⟨g, 0, rfl, (Array.getElem?_eq_some_iff.1 hh).1, fun j u hu => ?_⟩
    have hf := flat_at hk xs i j x u hi hu
    rw [← htake, List.getElem?_take] at hf
    split at hf
    · rw [Nat.zero_add, cell_of_row w g (i * k + j) cur t (0, 0) hh]
      simpa using hf
    · cases hf
/-- a row of the call's own that holds the elements xs -/
def Own {α : Type} (cells : α → List Value) (k t : Nat) (w : World) (base : Nat) (v : Value) (xs : List α) : Prop := w.ownsRow base t k v xs.length (xs.flatMap cells)
theorem Own.rd {base t n c : Nat} (h0 : 0 < k) (hk : ∀ x, (cells x).length = k) (h : Own cells k t w base (.slice A n c) xs) (hn : n = xs.length) : Rd cells k w A xs := by
  subst hn; exact Rd.of_own h0 hk h
theorem Blk.rd {g t : Nat} (hk : ∀ x, (cells x).length = k) (h : Blk w g t (xs.flatMap cells).toArray) : Rd cells k w (some ⟨g, 0, none⟩) xs := fun i x hi => by
  refine ⟨g, 0, rfl, h.lt, fun j u hu => ?_⟩
  rw [Nat.zero_add, h.cell, List.getElem?_toArray]
  exact flat_at hk xs i j x u hi hu
theorem Blk.own' {g t base : Nat} (hk : ∀ x, (cells x).length = k) (h : Blk w g t (xs.flatMap cells).toArray) (hb : base ≤ g) (hn : xs.length ≤ maxLen) : Own cells k t w base (.slice (some ⟨g, 0, none⟩) xs.length xs.length) xs := by
  have := h.own (base := base) (k := k) (n := xs.length) hb hn (by rw [List.size_toArray, flat_len hk])
  simpa [Own] using this
theorem Own.x {base t : Nat} {v : Value} (h : Own cells k t w base v xs) (hx : IsX w w') : Own cells k t w' base v xs := by
  refine ⟨h.1, ?_⟩
  rcases h.2 with h2 | ⟨g, cap, cur, hv, hb, hh, r⟩
  · exact .inl h2
  · exact .inr ⟨g, cap, cur, hv, hb, (hx.below.block g (Array.getElem?_eq_some_iff.1 hh).1).trans hh, r⟩
theorem Own.mono {base base' t : Nat} {v : Value} (h : Own cells k t w base v xs) (hb : base' ≤ base) : Own cells k t w base' v xs := by
  refine ⟨h.1, ?_⟩
  rcases h.2 with h2 | ⟨g, cap, cur, hv, hg, r⟩
  · exact .inl h2
  · exact .inr ⟨g, cap, cur, hv, Nat.le_trans hb hg, r⟩
end

/-- what a size function hands back: what is left, or -1 -/
def SzPost (left : Int) (n : Nat) (w : World) (e : Ending) (w' : World) : Prop := ∃ m : Int, e = .returned (.int .i64 m) ∧ -1 ≤ m ∧ m ≤ left ∧ (m < 0 ∨ (n : Int) ≤ left) ∧ IsX w w'

/-- the same, with what is known where something is left -/
def SzQ (left : Int) (Q : Prop) (w : World) (e : Ending) (w' : World) : Prop := ∃ m : Int, e = .returned (.int .i64 m) ∧ -1 ≤ m ∧ m ≤ left ∧ (m < 0 ∨ Q) ∧ IsX w w'

/-- a row of xs.length elements that is being filled: the first k elements stand -/
def Filled {α : Type} (cells : α → List Value) (m t : Nat) (w wr : World) (g : Nat) (xs : List α) (k : Nat) : Prop :=
  IsX w wr ∧ ∃ cur, Blk wr g t cur ∧ cur.size = xs.length * m ∧ ∀ j, j < k * m → cur[j]? = (xs.flatMap cells)[j]?

/-- cells stored one behind the other -/
def putAll (w : World) (g : Nat) : Nat → List Value → World
  | _, [] => w
  | o, v :: vs => putAll (w.setCell ⟨g, o, none⟩ v) g (o + 1) vs
theorem putAll_x {w0 : World} (g : Nat) (hg : w0.heap.size ≤ g) : ∀ (vs : List Value) (o : Nat) (w : World), IsX w0 w → IsX w0 (putAll w g o vs)
  | [], _, _, h => h
  | v :: vs, o, w, h => putAll_x g hg vs (o + 1) _ (h.setCell (a := ⟨g, o, none⟩) hg v)
theorem putAll_blk (g t : Nat) : ∀ (vs : List Value) (o : Nat) (w : World) (cur : Array Value), Blk w g t cur → o + vs.length ≤ cur.size →
    ∃ cur', Blk (putAll w g o vs) g t cur' ∧ cur'.size = cur.size ∧ (∀ j, j < o → cur'[j]? = cur[j]?) ∧ (∀ j u, vs[j]? = some u → cur'[o + j]? = some u) ∧ (∀ j, o + vs.length ≤ j → cur'[j]? = cur[j]?)
  | [], o, w, cur, h, _ => ⟨cur, h, rfl, fun _ _ => rfl, fun j u hu => by simp at hu, fun _ _ => rfl⟩
  | v :: vs, o, w, cur, h, hs => by
    simp only [List.length_cons] at hs
    obtain ⟨cur', hb, hz, hlo, hmid, hhi⟩ := putAll_blk g t vs (o + 1) _ _ (h.set_ o v) (by simp; omega)
    refine ⟨cur', hb, by simpa using hz, fun j hj => ?_, fun j u hu => ?_, fun j hj => ?_⟩
    · rw [hlo j (by omega), Array.getElem?_setIfInBounds, if_neg (by omega)]
    · cases j with
      | zero =>
        simp at hu; subst hu
        rw [Nat.add_zero, hlo o (by omega), Array.getElem?_setIfInBounds, if_pos rfl, if_pos (by omega)]
      | succ j =>
        simp only [List.getElem?_cons_succ] at hu
        have := hmid j u hu
        rwa [show o + (j + 1) = o + 1 + j by omega]
    · simp only [List.length_cons] at hj
      rw [hhi j (by omega), Array.getElem?_setIfInBounds, if_neg (by omega)]
theorem putAll_far {β : Type} {cells : β → List Value} {k : Nat} {A : Option Addr} {xs : List β} (g : Nat) (hA : ∀ b off, A = some ⟨b, off, none⟩ → b ≠ g) : ∀ (vs : List Value) (o : Nat) (w : World), Rd cells k w A xs → Rd cells k (putAll w g o vs) A xs
  | [], _, _, h => h
  | v :: vs, o, w, h => putAll_far g hA vs (o + 1) _ (h.far (a := ⟨g, o, none⟩) hA v)
theorem putAll_blk_far {t h : Nat} {cs : Array Value} (g : Nat) (hg : h ≠ g) : ∀ (vs : List Value) (o : Nat) (w : World), Blk w h t cs → Blk (putAll w g o vs) h t cs
  | [], _, _, hb => hb
  | v :: vs, o, w, hb => putAll_blk_far g hg vs (o + 1) _ (hb.far (p := ⟨g, o, none⟩) hg v)
/-- a row that is being filled with elements that are made on the way: the first k stand -/
def FillN {α : Type} (cells : α → List Value) (m t : Nat) (n : Nat) (w wr : World) (g : Nat) (rs : List α) : Prop :=
  IsX w wr ∧ ∃ cur, Blk wr g t cur ∧ cur.size = n * m ∧ ∀ j, j < rs.length * m → cur[j]? = (rs.flatMap cells)[j]?
theorem FillN.start {α : Type} {cells : α → List Value} {m t n : Nat} {w : World} (wr : World) (hx : IsX w wr) (cs : Array Value) (hs : cs.size = n * m) : FillN cells m t n w (wr.alloc (.cells cs t)) wr.heap.size [] :=
  ⟨hx.alloc _, cs, Blk.new _ _ _, hs, fun j hj => by simp at hj⟩
theorem FillN.step {α : Type} {cells : α → List Value} {m t n : Nat} {w : World} {g k : Nat} {rs : List α} {x : α} {w1 : World} {cur : Array Value} (hB : Blk w1 g t cur) (hcs : cur.size = n * m)
    (hcur : ∀ j, j < rs.length * m → cur[j]? = (rs.flatMap cells)[j]?) (hrs : rs.length = k) (hk : k < n) (hm : ∀ x, (cells x).length = m) (hx1 : IsX w w1) (hg : w.heap.size ≤ g) :
    FillN cells m t n w (putAll w1 g (k * m) (cells x)) g (rs ++ [x]) := by
  subst hrs
  have hfit : rs.length * m + m ≤ n * m := by rw [← Nat.succ_mul]; exact Nat.mul_le_mul_right _ hk
  obtain ⟨cur', hb, hz, hlo, hmid, hhi⟩ := putAll_blk g t (cells x) (rs.length * m) w1 cur hB (by rw [hm, hcs]; exact hfit)
  have hfl : (rs.flatMap cells).length = rs.length * m := flat_len hm rs
  refine ⟨putAll_x g hg _ _ _ hx1, cur', hb, by rw [hz, hcs], fun j hj => ?_⟩
  simp only [List.length_append, List.length_cons, List.length_nil, Nat.zero_add, Nat.add_mul, Nat.one_mul] at hj
  simp only [List.flatMap_append, List.flatMap_cons, List.flatMap_nil, List.append_nil]
  rcases Nat.lt_or_ge j (rs.length * m) with h | h
  · rw [hlo j h, hcur j h, List.getElem?_append_left (by omega)]
  · obtain ⟨i, rfl⟩ : ∃ i, j = rs.length * m + i := ⟨j - rs.length * m, by omega⟩
    have hi : i < (cells x).length := by rw [hm]; omega
    rw [hmid i _ (List.getElem?_eq_getElem hi), List.getElem?_append_right (by omega), hfl, Nat.add_sub_cancel_left, List.getElem?_eq_getElem hi]
theorem FillN.done {α : Type} {cells : α → List Value} {m t n : Nat} {w wr : World} {g : Nat} {rs : List α} (h : FillN cells m t n w wr g rs) (hn : rs.length = n) (hm : ∀ x, (cells x).length = m) : Blk wr g t (rs.flatMap cells).toArray ∧ IsX w wr := by
  subst hn
  obtain ⟨hx, cur, hB, hcs, hcur⟩ := h
  refine ⟨?_, hx⟩
  have hl : (rs.flatMap cells).toArray.size = rs.length * m := by rw [List.size_toArray, flat_len hm]
  have : cur = (rs.flatMap cells).toArray := by
    apply Array.ext_getElem?
    intro j
    rcases Nat.lt_or_ge j (rs.length * m) with h | h
    · rw [hcur j h, List.getElem?_toArray]
    · rw [Array.getElem?_eq_none (by omega), Array.getElem?_eq_none (by omega)]
  rw [← this]; exact hB
section
variable {α : Type} {cells : α → List Value} {m t : Nat} {w wr : World} {g : Nat} {xs : List α}
theorem Filled.start (wr : World) (hx : IsX w wr) (cs : Array Value) (hs : cs.size = xs.length * m) : Filled cells m t w (wr.alloc (.cells cs t)) wr.heap.size xs 0 :=
  ⟨hx.alloc _, cs, Blk.new _ _ _, hs, fun j hj => by omega⟩
theorem Filled.step {k : Nat} {x : α} {w1 : World} {cur : Array Value} (hB : Blk w1 g t cur) (hcs : cur.size = xs.length * m) (hcur : ∀ j, j < k * m → cur[j]? = (xs.flatMap cells)[j]?)
    (hx : xs[k]? = some x) (hm : ∀ x, (cells x).length = m) (hx1 : IsX w w1) (hg : w.heap.size ≤ g) : Filled cells m t w (putAll w1 g (k * m) (cells x)) g xs (k + 1) := by
  have hk : k < xs.length := (List.getElem?_eq_some_iff.1 hx).1
  have hfit : k * m + m ≤ xs.length * m := by
    rw [← Nat.succ_mul]; exact Nat.mul_le_mul_right _ hk
  obtain ⟨cur', hb, hz, hlo, hmid, hhi⟩ := putAll_blk g t (cells x) (k * m) w1 cur hB (by rw [hm, hcs]; exact hfit)
  refine ⟨putAll_x g hg _ _ _ hx1, cur', hb, by rw [hz, hcs], fun j hj => ?_⟩
  rcases Nat.lt_or_ge j (k * m) with h | h
  · rw [hlo j h, hcur j h]
  · rw [Nat.add_mul, Nat.one_mul] at hj
    obtain ⟨i, rfl⟩ : ∃ i, j = k * m + i := ⟨j - k * m, by omega⟩
    have hi : i < (cells x).length := by rw [hm]; omega
    rw [hmid i _ (List.getElem?_eq_getElem hi), flat_at hm xs k i x _ hx (List.getElem?_eq_getElem hi)]
theorem Filled.done (h : Filled cells m t w wr g xs xs.length) (hm : ∀ x, (cells x).length = m) : Blk wr g t (xs.flatMap cells).toArray ∧ IsX w wr := by
  obtain ⟨hx, cur, hB, hcs, hcur⟩ := h
  refine ⟨?_, hx⟩
  have hl : (xs.flatMap cells).toArray.size = xs.length * m := by rw [List.size_toArray, flat_len hm]
  have : cur = (xs.flatMap cells).toArray := by
    apply Array.ext_getElem?
    intro j
    rcases Nat.lt_or_ge j (xs.length * m) with h | h
    · rw [hcur j h, List.getElem?_toArray]
    · rw [Array.getElem?_eq_none (by omega), Array.getElem?_eq_none (by omega)]
  rw [← this]; exact hB
end

theorem run_make_rowN {P : Program} (t e : TypeId) (i : TypeInfo) (z : Value) (ht : P.underlying t = some (.slice e)) (hi : P.info? e = some i) (hz : i.zero = some z)
    (kl kc : IntKind) (n c : Nat) (hnc : n ≤ c) (hbytes : i.bytes * c ≤ 281474976710656) (h63 : c ≤ 9223372036854775807) (w : World) :
    (Instr.makeSlice t (.int kl (n : Int)) (.int kc (c : Int))).run P w = .ok (.slice (some ⟨w.heap.size, 0, none⟩) n c) (w.alloc (.cells (madeCells z.cells (c * i.size)) e)) := by
  have hb : (i.bytes : Int) * (c : Int) ≤ 281474976710656 := by
    have h : ((i.bytes * c : Nat) : Int) ≤ 281474976710656 := by omega
    rwa [Int.natCast_mul] at h
  have hr := run_make (P := P) w t e i z ht hi hz kl kc n c (by omega) (by omega) hb (by omega)
  simp only [Int.toNat_natCast] at hr
  exact hr
end Go.Proofs.YtfcfgkkkepifhaaGreatDoor
