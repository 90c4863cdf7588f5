/- Rows of pairs of numbers, each pair in a block of its own: equal rows, marks, and marks found. Conditions: lists no longer than 2^20. -/
import Derived.Test.YtmipphgekcdaoaaGreatDoorMarks
import Derived.Test.YtmipphgekcdaoaaGreatDoorLInt64
namespace Go.Proofs.YtmipphgekcdaoaaGreatDoor
set_option linter.unusedVariables false
open Go.RowKit

theorem PairS_info : (Tryz.prog.info? 25).map (fun i => (i.zero, i.size, i.bytes)) = some (some (.slice none 0 0), 1, 24) := by kernel_rfl
theorem nodup_at {α : Type} {gs : List α} (h : gs.Nodup) {i j : Nat} (hi : i < gs.length) (hj : j < gs.length) (e : gs[i] = gs[j]) : i = j :=
  (List.getElem?_inj hi h).1 (by rw [List.getElem?_eq_getElem hi, List.getElem?_eq_getElem hj, e])
def pairV (g : Nat) : Value := .slice (some ⟨g, 0, none⟩) 2 2
def pairC (z : Int × Int) : Array Value := #[.int .i64 z.1, .int .i64 z.2]
theorem pair_one (g : Nat) : ∀ x ∈ [pairV g], x.oneCell' = true := by
  intro x hx
  simp only [List.mem_singleton] at hx
  subst hx; rfl
/-- a row of the call's own whose elements are pairs, each in a block of its own -/
structure PairRow (w : World) (base : Nat) (v : Value) (zs : List (Int × Int)) (gs : List Nat) : Prop where
  len : gs.length = zs.length
  row : w.ownsRow base 25 1 v zs.length (gs.map pairV)
  far : ∀ g ∈ gs, base ≤ g ∧ v.ownBlock ≠ some g
  nodup : gs.Nodup
  blk : ∀ i (h : i < zs.length) (h' : i < gs.length), Blk w gs[i] 2 (pairC zs[i])
section
variable {w w' : World} {base : Nat} {v : Value} {zs : List (Int × Int)} {gs : List Nat}
theorem PairRow.nil (w : World) (base : Nat) : PairRow w base (.slice none 0 0) [] [] :=
  ⟨rfl, World.ownsRow_nil _ _ _ _, fun g h => by simp at h, List.nodup_nil, fun i h => by simp at h⟩
theorem PairRow.made (w : World) : PairRow (w.alloc (.cells #[] 25)) w.heap.size (.slice (some ⟨w.heap.size, 0, none⟩) 0 0) [] [] :=
  ⟨rfl, World.ownsRow_made w #[] 0 (Nat.le_refl _) (by simp [maxLen]) rfl, fun g h => by simp at h, List.nodup_nil, fun i h => by simp at h⟩
theorem PairRow.x (h : PairRow w base v zs gs) (hx : IsX w w') : PairRow w' base v zs gs :=
  ⟨h.len, own_x h.row hx, h.far, h.nodup, fun i h1 h2 => (h.blk i h1 h2).x hx⟩
theorem PairRow.mono {base' : Nat} (h : PairRow w base v zs gs) (hb : base' ≤ base) : PairRow w base' v zs gs :=
  ⟨h.len, by
    refine ⟨h.row.1, ?_⟩
    rcases h.row.2 with h2 | ⟨g, cap, cur, hv, hg, r⟩
    · exact .inl h2
    · exact .inr ⟨g, cap, cur, hv, Nat.le_trans hb hg, r⟩, fun g hg => ⟨Nat.le_trans hb (h.far g hg).1, (h.far g hg).2⟩, h.nodup, h.blk⟩
theorem PairRow.lt (h : PairRow w base v zs gs) : ∀ g ∈ gs, g < w.heap.size := fun g hg => by
  obtain ⟨i, hi, rfl⟩ := List.getElem_of_mem hg
  exact (h.blk i (by have := h.len; omega) hi).lt
theorem PairRow.under {g : Nat} (h : PairRow w base v zs gs) (hg : w.grownBy w' (some g)) (hlt : g < base) : PairRow w' base v zs gs :=
  ⟨h.len, own_under h.row hg hlt, h.far, h.nodup, fun i h1 h2 => (h.blk i h1 h2).grown hg (fun e => by injection e with e; have := (h.far _ (List.getElem_mem h2)).1; omega)⟩
theorem PairRow.cell {A : Option Addr} {n c : Nat} (h : PairRow w base (.slice A n c) zs gs) (i : Nat) (hi : i < gs.length) : ∃ g0, A = some ⟨g0, 0, none⟩ ∧ g0 < w.heap.size ∧ w.cell? ⟨g0, i, none⟩ = some (pairV gs[i]) := by
  have hl := h.len
  rcases h.row.2 with ⟨_, h0⟩ | ⟨b, cap, cur, hv, hb, hh, _, _, _, ht⟩
  · omega
  · injection hv with hA _ _
    subst hA
    refine ⟨b, rfl, (Array.getElem?_eq_some_iff.1 hh).1, ?_⟩
    rw [cell_of_row w b i cur _ (0, 0) hh, ← Array.getElem?_toList]
    have := congrArg (fun z => z[i]?) ht
    simp only [List.getElem?_take, List.getElem?_map, List.getElem?_eq_getElem hi, Option.map_some] at this
    rw [if_pos (by omega)] at this
    exact this
theorem pair_reads (W : World) (o : Obj) (u : Value) (t : Nat) : Reads ((W.alloc o).alloc (.cells #[u] t)) ((W.alloc o).alloc (.cells #[u] t)).heap.size 1 (some ⟨W.heap.size + 1, 0, none⟩) 1 [u] := by
  refine ⟨rfl, fun _ => ⟨⟨W.heap.size + 1, 0, none⟩, rfl, by simp, fun j x hx => ?_⟩⟩
  cases j with
  | zero =>
    have hb := (Blk.new (W.alloc o) t #[u]).cell 0
    simp at hx hb
    rw [← hx]; simp [Addr.add, hb]
  | succ j => simp at hx
theorem PairRow.push {w4 : World} {v1 : Value} {z : Int × Int} {o : Obj} (h : PairRow w base v zs gs) (hbase : base ≤ w.heap.size)
    (hrow : w4.ownsRow base 25 1 v1 (zs.length + 1) (gs.map pairV ++ [pairV w.heap.size])) (hg : ((w.alloc (.cells (pairC z) 2)).alloc o).grownBy w4 v.ownBlock)
    (hat : v1.ownBlock = v.ownBlock ∨ v1.ownBlock = some ((w.alloc (.cells (pairC z) 2)).alloc o).heap.size) : PairRow w4 base v1 (zs ++ [z]) (gs ++ [w.heap.size]) := by
  have hlt := h.lt
  have hv : ∀ b, v.ownBlock = some b → b < w.heap.size := fun b hb => (h.row.lt b hb).2
  have hl := h.len
  refine ⟨by simp [hl], by rw [List.map_append, List.length_append]; exact hrow, fun g hgm => ?_, ?_, fun i h1 h2 => ?_⟩
  · rcases List.mem_append.1 hgm with hm | hm
    · refine ⟨(h.far g hm).1, fun e => ?_⟩
      rcases hat with ha | ha
      · exact (h.far g hm).2 (ha ▸ e)
      · rw [ha] at e; injection e with e; have := hlt g hm; simp at e; omega
    · simp only [List.mem_singleton] at hm
      subst hm
      refine ⟨hbase, fun e => ?_⟩
      rcases hat with ha | ha
      · have := hv _ (ha ▸ e); omega
      · rw [ha] at e; injection e with e; simp at e; omega
  · rw [List.nodup_append]
    refine ⟨h.nodup, by simp, fun a ha b hb e => ?_⟩
    simp only [List.mem_singleton] at hb
    subst hb e
    exact Nat.lt_irrefl _ (hlt _ ha)
  · by_cases e : i < gs.length
    · simp only [List.getElem_append_left e, List.getElem_append_left (show i < zs.length by omega)]
      have hb := h.blk i (by omega) e
      exact ((hb.alloc _).alloc _).grown hg (fun e2 => (h.far _ (List.getElem_mem e)).2 e2.symm)
    · have ei : i = gs.length := by simp at h2; omega
      subst ei
      simp only [List.getElem_concat_length, List.getElem_append_right (show zs.length ≤ gs.length by omega)]
      have : (gs.length - zs.length) = 0 := by omega
      simp only [this, List.getElem_cons_zero]
      exact ((Blk.new w _ _).alloc _).grown hg (fun e2 => by have := hv _ e2.symm; omega)
theorem PairRow.touch {i : Nat} {z : Int × Int} (h : PairRow w base v zs gs) (hi : i < gs.length) (hg : w.grownBy w' (some gs[i])) (hb : Blk w' gs[i] 2 (pairC z)) : PairRow w' base v (zs.set i z) gs := by
  refine ⟨by simp [h.len], ?_, h.far, h.nodup, fun j h1 h2 => ?_⟩
  · have := h.row.kept hg (by
      cases hv : v.ownBlock with
      | none => exact .inl rfl
      | some k => exact .inr (fun e => (h.far _ (List.getElem_mem hi)).2 (hv.trans e)))
    simpa using this
  · rw [List.getElem_set]
    by_cases e : i = j
    · subst e; simpa using hb
    · rw [if_neg e]
      have hj : j < zs.length := by simpa using h1
      refine (h.blk j hj h2).grown hg (fun e2 => ?_)
      injection e2 with e2
      exact e (nodup_at h.nodup hi h2 e2.symm)
theorem pair_rd {g : Nat} {z : Int × Int} (h : Blk w g 2 (pairC z)) : Rd intC 1 w (some ⟨g, 0, none⟩) [z.1, z.2] := Blk.rd intC_len h
theorem own2_blk {g b : Nat} {L : List Value} {a1 a2 : Value} (h : w.ownsRow b 2 1 (.slice (some ⟨g, 0, none⟩) 2 2) 2 L) (h0 : L[0]? = some a1) (h1 : L[1]? = some a2) : Blk w g 2 #[a1, a2] := by
  rcases h.2 with ⟨h2, _⟩ | ⟨g', cap, cur, hv, _, hh, _, _, hsz, ht⟩
  · cases h2
  · injection hv with hA _ hc
    injection hA with hA
    injection hA with hA
    subst hA hc
    have hL : L = [a1, a2] := by
      have := h.1
      match L, this, h0, h1 with
      | [x, y], _, h0, h1 => simp at h0 h1; rw [h0, h1]
    have hcur : cur = #[a1, a2] := by
      apply Array.ext'
      rw [← hL, ← ht]
      exact (List.take_of_length_le (by simp [hsz])).symm
    rw [hcur] at hh
    exact hh
end
/-- pairs and a code: the pairs are the call's own -/
def PrPost (w : World) (zs : List (Int × Int)) (code : Int) (e : Ending) (w' : World) : Prop :=
  ∃ A c gs, e = .returned (.tuple #[.slice A zs.length c, .int .i64 code]) ∧ PairRow w' w.heap.size (.slice A zs.length c) zs gs ∧ IsX w w'
def mkPairs (k : Int) (n : Nat) : List (Int × Int) := (List.range n).map fun (i : Nat) => (k + (i : Int) * 2, k + (i : Int) * 2 + 1)
theorem mkPairs_len (k : Int) (n : Nat) : (mkPairs k n).length = n := by simp [mkPairs]
theorem mkPairs_step {k : Int} {zs : List (Int × Int)} {i : Nat} (hi : i < zs.length) : (mkPairs k i ++ zs.drop i).set i (k + (i : Int) * 2, k + (i : Int) * 2 + 1) = mkPairs k (i + 1) ++ zs.drop (i + 1) := by
  rw [List.set_append_right _ _ (by rw [mkPairs_len]; exact Nat.le_refl _), mkPairs_len, Nat.sub_self, List.drop_eq_getElem_cons hi, List.set_cons_zero]
  simp [mkPairs, List.range_succ]

end Go.Proofs.YtmipphgekcdaoaaGreatDoor
