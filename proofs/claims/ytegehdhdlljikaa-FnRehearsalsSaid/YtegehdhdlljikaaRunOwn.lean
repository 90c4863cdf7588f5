/- Rows of runs of the call's own, each run's own slices in blocks of their own. Conditions: none. -/
import Derived.Test.YtegehdhdlljikaaMarks
import Derived.Test.YtegehdhdlljikaaNestRun
namespace Go.Proofs.Ytegehdhdlljikaa
set_option linter.unusedVariables false
open Go.RowKit

/-- a run as it lies in a result: its day, and its two slices with what they hold -/
structure RunE where
  day : Value
  ca : Option Addr
  cn : Nat
  cc : Nat
  cl : List Value
  ra : Option Addr
  rn : Nat
  rc : Nat
  rl : List Value
def RunE.cv (e : RunE) : Value := .slice e.ca e.cn e.cc
def RunE.rv (e : RunE) : Value := .slice e.ra e.rn e.rc
def RunE.cells (e : RunE) : List Value := [e.day, e.cv, e.rv]
theorem RunE.cells_len (e : RunE) : e.cells.length = 3 := rfl
def Apt (a b : Value) : Prop := ∀ g, a.ownBlock = some g → b.ownBlock ≠ some g
theorem Apt.symm {a b : Value} (h : Apt a b) : Apt b a := fun g hb ha => h g ha hb
theorem own_type {w : World} {b1 e1 k1 n1 b2 e2 k2 n2 : Nat} {v1 v2 : Value} {L1 L2 : List Value} (h1 : w.ownsRow b1 e1 k1 v1 n1 L1) (h2 : w.ownsRow b2 e2 k2 v2 n2 L2) (hne : e1 ≠ e2) : v1.ownBlock = none ∨ v1.ownBlock ≠ v2.ownBlock := by
  rcases h1.2 with ⟨rfl, _⟩ | ⟨g1, c1, cur1, rfl, _, hh1, _⟩
  · exact .inl rfl
  · refine .inr fun e => ?_
    rcases h2.2 with ⟨rfl, _⟩ | ⟨g2, c2, cur2, rfl, _, hh2, _⟩
    · cases e
    · have eg : g1 = g2 := by injection e
      subst eg
      rw [hh1] at hh2
      injection hh2 with hh2
      injection hh2 with _ hh2
      exact hne hh2
/-- a row of runs of the call's own -/
structure RunRow (w : World) (base : Nat) (v : Value) (es : List RunE) : Prop where
  row : w.ownsRow base 31 3 v es.length (es.flatMap RunE.cells)
  cue : ∀ e ∈ es, w.ownsRow base 9 1 e.cv e.cn e.cl
  rem : ∀ e ∈ es, w.ownsRow base 28 4 e.rv e.rn e.rl
  sepC : (es.map RunE.cv).Pairwise Apt
  sepR : (es.map RunE.rv).Pairwise Apt
theorem map_set_eq {α β : Type} {f : α → β} {xs : List α} {i : Nat} {y : α} (hi : i < xs.length) (h : f y = f xs[i]) : (xs.set i y).map f = xs.map f := by
  apply List.ext_getElem
  · simp
  · intro j h1 h2
    rw [List.getElem_map, List.getElem_map, List.getElem_set]
    split
    · rename_i e; subst e; exact h
    · rfl
theorem flat_set_eq {α β : Type} {f : α → List β} {xs : List α} {i : Nat} {y : α} (hi : i < xs.length) (h : f y = f xs[i]) : (xs.set i y).flatMap f = xs.flatMap f := by
  rw [List.flatMap_def, List.flatMap_def, map_set_eq hi h]
theorem mem_set {α : Type} {xs : List α} {i : Nat} {y e : α} (h : e ∈ xs.set i y) : e = y ∨ ∃ (j : Nat) (hj : j < xs.length), j ≠ i ∧ xs[j] = e := by
  obtain ⟨j, hj, rfl⟩ := List.getElem_of_mem h
  rw [List.getElem_set]
  have hj' : j < xs.length := by simpa using hj
  by_cases e : i = j
  · rw [if_pos e]; exact .inl rfl
  · rw [if_neg e]; exact .inr ⟨j, hj', fun h => e h.symm, rfl⟩
theorem pair_at {α : Type} {R : α → α → Prop} (hs : ∀ a b, R a b → R b a) {xs : List α} (h : xs.Pairwise R) {i j : Nat} (hi : i < xs.length) (hj : j < xs.length) (hne : i ≠ j) : R xs[i] xs[j] := by
  rw [List.pairwise_iff_getElem] at h
  rcases Nat.lt_or_gt_of_ne hne with h1 | h1
  · exact h i j hi hj h1
  · exact hs _ _ (h j i hj hi h1)
theorem kept_apt {v : Value} {g : Option Nat} (h : ∀ k, g = some k → v.ownBlock ≠ some k) : v.ownBlock = none ∨ v.ownBlock ≠ g := by
  cases hv : v.ownBlock with
  | none => exact .inl rfl
  | some k => exact .inr (fun e => h k e.symm hv)
section
variable {w w' : World} {base : Nat} {v : Value} {es : List RunE}
theorem RunRow.nil (w : World) (base : Nat) : RunRow w base (.slice none 0 0) [] := ⟨World.ownsRow_nil _ _ _ _, fun e h => by simp at h, fun e h => by simp at h, List.Pairwise.nil, List.Pairwise.nil⟩
theorem RunRow.made (w : World) : RunRow (w.alloc (.cells #[] 31)) w.heap.size (.slice (some ⟨w.heap.size, 0, none⟩) 0 0) [] :=
  ⟨World.ownsRow_made w #[] 0 (Nat.le_refl _) (by simp [maxLen]) rfl, fun e h => by simp at h, fun e h => by simp at h, List.Pairwise.nil, List.Pairwise.nil⟩
theorem RunRow.x (h : RunRow w base v es) (hx : IsX w w') : RunRow w' base v es := ⟨own_x h.row hx, fun e he => own_x (h.cue e he) hx, fun e he => own_x (h.rem e he) hx, h.sepC, h.sepR⟩
theorem own_mono {b b' e k n : Nat} {u : Value} {L : List Value} (h : w.ownsRow b e k u n L) (hb : b' ≤ b) : w.ownsRow b' e k u n L := by
  refine ⟨h.1, ?_⟩
  rcases h.2 with h2 | ⟨g, cap, cur, hv, hg, r⟩
  · exact .inl h2
  · exact .inr ⟨g, cap, cur, hv, Nat.le_trans hb hg, r⟩
theorem RunRow.mono {base' : Nat} (h : RunRow w base v es) (hb : base' ≤ base) : RunRow w base' v es := ⟨own_mono h.row hb, fun e he => own_mono (h.cue e he) hb, fun e he => own_mono (h.rem e he) hb, h.sepC, h.sepR⟩
theorem RunRow.under {g : Nat} (h : RunRow w base v es) (hg : w.grownBy w' (some g)) (hlt : g < base) : RunRow w' base v es :=
  ⟨own_under h.row hg hlt, fun e he => own_under (h.cue e he) hg hlt, fun e he => own_under (h.rem e he) hg hlt, h.sepC, h.sepR⟩
theorem RunRow.aptC (h : RunRow w base v es) {i j : Nat} (hi : i < es.length) (hj : j < es.length) (hne : i ≠ j) : Apt es[i].cv es[j].cv := by
  have := pair_at (fun a b => Apt.symm) h.sepC (i := i) (j := j) (by simpa using hi) (by simpa using hj) hne
  simpa using this
theorem RunRow.aptR (h : RunRow w base v es) {i j : Nat} (hi : i < es.length) (hj : j < es.length) (hne : i ≠ j) : Apt es[i].rv es[j].rv := by
  have := pair_at (fun a b => Apt.symm) h.sepR (i := i) (j := j) (by simpa using hi) (by simpa using hj) hne
  simpa using this
/-- the cues of one run have been written -/
theorem RunRow.putC {i : Nat} {L : List Value} (h : RunRow w base v es) (hi : i < es.length) (hg : w.grownBy w' es[i].cv.ownBlock) (ho : w'.ownsRow base 9 1 es[i].cv es[i].cn L) : RunRow w' base v (es.set i { es[i] with cl := L }) := by
  have hc := h.cue _ (List.getElem_mem hi)
  refine ⟨?_, fun e he => ?_, fun e he => ?_, by rw [map_set_eq (f := RunE.cv) (y := { es[i] with cl := L }) hi rfl]; exact h.sepC, by rw [map_set_eq (f := RunE.rv) (y := { es[i] with cl := L }) hi rfl]; exact h.sepR⟩
  · rw [flat_set_eq (f := RunE.cells) (y := { es[i] with cl := L }) hi rfl, List.length_set]; exact h.row.kept hg (own_type h.row hc (by omega))
  · rcases mem_set he with rfl | ⟨j, hj, hne, rfl⟩
    · exact ho
    · exact (h.cue _ (List.getElem_mem hj)).kept hg (kept_apt (fun k hk => (h.aptC hi hj (fun e => hne e.symm)) k hk))
  · rcases mem_set he with rfl | ⟨j, hj, hne, rfl⟩
    · exact (h.rem _ (List.getElem_mem hi)).kept hg (own_type (h.rem _ (List.getElem_mem hi)) hc (by omega))
    · exact (h.rem _ (List.getElem_mem hj)).kept hg (own_type (h.rem _ (List.getElem_mem hj)) hc (by omega))
/-- the notes of one run have been written -/
theorem RunRow.putR {i : Nat} {L : List Value} (h : RunRow w base v es) (hi : i < es.length) (hg : w.grownBy w' es[i].rv.ownBlock) (ho : w'.ownsRow base 28 4 es[i].rv es[i].rn L) : RunRow w' base v (es.set i { es[i] with rl := L }) := by
  have hc := h.rem _ (List.getElem_mem hi)
  refine ⟨?_, fun e he => ?_, fun e he => ?_, by rw [map_set_eq (f := RunE.cv) (y := { es[i] with rl := L }) hi rfl]; exact h.sepC, by rw [map_set_eq (f := RunE.rv) (y := { es[i] with rl := L }) hi rfl]; exact h.sepR⟩
  · rw [flat_set_eq (f := RunE.cells) (y := { es[i] with rl := L }) hi rfl, List.length_set]; exact h.row.kept hg (own_type h.row hc (by omega))
  · rcases mem_set he with rfl | ⟨j, hj, hne, rfl⟩
    · exact (h.cue _ (List.getElem_mem hi)).kept hg (own_type (h.cue _ (List.getElem_mem hi)) hc (by omega))
    · exact (h.cue _ (List.getElem_mem hj)).kept hg (own_type (h.cue _ (List.getElem_mem hj)) hc (by omega))
  · rcases mem_set he with rfl | ⟨j, hj, hne, rfl⟩
    · exact ho
    · exact (h.rem _ (List.getElem_mem hj)).kept hg (kept_apt (fun k hk => (h.aptR hi hj (fun e => hne e.symm)) k hk))
theorem gr_set' (w : World) (g j : Nat) (u : Value) : w.grownBy (w.setCell ⟨g, j, none⟩ u) (some g) := gr_set (gr_refl w (some g)) j u
theorem flat_set_at {α : Type} {cells : α → List Value} {k : Nat} (hk : ∀ x, (cells x).length = k) {i : Nat} {y : α} {j : Nat} {u : Value} : ∀ {xs : List α} (hi : i < xs.length), cells y = (cells xs[i]).set j u → j < k → (xs.set i y).flatMap cells = (xs.flatMap cells).set (i * k + j) u := by
  induction i with
  | zero =>
    intro xs hi h hj
    cases xs with
    | nil => simp at hi
    | cons x xs =>
      simp only [List.set_cons_zero, List.flatMap_cons, Nat.zero_mul, Nat.zero_add, List.getElem_cons_zero] at h ⊢
      rw [h, List.set_append_left _ _ (by rw [hk]; exact hj)]
  | succ i ih =>
    intro xs hi h hj
    cases xs with
    | nil => simp at hi
    | cons x xs =>
      simp only [List.set_cons_succ, List.flatMap_cons, List.getElem_cons_succ] at h ⊢
      have e : (i + 1) * k + j = (cells x).length + (i * k + j) := by rw [hk, Nat.add_mul]; omega
      rw [ih (by simpa using hi) h hj, List.set_append_right _ _ (by rw [e]; omega), e, Nat.add_sub_cancel_left]
/-- the day of one run has been written -/
theorem RunRow.putD {i g n c : Nat} {u : Value} (h : RunRow w base (.slice (some ⟨g, 0, none⟩) n c) es) (hi : i < es.length) : RunRow (w.setCell ⟨g, i * 3, none⟩ u) base (.slice (some ⟨g, 0, none⟩) n c) (es.set i { es[i] with day := u }) := by
  have hg := gr_set' w g (i * 3) u
  refine ⟨?_, fun e he => ?_, fun e he => ?_, by rw [map_set_eq (f := RunE.cv) (y := { es[i] with day := u }) hi rfl]; exact h.sepC, by rw [map_set_eq (f := RunE.rv) (y := { es[i] with day := u }) hi rfl]; exact h.sepR⟩
  · have hn : n = es.length := by
      rcases h.row.2 with ⟨hv, _⟩ | ⟨_, _, _, hv, _⟩
      · cases hv
      · injection hv
    subst hn
    rw [flat_set_at (cells := RunE.cells) (y := { es[i] with day := u }) (u := u) RunE.cells_len (j := 0) hi rfl (by omega), List.length_set]
    exact own_set h.row (by rw [flat_len RunE.cells_len]; omega) u
  · rcases mem_set he with rfl | ⟨j, hj, hne, rfl⟩
    · exact (h.cue _ (List.getElem_mem hi)).kept hg (own_type (h.cue _ (List.getElem_mem hi)) h.row (by omega))
    · exact (h.cue _ (List.getElem_mem hj)).kept hg (own_type (h.cue _ (List.getElem_mem hj)) h.row (by omega))
  · rcases mem_set he with rfl | ⟨j, hj, hne, rfl⟩
    · exact (h.rem _ (List.getElem_mem hi)).kept hg (own_type (h.rem _ (List.getElem_mem hi)) h.row (by omega))
    · exact (h.rem _ (List.getElem_mem hj)).kept hg (own_type (h.rem _ (List.getElem_mem hj)) h.row (by omega))
/-- a row of runs keeps when its outer row alone is written, to hold other runs of the call's own -/
theorem RunRow.cell {n c : Nat} {A : Option Addr} (h : RunRow w base (.slice A n c) es) (i : Nat) (hi : i < es.length) : ∃ g, A = some ⟨g, 0, none⟩ ∧ base ≤ g ∧ g < w.heap.size ∧ w.cell? ⟨g, i * 3, none⟩ = some es[i].day ∧ w.cell? ⟨g, i * 3 + 1, none⟩ = some es[i].cv ∧ w.cell? ⟨g, i * 3 + 2, none⟩ = some es[i].rv ∧ (∀ j, w.frozen? ⟨g, j, none⟩ = false) := by
  obtain ⟨g, rfl⟩ := ownsRow_form' h.row (by omega)
  have hn : n = es.length := by
    rcases h.row.2 with ⟨hv, _⟩ | ⟨_, _, _, hv, _⟩
    · cases hv
    · injection hv
  subst hn
  have hl := h.row.lt g rfl
  have hf := fun (j : Nat) (u : Value) (hj : j < 3) (hu : es[i].cells[j]? = some u) => (h.row.cellAt (i * 3 + j) (by omega)).trans (flat_at (cells := RunE.cells) RunE.cells_len es i j _ u (List.getElem?_eq_getElem hi) hu)
  exact ⟨g, rfl, hl.1, hl.2, hf 0 _ (by omega) rfl, hf 1 _ (by omega) rfl, hf 2 _ (by omega) rfl, fun j => h.row.frozenAt j⟩
theorem RunRow.lts (h : RunRow w base v es) : ∀ e ∈ es, (∀ g, e.cv.ownBlock = some g → g < w.heap.size) ∧ (∀ g, e.rv.ownBlock = some g → g < w.heap.size) := fun e he => ⟨fun g hg => ((h.cue e he).lt g hg).2, fun g hg => ((h.rem e he).lt g hg).2⟩
/-- one run more -/
theorem RunRow.push {wp w4 : World} {v' : Value} {e : RunE} {o : Obj} (h : RunRow wp base v es) (hx : IsX wp w) (hb : base ≤ wp.heap.size) (hc : w.ownsRow wp.heap.size 9 1 e.cv e.cn e.cl) (hr : w.ownsRow wp.heap.size 28 4 e.rv e.rn e.rl)
    (hrow : w4.ownsRow base 31 3 v' (es.length + 1) (es.flatMap RunE.cells ++ e.cells)) (hg : (w.alloc o).grownBy w4 v.ownBlock) : RunRow w4 base v' (es ++ [e]) := by
  have ha := (h.x hx).x ((IsX.refl w).alloc o)
  have hc' := own_x hc ((IsX.refl w).alloc o)
  have hr' := own_x hr ((IsX.refl w).alloc o)
  have hl := h.lts
  refine ⟨by rw [List.length_append, List.flatMap_append]; simpa using hrow, fun a hm => ?_, fun a hm => ?_, ?_, ?_⟩
  · rcases List.mem_append.1 hm with h1 | h1
    · exact (ha.cue a h1).kept hg (own_type (ha.cue a h1) ha.row (by omega))
    · simp at h1; subst h1; exact own_mono (hc'.kept hg (own_type hc' ha.row (by omega))) hb
  · rcases List.mem_append.1 hm with h1 | h1
    · exact (ha.rem a h1).kept hg (own_type (ha.rem a h1) ha.row (by omega))
    · simp at h1; subst h1; exact own_mono (hr'.kept hg (own_type hr' ha.row (by omega))) hb
  · rw [List.map_append, List.pairwise_append]
    refine ⟨h.sepC, List.pairwise_singleton _ _, fun a ha2 b hb2 g hga hgb => ?_⟩
    obtain ⟨x, hx1, rfl⟩ := List.mem_map.1 ha2
    simp at hb2; subst hb2
    have h1 := (hl x hx1).1 g hga
    have h2 := (hc.lt g hgb).1
    omega
  · rw [List.map_append, List.pairwise_append]
    refine ⟨h.sepR, List.pairwise_singleton _ _, fun a ha2 b hb2 g hga hgb => ?_⟩
    obtain ⟨x, hx1, rfl⟩ := List.mem_map.1 ha2
    simp at hb2; subst hb2
    have h1 := (hl x hx1).2 g hga
    have h2 := (hr.lt g hgb).1
    omega
end
/-- what lies in a result's row is a run -/
structure RunE.of (e : RunE) (x : RunD) : Prop where
  day : e.day = .int .i64 x.Day
  cn : e.cn = x.Cues.length
  cl : e.cl = x.Cues.flatMap strC
  rn : e.rn = x.Remarks.length
  rl : e.rl = x.Remarks.flatMap RemarkD.cells
structure OfL (es : List RunE) (xs : List RunD) : Prop where
  len : es.length = xs.length
  at_ : ∀ i (h : i < es.length) (h' : i < xs.length), es[i].of xs[i]
theorem OfL.nil : OfL [] [] := ⟨rfl, fun i h => by simp at h⟩
theorem OfL.snoc {es : List RunE} {xs : List RunD} {e : RunE} {x : RunD} (h : OfL es xs) (ho : e.of x) : OfL (es ++ [e]) (xs ++ [x]) := by
  have hl := h.len
  refine ⟨by simp [hl], fun i h1 h2 => ?_⟩
  by_cases hi : i < es.length
  · rw [List.getElem_append_left hi, List.getElem_append_left (by omega)]; exact h.at_ i hi (by omega)
  · have e1 : i = es.length := by simp at h1; omega
    subst e1
    rw [List.getElem_append_right (by omega), List.getElem_append_right (by omega)]
    simpa [hl] using ho
theorem OfL.set {es : List RunE} {xs : List RunD} {e : RunE} {x : RunD} {i : Nat} (h : OfL es xs) (ho : e.of x) : OfL (es.set i e) (xs.set i x) := by
  refine ⟨by simp [h.len], fun j h1 h2 => ?_⟩
  rw [List.getElem_set, List.getElem_set]
  split
  · exact ho
  · exact h.at_ j (by simpa using h1) (by simpa using h2)
def mkR (e : RunE) (x : RunD) : RunR := ⟨x.Day, e.ca, e.cc, x.Cues, e.ra, e.rc, x.Remarks⟩
theorem OfL.cells : ∀ {es : List RunE} {xs : List RunD}, OfL es xs → (List.zipWith mkR es xs).flatMap RunR.cells = es.flatMap RunE.cells
  | [], [], _ => rfl
  | [], _ :: _, h => by have := h.len; simp at this
  | _ :: _, [], h => by have := h.len; simp at this
  | e :: es, x :: xs, h => by
    have h0 := h.at_ 0 (by simp) (by simp)
    simp only [List.getElem_cons_zero] at h0
    have ih := OfL.cells (es := es) (xs := xs) ⟨by have := h.len; simpa using this, fun i h1 h2 => by have := h.at_ (i + 1) (by simpa using h1) (by simpa using h2); simpa using this⟩
    rw [List.zipWith_cons_cons, List.flatMap_cons, List.flatMap_cons, ih]
    congr 1
    simp only [mkR, RunR.cells, RunE.cells, RunE.cv, RunE.rv, h0.day, h0.cn, h0.rn]
theorem OfL.data : ∀ {es : List RunE} {xs : List RunD}, OfL es xs → (List.zipWith mkR es xs).map RunR.data = xs
  | [], [], _ => rfl
  | [], _ :: _, h => by have := h.len; simp at this
  | _ :: _, [], h => by have := h.len; simp at this
  | e :: es, x :: xs, h => by
    have ih := OfL.data (es := es) (xs := xs) ⟨by have := h.len; simpa using this, fun i h1 h2 => by have := h.at_ (i + 1) (by simpa using h1) (by simpa using h2); simpa using this⟩
    rw [List.zipWith_cons_cons, List.map_cons, ih]
    rfl
theorem zipWith_mem {α β γ : Type} {f : α → β → γ} {es : List α} {xs : List β} {r : γ} (h : r ∈ List.zipWith f es xs) : ∃ (i : Nat) (h1 : i < es.length) (h2 : i < xs.length), r = f es[i] xs[i] := by
  obtain ⟨i, hi, rfl⟩ := List.getElem_of_mem h
  have hi' := hi
  rw [List.length_zipWith] at hi'
  exact ⟨i, by omega, by omega, by rw [List.getElem_zipWith]⟩
theorem RunRow.rd {w : World} {base n c : Nat} {A : Option Addr} {es : List RunE} {xs : List RunD} (h : RunRow w base (.slice A n c) es) (ho : OfL es xs) : RdRun 0 w A xs := by
  refine ⟨List.zipWith mkR es xs, ho.data, ?_, fun r hr => ?_⟩
  · have hn : n = es.length := by
      rcases h.row.2 with ⟨hv, h0⟩ | ⟨_, _, _, hv, _⟩
      · injection hv with _ hv; omega
      · injection hv
    subst hn
    have hrow := h.row
    rw [← ho.cells] at hrow
    refine Own.rd (cells := RunR.cells) (k := 3) (t := 31) (base := base) (n := es.length) (c := c) (by omega) RunR.cells_len ?_ (by rw [List.length_zipWith, ← ho.len]; omega)
    unfold Own
    rw [List.length_zipWith, ← ho.len, Nat.min_self]
    exact hrow
  · obtain ⟨i, h1, h2, rfl⟩ := zipWith_mem hr
    have hi := ho.at_ i h1 h2
    have hc := h.cue _ (List.getElem_mem h1)
    have hm := h.rem _ (List.getElem_mem h1)
    rw [RunE.cv, hi.cn, hi.cl] at hc
    rw [RunE.rv, hi.rn, hi.rl] at hm
    exact ⟨⟨Own.rd (cells := strC) (k := 1) (xs := xs[i].Cues) (by omega) strC_len hc rfl, fun _ _ _ _ => Nat.zero_le _⟩, ⟨Own.rd (cells := RemarkD.cells) (k := 4) (xs := xs[i].Remarks) (by omega) RemarkD.cells_len hm rfl, fun _ _ _ _ => Nat.zero_le _⟩⟩
/-- runs and a code: the runs are the call's own -/
def NePost (w : World) (zs : List RunD) (code : Int) (e : Ending) (w' : World) : Prop :=
  ∃ A c es, e = .returned (.tuple #[.slice A zs.length c, .int .i64 code]) ∧ RunRow w' w.heap.size (.slice A zs.length c) es ∧ OfL es zs ∧ IsX w w'
theorem NePost.none {w w' : World} {zs : List RunD} {code : Int} {e : Ending} (hz : zs = []) (he : e = .returned (.tuple #[.slice none 0 0, .int .i64 code])) (hx : IsX w w') : NePost w zs code e w' := by
  subst hz; exact ⟨Option.none, 0, [], he, RunRow.nil _ _, OfL.nil, hx⟩
end Go.Proofs.Ytegehdhdlljikaa
