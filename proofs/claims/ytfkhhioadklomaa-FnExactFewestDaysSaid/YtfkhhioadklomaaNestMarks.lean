/- Marks in lists of structs with slices among their fields: what the laws write there, and what they leave alone. Conditions: lists no longer than 2^20. -/
import Derived.Test.YtfkhhioadklomaaMarks
import Derived.Test.YtfkhhioadklomaaNestPerson
namespace Go.Proofs.Ytfkhhioadklomaa
set_option linter.unusedVariables false
open Go.RowKit

/-- below the old size, only blocks lo .. hi - 1 may have turned -/
structure Touch (lo hi : Nat) (w w' : World) : Prop where
  os : w'.os = w.os
  tape : w'.tape = w.tape
  output : w'.output = w.output
  size : w.heap.size ≤ w'.heap.size
  block : ∀ k, k < w.heap.size → (k < lo ∨ hi ≤ k) → w'.heap[k]? = w.heap[k]?
section
variable {lo hi : Nat} {w w' w'' : World}
theorem Touch.refl (lo hi : Nat) (w : World) : Touch lo hi w w := ⟨rfl, rfl, rfl, Nat.le_refl _, fun _ _ _ => rfl⟩
theorem Touch.trans (h : Touch lo hi w w') (k : Touch lo hi w' w'') : Touch lo hi w w'' :=
  ⟨k.os.trans h.os, k.tape.trans h.tape, k.output.trans h.output, Nat.le_trans h.size k.size, fun b hb hb2 => (k.block b (Nat.lt_of_lt_of_le hb h.size) hb2).trans (h.block b hb hb2)⟩
theorem Touch.grown {row : Option Nat} (h : w.grownBy w' row) (hr : ∀ g, row = some g → lo ≤ g ∧ g < hi) : Touch lo hi w w' :=
  ⟨h.os, h.tape, h.output, h.size, fun k hk hk2 => h.block k hk (fun e => by have := hr k e.symm; omega)⟩
theorem Touch.set (h : Touch lo hi w w') {g : Nat} (h1 : lo ≤ g) (h2 : g < hi) (j : Nat) (u : Value) : Touch lo hi w (w'.setCell ⟨g, j, none⟩ u) :=
  ⟨h.os, h.tape, h.output, by simpa [World.setCell] using h.size, fun k hk hk2 => (Below.heap_setCell w' ⟨g, j, none⟩ u k (show k ≠ g by omega)).trans (h.block k hk hk2)⟩
theorem Touch.x (h : Touch lo hi w w') {w0 : World} (hx : IsX w0 w) (hlo : w0.heap.size ≤ lo) : IsX w0 w' :=
  IsX.of_below ⟨h.os.trans hx.below.os, h.tape.trans hx.below.tape, h.output.trans hx.below.output, Nat.le_trans hx.size h.size, fun k hk => (h.block k (Nat.lt_of_lt_of_le hk hx.size) (.inl (Nat.lt_of_lt_of_le hk hlo))).trans (hx.below.block k hk)⟩
theorem own_touch {base e size n : Nat} {v : Value} {L : List Value} (h : w.ownsRow base e size v n L) (ht : Touch lo hi w w') (hb : hi ≤ base) : w'.ownsRow base e size v n L := by
  refine ⟨h.1, ?_⟩
  rcases h.2 with h2 | ⟨g, cap, cur, hv, hg, hh, r⟩
  · exact .inl h2
  · exact .inr ⟨g, cap, cur, hv, hg, (ht.block g (Array.getElem?_eq_some_iff.1 hh).1 (.inr (Nat.le_trans hb hg))).trans hh, r⟩
/-- block g is a row of m cells of type t -/
def Row (w : World) (g t m : Nat) : Prop := ∃ cs, Blk w g t cs ∧ cs.size = m
theorem Row.grown {g t m g' t' m' base k n : Nat} {L : List Value} (h : Row w g t m) (h' : Row w g' t' m') (ho : w'.ownsRow base t' k (.slice (some ⟨g', 0, none⟩) n n) n L) (hm : m' = n * k) (hg : w.grownBy w' (some g')) : Row w' g t m := by
  obtain ⟨cs, hb, hs⟩ := h
  by_cases e : g = g'
  · subst e
    obtain ⟨cs', hb', hs'⟩ := h'
    have e1 := hb.symm.trans hb'
    injection e1 with e1
    injection e1 with e1 e2
    rcases ho.2 with ⟨hv, _⟩ | ⟨g2, cap, cur, hv, _, hh, _, _, hcs, _⟩
    · cases hv
    · injection hv with hA hn hc
      injection hA with hA
      injection hA with hA
      subst hA hc e2
      exact ⟨cur, hh, by rw [hcs, ← hs, e1, hs', hm]⟩
  · exact ⟨cs, hb.grown hg (fun e2 => e (by injection e2)), hs⟩
theorem Row.far {g t m g' : Nat} (h : Row w g t m) (hg : w.grownBy w' (some g')) (hne : g ≠ g') : Row w' g t m := by
  obtain ⟨cs, hb, hs⟩ := h
  exact ⟨cs, hb.grown hg (fun e2 => hne (by injection e2)), hs⟩
theorem Row.own {g t m base k n : Nat} (h : Row w g t m) (hb : base ≤ g) (hn : n ≤ maxLen) (hm : m = n * k) : ∃ L, w.ownsRow base t k (.slice (some ⟨g, 0, none⟩) n n) n L := by
  obtain ⟨cs, hB, hs⟩ := h
  exact ⟨_, hB.own hb hn (by rw [hs, hm])⟩
theorem Row.x {g t m : Nat} (h : Row w g t m) (hx : IsX w w') : Row w' g t m := by
  obtain ⟨cs, hb, hs⟩ := h
  exact ⟨cs, hb.x hx, hs⟩
theorem Row.set {g t m g' : Nat} (h : Row w g t m) (j : Nat) (u : Value) : Row (w.setCell ⟨g', j, none⟩ u) g t m := by
  obtain ⟨cs, hb, hs⟩ := h
  by_cases e : g = g'
  · subst e; exact ⟨_, hb.set_ j u, by simpa using hs⟩
  · exact ⟨cs, hb.far (p := ⟨g', j, none⟩) e u, hs⟩
end

def PersonR.rows (lo hi : Nat) (w : World) (r : PersonR) : Prop := (∃ g, r.DaysA = some ⟨g, 0, none⟩ ∧ lo < g ∧ g < hi ∧ r.DaysC = r.Days.length ∧ Row w g 2 (r.Days.length * 1))
def OuterPerson (w : World) (g : Nat) (rs : List PersonR) : Prop := ∃ cur, Blk w g 51 cur ∧ cur.size = rs.length * 2 ∧ ∀ i r, rs[i]? = some r → cur[i * 2 + 1]? = some (.slice r.DaysA r.Days.length r.DaysC)
theorem OuterPerson.set {w : World} {g : Nat} {rs : List PersonR} (h : OuterPerson w g rs) (i : Nat) (u : Value) : OuterPerson (w.setCell ⟨g, i * 2, none⟩ u) g rs := by
  obtain ⟨cur, hb, hs, hc⟩ := h
  refine ⟨_, hb.set_ _ u, by simpa using hs, fun k r hr => ?_⟩
  have := hc k r hr
  rw [Array.getElem?_setIfInBounds, if_neg (by omega)]; exact this
theorem OuterPerson.grown {w w' : World} {g g' : Nat} {rs : List PersonR} (h : OuterPerson w g rs) (hg : w.grownBy w' (some g')) (hne : g ≠ g') : OuterPerson w' g rs := by
  obtain ⟨cur, hb, hs, hc⟩ := h
  exact ⟨cur, hb.grown hg (fun e => hne (by injection e)), hs, hc⟩
theorem OuterPerson.x {w w' : World} {g : Nat} {rs : List PersonR} (h : OuterPerson w g rs) (hx : IsX w w') : OuterPerson w' g rs := by
  obtain ⟨cur, hb, hs, hc⟩ := h
  exact ⟨cur, hb.x hx, hs, hc⟩
theorem PersonR.rows.x {lo hi : Nat} {w w' : World} {r : PersonR} (h : r.rows lo hi w) (hx : IsX w w') : r.rows lo hi w' := by
  obtain ⟨g0, e0, l0, m0, q0, b0⟩ := h
  exact ⟨g0, e0, l0, m0, q0, b0.x hx⟩
theorem PersonR.rows.set {lo hi g j : Nat} {w : World} {r : PersonR} (h : r.rows lo hi w) (u : Value) : r.rows lo hi (w.setCell ⟨g, j, none⟩ u) := by
  obtain ⟨g0, e0, l0, m0, q0, b0⟩ := h
  exact ⟨g0, e0, l0, m0, q0, b0.set _ _⟩
theorem PersonR.rows.under {lo hi g' : Nat} {w w' : World} {r : PersonR} (h : r.rows lo hi w) (hg : w.grownBy w' (some g')) (hle : g' ≤ lo) : r.rows lo hi w' := by
  obtain ⟨g0, e0, l0, m0, q0, b0⟩ := h
  exact ⟨g0, e0, l0, m0, q0, b0.far hg (by omega)⟩
theorem PersonR.rows.grown {lo hi g' t' m' base k n : Nat} {w w' : World} {r : PersonR} {L : List Value} (h : r.rows lo hi w) (h' : Row w g' t' m') (ho : w'.ownsRow base t' k (.slice (some ⟨g', 0, none⟩) n n) n L) (hm : m' = n * k) (hg : w.grownBy w' (some g')) : r.rows lo hi w' := by
  obtain ⟨g0, e0, l0, m0, q0, b0⟩ := h
  exact ⟨g0, e0, l0, m0, q0, b0.grown h' ho hm hg⟩
theorem MadePerson.rows {w : World} {g : Nat} {xs : List PersonD} (h : MadePerson w g xs) : ∃ rs : List PersonR, rs.length = xs.length ∧ OuterPerson w g rs ∧ g < w.heap.size ∧ (∀ r ∈ rs, r.rows g w.heap.size w) ∧ ∀ r ∈ rs, r.data ∈ xs := by
  obtain ⟨rs, e, hb, ho⟩ := h
  refine ⟨rs, by rw [← e, List.length_map], ⟨_, hb, by rw [List.size_toArray, flat_len PersonR.cells_len], fun i r hr => ?_⟩, hb.lt, fun r hr => ?_, fun r hr => by rw [← e]; exact List.mem_map_of_mem hr⟩
  · have hf := fun j u hu => flat_at (cells := PersonR.cells) PersonR.cells_len rs i j r u hr hu
    simp only [List.getElem?_toArray]
    exact hf 1 _ rfl
  · have h := ho r hr
    obtain ⟨g0, e0, l0, q0, b0⟩ := h
    exact ⟨g0, e0, by omega, b0.lt, q0, _, b0, by rw [List.size_toArray, flat_len intC_len]⟩

theorem Touch.ofx {lo hi : Nat} {w w' : World} (hx : IsX w w') : Touch lo hi w w' := ⟨hx.below.os, hx.below.tape, hx.below.output, hx.size, fun k hk _ => hx.below.block k hk⟩
theorem cell_grown {w w' : World} {g j g' : Nat} {v : Value} (hg : w.grownBy w' (some g')) (hne : g ≠ g') (h : w.cell? ⟨g, j, none⟩ = some v) : w'.cell? ⟨g, j, none⟩ = some v := by
  have hb := World.block_lt_of_cell? w _ h
  have e := hg.block g hb (fun e => hne (by injection e))
  unfold World.cell? at h ⊢
  rw [e]; exact h
set_option maxHeartbeats 3200000 in
theorem c_markPersonS (g hi c : Nat) (rs : List PersonR) (n : Nat) (s : Int) (w : World) (hnn : n = rs.length) (hn : n ≤ 1048576) (hs0 : 1 ≤ s) (hs1 : s ≤ 1099511627776) (hsm : ∀ r ∈ rs, r.Days.length ≤ 1048576) (hgl1 : g < hi) (hO : OuterPerson w g rs) (hR : ∀ r ∈ rs, r.rows g hi w) :
    Calls Try.prog 15 #[.slice (some ⟨g, 0, none⟩) n c, .int .i64 s] w fun e w' => ∃ k' : Int, e = .returned (.int .i64 k') ∧ 0 ≤ k' ∧ Touch g hi w w' := by
  have HSM := hide hsm
  have HNN := hide hnn
  have hgl0 : g ≤ g := Nat.le_refl _
  have HO0 := hide hO
  have HR0 := hide hR
  clear hsm hO hR hnn
  go_enter Try.func15, Try.ntmps15
  go_wp2
  go_loopw [1, 5] (fun kv iv wr => ∃ (i : Nat) (q : Int), i ≤ n ∧ iv = .int .i64 i ∧ kv = .int .i64 q ∧ s ≤ q ∧ q ≤ s + i * 1048577 ∧ Hid (OuterPerson wr g rs) ∧ Hid (∀ r ∈ rs, r.rows g hi wr) ∧ Hid (Touch g hi w wr)) (fun _ iv _ => n - (intOf iv).toNat)
  case atStart => exact ⟨0, s, Nat.zero_le _, rfl, rfl, by omega, by omega, HO0, HR0, hide (Touch.refl _ _ _)⟩
  case round =>
    clear HO0 HR0
    obtain ⟨i, q, hi', rfl, rfl, hq1, hq2, HO, HR, HT⟩ := hrel
    by_cases hltn : i < n
    · have hlt : i < rs.length := HNN.out ▸ hltn
      have hq3 : q ≤ 8796093022208 := by omega
      go_wp2_with fail
      refine (c_markText q wr (by omega) (by omega)).mono ?_
      rintro e wt ⟨rfl, hxt⟩
      replace HO := hide (HO.out.x hxt)
      replace HR := hide (fun r hr => (HR.out r hr).x hxt)
      replace HT := hide (HT.out.trans (Touch.ofx hxt))
      clear hxt
      have hsl := HSM.out rs[i] (List.getElem_mem hlt)
      have hrr := HR.out rs[i] (List.getElem_mem hlt)
      obtain ⟨g0, e0, l0, m0, q0, b0⟩ := hrr
      obtain ⟨cur, hB, hcs, hcc⟩ := HO.out
      have hcl := hcc i rs[i] (List.getElem?_eq_getElem _)
      have k1 := hcl
      obtain ⟨v0, s0⟩ := hB.has (i := i * 2) (by rw [hcs]; omega)
      have z0 := hB.frozen (i * 2)
      have hgl := hB.lt
      have c1 : wt.cell? ⟨g, i * 2 + 1, none⟩ = some (.slice (some ⟨g0, 0, none⟩) rs[i].Days.length rs[i].Days.length) := (hB.cell _).trans (by rw [k1, e0, q0])
      obtain ⟨n0, hn0⟩ : ∃ m, m = rs[i].Days.length := ⟨_, rfl⟩
      rw [← hn0] at b0 c1 hsl
      clear hn0
      clear hcc hcs hB k1 e0 q0
      go_wp2_with fail
      have HO1 := hide (HO.out.set i (.string (mkText q)))
      have HR1 := hide (fun r hr => (HR.out r hr).set (g := g) (j := i * 2) (.string (mkText q)))
      have HT1 := hide (HT.out.set hgl0 hgl1 (i * 2) (.string (mkText q)))
      have b0' := b0.set (g' := g) (i * 2) (.string (mkText q))
      have c1' : (wt.setCell ⟨g, i * 2, none⟩ (.string (mkText q))).cell? ⟨g, i * 2 + 1, none⟩ = some (.slice (some ⟨g0, 0, none⟩) n0 n0) := (World.cell?_setCell_other _ _ _ _ (by intro e; injection e; omega)).trans c1
      clear b0 c1 HO HR HT s0 z0 v0
      generalize (wt.setCell ⟨g, i * 2, none⟩ (.string (mkText q))) = wa at *
      obtain ⟨L0, ho0⟩ := b0'.own (base := 0) (n := n0) (k := 1) (Nat.zero_le _) (by unfold maxLen; omega) rfl
      refine (c_markInt64S (some ⟨g0, 0, none⟩) n0 n0 0 L0 _ wa (by omega) (by omega) (by omega) ho0).mono ?_
      rintro e w0 ⟨rfl, L0', ho0', _, hgr0⟩
      replace hgr0 : _root_.Go.World.grownBy wa w0 (some g0) := hgr0
      replace HO1 := hide (HO1.out.grown hgr0 (by omega))
      replace HR1 := hide (fun r hr => (HR1.out r hr).grown b0' ho0' rfl hgr0)
      replace HT1 := hide (HT1.out.trans (Touch.grown hgr0 (by intro z hz; injection hz with hz; omega)))
      clear hgr0 ho0' ho0 b0' c1'
      go_wp2_with fail
      go_roundw
      case rel => exact ⟨i + 1, _, by omega, by go_num, rfl, by omega, by omega, HO1, HR1, HT1⟩
      case measure => simp [intOf]; omega
    · obtain rfl : i = n := by omega
      go_wp2
      go_ret
      exact ⟨_, rfl, by omega, HT.out⟩

end Go.Proofs.Ytfkhhioadklomaa
