/- People that are drawn: valid ones. Conditions: fewer than 2^39 choices. -/
import Derived.Test.YtfkhhioadklomaaDraws
import Derived.Test.YtfkhhioadklomaaNestPerson
import Derived.Test.YtfkhhioadklomaaPeople
import Derived.Test.YtfkhhioadklomaaMeetLaw
import Derived.Test.YtfkhhioadklomaaPutFns
import Derived.Deep.RegionWith
namespace Go.Proofs.Ytfkhhioadklomaa
set_option linter.unusedVariables false
open Go.RowKit Go.ChangeShapes

theorem gr_app {w w1 : World} {X base e n : Nat} {size : Nat} {v : Value} {L : List Value} {o : Obj} {w0 : World} (h : w0.grownBy w (some X)) (ho : w.ownsRow base e size v n L) (hg : (w.alloc o).grownBy w1 v.ownBlock) (hb : w0.heap.size ≤ base) : w0.grownBy w1 (some X) :=
  ⟨hg.os.trans h.os, hg.tape.trans h.tape, hg.output.trans h.output, Nat.le_trans h.size (Nat.le_trans (by simp) hg.size), fun k hk hne => by
    rw [hg.block k (by have := h.size; simp; omega) (fun e => by have := (ho.lt k e.symm).1; omega)]
    rw [(IsX.alloc (IsX.refl w) o).below.block k (Nat.lt_of_lt_of_le hk h.size)]
    exact h.block k hk hne⟩
theorem gr_far {w w1 : World} {X g : Nat} (h : w.grownBy w1 (some X)) (hg : w.heap.size ≤ g) (j : Nat) (u : Value) : w.grownBy (w1.setCell ⟨g, j, none⟩ u) (some X) :=
  ⟨h.os, h.tape, h.output, by simpa [World.setCell] using h.size, fun k hk hne => (Below.heap_setCell w1 ⟨g, j, none⟩ u k (show k ≠ g by omega)).trans (h.block k hk hne)⟩
theorem SrcAt.gr {w w1 : World} {X : Nat} {N : Int} {row : Option Nat} (h : SrcAt X N w) (hg : w.grownBy w1 row) (hr : ∀ g, row = some g → X < g) : SrcAt X N w1 := by
  obtain ⟨A, c, xs, a, s, h1, h2, h3, h4, h5, h6, h7, h8⟩ := h
  refine ⟨A, c, xs, a, s, h1.gr hg (fun e => by have := hr X e.symm; omega), h2, h3, h4, h5, ?_, h7, h8⟩
  intro i x hi
  obtain ⟨b, off, e, hb2, hc⟩ := h6 i x hi
  have hbb := h7 (by intro e; rw [e] at hi; simp at hi) b off e
  exact ⟨b, off, e, Nat.lt_of_lt_of_le hb2 hg.size, fun j u hu => (World.cell?_of_block (a := ⟨b, off + i * 1 + j, none⟩) (hg.block b hb2 (fun e => by have := hr b e.symm; omega))).trans (hc j u hu)⟩

theorem Rd.grB {α : Type} {cells : α → List Value} {k g : Nat} {xs : List α} {w w1 : World} {r : Option Nat} (h : Rd cells k w (some ⟨g, 0, none⟩) xs) (hg : w.grownBy w1 r) (hn : some g ≠ r) : Rd cells k w1 (some ⟨g, 0, none⟩) xs := fun i x hi => by
  obtain ⟨b, off, e, hb, hc⟩ := h i x hi
  injection e with e
  injection e with e1 e2
  subst e1 e2
  exact ⟨_, _, rfl, Nat.lt_of_lt_of_le hb hg.size, fun j u hu => (World.cell?_of_block (a := ⟨g, 0 + i * k + j, none⟩) (hg.block g hb hn)).trans (hc j u hu)⟩

theorem own_type {w : World} {b1 e1 k1 n1 b2 e2 k2 n2 : Nat} {v1 v2 : Value} {L1 L2 : List Value} (h1 : w.ownsRow b1 e1 k1 v1 n1 L1) (h2 : w.ownsRow b2 e2 k2 v2 n2 L2) (hne : e1 ≠ e2) : v1.ownBlock = none ∨ v1.ownBlock ≠ v2.ownBlock := by
  rcases h1.2 with ⟨rfl, _⟩ | ⟨g1, c1, cur1, rfl, _, hh1, _⟩
  · exact .inl rfl
  · refine .inr fun e => ?_
    rcases h2.2 with ⟨rfl, _⟩ | ⟨g2, c2, cur2, rfl, _, hh2, _⟩
    · cases e
    · have eg : g1 = g2 := by injection e
      subst eg
      rw [hh1] at hh2
      injection hh2 with hh2
      injection hh2 with _ hh2
      exact hne hh2
theorem own_blk {w : World} {b1 e1 k1 n1 g t : Nat} {v1 : Value} {L1 : List Value} {cs : Array Value} (h1 : w.ownsRow b1 e1 k1 v1 n1 L1) (h2 : Blk w g t cs) (hne : e1 ≠ t) : v1.ownBlock = none ∨ v1.ownBlock ≠ some g := by
  rcases h1.2 with ⟨rfl, _⟩ | ⟨g1, c1, cur1, rfl, _, hh1, _⟩
  · exact .inl rfl
  · refine .inr fun e => ?_
    have eg : g1 = g := by injection e
    subst eg
    unfold Blk at h2
    rw [hh1] at h2
    injection h2 with h2
    injection h2 with _ h2
    exact hne h2
def fiveNames : List ByteArray := [⟨#[97, 110, 110]⟩, ⟨#[98, 111, 98]⟩, ⟨#[99, 97, 105]⟩, ⟨#[100, 101, 101]⟩, ⟨#[101, 118, 97]⟩]
theorem five_len : fiveNames.length = 5 := rfl
theorem PersonK_info : (Try.prog.info? 51).map (fun i => (i.zero, i.size, i.bytes)) = some (some (.agg #[.string ByteArray.empty, .slice none 0 0]), 2, 40) := by kernel_rfl
def perC (nm : ByteArray) (A : Option Addr) (q c : Nat) : List Value := [.string nm, .slice A q c]
theorem pers_reads (w : World) (nm : ByteArray) (A : Option Addr) (q c : Nat) : Reads (w.alloc (.cells #[.string nm, .slice A q c] 51)) (w.alloc (.cells #[.string nm, .slice A q c] 51)).heap.size 2 (some ⟨w.heap.size, 0, none⟩) 1 (perC nm A q c) := by
  have h := Rd.reads (cells := fun _ : Unit => perC nm A q c) (k := 2) (xs := [()]) (by omega) (fun _ => rfl) (Blk.rd (cells := fun _ : Unit => perC nm A q c) (k := 2) (xs := [()]) (t := 51) (fun _ => rfl) (Blk.new w 51 #[.string nm, .slice A q c]))
  simpa using h
theorem pers_one (nm : ByteArray) (A : Option Addr) (q c : Nat) : ∀ u ∈ perC nm A q c, u.oneCell' = true := by
  intro u hu
  simp only [perC, List.mem_cons, List.not_mem_nil, or_false] at hu
  rcases hu with rfl | rfl <;> rfl
def PersonR.dv (r : PersonR) : Value := .slice r.DaysA r.Days.length r.DaysC
/-- a row of people of its own, their days in rows of their own, the names behind it, block X has been written to -/
structure PpQ (X : Nat) (N : Int) (NB : Nat) (v : Value) (rs : List PersonR) (w wr : World) : Prop where
  own : wr.ownsRow (NB + 1) 51 2 v rs.length (rs.flatMap PersonR.cells)
  days : ∀ r ∈ rs, wr.ownsRow (NB + 1) 2 1 r.dv r.Days.length (r.Days.flatMap intC)
  rd : Rd strC 1 wr (some ⟨NB, 0, none⟩) fiveNames
  gr : w.grownBy wr (some X)
  src : SrcAt X N wr
  XN : X < NB
  NBl : NB < wr.heap.size
  wN : w.heap.size ≤ NB
/-- and one person more, in block PB, later than all of these -/
structure PpI (X : Nat) (N : Int) (NB PB : Nat) (v : Value) (rs : List PersonR) (nm : ByteArray) (A : Option Addr) (c : Nat) (D : List Int) (w wr : World) : Prop where
  q : PpQ X N NB v rs w wr
  blk : Blk wr PB 51 #[.string nm, .slice A D.length c]
  ds : wr.ownsRow (NB + 1) 2 1 (.slice A D.length c) D.length (D.flatMap intC)
  vlt : ∀ j, v.ownBlock = some j → j < PB
  PN : NB < PB
section
variable {X NB PB : Nat} {N : Int} {v : Value} {rs : List PersonR} {nm : ByteArray} {A : Option Addr} {c : Nat} {D : List Int} {w wr w1 : World}
theorem PpQ.x (h : PpQ X N NB v rs w wr) (hx : IsX wr w1) : PpQ X N NB v rs w w1 := ⟨own_x' h.own hx, fun r hr => own_x' (h.days r hr) hx, h.rd.x hx, gr_x h.gr hx, h.src.x hx, h.XN, Nat.lt_of_lt_of_le h.NBl hx.size, h.wN⟩
theorem PpQ.pick {M : Int} (h : PpQ X N NB v rs w wr) (hg : wr.grownBy w1 (some X)) (hat : SrcAt X M w1) : PpQ X M NB v rs w w1 :=
  ⟨own_grX h.own hg (by have := h.XN; omega), fun r hr => own_grX (h.days r hr) hg (by have := h.XN; omega), h.rd.grB hg (by intro e; injection e with e; have := h.XN; omega), gr_tr h.gr hg, hat, h.XN, Nat.lt_of_lt_of_le h.NBl hg.size, h.wN⟩
theorem PpQ.le {M : Int} (h : PpQ X N NB v rs w wr) (hM : N ≤ M) : PpQ X M NB v rs w wr := ⟨h.own, h.days, h.rd, h.gr, h.src.le hM, h.XN, h.NBl, h.wN⟩
theorem PpI.x (h : PpI X N NB PB v rs nm A c D w wr) (hx : IsX wr w1) : PpI X N NB PB v rs nm A c D w w1 := ⟨h.q.x hx, h.blk.x hx, own_x' h.ds hx, h.vlt, h.PN⟩
theorem PpI.pick {M : Int} (h : PpI X N NB PB v rs nm A c D w wr) (hg : wr.grownBy w1 (some X)) (hat : SrcAt X M w1) : PpI X M NB PB v rs nm A c D w w1 :=
  ⟨h.q.pick hg hat, h.blk.gr hg (fun e => by injection e with e; have := h.q.XN; have := h.PN; omega), own_grX h.ds hg (by have := h.q.XN; omega), h.vlt, h.PN⟩
theorem PpI.le {M : Int} (h : PpI X N NB PB v rs nm A c D w wr) (hM : N ≤ M) : PpI X M NB PB v rs nm A c D w wr := ⟨h.q.le hM, h.blk, h.ds, h.vlt, h.PN⟩
theorem PpI.put {A' : Option Addr} {c' : Nat} {D' : List Int} (h : PpI X N NB PB v rs nm A c D w wr) (hx : IsX wr w1) (ho : w1.ownsRow wr.heap.size 2 1 (.slice A' D'.length c') D'.length (D'.flatMap intC)) : PpI X N NB PB v rs nm A' c' D' w (w1.setCell ⟨PB, 1, none⟩ (.slice A' D'.length c')) := by
  have hq := h.q.x hx
  have hb := h.blk.x hx
  have hg := gr_of_set w1 PB 1 (.slice A' D'.length c')
  refine ⟨⟨hq.own.kept hg ?_, fun r hr => (hq.days r hr).kept hg (own_blk (hq.days r hr) hb (by omega)), hq.rd.grB hg (by intro e; injection e with e; have := h.PN; omega), gr_far hq.gr (by have := h.PN; have := hq.wN; omega) _ _, hq.src.gr hg (fun g e => by injection e with e; have := h.q.XN; have := h.PN; omega), hq.XN, by simpa [World.setCell] using hq.NBl, hq.wN⟩, by simpa using hb.set_ 1 (.slice A' D'.length c'), ?_, h.vlt, h.PN⟩
  · cases hv : v.ownBlock with
    | none => exact .inl rfl
    | some j => exact .inr (fun e => by injection e with e; have := h.vlt j hv; omega)
  · have ho' := row_le' ho (show NB + 1 ≤ wr.heap.size from h.q.NBl)
    exact ho'.kept hg (own_blk ho' hb (by omega))
theorem PpI.app {v' : Value} {o : Obj} {L' : List Value} (h : PpI X N NB PB v rs nm A c D w wr) (hg : (wr.alloc o).grownBy w1 v.ownBlock) (ho : w1.ownsRow (NB + 1) 51 2 v' (rs.length + 1) L') (hL : L' = rs.flatMap PersonR.cells ++ perC nm A D.length c) : PpQ X N NB v' (rs ++ [⟨nm, A, c, D⟩]) w w1 := by
  have hq := h.q.x ((IsX.refl wr).alloc o)
  have hd := own_x' h.ds ((IsX.refl wr).alloc o)
  refine ⟨?_, fun r hr => ?_, hq.rd.grB hg (by intro e; have := (h.q.own.lt NB e.symm).1; omega), gr_app h.q.gr h.q.own hg (by have := h.q.wN; omega), hq.src.gr hg (fun g hg => by have := (h.q.own.lt g hg).1; have := h.q.XN; omega), h.q.XN, Nat.lt_of_lt_of_le (by have := h.q.NBl; simp; omega) hg.size, h.q.wN⟩
  · have e : (rs ++ [(⟨nm, A, c, D⟩ : PersonR)]).flatMap PersonR.cells = L' := by rw [hL]; simp [PersonR.cells, perC]
    rw [e, List.length_append]; exact ho
  · rcases List.mem_append.1 hr with hr | hr
    · exact (hq.days r hr).kept hg (own_type (hq.days r hr) hq.own (by omega))
    · simp only [List.mem_singleton] at hr
      subst hr
      exact hd.kept hg (own_type hd hq.own (by omega))
end
/-- days as they are drawn -/
def dayOk (D : List Int) : Prop := D.Pairwise (· < ·) ∧ ∀ d ∈ D, 0 ≤ d ∧ d ≤ 11
theorem dayOk.put {D : List Int} {d : Int} (h : dayOk D) (h0 : 0 ≤ d) (h1 : d ≤ 11) : dayOk (insK D d) := ⟨insK_lt h.1, fun x hx => by
  rcases insK_iff.1 hx with rfl | hx
  · omega
  · exact h.2 x hx⟩
/-- people as they are drawn, up to the name k -/
def pplOk (k : Nat) (rs : List PersonR) : Prop := (rs.map PersonR.Name).Sublist (fiveNames.take k) ∧ ∀ r ∈ rs, dayOk r.Days ∧ r.Days.length ≤ 4
theorem pplOk.skip {k : Nat} {rs : List PersonR} (h : pplOk k rs) : pplOk (k + 1) rs := ⟨h.1.trans (List.take_sublist_take_left (by omega)), h.2⟩
theorem pplOk.snoc {k : Nat} {rs : List PersonR} {r : PersonR} (h : pplOk k rs) (hn : fiveNames[k]? = some r.Name) (hr : dayOk r.Days) (hl : r.Days.length ≤ 4) : pplOk (k + 1) (rs ++ [r]) := by
  obtain ⟨hk, e⟩ := List.getElem?_eq_some_iff.1 hn
  refine ⟨?_, fun q hq => ?_⟩
  · rw [List.map_append, List.take_succ_eq_append_getElem hk, e]
    exact h.1.append (List.Sublist.refl _)
  · rcases List.mem_append.1 hq with hq | hq
    · exact h.2 q hq
    · simp only [List.mem_singleton] at hq; subst hq; exact ⟨hr, hl⟩
/-- valid people, free on days below 12 -/
def DrawnP (ps : List PersonD) : Prop := peopleB ps = true ∧ ps.length ≤ 5 ∧ ∀ p ∈ ps, p.wf ∧ p.small 1099511627776 ∧ ∀ d ∈ p.Days, 0 ≤ d ∧ d ≤ 11
theorem names_lt : fiveNames.Pairwise (fun a b => Op.bytesLess a.toList b.toList = true) := by decide +kernel
theorem names_ok : ∀ s ∈ fiveNames, nameB s = true ∧ s.size ≤ 10 := by decide +kernel
theorem rises_of {D : List Int} (h : dayOk D) : risesB D 0 99999 = true := pw_rises h.1 (fun x hx => by have := h.2 x hx; omega)
theorem pplOk.drawn {rs : List PersonR} (h : pplOk 5 rs) : DrawnP (rs.map PersonR.data) := by
  have hsub : (rs.map PersonR.Name).Sublist fiveNames := h.1.trans (List.take_sublist _ _)
  have hlen : rs.length ≤ 5 := by have := hsub.length_le; simpa [five_len] using this
  have hpw := names_lt.sublist hsub
  have hnm : ∀ r ∈ rs, nameB r.Name = true ∧ r.Name.size ≤ 10 := fun r hr => names_ok _ (hsub.subset (List.mem_map_of_mem hr))
  refine ⟨?_, by simpa using hlen, fun p hp => ?_⟩
  · simp only [peopleB, Bool.and_eq_true, decide_eq_true_eq, List.length_map]
    refine ⟨by omega, all_good (fun i hi => ?_)⟩
    have hi' : i < rs.length := by simpa using hi
    have hok : ((rs.map PersonR.data)[i]).okB = true := by
      rw [List.getElem_map]
      have h1 := hnm _ (List.getElem_mem hi')
      have h2 := h.2 _ (List.getElem_mem hi')
      have h3 : rs[i].Days.length ≤ 32 := by omega
      simp [PersonD.okB, PersonR.data, h1.1, rises_of h2.1, h3]
    cases i with
    | zero => exact good_zero (h := hi) hok
    | succ j =>
      refine good_succ (h := hi) hok ?_
      have := List.pairwise_iff_getElem.1 hpw j (j + 1) (by simpa using Nat.lt_of_succ_lt hi') (by simpa using hi') (by omega)
      simp only [List.getElem_map] at this
      simp only [PersonD.geB, List.getElem_map, PersonR.data, this, Bool.not_true]
  · obtain ⟨r, hr, rfl⟩ := List.mem_map.1 hp
    have h1 := hnm r hr
    have h2 := h.2 r hr
    refine ⟨⟨by simp only [PersonR.data, maxLen]; omega, by simp only [PersonR.data, maxLen]; omega, fun y hy => ?_⟩, by simp only [PersonD.small, PersonR.data]; omega, h2.1.2⟩
    have := h2.1.2 y hy
    unfold intWf; omega
theorem PpQ.reads {X NB : Nat} {N : Int} {A : Option Addr} {c : Nat} {rs : List PersonR} {w wr : World} (h : PpQ X N NB (.slice A rs.length c) rs w wr) : RdPerson 0 wr A (rs.map PersonR.data) :=
  ⟨rs, rfl, Own.rd (cells := PersonR.cells) (k := 2) (by omega) PersonR.cells_len h.own rfl, fun r hr => ⟨Own.rd (cells := intC) (k := 1) (by omega) intC_len (h.days r hr) rfl, fun _ _ _ _ => Nat.zero_le _⟩⟩
/-- drawn people; block X has been written to -/
def PeopleQ (X : Nat) (N : Int) (w : World) (e : Ending) (w' : World) : Prop := ∃ (A : Option Addr) (c : Nat) (ps : List PersonD), e = .returned (.slice A ps.length c) ∧ DrawnP ps ∧ RdPerson 0 w' A ps ∧ w.grownBy w' (some X) ∧ SrcAt X N w'
set_option maxHeartbeats 6400000 in
set_option maxRecDepth 100000 in
theorem c_l21DrawPeople (X : Nat) (N : Int) (w : World) (hN : N ≤ 1099511620000) (hs : SrcAt X N w) : Calls Try.prog 55 #[.pointer (some ⟨X, 0, none⟩)] w (PeopleQ X (N + 60) w) := by
  have HS := hide hs
  have hXw := hs.lt
  have HI := hide (info_parts PersonK_info)
  clear hs
  go_enter Try.func55, Try.ntmps55
  go_wp2_with fail
  obtain ⟨NB, hNB⟩ : ∃ NB, NB = w.heap.size := ⟨_, rfl⟩
  generalize hw0 : World.alloc (World.alloc w _) _ = w0
  have hR0 : Rd strC 1 w0 (some ⟨NB, 0, none⟩) fiveNames := by
    rw [← hw0, hNB]
    have h := Blk.rd (cells := strC) (xs := fiveNames) (t := 9) strC_len (Blk.new w 9 #[.string ⟨#[97, 110, 110]⟩, .string ⟨#[98, 111, 98]⟩, .string ⟨#[99, 97, 105]⟩, .string ⟨#[100, 101, 101]⟩, .string ⟨#[101, 118, 97]⟩])
    exact h.x ((IsX.refl _).alloc _)
  have hx0 : IsX w w0 := by rw [← hw0]; exact ((IsX.refl w).alloc _).alloc _
  have hO0 : w0.ownsRow (NB + 1) 51 2 (.slice (some ⟨NB + 1, 0, none⟩) 0 0) 0 [] := by
    rw [← hw0, hNB]; have h := World.ownsRow_made (base := w.heap.size + 1) (e := 51) (size := 2) (w.alloc (.cells (#[.string ⟨#[97, 110, 110]⟩, .string ⟨#[98, 111, 98]⟩, .string ⟨#[99, 97, 105]⟩, .string ⟨#[100, 101, 101]⟩, .string ⟨#[101, 118, 97]⟩]) 9)) #[] 0 (by simp) (by simp [maxLen]) rfl; simpa using h
  have hXN : X < NB := by rw [hNB]; exact hXw
  have hNBl : NB < w0.heap.size := by rw [← hw0, hNB]; simp; omega
  have hwN : w.heap.size ≤ NB := by omega
  rw [← hNB]
  have HT0 : Hid (PpQ X N NB (.slice (some ⟨NB + 1, 0, none⟩) 0 0) [] w w0) := hide ⟨hO0, fun r hr => by simp at hr, hR0, gr_of_x hx0 _, HS.out.x hx0, hXN, hNBl, hwN⟩
  clear hw0 hNB hO0 hR0 hx0 HS hNBl hXw
  go_loopw [4, 5] (fun ov kv wr => ∃ (k : Nat) (rs : List PersonR) (A : Option Addr) (c : Nat), kv = .int .i64 (k : Int) ∧ k ≤ 5 ∧ ov = .slice A rs.length c ∧ rs.length ≤ k ∧ Hid (pplOk k rs) ∧ Hid (PpQ X (N + k * 12) NB ov rs w wr)) (fun _ kv _ => 5 - (intOf kv).toNat)
  case atStart => exact ⟨0, [], _, _, rfl, by omega, rfl, Nat.le_refl _, hide ⟨by simp, fun x hx => by simp at hx⟩, hide (HT0.out.le (by omega))⟩
  case round =>
    clear HT0
    obtain ⟨k, rs, A, c, rfl, hk6, rfl, hxl, HOK, HT⟩ := hrel
    obtain ⟨n, hnn⟩ : ∃ n, n = rs.length := ⟨_, rfl⟩
    have HN := hide hnn
    rw [← hnn] at hxl HT ⊢
    clear hnn
    by_cases hkp : k < 5
    · obtain ⟨nm, hnm⟩ : ∃ nm, fiveNames[k]? = some nm := ⟨_, List.getElem?_eq_getElem (by rw [five_len]; exact hkp)⟩
      have HNM := hide hnm
      obtain ⟨b', off', e, hb', z0⟩ := str_rd HT.out.rd hnm
      injection e with e
      injection e with e1 e2
      subst e1 e2
      clear hnm
      simp only [Nat.zero_add] at z0
      go_wp2_with fail
      obtain ⟨PB, hPB⟩ : ∃ PB, PB = wr.heap.size := ⟨_, rfl⟩
      generalize hw2 : World.alloc wr _ = w2
      have hT2 : PpI X (N + k * 12) NB PB (.slice A n c) rs nm none 0 [] w w2 := by
        have hx2 : IsX wr w2 := by rw [← hw2]; exact (IsX.refl wr).alloc _
        exact ⟨HT.out.x hx2, by rw [← hw2, hPB]; exact Blk.new wr 51 _, World.ownsRow_nil _ _ _ _, fun j hj => by rw [hPB]; exact (HT.out.own.lt j hj).2, by rw [hPB]; exact HT.out.NBl⟩
      rw [← hPB]
      have HT2 := hide hT2
      clear hw2 hPB hT2 HT z0 hb'
      refine (c_pick X _ 5 w2 (by omega) (by omega) HT2.out.q.src).mono ?_
      rintro e w3 ⟨m, rfl, m0, m1, hg, hat⟩
      have hm4 : m ≤ 4 := by simpa using m1
      have HT3 := hide (HT2.out.pick hg hat)
      clear hg hat m1 HT2
      go_wp2_with fail
      go_loopw [7] (fun jv wr => ∃ (j : Int) (D : List Int) (DA : Option Addr) (Dc : Nat), jv = .int .i64 j ∧ 0 ≤ j ∧ j ≤ m ∧ Hid (dayOk D) ∧ (D.length : Int) + j ≤ m ∧ Hid (PpI X (N + k * 12 + 2 + 2 * (m - j)) NB PB (.slice A n c) rs nm DA Dc D w wr)) (fun jv _ => (intOf jv).toNat)
      case atStart => exact ⟨m, [], _, _, rfl, m0, Int.le_refl _, hide ⟨List.Pairwise.nil, fun x hx => by simp at hx⟩, by simp, hide (HT3.out.le (by omega))⟩
      case round =>
        clear HT3
        obtain ⟨j, D, DA, Dc, rfl, hj0, hjm, HD, hDl, HT⟩ := hrel
        by_cases hj : 0 < j
        · obtain ⟨q, hq⟩ : ∃ q, q = D.length := ⟨_, rfl⟩
          have HQ := hide hq
          rw [← hq] at hDl
          have hb0 := HT.out.blk
          rw [← hq] at hb0
          have d1 := hb0.cell 1
          simp at d1
          have f1 := hb0.frozen 1
          have l1 := hb0.lt
          have HPK := hide (fun (V : World) (hV : IsX wr V) => c_pick X _ 12 V (by omega) (by omega) (HT.out.q.src.x hV))
          clear hq hb0
          go_wp2_with fail
          go_region_with ((first
            | (go_at_call 79; refine (HPK.out _ (IsX.drew (IsX.refl _))).mono ?_; rintro e w7 ⟨d, rfl, hd0, hd1, hg7, hat7⟩; have hd11 : d ≤ 11 := (by simpa using hd1); have HT7 := hide ((HT.out.x (IsX.drew (IsX.refl _))).pick hg7 hat7); have d7 := HT7.out.blk.cell 1; rw [← HQ.out] at d7; simp at d7; have f7 := HT7.out.blk.frozen 1; have l7 := HT7.out.blk.lt; clear hg7 hat7 hd1)
            | (go_at_call 62; refine (c_l00Put DA q Dc D d w7 HQ.out (by omega) (Own.rd (cells := intC) (k := 1) (by omega) intC_len HT7.out.ds rfl)).mono ?_; rintro e w8 ⟨A8, c8, rfl, ho8, hx8⟩; have HO8 := hide ho8; have HX8 := hide hx8; have hB8 := HT7.out.blk.x hx8; have d8 := hB8.cell 1; rw [← HQ.out] at d8; simp at d8; have f8 := hB8.frozen 1; have l8 := hB8.lt; clear ho8 hx8 hB8)))
          all_goals
            have HT9 := hide ((HT7.out.put HX8.out HO8.out).le (M := N + k * 12 + 2 + 2 * (m - (j - 1))) (by omega))
            have HD9 := hide (HD.out.put hd0 hd11)
            have hl9 := insK_len D d
            rw [← HQ.out] at hl9
            generalize insK D d = D9 at HT9 HD9 hl9 ⊢
            generalize World.setCell w8 ⟨PB, 1, none⟩ _ = w9 at HT9 ⊢
            clear d1 f1 l1 HPK d7 f7 l7 d8 f8 l8 HT7 HX8 HO8 HT HD
            go_wp2_with fail
            go_roundw
            case rel => exact ⟨j - 1, D9, A8, c8, by go_num, by omega, by omega, HD9, by omega, HT9⟩
            case measure => simp [intOf]; omega
        · obtain rfl : j = 0 := by omega
          go_wp2_with fail
          refine (c_pick X _ 8 wr (by omega) (by omega) HT.out.q.src).mono ?_
          rintro e w4 ⟨u, rfl, u0, u1, hg, hat⟩
          have HT4 := hide (HT.out.pick hg hat)
          clear hg hat u1 HT
          by_cases hu : 0 < u
          · obtain ⟨q, hq⟩ : ∃ q, q = D.length := ⟨_, rfl⟩
            have HQ := hide hq
            rw [← hq] at hDl
            have hb0 := HT4.out.blk
            rw [← hq] at hb0
            have d0 := hb0.cell 0
            have d1 := hb0.cell 1
            simp at d0 d1
            have l1 := hb0.lt
            have hn5 : n ≤ 5 := by omega
            have HNBs := hide (HT4.out.q.NBl)
            clear hq hb0
            go_wp2_with (at_builtin; obtain ⟨i0, hi0, hz0, hz1, hz2⟩ := HI.out; refine wpList_append_any _ rfl (.tmp 34) (.tmp 36) _ rfl (NB + 1) 51 i0 _ 2 40 Try.underlying29 hi0 hz0 hz1 hz2 rfl (by omega) (.slice A n c) n (rs.flatMap PersonR.cells) rfl (by have h := HT4.out.q.own.alloc (.cells #[.string nm, .slice DA q Dc] 51); rw [← HN.out] at h; exact h) _ (some ⟨w4.heap.size, 0, none⟩) 1 1 (perC nm DA q Dc) rfl (pers_reads w4 nm DA q Dc) (pers_one nm DA q Dc) (by simp only [maxLen]; omega) (by omega) (by have := HNBs.out; simp; omega) ?_; clear hi0 hz0 hz1 hz2; intro vN wN hownN hgN hatN; obtain ⟨A', c', rfl⟩ := own_form hownN)
            have HTN := hide (HT4.out.app hgN (by rw [← HN.out]; exact hownN) (by rw [← HQ.out]))
            clear hownN hgN hatN d0 d1 l1 HNBs HT4
            go_wp2_with fail
            go_roundw
            case rel => exact ⟨k + 1, rs ++ [⟨nm, DA, Dc, D⟩], A', c', by go_num, by omega, by simp [← HN.out], by simp [← HN.out]; omega, hide (HOK.out.snoc HNM.out HD.out (by have := HQ.out; show D.length ≤ 4; omega)), by have h := HTN.out.le (M := N + ((k + 1 : Nat) : Int) * 12) (by omega); simpa [← HN.out] using hide h⟩
            case measure => simp [intOf]; omega
          · go_wp2_with fail
            go_roundw
            case rel => exact ⟨k + 1, rs, A, c, by go_num, by omega, by rw [HN.out], by rw [← HN.out]; omega, hide HOK.out.skip, hide (HT4.out.q.le (by omega))⟩
            case measure => simp [intOf]; omega
    · obtain rfl : k = 5 := by omega
      go_wp2_with fail
      go_ret
      have h := HT.out
      rw [HN.out] at h
      exact ⟨A, c, rs.map PersonR.data, by rw [List.length_map, ← HN.out]; rfl, HOK.out.drawn, h.reads, h.gr, h.src.le (by omega)⟩
theorem c_R8People (A : Option Addr) (c : Nat) (bs : List Int) (w : World) (hn : bs.length ≤ 1099511627776) (hb : ∀ x ∈ bs, byteWf x) (hA : Rd byteC 1 w A bs) :
    Calls Try.prog 25 #[.slice A bs.length c] w fun e w' => ∃ (A' : Option Addr) (c' : Nat) (ps : List PersonD), e = .returned (.slice A' ps.length c') ∧ DrawnP ps ∧ RdPerson 0 w' A' ps ∧ IsX w w' := by
  have HF := hide (c_l00From A c bs w hn hb hA)
  generalize bs.length = bl at HF ⊢
  clear hn hb hA
  go_enter Try.func25, Try.ntmps25
  go_wp2_with fail
  refine HF.out.mono ?_
  rintro e w1 ⟨rfl, hs, hx⟩
  obtain ⟨X, hX⟩ : ∃ X, X = w.heap.size := ⟨_, rfl⟩
  rw [← hX] at hs ⊢
  have hXw : w.heap.size ≤ X := by omega
  clear hX
  have HX1 := hide hx
  have HS1 := hide hs
  clear hx hs HF
  go_wp2_with fail
  refine (c_l21DrawPeople X 0 w1 (by omega) HS1.out).mono ?_
  rintro e w2 ⟨A2, c2, ps, rfl, hps, hrd, hg, hat⟩
  have HQ : Hid (DrawnP ps ∧ RdPerson 0 w2 A2 ps ∧ IsX w w2) := hide ⟨hps, hrd, IsX.grown HX1.out hg (by intro z hz; injection hz with hz; omega)⟩
  obtain ⟨n, hnn⟩ : ∃ n, n = ps.length := ⟨_, rfl⟩
  have HN := hide hnn
  rw [← hnn]
  clear hps hrd hg hat hnn HX1 HS1
  go_wp2_with fail
  go_ret
  exact ⟨A2, c2, ps, by rw [← HN.out]; rfl, HQ.out⟩
end Go.Proofs.Ytfkhhioadklomaa
