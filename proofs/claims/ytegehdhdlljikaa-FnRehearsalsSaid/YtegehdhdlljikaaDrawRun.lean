/- A rehearsal that is drawn. Conditions: fewer than 2^39 choices. -/
import Derived.Test.YtegehdhdlljikaaDraws
import Derived.Test.YtegehdhdlljikaaPutAny
import Derived.Test.YtegehdhdlljikaaRunOwn
import Derived.Deep.RegionWith
namespace Go.Proofs.Ytegehdhdlljikaa
set_option linter.unusedVariables false
open Go.RowKit Go.ChangeShapes

theorem gr_app {w w1 : World} {X base e n : Nat} {size : Nat} {v : Value} {L : List Value} {o : Obj} {w0 : World} (h : w0.grownBy w (some X)) (ho : w.ownsRow base e size v n L) (hg : (w.alloc o).grownBy w1 v.ownBlock) (hb : w0.heap.size ≤ base) : w0.grownBy w1 (some X) :=
  ⟨hg.os.trans h.os, hg.tape.trans h.tape, hg.output.trans h.output, Nat.le_trans h.size (Nat.le_trans (by simp) hg.size), fun k hk hne => by
    rw [hg.block k (by have := h.size; simp; omega) (fun e => by have := (ho.lt k e.symm).1; omega)]
    rw [(IsX.alloc (IsX.refl w) o).below.block k (Nat.lt_of_lt_of_le hk h.size)]
    exact h.block k hk hne⟩
theorem gr_far {w w1 : World} {X g : Nat} (h : w.grownBy w1 (some X)) (hg : w.heap.size ≤ g) (j : Nat) (u : Value) : w.grownBy (w1.setCell ⟨g, j, none⟩ u) (some X) :=
  ⟨h.os, h.tape, h.output, by simpa [World.setCell] using h.size, fun k hk hne => (Below.heap_setCell w1 ⟨g, j, none⟩ u k (show k ≠ g by omega)).trans (h.block k hk hne)⟩
theorem SrcAt.gr {w w1 : World} {X : Nat} {N : Int} {row : Option Nat} (h : SrcAt X N w) (hg : w.grownBy w1 row) (hr : ∀ g, row = some g → X < g) : SrcAt X N w1 := by
  obtain ⟨A, c, xs, a, s, h1, h2, h3, h4, h5, h6, h7, h8⟩ := h
  refine ⟨A, c, xs, a, s, h1.gr hg (fun e => by have := hr X e.symm; omega), h2, h3, h4, h5, ?_, h7, h8⟩
  intro i x hi
  obtain ⟨b, off, e, hb2, hc⟩ := h6 i x hi
  have hbb := h7 (by intro e; rw [e] at hi; simp at hi) b off e
  exact ⟨b, off, e, Nat.lt_of_lt_of_le hb2 hg.size, fun j u hu => (World.cell?_of_block (a := ⟨b, off + i * 1 + j, none⟩) (hg.block b hb2 (fun e => by have := hr b e.symm; omega))).trans (hc j u hu)⟩

theorem own_blk {w : World} {b1 e1 k1 n1 g t : Nat} {v1 : Value} {L1 : List Value} {cs : Array Value} (h1 : w.ownsRow b1 e1 k1 v1 n1 L1) (h2 : Blk w g t cs) (hne : e1 ≠ t) : v1.ownBlock = none ∨ v1.ownBlock ≠ some g := by
  rcases h1.2 with ⟨rfl, _⟩ | ⟨g1, c1, cur1, rfl, _, hh1, _⟩
  · exact .inl rfl
  · refine .inr fun e => ?_
    have eg : g1 = g := by injection e
    subst eg
    unfold Blk at h2
    rw [hh1] at h2
    injection h2 with h2
    injection h2 with _ h2
    exact hne h2
/-- one of some texts -/
def TextQ (X : Nat) (N : Int) (names : List ByteArray) (w : World) (e : Ending) (w' : World) : Prop := ∃ s, e = .returned (.string s) ∧ s ∈ names ∧ w.grownBy w' (some X) ∧ SrcAt X N w'
theorem c_text (X : Nat) (N : Int) (A : Option Addr) (c : Nat) (zs : List ByteArray) (w : World) (hN : N ≤ 1099511627000) (hz : zs ≠ []) (hz2 : zs.length ≤ 1000) (hA : Rd strC 1 w A zs) (ho : ∀ b off, A = some ⟨b, off, none⟩ → b ≠ X) (hs : SrcAt X N w) :
    Calls Try.prog 43 #[.pointer (some ⟨X, 0, none⟩), .slice A zs.length c] w (TextQ X (N + 2) zs w) := by
  obtain ⟨n, hnn⟩ : ∃ n, n = zs.length := ⟨_, rfl⟩
  have hn0 : 0 < n := by rw [hnn]; exact Nat.pos_of_ne_zero (fun h => hz (List.eq_nil_of_length_eq_zero h))
  have HN := hide hnn
  rw [← hnn] at hz2 ⊢
  clear hnn
  go_enter Try.func43, Try.ntmps43
  go_wp2_with fail
  refine (c_pick X N n w hN (by omega) hs).mono ?_
  rintro e w1 ⟨v, rfl, v0, v1, hg, hat⟩
  have hv1 : v < (n : Int) := by split at v1 <;> omega
  have hvx : v.toNat < zs.length := by rw [← HN.out]; omega
  obtain ⟨b, off, rfl, hbl, c0⟩ := str_rd (hA.grX (fun _ => ho) hg) (show zs[v.toNat]? = some zs[v.toNat] from List.getElem?_eq_getElem _)
  have HM := hide (List.getElem_mem hvx)
  have HG := hide hg
  have HAT := hide hat
  generalize zs[v.toNat] = z at c0 HM
  clear hg hat v1 hA
  go_wp2_with fail
  go_ret
  exact ⟨z, rfl, HM.out, HG.out, HAT.out⟩
def who5 : List ByteArray := [⟨#[97, 110, 110]⟩, ⟨#[98, 111, 98]⟩, ⟨#[99, 97, 105]⟩, ⟨#[100, 101, 101]⟩, ⟨#[101, 118, 97]⟩]
def cue8 : List ByteArray := [⟨#[97]⟩, ⟨#[98]⟩, ⟨#[99]⟩, ⟨#[100]⟩, ⟨#[101]⟩, ⟨#[102]⟩, ⟨#[103]⟩, ⟨#[104]⟩]
def cue3 : List ByteArray := [⟨#[97]⟩, ⟨#[98]⟩, ⟨#[99]⟩]
theorem who5_ok : ∀ s ∈ who5, nameB s = true ∧ s.size ≤ 10 := by decide +kernel
theorem cue8_ok : ∀ s ∈ cue8, nameB s = true ∧ s.size ≤ 10 := by decide +kernel
theorem cue3_ok : ∀ s ∈ cue3, nameB s = true ∧ s.size ≤ 10 := by decide +kernel
/-- block RB for the result, block XB for the rehearsal, its two rows of its own, choices up to N -/
structure RnS (X : Nat) (N : Int) (RB XB : Nat) (day : Int) (ca : Option Addr) (cc : Nat) (cs : List ByteArray) (ra : Option Addr) (rc : Nat) (rm : List RemarkD) (w wr : World) : Prop where
  res : Blk wr RB 31 #[.int .i64 0, .slice none 0 0, .slice none 0 0]
  blk : Blk wr XB 31 #[.int .i64 day, .slice ca cs.length cc, .slice ra rm.length rc]
  cu : wr.ownsRow w.heap.size 9 1 (.slice ca cs.length cc) cs.length (cs.flatMap strC)
  rm : wr.ownsRow w.heap.size 28 4 (.slice ra rm.length rc) rm.length (rm.flatMap RemarkD.cells)
  gr : w.grownBy wr (some X)
  src : SrcAt X N wr
  rw_ : w.heap.size ≤ RB
  xw : w.heap.size ≤ XB
  ne : RB ≠ XB
  Xw : X < w.heap.size
section
variable {X RB XB YB : Nat} {N day : Int} {ca ra : Option Addr} {cc rc : Nat} {cs : List ByteArray} {rm : List RemarkD} {w wr w1 : World}
theorem RnS.x (h : RnS X N RB XB day ca cc cs ra rc rm w wr) (hx : IsX wr w1) : RnS X N RB XB day ca cc cs ra rc rm w w1 :=
  ⟨h.res.x hx, h.blk.x hx, own_x' h.cu hx, own_x' h.rm hx, gr_x h.gr hx, h.src.x hx, h.rw_, h.xw, h.ne, h.Xw⟩
theorem RnS.pick {M : Int} (h : RnS X N RB XB day ca cc cs ra rc rm w wr) (hg : wr.grownBy w1 (some X)) (hat : SrcAt X M w1) : RnS X M RB XB day ca cc cs ra rc rm w w1 :=
  ⟨h.res.gr hg (fun e => by injection e with e; have := h.rw_; have := h.Xw; omega), h.blk.gr hg (fun e => by injection e with e; have := h.xw; have := h.Xw; omega),
    own_grX h.cu hg h.Xw, own_grX h.rm hg h.Xw, gr_tr h.gr hg, hat, h.rw_, h.xw, h.ne, h.Xw⟩
theorem RnS.le {M : Int} (h : RnS X N RB XB day ca cc cs ra rc rm w wr) (hM : N ≤ M) : RnS X M RB XB day ca cc cs ra rc rm w wr :=
  ⟨h.res, h.blk, h.cu, h.rm, h.gr, h.src.le hM, h.rw_, h.xw, h.ne, h.Xw⟩
theorem RnS.putC {A' : Option Addr} {c' : Nat} {cs' : List ByteArray} (h : RnS X N RB XB day ca cc cs ra rc rm w wr) (hx : IsX wr w1) (ho : w1.ownsRow w.heap.size 9 1 (.slice A' cs'.length c') cs'.length (cs'.flatMap strC)) :
    RnS X N RB XB day A' c' cs' ra rc rm w (w1.setCell ⟨XB, 1, none⟩ (.slice A' cs'.length c')) := by
  have h' := h.x hx
  have hg := gr_of_set w1 XB 1 (.slice A' cs'.length c')
  exact ⟨h'.res.far h.ne _, by simpa using h'.blk.set_ 1 (.slice A' cs'.length c'), ho.kept hg (own_blk ho h'.blk (by omega)), h'.rm.kept hg (own_blk h'.rm h'.blk (by omega)), gr_far h'.gr h.xw _ _,
    h'.src.gr hg (fun g e => by injection e with e; have := h.xw; have := h.Xw; omega), h.rw_, h.xw, h.ne, h.Xw⟩
theorem RnS.far (h : RnS X N RB XB day ca cc cs ra rc rm w wr) {cy : Array Value} (hy : Blk wr YB 28 cy) (hYB : ∀ j, (Value.slice ra rm.length rc).ownBlock = some j → j ≠ YB) (hw : w.heap.size ≤ YB) (j : Nat) (u : Value) :
    RnS X N RB XB day ca cc cs ra rc rm w (wr.setCell ⟨YB, j, none⟩ u) := by
  have hg := gr_of_set wr YB j u
  have hRY : RB ≠ YB := fun e => by have h1 := h.res; unfold Blk at h1 hy; rw [e, hy] at h1; injection h1 with h1; injection h1 with _ h1; exact absurd h1 (by decide)
  have hXY : XB ≠ YB := fun e => by have h1 := h.blk; unfold Blk at h1 hy; rw [e, hy] at h1; injection h1 with h1; injection h1 with _ h1; exact absurd h1 (by decide)
  refine ⟨h.res.far hRY _, h.blk.far hXY _, h.cu.kept hg (own_blk h.cu hy (by omega)), h.rm.kept hg ?_, gr_far h.gr hw _ _, h.src.gr hg (fun g e => by injection e with e; have := h.Xw; omega), h.rw_, h.xw, h.ne, h.Xw⟩
  cases hv : (Value.slice ra rm.length rc).ownBlock with
  | none => exact .inl rfl
  | some i => exact .inr (fun e => by injection e with e; exact hYB i hv e)
theorem RnS.app {A' : Option Addr} {c' : Nat} {o : Obj} {r : RemarkD} (h : RnS X N RB XB day ca cc cs ra rc rm w wr) (hg : (wr.alloc o).grownBy w1 (Value.slice ra rm.length rc).ownBlock)
    (ho : w1.ownsRow w.heap.size 28 4 (.slice A' (rm.length + 1) c') (rm.length + 1) (rm.flatMap RemarkD.cells ++ r.cells)) :
    RnS X N RB XB day ca cc cs A' c' (rm ++ [r]) w (w1.setCell ⟨XB, 2, none⟩ (.slice A' (rm.length + 1) c')) := by
  have h' := h.x ((IsX.refl wr).alloc o)
  have hb : Blk w1 XB 31 #[.int .i64 day, .slice ca cs.length cc, .slice ra rm.length rc] := h'.blk.gr hg (fun e => by
    rcases own_blk h'.rm h'.blk (by omega) with h1 | h1
    · rw [h1] at e; cases e
    · exact h1 e.symm)
  have hr : Blk w1 RB 31 #[.int .i64 0, .slice none 0 0, .slice none 0 0] := h'.res.gr hg (fun e => by
    rcases own_blk h'.rm h'.res (by omega) with h1 | h1
    · rw [h1] at e; cases e
    · exact h1 e.symm)
  have hc := h'.cu.kept hg (own_type h'.cu h'.rm (by omega))
  have hs := gr_of_set w1 XB 2 (.slice A' (rm.length + 1) c')
  have hgr : w.grownBy w1 (some X) := gr_app h.gr h.rm hg (Nat.le_refl _)
  have hsr : SrcAt X N w1 := h'.src.gr hg (fun g e => by have := (h.rm.lt g e).1; have := h.Xw; omega)
  refine ⟨hr.far h.ne _, ?_, hc.kept hs (own_blk hc hb (by omega)), ?_, gr_far hgr h.xw _ _, hsr.gr hs (fun g e => by injection e with e; have := h.xw; have := h.Xw; omega), h.rw_, h.xw, h.ne, h.Xw⟩
  · have h2 := hb.set_ 2 (.slice A' (rm.length + 1) c')
    simpa using h2
  · have h2 := ho.kept hs (own_blk ho hb (by omega))
    simpa using h2
end
/-- cues as they are drawn -/
def cuesDr (cs : List ByteArray) : Prop := cs.Pairwise (fun a b => keyB a < keyB b) ∧ ∀ s ∈ cs, s ∈ cue8
theorem cuesDr.put {cs : List ByteArray} {s : ByteArray} (h : cuesDr cs) (hs : s ∈ cue8) : cuesDr (putS cs s) := ⟨putS_pw h.1, fun z hz => by
  rcases putS_mem.1 hz with rfl | hz
  · exact hs
  · exact h.2 z hz⟩
/-- notes as they are drawn: numbers from lo on, all below hi -/
def remsDr (lo hi : Int) (rm : List RemarkD) : Prop := rm.Pairwise (fun a b => a.Number < b.Number) ∧ ∀ r ∈ rm, lo ≤ r.Number ∧ r.Number < hi ∧ r.Who ∈ who5 ∧ r.Cue ∈ cue3
theorem remsDr.snoc {lo hi hi' : Int} {rm : List RemarkD} {r : RemarkD} (h : remsDr lo hi rm) (h1 : r.Number = hi) (h2 : lo ≤ hi) (h3 : hi < hi') (hw : r.Who ∈ who5) (hc : r.Cue ∈ cue3) : remsDr lo hi' (rm ++ [r]) := by
  refine ⟨?_, fun q hq => ?_⟩
  · rw [List.pairwise_append]
    refine ⟨h.1, List.pairwise_singleton _ _, fun a ha b hb => ?_⟩
    simp only [List.mem_singleton] at hb
    subst hb
    have := (h.2 a ha).2.1
    omega
  · rcases List.mem_append.1 hq with hq | hq
    · obtain ⟨k1, k2, k3⟩ := h.2 q hq
      exact ⟨k1, by omega, k3⟩
    · simp only [List.mem_singleton] at hq
      subst hq
      exact ⟨by omega, by omega, hw, hc⟩
/-- a drawn rehearsal -/
def RunQ (X : Nat) (N day number : Int) (w : World) (e : Ending) (w' : World) : Prop := ∃ (ca ra : Option Addr) (cc rc : Nat) (cs : List ByteArray) (rm : List RemarkD), e = .returned (.agg #[.int .i64 day, .slice ca cs.length cc, .slice ra rm.length rc]) ∧
  cs.length ≤ 4 ∧ rm.length ≤ 3 ∧ cuesDr cs ∧ remsDr number (number + 10) rm ∧ w'.ownsRow w.heap.size 9 1 (.slice ca cs.length cc) cs.length (cs.flatMap strC) ∧ w'.ownsRow w.heap.size 28 4 (.slice ra rm.length rc) rm.length (rm.flatMap RemarkD.cells) ∧ w.grownBy w' (some X) ∧ SrcAt X N w'
set_option maxHeartbeats 12800000 in
set_option maxRecDepth 100000 in
theorem c_l21DrawRun (X : Nat) (N day number : Int) (w : World) (hN : N ≤ 1099511620000) (hd : intWf day) (hn0 : 0 ≤ number) (hn1 : number ≤ 100000) (hs : SrcAt X N w) : Calls Try.prog 28 #[.pointer (some ⟨X, 0, none⟩), .int .i64 day, .int .i64 number] w (RunQ X (N + 60) day number w) := by
  have HS := hide hs
  have hXw := hs.lt
  have HI := hide (info_parts Remark_info)
  clear hs
  go_enter Try.func28, Try.ntmps28
  go_wp2_with fail
  obtain ⟨RB, hRB⟩ : ∃ RB, RB = w.heap.size := ⟨_, rfl⟩
  obtain ⟨XB, hXB⟩ : ∃ XB, XB = RB + 1 := ⟨_, rfl⟩
  generalize hw0 : World.alloc (World.alloc w _) _ = w0
  have hT : RnS X N RB XB day none 0 [] none 0 [] w w0 := by
    have hx : IsX w w0 := by rw [← hw0]; exact ((IsX.refl w).alloc _).alloc _
    refine ⟨?_, ?_, World.ownsRow_nil _ _ _ _, World.ownsRow_nil _ _ _ _, gr_of_x hx _, HS.out.x hx, by omega, by omega, by omega, hXw⟩
    · rw [← hw0, hRB]; exact (Blk.new w 31 _).alloc _
    · rw [← hw0, hXB, hRB]
      have h := Blk.new (w.alloc (.cells #[.int .i64 0, .slice none 0 0, .slice none 0 0] 31)) 31 #[.int .i64 day, .slice none 0 0, .slice none 0 0]
      rw [World.size_alloc] at h
      exact h
  rw [← hRB, ← hXB]
  have HT0 := hide hT
  have hXR : X < RB := by omega
  clear hw0 hT hRB hXB HS
  refine (c_pick X _ 5 w0 (by omega) (by omega) HT0.out.src).mono ?_
  rintro e w1 ⟨m, rfl, m0, m1, hg, hat⟩
  have hm4 : m ≤ 4 := by simpa using m1
  have HT1 := hide (HT0.out.pick hg hat)
  clear hg hat m1 HT0
  go_wp2_with fail
  go_loopw [8] (fun jv wr => ∃ (j : Int) (cs : List ByteArray) (ca : Option Addr) (cc : Nat), jv = .int .i64 j ∧ 0 ≤ j ∧ j ≤ m ∧ Hid (cuesDr cs) ∧ (cs.length : Int) + j ≤ m ∧ Hid (RnS X (N + 2 + 2 * (m - j)) RB XB day ca cc cs none 0 [] w wr)) (fun jv _ => (intOf jv).toNat)
  case atStart => exact ⟨m, [], _, _, rfl, m0, Int.le_refl _, hide ⟨List.Pairwise.nil, fun x hx => by simp at hx⟩, by simp, hide (HT1.out.le (by omega))⟩
  case round =>
    clear HT1
    obtain ⟨j, cs, ca, cc, rfl, hj0, hjm, HD, hDl, HT⟩ := hrel
    obtain ⟨q, hq⟩ : ∃ q, q = cs.length := ⟨_, rfl⟩
    have HQ := hide hq
    rw [← hq] at hDl
    clear hq
    by_cases hj : 0 < j
    · have hb0 := HT.out.blk
      rw [← HQ.out] at hb0
      have d1 := hb0.cell 1
      simp at d1
      have f1 := hb0.frozen 1
      have l1 := hb0.lt
      have HTX := hide (c_text X _ (some ⟨wr.heap.size, 0, none⟩) 8 [⟨#[97]⟩, ⟨#[98]⟩, ⟨#[99]⟩, ⟨#[100]⟩, ⟨#[101]⟩, ⟨#[102]⟩, ⟨#[103]⟩, ⟨#[104]⟩] (wr.alloc (.cells #[.string ⟨#[97]⟩, .string ⟨#[98]⟩, .string ⟨#[99]⟩, .string ⟨#[100]⟩, .string ⟨#[101]⟩, .string ⟨#[102]⟩, .string ⟨#[103]⟩, .string ⟨#[104]⟩] 9)).drew (by omega) (by simp) (by simp) ((Blk.rd (cells := strC) (xs := [⟨#[97]⟩, ⟨#[98]⟩, ⟨#[99]⟩, ⟨#[100]⟩, ⟨#[101]⟩, ⟨#[102]⟩, ⟨#[103]⟩, ⟨#[104]⟩]) (t := 9) strC_len (Blk.new wr 9 #[.string ⟨#[97]⟩, .string ⟨#[98]⟩, .string ⟨#[99]⟩, .string ⟨#[100]⟩, .string ⟨#[101]⟩, .string ⟨#[102]⟩, .string ⟨#[103]⟩, .string ⟨#[104]⟩])).x (IsX.drew (IsX.refl _))) (fun b off e => by injection e with e; injection e with e1 e2; have := HT.out.src.lt; omega) ((HT.out.src.x ((IsX.refl _).alloc _)).x (IsX.drew (IsX.refl _))))
      clear hb0
      go_wp2_with fail
      go_region_with ((first
        | (go_at_call 43; refine HTX.out.mono ?_; rintro e w7 ⟨s, rfl, hsm, hg7, hat7⟩; have HSM := hide hsm; have HT7 := hide (((HT.out.x ((IsX.refl _).alloc _)).x (IsX.drew (IsX.refl _))).pick hg7 hat7); have d7 := HT7.out.blk.cell 1; rw [← HQ.out] at d7; simp at d7; have f7 := HT7.out.blk.frozen 1; have l7 := HT7.out.blk.lt; clear hg7 hat7 hsm)
        | (go_at_call 42; refine (c_l21PutA ca q cc w.heap.size cs s w7 HQ.out (by omega) HT7.out.gr.size (by rw [HQ.out]; exact HT7.out.cu)).mono ?_; rintro e w8 ⟨A8, c8, rfl, ho8, hx8⟩; have HO8 := hide ho8; have HX8 := hide hx8; have hB8 := HT7.out.blk.x hx8; have d8 := hB8.cell 1; rw [← HQ.out] at d8; simp at d8; have f8 := hB8.frozen 1; have l8 := hB8.lt; clear ho8 hx8 hB8)))
      all_goals
        have HT9 := hide ((HT7.out.putC HX8.out HO8.out).le (M := N + 2 + 2 * (m - (j - 1))) (by omega))
        have HD9 := hide (HD.out.put HSM.out)
        have hl9 := putS_len cs s
        rw [← HQ.out] at hl9
        generalize putS cs s = D9 at HT9 HD9 hl9 ⊢
        generalize World.setCell w8 ⟨XB, 1, none⟩ _ = w9 at HT9 ⊢
        clear d1 f1 l1 HTX d7 f7 l7 d8 f8 l8 HT7 HX8 HO8 HT HD HSM
        go_wp2_with fail
        go_roundw
        case rel => exact ⟨j - 1, D9, A8, c8, by go_num, by omega, by omega, HD9, by omega, HT9⟩
        case measure => simp [intOf]; omega
    · obtain rfl : j = 0 := by omega
      have hq4 : q ≤ 4 := by omega
      go_wp2_with fail
      refine (c_pick X _ 4 wr (by omega) (by omega) HT.out.src).mono ?_
      rintro e w4 ⟨u, rfl, u0, u1, hg, hat⟩
      have hu3 : u ≤ 3 := by simpa using u1
      have HT4 := hide ((HT.out.pick hg hat).le (M := N + 12) (by omega))
      clear hg hat u1 HT hDl
      go_wp2_with fail
      go_loopw [2, 9] (fun nv iv wr => ∃ (i num : Int) (rm : List RemarkD) (ra : Option Addr) (rc : Nat), iv = .int .i64 i ∧ nv = .int .i64 num ∧ 0 ≤ i ∧ i ≤ u ∧ (rm.length : Int) + i ≤ u ∧ number ≤ num ∧ num ≤ number + 3 * (u - i) ∧ Hid (remsDr number num rm) ∧ Hid (RnS X (N + 12 + 8 * (u - i)) RB XB day ca cc cs ra rc rm w wr)) (fun _ iv _ => (intOf iv).toNat)
      case atStart => exact ⟨u, number, [], _, _, rfl, rfl, u0, Int.le_refl _, by simp, Int.le_refl _, by omega, hide ⟨List.Pairwise.nil, fun x hx => by simp at hx⟩, hide (HT4.out.le (by omega))⟩
      case round =>
        clear HT4
        obtain ⟨i, num, rm, ra, rc, rfl, rfl, hi0, hiu, hrl, hnn0, hnn1, HRM, HT⟩ := hrel
        obtain ⟨l, hl⟩ : ∃ l, l = rm.length := ⟨_, rfl⟩
        have HL := hide hl
        rw [← hl] at hrl
        clear hl
        by_cases hi : 0 < i
        · go_wp2_with fail
          have HTA := hide (c_text X _ (some ⟨wr.heap.size, 0, none⟩) 5 [⟨#[97, 110, 110]⟩, ⟨#[98, 111, 98]⟩, ⟨#[99, 97, 105]⟩, ⟨#[100, 101, 101]⟩, ⟨#[101, 118, 97]⟩] (wr.alloc (.cells #[.string ⟨#[97, 110, 110]⟩, .string ⟨#[98, 111, 98]⟩, .string ⟨#[99, 97, 105]⟩, .string ⟨#[100, 101, 101]⟩, .string ⟨#[101, 118, 97]⟩] 9)) (by omega) (by simp) (by simp) ((Blk.rd (cells := strC) (xs := [⟨#[97, 110, 110]⟩, ⟨#[98, 111, 98]⟩, ⟨#[99, 97, 105]⟩, ⟨#[100, 101, 101]⟩, ⟨#[101, 118, 97]⟩]) (t := 9) strC_len (Blk.new wr 9 #[.string ⟨#[97, 110, 110]⟩, .string ⟨#[98, 111, 98]⟩, .string ⟨#[99, 97, 105]⟩, .string ⟨#[100, 101, 101]⟩, .string ⟨#[101, 118, 97]⟩]))) (fun b off e => by injection e with e; injection e with e1 e2; have := HT.out.src.lt; omega) ((HT.out.src.x ((IsX.refl _).alloc _))))
          refine HTA.out.mono ?_
          rintro e w5 ⟨who, rfl, hwm, hg, hat⟩
          have HWM := hide hwm
          have HT5 := hide ((HT.out.x ((IsX.refl _).alloc _)).pick hg hat)
          clear hg hat hwm HTA HT
          go_wp2_with fail
          obtain ⟨YB, hYB⟩ : ∃ YB, YB = w5.heap.size := ⟨_, rfl⟩
          obtain ⟨KL, hKL⟩ : ∃ KL, KL = YB + 1 := ⟨_, rfl⟩
          generalize hw6 : World.alloc (World.alloc w5 _) _ = w6
          have hx6 : IsX w5 w6 := by rw [← hw6]; exact ((IsX.refl w5).alloc _).alloc _
          have HY6 : Hid (Blk w6 YB 28 #[.int .i64 num, .string who, .string ByteArray.empty, .bool false]) := hide (by rw [← hw6, hYB]; exact (Blk.new w5 28 _).alloc _)
          have hRl : Rd strC 1 w6 (some ⟨KL, 0, none⟩) [⟨#[97]⟩, ⟨#[98]⟩, ⟨#[99]⟩] := by
            rw [← hw6, hKL, hYB]
            have h := Blk.rd (cells := strC) (xs := [⟨#[97]⟩, ⟨#[98]⟩, ⟨#[99]⟩]) (t := 9) strC_len (Blk.new (w5.alloc (.cells #[.int .i64 num, .string who, .string ByteArray.empty, .bool false] 28)) 9 #[.string ⟨#[97]⟩, .string ⟨#[98]⟩, .string ⟨#[99]⟩])
            rw [World.size_alloc] at h
            exact h
          have HT6 := hide (HT5.out.x hx6)
          have HYB : Hid ((∀ j, (Value.slice ra rm.length rc).ownBlock = some j → j ≠ YB) ∧ w.heap.size ≤ YB ∧ X < YB) := hide ⟨fun j hj => by have := (HT5.out.rm.lt j hj).2; omega, by have := HT5.out.gr.size; omega, by have := HT5.out.gr.size; omega⟩
          have hXK : X < KL := by have := HYB.out.2.2; omega
          rw [← hYB, ← hKL]
          have HTB := hide (c_text X _ (some ⟨KL, 0, none⟩) 3 [⟨#[97]⟩, ⟨#[98]⟩, ⟨#[99]⟩] w6 (by omega) (by simp) (by simp) hRl (fun b off e => by injection e with e; injection e with e1 e2; omega) HT6.out.src)
          clear hw6 hYB hKL hRl hx6 hXK HT5
          refine HTB.out.mono ?_
          rintro e w7 ⟨cu, rfl, hcm, hg, hat⟩
          have HCM := hide hcm
          have HT7 := hide (HT6.out.pick hg hat)
          have HY7 := hide (HY6.out.gr hg (fun e => by injection e with e; have := HYB.out.2.2; omega))
          clear hg hat hcm HTB HT6 HY6
          have y2 := HY7.out.cell 2
          simp at y2
          have z2 := HY7.out.frozen 2
          have lY := HY7.out.lt
          go_upto_region 11 with fail
          clear y2 z2 lY
          have HT8 := hide (HT7.out.far HY7.out HYB.out.1 HYB.out.2.1 2 (.string cu))
          have HY8 : Hid (Blk (w7.setCell ⟨YB, 2, none⟩ (.string cu)) YB 28 #[.int .i64 num, .string who, .string cu, .bool false]) := hide (by simpa using HY7.out.set_ 2 (.string cu))
          generalize World.setCell w7 ⟨YB, 2, none⟩ (.string cu) = w8 at HT8 HY8 ⊢
          clear HT7 HY7
          go_wp2_with fail
          refine (c_one X _ 3 w8 (by omega) (by omega) HT8.out.src).mono ?_
          rintro e w9 ⟨dn, rfl, hg, hat⟩
          have HT9 := hide (HT8.out.pick hg hat)
          have HY9 := hide (HY8.out.gr hg (fun e => by injection e with e; have := HYB.out.2.2; omega))
          clear hg hat HT8 HY8
          have y3 := HY9.out.cell 3
          simp at y3
          have z3 := HY9.out.frozen 3
          have lY := HY9.out.lt
          go_upto_region 12 with fail
          clear y3 z3 lY
          have HTa := hide (HT9.out.far HY9.out HYB.out.1 HYB.out.2.1 3 (.bool dn))
          have HYa : Hid (Blk (w9.setCell ⟨YB, 3, none⟩ (.bool dn)) YB 28 #[.int .i64 num, .string who, .string cu, .bool dn]) := hide (by simpa using HY9.out.set_ 3 (.bool dn))
          generalize World.setCell w9 ⟨YB, 3, none⟩ (.bool dn) = wa at HTa HYa ⊢
          clear HT9 HY9
          have y0 := HYa.out.cell 0
          have y1 := HYa.out.cell 1
          have y2 := HYa.out.cell 2
          have y3 := HYa.out.cell 3
          simp at y0 y1 y2 y3
          have lY := HYa.out.lt
          have hb0 := HTa.out.blk
          rw [← HL.out] at hb0
          have x2 := hb0.cell 2
          simp at x2
          have lX := hb0.lt
          have hl3 : l ≤ 3 := by omega
          have HSZ := hide (HTa.out.gr.size)
          have HXA : Hid (∀ (v' : Value) (wN : World), wN.ownsRow w.heap.size 28 4 v' (l + 1) (rm.flatMap RemarkD.cells ++ (⟨num, who, cu, dn⟩ : RemarkD).cells) → (wa.alloc (.cells #[.int .i64 num, .string who, .string cu, .bool dn] 28)).grownBy wN (Value.slice ra l rc).ownBlock → Blk wN XB 31 #[.int .i64 day, .slice ca cs.length cc, .slice ra rm.length rc]) := hide (fun v' wN ho hgN => by
            have h' := HTa.out.x ((IsX.refl wa).alloc (.cells #[.int .i64 num, .string who, .string cu, .bool dn] 28))
            refine h'.blk.gr hgN (fun e => ?_)
            rcases own_blk h'.rm h'.blk (by omega) with h1 | h1
            · rw [← HL.out] at h1; rw [h1] at e; cases e
            · rw [← HL.out] at h1; exact h1 e.symm)
          clear hb0
          go_upto_region 13 with (at_builtin; obtain ⟨i0, hi0', hz0, hz1, hz2⟩ := HI.out; refine wpList_append_any _ rfl (.tmp 45) (.tmp 47) _ rfl w.heap.size 28 i0 _ 4 48 Try.underlying29 hi0' hz0 hz1 hz2 rfl (by omega) (.slice ra l rc) l (rm.flatMap RemarkD.cells) rfl (by have h := HTa.out.rm; rw [← HL.out] at h; exact h.alloc _) _ (some ⟨wa.heap.size, 0, none⟩) 1 1 (⟨num, who, cu, dn⟩ : RemarkD).cells rfl (remark_reads wa ⟨num, who, cu, dn⟩) (fun u hu => remark_one [⟨num, who, cu, dn⟩] u (by simpa using hu)) (by simp only [maxLen]; omega) (by omega) (by have := HSZ.out; simp; omega) ?_; clear hi0' hz0 hz1 hz2; intro vN wN hownN hgN hatN; have hBX := HXA.out vN wN hownN hgN; have x2N := hBX.cell 2; simp at x2N; have f2N := hBX.frozen 2; have lXN := hBX.lt; clear hBX; obtain ⟨A', c', rfl⟩ := row_slice4 hownN; have HON := hide hownN; have HGN := hide hgN; clear hownN hgN hatN)
          have HTb := hide (HTa.out.app (r := ⟨num, who, cu, dn⟩) (by rw [← HL.out]; exact HGN.out) (by rw [← HL.out]; exact HON.out))
          rw [← HL.out] at HTb
          generalize World.setCell wN ⟨XB, 2, none⟩ _ = wb at HTb ⊢
          clear y0 y1 y2 y3 lY x2 lX HSZ HXA x2N f2N lXN HON HGN HTa HYa HYB
          go_wp2_with fail
          refine (c_pick X _ 3 wb (by omega) (by omega) HTb.out.src).mono ?_
          rintro e wc ⟨st, rfl, s0, s1, hg, hat⟩
          have hst : st ≤ 2 := by simpa using s1
          have HTc := hide ((HTb.out.pick hg hat).le (M := N + 12 + 8 * (u - (i - 1))) (by omega))
          have HRMc := hide (HRM.out.snoc (hi' := num + (1 + st)) (r := ⟨num, who, cu, dn⟩) rfl hnn0 (by omega) HWM.out HCM.out)
          clear hg hat s1 HTb HRM HWM HCM
          go_wp2_with fail
          go_roundw
          case rel => exact ⟨i - 1, num + (1 + st), rm ++ [⟨num, who, cu, dn⟩], A', c', by go_num, by go_num, by omega, by omega, by simp [← HL.out]; omega, by omega, by omega, HRMc, HTc⟩
          case measure => simp [intOf]; omega
        · obtain rfl : i = 0 := by omega
          have hl3 : l ≤ 3 := by omega
          have hB := HT.out.blk
          rw [← HL.out, ← HQ.out] at hB
          have e0 := hB.cell 0
          have e1 := hB.cell 1
          have e2 := hB.cell 2
          have z0 := HT.out.res.cell 0
          have z1 := HT.out.res.cell 1
          have z2 := HT.out.res.cell 2
          simp at e0 e1 e2 z0 z1 z2
          have f0 := HT.out.res.frozen 0
          have f1 := HT.out.res.frozen 1
          have f2 := HT.out.res.frozen 2
          have lb := hB.lt
          have lr := HT.out.res.lt
          have hne : RB ≠ XB := HT.out.ne
          clear hB
          go_wp2_with fail
          have HB6 := hide (((HT.out.res.set_ 0 (.int .i64 day)).set_ 1 (.slice ca q cc)).set_ 2 (.slice ra l rc))
          have HG6 := hide (gr_far (gr_far (gr_far HT.out.gr HT.out.rw_ 0 (.int .i64 day)) HT.out.rw_ 1 (.slice ca q cc)) HT.out.rw_ 2 (.slice ra l rc))
          have hXR' : ∀ g, some RB = some g → X < g := fun g hg => by injection hg with hg; omega
          have HS6 := hide (((HT.out.src.gr (gr_of_set _ RB 0 (.int .i64 day)) hXR').gr (gr_of_set _ RB 1 (.slice ca q cc)) hXR').gr (gr_of_set _ RB 2 (.slice ra l rc)) hXR')
          have keepO : ∀ {e1 k1 n1 : Nat} {v1 : Value} {L1 : List Value} {V : World} {cs0 : Array Value} (j : Nat) (u : Value), V.ownsRow w.heap.size e1 k1 v1 n1 L1 → Blk V RB 31 cs0 → e1 ≠ 31 → (V.setCell ⟨RB, j, none⟩ u).ownsRow w.heap.size e1 k1 v1 n1 L1 := fun j u h1 h2 h3 => h1.kept (gr_of_set _ RB j u) (own_blk h1 h2 h3)
          have HC6 := hide (keepO 2 (.slice ra l rc) (keepO 1 (.slice ca q cc) (keepO 0 (.int .i64 day) HT.out.cu HT.out.res (by omega)) (HT.out.res.set_ 0 (.int .i64 day)) (by omega)) ((HT.out.res.set_ 0 (.int .i64 day)).set_ 1 (.slice ca q cc)) (by omega))
          have HR6 := hide (keepO 2 (.slice ra l rc) (keepO 1 (.slice ca q cc) (keepO 0 (.int .i64 day) HT.out.rm HT.out.res (by omega)) (HT.out.res.set_ 0 (.int .i64 day)) (by omega)) ((HT.out.res.set_ 0 (.int .i64 day)).set_ 1 (.slice ca q cc)) (by omega))
          clear keepO hXR'
          generalize World.setCell _ ⟨RB, 2, none⟩ (.slice ra l rc) = V6 at HB6 HG6 HS6 HC6 HR6 ⊢
          have r0 := HB6.out.cell 0
          have r1 := HB6.out.cell 1
          have r2 := HB6.out.cell 2
          simp at r0 r1 r2
          exact bodyPost_ret (v := .agg #[.int .i64 day, .slice ca q cc, .slice ra l rc]) (by simp [results, Try.results28, go_sem, r0, r1, r2]) rfl ⟨ca, ra, cc, rc, cs, rm, by rw [← HQ.out, ← HL.out], by rw [← HQ.out]; exact hq4, by rw [← HL.out]; exact hl3, HD.out, ⟨HRM.out.1, fun r hr => by have := HRM.out.2 r hr; exact ⟨this.1, by omega, this.2.2⟩⟩, HC6.out, HR6.out, HG6.out, HS6.out.le (by omega)⟩
end Go.Proofs.Ytegehdhdlljikaa
