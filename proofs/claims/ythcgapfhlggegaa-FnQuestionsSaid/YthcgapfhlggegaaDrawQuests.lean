/- Lists of questions that are drawn: some list of well-formed questions. Conditions: fewer than 2^39 choices. -/
import Derived.Test.YthcgapfhlggegaaDraws
import Derived.Test.YthcgapfhlggegaaLString
import Derived.Test.YthcgapfhlggegaaFlatQuestion
import Derived.Deep.RegionHeld3
import Derived.Laws.BytesArg
namespace Go.Proofs.Ythcgapfhlggegaa
set_option linter.unusedVariables false
open Go.RowKit Go.ChangeShapes

theorem QuestionK_info : (Try.prog.info? 32).map (fun i => (i.zero, i.size, i.bytes)) = some (some (.agg #[.string ByteArray.empty, .int .i64 0, .int .i64 0, .int .i64 0]), 4, 40) := by kernel_rfl
theorem quest_reads (w : World) (x : QuestionD) : Reads (w.alloc (.cells #[.string x.Id, .int .i64 x.Arrived, .int .i64 x.Length, .int .i64 x.Priority] 32)) (w.alloc (.cells #[.string x.Id, .int .i64 x.Arrived, .int .i64 x.Length, .int .i64 x.Priority] 32)).heap.size 4 (some ⟨w.heap.size, 0, none⟩) 1 x.cells := by
  have h := Rd.reads (cells := QuestionD.cells) (xs := [x]) (by omega) QuestionD.cells_len (Blk.rd (cells := QuestionD.cells) (xs := [x]) (t := 32) QuestionD.cells_len (Blk.new w 32 #[.string x.Id, .int .i64 x.Arrived, .int .i64 x.Length, .int .i64 x.Priority]))
  simpa using h
theorem quest_reads' (w : World) (x : QuestionD) (g : Nat) (hg : w.heap.size = g) : Reads (w.alloc (.cells #[.string x.Id, .int .i64 x.Arrived, .int .i64 x.Length, .int .i64 x.Priority] 32)) (w.alloc (.cells #[.string x.Id, .int .i64 x.Arrived, .int .i64 x.Length, .int .i64 x.Priority] 32)).heap.size 4 (some ⟨g, 0, none⟩) 1 x.cells := by
  subst hg; exact quest_reads w x
theorem quest_one (x : QuestionD) : ∀ u ∈ x.cells, u.oneCell' = true := by
  intro u hu
  simp only [QuestionD.cells, List.mem_cons, List.not_mem_nil, or_false] at hu
  rcases hu with rfl | rfl | rfl | rfl <;> rfl
theorem quests_snoc (xs : List QuestionD) (x : QuestionD) : (xs ++ [x]).flatMap QuestionD.cells = xs.flatMap QuestionD.cells ++ x.cells := by simp
/-- some list of questions, the call's own; block X has been written to -/
def QuestsQ (X : Nat) (N : Int) (w : World) (e : Ending) (w' : World) : Prop := ∃ (A : Option Addr) (c : Nat) (xs : List QuestionD), e = .returned (.slice A xs.length c) ∧ xs.length ≤ 100 ∧ (∀ x ∈ xs, x.wf) ∧ w'.ownsRow w.heap.size 32 4 (.slice A xs.length c) xs.length (xs.flatMap QuestionD.cells) ∧ w.grownBy w' (some X) ∧ SrcAt X N w'
theorem wf_snoc {xs : List QuestionD} {x : QuestionD} (h : ∀ y ∈ xs, y.wf) (hx : x.wf) : ∀ y ∈ xs ++ [x], y.wf := fun y hy => by
  rcases List.mem_append.1 hy with h1 | h1
  · exact h y h1
  · simp at h1; subst h1; exact hx
theorem gr_app {w w1 : World} {X base e n : Nat} {size : Nat} {v : Value} {L : List Value} {o : Obj} {w0 : World} (h : w0.grownBy w (some X)) (ho : w.ownsRow base e size v n L) (hg : (w.alloc o).grownBy w1 v.ownBlock) (hb : w0.heap.size ≤ base) : w0.grownBy w1 (some X) :=
  ⟨hg.os.trans h.os, hg.tape.trans h.tape, hg.output.trans h.output, Nat.le_trans h.size (Nat.le_trans (by simp) hg.size), fun k hk hne => by
    rw [hg.block k (by have := h.size; simp; omega) (fun e => by have := (ho.lt k e.symm).1; omega)]
    rw [(IsX.alloc (IsX.refl w) o).below.block k (Nat.lt_of_lt_of_le hk h.size)]
    exact h.block k hk hne⟩
theorem gr_far {w w1 : World} {X g : Nat} (h : w.grownBy w1 (some X)) (hg : w.heap.size ≤ g) (j : Nat) (u : Value) : w.grownBy (w1.setCell ⟨g, j, none⟩ u) (some X) :=
  ⟨h.os, h.tape, h.output, by simpa [World.setCell] using h.size, fun k hk hne => (Below.heap_setCell w1 ⟨g, j, none⟩ u k (show k ≠ g by omega)).trans (h.block k hk hne)⟩
theorem SrcAt.gr {w w1 : World} {X : Nat} {N : Int} {row : Option Nat} (h : SrcAt X N w) (hg : w.grownBy w1 row) (hr : ∀ g, row = some g → X < g) : SrcAt X N w1 := by
  obtain ⟨A, c, xs, a, s, h1, h2, h3, h4, h5, h6, h7, h8⟩ := h
  refine ⟨A, c, xs, a, s, h1.gr hg (fun e => by have := hr X e.symm; omega), h2, h3, h4, h5, ?_, h7, h8⟩
  intro i x hi
  obtain ⟨b, off, e, hb2, hc⟩ := h6 i x hi
  have hbb := h7 (by intro e; rw [e] at hi; simp at hi) b off e
  exact ⟨b, off, e, Nat.lt_of_lt_of_le hb2 hg.size, fun j u hu => (World.cell?_of_block (a := ⟨b, off + i * 1 + j, none⟩) (hg.block b hb2 (fun e => by have := hr b e.symm; omega))).trans (hc j u hu)⟩


def sixNames : List ByteArray := [⟨#[97]⟩, ⟨#[98]⟩, ⟨#[99]⟩, ⟨#[100]⟩, ⟨#[101]⟩, ⟨#[102]⟩]
theorem six_len : sixNames.length = 6 := rfl
theorem six_wf : ∀ s ∈ sixNames, s.size ≤ maxLen := by
  intro s hs
  simp only [sixNames, List.mem_cons, List.not_mem_nil, or_false] at hs
  rcases hs with rfl | rfl | rfl | rfl | rfl | rfl <;> simp [maxLen, ByteArray.size]
theorem Rd.grB {α : Type} {cells : α → List Value} {k g : Nat} {xs : List α} {w w1 : World} {r : Option Nat} (h : Rd cells k w (some ⟨g, 0, none⟩) xs) (hg : w.grownBy w1 r) (hn : some g ≠ r) : Rd cells k w1 (some ⟨g, 0, none⟩) xs := fun i x hi => by
  obtain ⟨b, off, e, hb, hc⟩ := h i x hi
  injection e with e
  injection e with e1 e2
  subst e1 e2
  exact ⟨_, _, rfl, Nat.lt_of_lt_of_le hb hg.size, fun j u hu => (World.cell?_of_block (a := ⟨g, 0 + i * k + j, none⟩) (hg.block g hb hn)).trans (hc j u hu)⟩
/-- a row of questions of its own, the six names behind it, block X has been written to -/
structure StQ (X : Nat) (N : Int) (NB : Nat) (v : Value) (n : Nat) (L : List Value) (w wr : World) : Prop where
  own : wr.ownsRow (NB + 1) 32 4 v n L
  rd : Rd strC 1 wr (some ⟨NB, 0, none⟩) sixNames
  gr : w.grownBy wr (some X)
  src : SrcAt X N wr
  XN : X < NB
  NBl : NB < wr.heap.size
  wN : w.heap.size ≤ NB
section
variable {X NB n : Nat} {N : Int} {v : Value} {L : List Value} {w wr w1 : World}
theorem StQ.x (h : StQ X N NB v n L w wr) (hx : IsX wr w1) : StQ X N NB v n L w w1 := ⟨own_x' h.own hx, h.rd.x hx, gr_x h.gr hx, h.src.x hx, h.XN, Nat.lt_of_lt_of_le h.NBl hx.size, h.wN⟩
theorem StQ.pick {M : Int} (h : StQ X N NB v n L w wr) (hg : wr.grownBy w1 (some X)) (hat : SrcAt X M w1) : StQ X M NB v n L w w1 :=
  ⟨own_grX h.own hg (by have := h.XN; omega), h.rd.grB hg (by intro e; injection e with e; have := h.XN; omega), gr_tr h.gr hg, hat, h.XN, Nat.lt_of_lt_of_le h.NBl hg.size, h.wN⟩
theorem StQ.le {M : Int} (h : StQ X N NB v n L w wr) (hM : N ≤ M) : StQ X M NB v n L w wr := ⟨h.own, h.rd, h.gr, h.src.le hM, h.XN, h.NBl, h.wN⟩
theorem StQ.far (h : StQ X N NB v n L w wr) (KB j : Nat) (u : Value) (hK : NB < KB) (hv : ∀ i, v.ownBlock = some i → i ≠ KB) : StQ X N NB v n L w (wr.setCell ⟨KB, j, none⟩ u) :=
  ⟨h.own.kept (gr_of_set wr KB j u) (by
      cases hv' : v.ownBlock with
      | none => exact .inl rfl
      | some i => exact .inr (fun e => by injection e with e; exact hv i hv' e)),
    h.rd.grB (gr_of_set wr KB j u) (by intro e; injection e with e; omega),
    gr_far h.gr (by have := h.wN; omega) j u,
    h.src.gr (gr_of_set wr KB j u) (fun g hg => by injection hg with hg; have := h.XN; omega),
    h.XN, by simpa [World.setCell] using h.NBl, h.wN⟩
theorem StQ.app {v' : Value} {n' : Nat} {L' : List Value} {o : Obj} (h : StQ X N NB v n L w wr) (hg : (wr.alloc o).grownBy w1 v.ownBlock) (ho : w1.ownsRow (NB + 1) 32 4 v' n' L') : StQ X N NB v' n' L' w w1 :=
  ⟨ho, (h.rd.x ((IsX.refl wr).alloc o)).grB hg (by intro e; have := (h.own.lt NB e.symm).1; omega), gr_app h.gr h.own hg (by have := h.wN; omega),
    (h.src.x ((IsX.refl wr).alloc o)).gr hg (fun g hg => by have := (h.own.lt g hg).1; have := h.XN; omega), h.XN, Nat.lt_of_lt_of_le (by have := h.NBl; simp; omega) hg.size, h.wN⟩
theorem StQ.new {v' : Value} {n' : Nat} {L' : List Value} (h : StQ X N NB v n L w wr) (hx : IsX wr w1) (ho : w1.ownsRow (NB + 1) 32 4 v' n' L') : StQ X N NB v' n' L' w w1 :=
  ⟨ho, h.rd.x hx, gr_x h.gr hx, h.src.x hx, h.XN, Nat.lt_of_lt_of_le h.NBl hx.size, h.wN⟩
end

set_option maxHeartbeats 6400000 in
set_option maxRecDepth 100000 in
theorem c_drawQuestions (X : Nat) (N : Int) (w : World) (hN : N ≤ 1099511620000) (hs : SrcAt X N w) : Calls Try.prog 18 #[.pointer (some ⟨X, 0, none⟩)] w (QuestsQ X (N + 300) w) := by
  have HS := hide hs
  have hXw := hs.lt
  have HI := hide (info_parts QuestionK_info)
  clear hs
  go_enter Try.func18, Try.ntmps18
  go_wp2_with fail
  obtain ⟨NB, hNB⟩ : ∃ NB, NB = w.heap.size := ⟨_, rfl⟩
  generalize hw0 : World.alloc (World.alloc w _) _ = w0
  have hR0 : Rd strC 1 w0 (some ⟨NB, 0, none⟩) sixNames := by
    rw [← hw0, hNB]
    have h := Blk.rd (cells := strC) (xs := sixNames) (t := 9) strC_len (Blk.new w 9 (#[.string ⟨#[97]⟩, .string ⟨#[98]⟩, .string ⟨#[99]⟩, .string ⟨#[100]⟩, .string ⟨#[101]⟩, .string ⟨#[102]⟩]))
    exact h.x ((IsX.refl _).alloc _)
  have hx0 : IsX w w0 := by rw [← hw0]; exact ((IsX.refl w).alloc _).alloc _
  have hO0 : w0.ownsRow (NB + 1) 32 4 (.slice (some ⟨NB + 1, 0, none⟩) 0 0) 0 [] := by
    rw [← hw0, hNB]; have h := World.ownsRow_made (base := w.heap.size + 1) (e := 32) (size := 4) (w.alloc (.cells #[.string ⟨#[97]⟩, .string ⟨#[98]⟩, .string ⟨#[99]⟩, .string ⟨#[100]⟩, .string ⟨#[101]⟩, .string ⟨#[102]⟩] 9)) #[] 0 (by simp) (by simp [maxLen]) rfl; simpa using h
  have hXN : X < NB := by rw [hNB]; exact hXw
  have hNBl : NB < w0.heap.size := by rw [← hw0, hNB]; simp; omega
  have hwN : w.heap.size ≤ NB := by omega
  rw [← hNB]
  have HT0 : Hid (StQ X N NB (.slice (some ⟨NB + 1, 0, none⟩) 0 0) 0 [] w w0) := hide ⟨hO0, hR0, gr_of_x hx0 _, HS.out.x hx0, hXN, hNBl, hwN⟩
  clear hw0 hNB hO0 hR0 hx0 HS hNBl hXw
  go_loopw [4, 5] (fun ov kv wr => ∃ (k : Nat) (xs : List QuestionD) (A : Option Addr) (c : Nat), kv = .int .i64 (k : Int) ∧ k ≤ 6 ∧ ov = .slice A xs.length c ∧ xs.length ≤ k ∧ Hid (∀ x ∈ xs, x.wf) ∧ Hid (StQ X (N + k * 10) NB ov xs.length (xs.flatMap QuestionD.cells) w wr)) (fun _ kv _ => 6 - (intOf kv).toNat)
  case atStart => exact ⟨0, [], _, _, rfl, by omega, rfl, Nat.le_refl _, hide (fun x hx => by simp at hx), hide (HT0.out.le (by omega))⟩
  case round =>
    clear HT0
    obtain ⟨k, xs, A, c, rfl, hk6, rfl, hxl, HWF, HT⟩ := hrel
    obtain ⟨n, hnn⟩ : ∃ n, n = xs.length := ⟨_, rfl⟩
    have HN := hide hnn
    rw [← hnn] at hxl HT ⊢
    clear hnn
    by_cases hkp : k < 6
    · go_wp2_with fail
      refine (c_one X _ 3 wr (by omega) (by omega) HT.out.src).mono ?_
      rintro e w1 ⟨b1, rfl, hg, hat⟩
      have HT1 := hide (HT.out.pick hg hat)
      clear hg hat HT
      cases b1
      rotate_left
      · go_wp2_with fail
        go_roundw
        case rel => exact ⟨k + 1, xs, A, c, by go_num, by omega, by rw [HN.out], by rw [← HN.out]; omega, HWF, by rw [← HN.out]; exact hide (HT1.out.le (by omega))⟩
        case measure => simp [intOf]; omega
      · obtain ⟨nm, hnm⟩ : ∃ nm, sixNames[k]? = some nm := ⟨_, List.getElem?_eq_getElem (by rw [six_len]; exact hkp)⟩
        have HNM := hide (six_wf nm (List.mem_of_getElem? hnm))
        obtain ⟨b', off', e, hb', z0⟩ := str_rd HT1.out.rd hnm
        injection e with e
        injection e with e1 e2
        subst e1 e2
        clear hnm
        simp only [Nat.zero_add] at z0
        go_wp2_with fail
        have HPK := hide (fun (V : World) (hV : IsX w1 V) => c_pick X _ 3000 V (by omega) (by omega) (HT1.out.src.x hV))
        have hNX : NB ≠ X := by omega
        have HKP := hide (fun (V : World) (hV : IsX w1 V) => show V.cell? ⟨NB, k, none⟩ = some (.string nm) from keep hV hb' z0)
        have HLT1 := hide (fun j (hj : (Value.slice A n c).ownBlock = some j) => (HT1.out.own.lt j hj).2)
        go_region_held3 (fun V => V.cell? ⟨NB, k, none⟩ = some (.string nm))
          (first | go_keep | (exact k7) | (exact keep ((IsX.refl _).alloc _) l7 k7) | (rw [World.cell?_setCell_far _ _ _ _ (show w1.heap.size ≠ NB by omega), World.cell?_setCell_far _ _ _ _ (show w1.heap.size ≠ NB by omega), World.cell?_setCell_far _ _ _ _ (show w1.heap.size ≠ NB by omega), World.cell?_setCell_far _ _ _ _ (show w1.heap.size ≠ NB by omega)]; exact k7))
          ((go_at_call 19; refine (HPK.out _ (by first | exact IsX.drew (IsX.refl _) | exact IsX.drew ((IsX.refl _).alloc _))).mono ?_; rintro e w7 ⟨v1, rfl, v10, v11, hg7, hat7⟩
            have k7 : w7.cell? ⟨NB, k, none⟩ = some (.string nm) := (World.cell?_of_block (a := ⟨NB, k, none⟩) (hg7.block NB (by simp; omega) (fun e => by injection e with e; exact hNX e))).trans (HKP.out _ (by first | exact IsX.drew (IsX.refl _) | exact IsX.drew ((IsX.refl _).alloc _)))
            have l7 : NB < w7.heap.size := Nat.lt_of_lt_of_le (by simp; omega) hg7.size
            try (have B7 : Blk w7 w1.heap.size 32 #[.string ByteArray.empty, .int .i64 0, .int .i64 0, .int .i64 0] := ((Blk.new w1 32 _).x (IsX.drew (IsX.refl _))).gr hg7 (fun e => by injection e with e; omega)
                 have q70 := B7.cell 0
                 have q71 := B7.cell 1
                 have q72 := B7.cell 2
                 have q73 := B7.cell 3
                 simp at q70 q71 q72 q73
                 have f70 := B7.frozen 0
                 have f71 := B7.frozen 1
                 have f72 := B7.frozen 2
                 have f73 := B7.frozen 3
                 have lb7 := B7.lt)))
        · obtain ⟨KB, hKB⟩ : ∃ KB, KB = w7.heap.size := ⟨_, rfl⟩
          have hT7 := (HT1.out.x (IsX.drew (IsX.refl w1))).pick hg7 hat7
          have hv11 : v1 ≤ 2999 := by simpa using v11
          have hLT : ∀ j, (Value.slice A n c).ownBlock = some j → j ≠ KB := fun j hj => by have := hT7.own.lt j hj; omega
          have hNK : NB < KB := by omega
          clear k7 hg7 hat7 v11
          clear l7
          generalize hwx : World.alloc w7 _ = wx
          have hKX : Blk wx KB 32 #[.string nm, .int .i64 v1, .int .i64 0, .int .i64 0] := by rw [← hwx, hKB]; exact Blk.new w7 32 _
          have hT := hT7.x (w1 := wx) (by rw [← hwx]; exact (IsX.refl w7).alloc _)
          rw [← hKB]
          clear hwx hT7 hKB z0 hb' HLT1 HT1
          have HKX : Hid (Blk wx KB 32 #[.string nm, .int .i64 v1, .int .i64 0, .int .i64 0]) := hide hKX
          have HT := hide hT
          have HLT := hide hLT
          clear hKX hT hLT
          have hNK : NB < KB := hNK
          clear HKP HPK
          go_wp2_with fail
          refine (c_pick X _ 900 wx (by omega) (by omega) HT.out.src).mono ?_
          rintro e w3 ⟨v2, rfl, v20, v21, hg, hat⟩
          have hv21 : v2 ≤ 899 := by simpa using v21
          have HK3 := hide (HKX.out.gr hg (fun e => by injection e with e; omega))
          have HT3 := hide (HT.out.pick hg hat)
          clear hg hat v21 HKX HT
          have z2 := HK3.out.frozen 2
          have c2 := HK3.out.cell 2
          simp at c2
          have hlK := HK3.out.lt
          go_upto_region 9 with fail
          clear z2 c2 hlK
          have HK4 := hide (HK3.out.set_ 2 (.int .i64 (1 + v2)))
          have HT4 := hide (HT3.out.far KB 2 (.int .i64 (1 + v2)) hNK (fun i hi => HLT.out i hi))
          generalize World.setCell w3 ⟨KB, 2, none⟩ (.int .i64 (1 + v2)) = w4 at HK4 HT4 ⊢
          have HK4 : Hid (Blk w4 KB 32 #[.string nm, .int .i64 v1, .int .i64 (1 + v2), .int .i64 0]) := hide (by simpa using HK4.out)
          clear HK3 HT3
          go_wp2_with fail
          obtain ⟨KL, hKL⟩ : ∃ KL, KL = w4.heap.size := ⟨_, rfl⟩
          generalize hwl : World.alloc w4 _ = wl
          have hRl : Rd intC 1 wl (some ⟨KL, 0, none⟩) [1, 5, 5, 20, 100] := by
            rw [← hwl, hKL]
            exact Blk.rd (cells := intC) (xs := [1, 5, 5, 20, 100]) (t := 2) intC_len (Blk.new w4 2 _)
          have hxl5 : IsX w4 wl := by rw [← hwl]; exact (IsX.refl w4).alloc _
          have hXK : X < KL := by have := HT4.out.XN; have := HT4.out.NBl; omega
          rw [← hKL]
          have HK5 := hide (HK4.out.x hxl5)
          have HT5 := hide (HT4.out.x hxl5)
          clear hwl hxl5 hKL HK4 HT4
          refine (c_among X _ 0 100 (some ⟨KL, 0, none⟩) 5 [1, 5, 5, 20, 100] wl (by omega) (by simp) (by simp) (by simp) hRl (fun b off e => by injection e with e; injection e with e1 e2; omega) HT5.out.src).mono ?_
          rintro e w5 ⟨v3, rfl, v30, v31, hg, hat⟩
          have HK6 := hide (HK5.out.gr hg (fun e => by injection e with e; omega))
          have HT6 := hide (HT5.out.pick hg hat)
          clear hg hat hRl HK5 HT5
          have z2 := HK6.out.frozen 3
          have c2 := HK6.out.cell 3
          simp at c2
          have hlK := HK6.out.lt
          go_upto_region 10 with fail
          clear z2 c2 hlK
          have HK7 := hide (HK6.out.set_ 3 (.int .i64 v3))
          have HT7 := hide (HT6.out.far KB 3 (.int .i64 v3) hNK (fun i hi => HLT.out i hi))
          generalize World.setCell w5 ⟨KB, 3, none⟩ (.int .i64 v3) = w6 at HK7 HT7 ⊢
          have HK7 : Hid (Blk w6 KB 32 #[.string nm, .int .i64 v1, .int .i64 (1 + v2), .int .i64 v3]) := hide (by simpa using HK7.out)
          clear HK6 HT6
          have e0 := HK7.out.cell 0
          have e1 := HK7.out.cell 1
          have e2 := HK7.out.cell 2
          have e3 := HK7.out.cell 3
          simp at e0 e1 e2 e3
          have hlK := HK7.out.lt
          have hNB6 : NB + 1 ≤ w6.heap.size := HT7.out.NBl
          go_wp2_with (at_builtin; obtain ⟨i0, hi0, hz0, hz1, hz2⟩ := HI.out; refine wpList_append_any _ rfl (.tmp 34) (.tmp 36) _ rfl (NB + 1) 32 i0 _ 4 40 Try.underlying24 hi0 hz0 hz1 hz2 rfl (by omega) (.slice A n c) n (xs.flatMap QuestionD.cells) rfl (HT7.out.own.alloc _) _ (some ⟨w6.heap.size, 0, none⟩) 1 1 (QuestionD.cells ⟨nm, v1, 1 + v2, v3⟩) rfl (quest_reads w6 ⟨nm, v1, 1 + v2, v3⟩) (quest_one ⟨nm, v1, 1 + v2, v3⟩) (by simp only [maxLen]; omega) (by omega) (by simp; omega) ?_; clear hi0 hz0 hz1 hz2; intro vN wN hownN hgN hatN; obtain ⟨A', c', rfl⟩ := own_form hownN)
          have HTN := hide (HT7.out.app hgN hownN)
          clear hownN hgN hatN e0 e1 e2 e3 hlK
          go_wp2_with fail
          go_roundw
          case rel => exact ⟨k + 1, xs ++ [⟨nm, v1, 1 + v2, v3⟩], A', c', by go_num, by omega, by simp [← HN.out], by simp [← HN.out]; omega, hide (wf_snoc HWF.out ⟨HNM.out, by simp only; omega, by simp only; omega, by simp only; omega⟩), hide (by rw [quests_snoc]; have h := HTN.out.le (M := N + ((k + 1 : Nat) : Int) * 10) (by omega); simpa [← HN.out] using h)⟩
          case measure => simp [intOf]; omega
        · obtain ⟨KB, hKB⟩ : ∃ KB, KB = w1.heap.size := ⟨_, rfl⟩
          have hv11 : v1 ≤ 2999 := by simpa using v11
          have hLT : ∀ j, (Value.slice A n c).ownBlock = some j → j ≠ KB := fun j hj => by have := HLT1.out j hj; omega
          have hNK : NB < KB := by omega
          have hT7 := (HT1.out.x (w1 := (w1.alloc (.cells #[.string ByteArray.empty, .int .i64 0, .int .i64 0, .int .i64 0] 32)).drew) (IsX.drew ((IsX.refl w1).alloc _))).pick hg7 hat7
          rw [← hKB] at B7 ⊢
          have hKX : Blk _ KB 32 #[.string nm, .int .i64 v1, .int .i64 0, .int .i64 0] := (((B7.set_ 0 (.string nm)).set_ 1 (.int .i64 v1)).set_ 2 (.int .i64 0)).set_ 3 (.int .i64 0)
          have hT := (((hT7.far KB 0 (.string nm) hNK hLT).far KB 1 (.int .i64 v1) hNK hLT).far KB 2 (.int .i64 0) hNK hLT).far KB 3 (.int .i64 0) hNK hLT
          clear k7 hg7 hat7 v11
          clear l7 q70 q71 q72 q73
          clear f70 f71 f72 f73 lb7
          generalize World.setCell _ ⟨KB, 3, none⟩ (.int .i64 0) = wx at hKX hT ⊢
          clear hT7 B7 hKB z0 hb' HLT1 HT1
          have HKX : Hid (Blk wx KB 32 #[.string nm, .int .i64 v1, .int .i64 0, .int .i64 0]) := hide hKX
          have HT := hide hT
          have HLT := hide hLT
          clear hKX hT hLT
          have hNK : NB < KB := hNK
          clear HKP HPK
          go_wp2_with fail
          refine (c_pick X _ 900 wx (by omega) (by omega) HT.out.src).mono ?_
          rintro e w3 ⟨v2, rfl, v20, v21, hg, hat⟩
          have hv21 : v2 ≤ 899 := by simpa using v21
          have HK3 := hide (HKX.out.gr hg (fun e => by injection e with e; omega))
          have HT3 := hide (HT.out.pick hg hat)
          clear hg hat v21 HKX HT
          have z2 := HK3.out.frozen 2
          have c2 := HK3.out.cell 2
          simp at c2
          have hlK := HK3.out.lt
          go_upto_region 9 with fail
          clear z2 c2 hlK
          have HK4 := hide (HK3.out.set_ 2 (.int .i64 (1 + v2)))
          have HT4 := hide (HT3.out.far KB 2 (.int .i64 (1 + v2)) hNK (fun i hi => HLT.out i hi))
          generalize World.setCell w3 ⟨KB, 2, none⟩ (.int .i64 (1 + v2)) = w4 at HK4 HT4 ⊢
          have HK4 : Hid (Blk w4 KB 32 #[.string nm, .int .i64 v1, .int .i64 (1 + v2), .int .i64 0]) := hide (by simpa using HK4.out)
          clear HK3 HT3
          go_wp2_with fail
          obtain ⟨KL, hKL⟩ : ∃ KL, KL = w4.heap.size := ⟨_, rfl⟩
          generalize hwl : World.alloc w4 _ = wl
          have hRl : Rd intC 1 wl (some ⟨KL, 0, none⟩) [1, 5, 5, 20, 100] := by
            rw [← hwl, hKL]
            exact Blk.rd (cells := intC) (xs := [1, 5, 5, 20, 100]) (t := 2) intC_len (Blk.new w4 2 _)
          have hxl5 : IsX w4 wl := by rw [← hwl]; exact (IsX.refl w4).alloc _
          have hXK : X < KL := by have := HT4.out.XN; have := HT4.out.NBl; omega
          rw [← hKL]
          have HK5 := hide (HK4.out.x hxl5)
          have HT5 := hide (HT4.out.x hxl5)
          clear hwl hxl5 hKL HK4 HT4
          refine (c_among X _ 0 100 (some ⟨KL, 0, none⟩) 5 [1, 5, 5, 20, 100] wl (by omega) (by simp) (by simp) (by simp) hRl (fun b off e => by injection e with e; injection e with e1 e2; omega) HT5.out.src).mono ?_
          rintro e w5 ⟨v3, rfl, v30, v31, hg, hat⟩
          have HK6 := hide (HK5.out.gr hg (fun e => by injection e with e; omega))
          have HT6 := hide (HT5.out.pick hg hat)
          clear hg hat hRl HK5 HT5
          have z2 := HK6.out.frozen 3
          have c2 := HK6.out.cell 3
          simp at c2
          have hlK := HK6.out.lt
          go_upto_region 10 with fail
          clear z2 c2 hlK
          have HK7 := hide (HK6.out.set_ 3 (.int .i64 v3))
          have HT7 := hide (HT6.out.far KB 3 (.int .i64 v3) hNK (fun i hi => HLT.out i hi))
          generalize World.setCell w5 ⟨KB, 3, none⟩ (.int .i64 v3) = w6 at HK7 HT7 ⊢
          have HK7 : Hid (Blk w6 KB 32 #[.string nm, .int .i64 v1, .int .i64 (1 + v2), .int .i64 v3]) := hide (by simpa using HK7.out)
          clear HK6 HT6
          have e0 := HK7.out.cell 0
          have e1 := HK7.out.cell 1
          have e2 := HK7.out.cell 2
          have e3 := HK7.out.cell 3
          simp at e0 e1 e2 e3
          have hlK := HK7.out.lt
          have hNB6 : NB + 1 ≤ w6.heap.size := HT7.out.NBl
          go_wp2_with (at_builtin; obtain ⟨i0, hi0, hz0, hz1, hz2⟩ := HI.out; refine wpList_append_any _ rfl (.tmp 34) (.tmp 36) _ rfl (NB + 1) 32 i0 _ 4 40 Try.underlying24 hi0 hz0 hz1 hz2 rfl (by omega) (.slice A n c) n (xs.flatMap QuestionD.cells) rfl (HT7.out.own.alloc _) _ (some ⟨w6.heap.size, 0, none⟩) 1 1 (QuestionD.cells ⟨nm, v1, 1 + v2, v3⟩) rfl (quest_reads w6 ⟨nm, v1, 1 + v2, v3⟩) (quest_one ⟨nm, v1, 1 + v2, v3⟩) (by simp only [maxLen]; omega) (by omega) (by simp; omega) ?_; clear hi0 hz0 hz1 hz2; intro vN wN hownN hgN hatN; obtain ⟨A', c', rfl⟩ := own_form hownN)
          have HTN := hide (HT7.out.app hgN hownN)
          clear hownN hgN hatN e0 e1 e2 e3 hlK
          go_wp2_with fail
          go_roundw
          case rel => exact ⟨k + 1, xs ++ [⟨nm, v1, 1 + v2, v3⟩], A', c', by go_num, by omega, by simp [← HN.out], by simp [← HN.out]; omega, hide (wf_snoc HWF.out ⟨HNM.out, by simp only; omega, by simp only; omega, by simp only; omega⟩), hide (by rw [quests_snoc]; have h := HTN.out.le (M := N + ((k + 1 : Nat) : Int) * 10) (by omega); simpa [← HN.out] using h)⟩
          case measure => simp [intOf]; omega
    · obtain rfl : k = 6 := by omega
      rw [show (((6 : Nat) : Int)) = 6 from rfl]
      go_wp2_with fail
      refine (c_pick X _ 22 wr (by omega) (by omega) HT.out.src).mono ?_
      rintro e w10 ⟨v, rfl, v0, v1, hg, hat⟩
      have HT1 := hide (HT.out.pick hg hat)
      clear hg hat v1 HT
      have HQ : Hid (∀ (A' : Option Addr) (c' : Nat) (ys : List QuestionD) (W : World), ys.length ≤ 100 → (∀ x ∈ ys, x.wf) → StQ X (N + 300) NB (.slice A' ys.length c') ys.length (ys.flatMap QuestionD.cells) w W → QuestsQ X (N + 300) w (.returned (.slice A' ys.length c')) W) := hide (fun A' c' ys W h1 h2 h4 => ⟨A', c', ys, rfl, h1, h2, row_le' h4.own (by have := h4.wN; omega), h4.gr, h4.src⟩)
      by_cases e0 : v = 0
      · subst e0
        go_wp2_with fail
        obtain ⟨KL, hKL⟩ : ∃ KL, KL = w10.heap.size := ⟨_, rfl⟩
        generalize hwl : World.alloc w10 _ = wl
        have hRl : Rd intC 1 wl (some ⟨KL, 0, none⟩) [0, 1800001] := by
          rw [← hwl, hKL]
          exact Blk.rd (cells := intC) (xs := [0, 1800001]) (t := 2) intC_len (Blk.new w10 2 _)
        have hxl5 : IsX w10 wl := by rw [← hwl]; exact (IsX.refl w10).alloc _
        have hXK : X < KL := by have := HT1.out.XN; have := HT1.out.NBl; omega
        rw [← hKL]
        have HT5 := hide (HT1.out.x hxl5)
        clear hwl hxl5 hKL HT1
        refine (c_among X _ 0 1800001 (some ⟨KL, 0, none⟩) 2 [0, 1800001] wl (by omega) (by simp) (by simp) (by simp) hRl (fun b off e => by injection e with e; injection e with e1 e2; omega) HT5.out.src).mono ?_
        rintro e w5 ⟨v3, rfl, v30, v31, hg, hat⟩
        have HT6 := hide (HT5.out.pick hg hat)
        clear hg hat hRl HT5
        have hNB6 : NB + 1 ≤ w5.heap.size := HT6.out.NBl
        go_wp2_with (at_builtin; obtain ⟨i0, hi0, hz0, hz1, hz2⟩ := HI.out; refine wpList_append_any _ rfl (.tmp 42) (.tmp 47) _ rfl (NB + 1) 32 i0 _ 4 40 Try.underlying24 hi0 hz0 hz1 hz2 rfl (by omega) (.slice A n c) n (xs.flatMap QuestionD.cells) rfl (HT6.out.own.alloc _) _ (some ⟨w5.heap.size, 0, none⟩) 1 1 (QuestionD.cells ⟨⟨#[122, 122]⟩, 0, v3, 1⟩) rfl (quest_reads w5 ⟨⟨#[122, 122]⟩, 0, v3, 1⟩) (quest_one ⟨⟨#[122, 122]⟩, 0, v3, 1⟩) (by simp only [maxLen]; omega) (by omega) (by simp; omega) ?_; clear hi0 hz0 hz1 hz2; intro vN wN hownN hgN hatN; obtain ⟨A', c', rfl⟩ := own_form hownN)
        have HTN := hide (HT6.out.app hgN hownN)
        clear hownN hgN hatN
        go_wp2_with fail
        go_ret
        have h := HQ.out A' c' (xs ++ [⟨⟨#[122, 122]⟩, 0, v3, 1⟩]) wN (by simp [← HN.out]; omega) (wf_snoc HWF.out (by simp only [QuestionD.wf, maxLen, ByteArray.size]; simp; omega)) (by rw [quests_snoc]; have h := HTN.out.le (M := N + 300) (by omega); simpa [← HN.out] using h)
        simpa [← HN.out] using h
      by_cases e1 : v = 1
      · subst e1
        go_wp2_with fail
        obtain ⟨KL, hKL⟩ : ∃ KL, KL = w10.heap.size := ⟨_, rfl⟩
        generalize hwl : World.alloc w10 _ = wl
        have hRl : Rd intC 1 wl (some ⟨KL, 0, none⟩) [0, 101] := by
          rw [← hwl, hKL]
          exact Blk.rd (cells := intC) (xs := [0, 101]) (t := 2) intC_len (Blk.new w10 2 _)
        have hxl5 : IsX w10 wl := by rw [← hwl]; exact (IsX.refl w10).alloc _
        have hXK : X < KL := by have := HT1.out.XN; have := HT1.out.NBl; omega
        rw [← hKL]
        have HT5 := hide (HT1.out.x hxl5)
        clear hwl hxl5 hKL HT1
        refine (c_among X _ 0 101 (some ⟨KL, 0, none⟩) 2 [0, 101] wl (by omega) (by simp) (by simp) (by simp) hRl (fun b off e => by injection e with e; injection e with e1 e2; omega) HT5.out.src).mono ?_
        rintro e w5 ⟨v3, rfl, v30, v31, hg, hat⟩
        have HT6 := hide (HT5.out.pick hg hat)
        clear hg hat hRl HT5
        have hNB6 : NB + 1 ≤ w5.heap.size := HT6.out.NBl
        go_wp2_with (at_builtin; obtain ⟨i0, hi0, hz0, hz1, hz2⟩ := HI.out; refine wpList_append_any _ rfl (.tmp 51) (.tmp 56) _ rfl (NB + 1) 32 i0 _ 4 40 Try.underlying24 hi0 hz0 hz1 hz2 rfl (by omega) (.slice A n c) n (xs.flatMap QuestionD.cells) rfl (HT6.out.own.alloc _) _ (some ⟨w5.heap.size, 0, none⟩) 1 1 (QuestionD.cells ⟨⟨#[122, 122]⟩, 0, 5, v3⟩) rfl (quest_reads w5 ⟨⟨#[122, 122]⟩, 0, 5, v3⟩) (quest_one ⟨⟨#[122, 122]⟩, 0, 5, v3⟩) (by simp only [maxLen]; omega) (by omega) (by simp; omega) ?_; clear hi0 hz0 hz1 hz2; intro vN wN hownN hgN hatN; obtain ⟨A', c', rfl⟩ := own_form hownN)
        have HTN := hide (HT6.out.app hgN hownN)
        clear hownN hgN hatN
        go_wp2_with fail
        go_ret
        have h := HQ.out A' c' (xs ++ [⟨⟨#[122, 122]⟩, 0, 5, v3⟩]) wN (by simp [← HN.out]; omega) (wf_snoc HWF.out (by simp only [QuestionD.wf, maxLen, ByteArray.size]; simp; omega)) (by rw [quests_snoc]; have h := HTN.out.le (M := N + 300) (by omega); simpa [← HN.out] using h)
        simpa [← HN.out] using h
      have q0 : (v == 0) = false := by simp only [beq_eq_false_iff_ne, ne_eq]; exact e0
      have q1 : (v == 1) = false := by simp only [beq_eq_false_iff_ne, ne_eq]; exact e1
      by_cases e2 : v = 2
      · subst e2
        clear q0 q1 e0 e1
        go_wp2_with fail
        obtain ⟨KL, hKL⟩ : ∃ KL, KL = w10.heap.size := ⟨_, rfl⟩
        generalize hwl : World.alloc w10 _ = wl
        have hRl : Rd intC 1 wl (some ⟨KL, 0, none⟩) [16, 17] := by
          rw [← hwl, hKL]
          exact Blk.rd (cells := intC) (xs := [16, 17]) (t := 2) intC_len (Blk.new w10 2 _)
        have hxl5 : IsX w10 wl := by rw [← hwl]; exact (IsX.refl w10).alloc _
        have hXK : X < KL := by have := HT1.out.XN; have := HT1.out.NBl; omega
        rw [← hKL]
        have HT5 := hide (HT1.out.x hxl5)
        clear hwl hxl5 hKL HT1
        refine (c_among X _ 16 17 (some ⟨KL, 0, none⟩) 2 [16, 17] wl (by omega) (by simp) (by simp) (by simp) hRl (fun b off e => by injection e with e; injection e with e1 e2; omega) HT5.out.src).mono ?_
        rintro e w5 ⟨v3, rfl, v30, v31, hg, hat⟩
        have HT6 := hide (HT5.out.pick hg hat)
        clear hg hat hRl HT5
        go_wp2_with fail
        obtain ⟨KO, hKO⟩ : ∃ KO, KO = w5.heap.size := ⟨_, rfl⟩
        generalize hw12 : World.alloc w5 _ = w12
        have hO12 : w12.ownsRow (NB + 1) 32 4 (.slice (some ⟨KO, 0, none⟩) 0 0) 0 [] := by rw [← hw12, hKO]; exact World.ownsRow_made (base := NB + 1) (e := 32) (size := 4) w5 #[] 0 HT6.out.NBl (by simp [maxLen]) rfl
        have HT12 := hide (HT6.out.new (w1 := w12) (by rw [← hw12]; exact (IsX.refl w5).alloc _) hO12)
        rw [← hKO]
        clear hw12 hKO hO12 HT6 HN HWF
        go_loopw [4, 8] (fun ov kv wr => ∃ (xs : List QuestionD) (k : Int) (A : Option Addr) (c : Nat), kv = .int .i64 k ∧ 0 ≤ k ∧ k ≤ v3 ∧ ov = .slice A xs.length c ∧ (xs.length : Int) = k ∧ Hid (∀ x ∈ xs, x.wf) ∧ Hid (StQ X (N + 200) NB ov xs.length (xs.flatMap QuestionD.cells) w wr)) (fun _ kv _ => (v3 - intOf kv).toNat)
        case atStart => exact ⟨[], 0, _, _, rfl, Int.le_refl _, by omega, rfl, rfl, hide (fun x hx => by simp at hx), hide (HT12.out.le (by omega))⟩
        case round =>
          clear HT12
          obtain ⟨xs, k, A, c, rfl, hk0, hkm, rfl, hxk, HWF, HT⟩ := hrel
          obtain ⟨n, hnn⟩ : ∃ n, n = xs.length := ⟨_, rfl⟩
          have HN := hide hnn
          rw [← hnn] at hxk HT ⊢
          clear hnn
          by_cases hlt : k < v3
          · have hcv := run_convert_bytes_arg (P := Try.prog) (wr.alloc (.cells #[.int .u8 (97 + k)] 5)) 22 5 Try.underlying22 Try.underlying5 wr.heap.size 0 1 1 [97 + k] rfl (by
              intro i hi
              obtain rfl : i = 0 := by omega
              have hb : Blk (wr.alloc (.cells #[.int .u8 (97 + k)] 5)) wr.heap.size 5 #[.int .u8 (97 + k)] := Blk.new wr _ _
              rw [hb.cell]; rfl) 9 Try.underlying9
            have hs1 : (strOfNums [97 + k]).size = 1 := strOfNums_size _
            have hs2 : ((⟨#[110]⟩ : ByteArray) ++ strOfNums [97 + k]).size = 2 := by rw [ByteArray.size_append, hs1]; rfl
            have HS2 := hide hs2
            have HT2 := hide (HT.out.x (w1 := wr.alloc (.cells #[.int .u8 (97 + k)] 5)) ((IsX.refl wr).alloc _))
            have hNB6 : NB + 1 ≤ wr.heap.size := HT.out.NBl
            go_wp2_with (at_builtin; obtain ⟨i0, hi0, hz0, hz1, hz2⟩ := HI.out; refine wpList_append_any _ rfl (.tmp 69) (.tmp 79) _ rfl (NB + 1) 32 i0 _ 4 40 Try.underlying24 hi0 hz0 hz1 hz2 rfl (by omega) (.slice A n c) n (xs.flatMap QuestionD.cells) rfl (HT2.out.own.alloc _) _ (some ⟨wr.heap.size + 1, 0, none⟩) 1 1 (QuestionD.cells ⟨⟨#[110]⟩ ++ strOfNums [97 + k], 0, 10, 1 + k⟩) rfl (quest_reads' (wr.alloc (.cells #[.int .u8 (97 + k)] 5)) ⟨⟨#[110]⟩ ++ strOfNums [97 + k], 0, 10, 1 + k⟩ (wr.heap.size + 1) (World.size_alloc _ _)) (quest_one ⟨⟨#[110]⟩ ++ strOfNums [97 + k], 0, 10, 1 + k⟩) (by simp only [maxLen]; omega) (by omega) (by simp; omega) ?_; clear hi0 hz0 hz1 hz2; intro vN wN hownN hgN hatN; obtain ⟨A', c', rfl⟩ := own_form hownN)
            have HTN := hide (HT2.out.app hgN hownN)
            clear hownN hgN hatN hcv hs1 hs2
            go_wp2_with fail
            go_roundw
            case rel => exact ⟨xs ++ [⟨⟨#[110]⟩ ++ strOfNums [97 + k], 0, 10, 1 + k⟩], k + 1, A', c', by go_num, by omega, by omega, by simp [← HN.out], by simp [← HN.out]; omega, hide (wf_snoc HWF.out (by simp only [QuestionD.wf, HS2.out, maxLen]; omega)), hide (by rw [quests_snoc]; have h := HTN.out; simpa [← HN.out] using h)⟩
            case measure => simp [intOf]; omega
          · go_wp2_with fail
            go_ret
            have h := HQ.out A c xs wr (by rw [← HN.out]; omega) HWF.out (by have h := HT.out.le (M := N + 300) (by omega); simpa [← HN.out] using h)
            simpa [← HN.out] using h
      · have q2 : (v == 2) = false := by simp only [beq_eq_false_iff_ne, ne_eq]; exact e2
        go_wp2_with fail
        go_ret
        have h := HQ.out A c xs w10 (by rw [← HN.out]; omega) HWF.out (by have h := HT1.out.le (M := N + 300) (by omega); simpa [← HN.out] using h)
        simpa [← HN.out] using h

end Go.Proofs.Ythcgapfhlggegaa
