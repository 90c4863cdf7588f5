/- Domes that are drawn: valid ones. Conditions: fewer than 2^39 choices. -/
import Derived.Test.YtfcfgkkkepifhaaGreatDoorDrawRing
import Derived.Test.YtfcfgkkkepifhaaGreatDoorLString
import Derived.Test.YtfcfgkkkepifhaaGreatDoorDomeA
namespace Go.Proofs.YtfcfgkkkepifhaaGreatDoor
set_option linter.unusedVariables false
open Go.RowKit Go.ChangeShapes

/-- one of some texts -/
def TextQ (X : Nat) (N : Int) (names : List ByteArray) (w : World) (e : Ending) (w' : World) : Prop := ∃ s, e = .returned (.string s) ∧ s ∈ names ∧ w.grownBy w' (some X) ∧ SrcAt X N w'
theorem c_text (X : Nat) (N : Int) (A : Option Addr) (c : Nat) (zs : List ByteArray) (w : World) (hN : N ≤ 1099511627000) (hz : zs ≠ []) (hz2 : zs.length ≤ 1000) (hA : Rd strC 1 w A zs) (ho : ∀ b off, A = some ⟨b, off, none⟩ → b ≠ X) (hs : SrcAt X N w) :
    Calls Tryz.prog 72 #[.pointer (some ⟨X, 0, none⟩), .slice A zs.length c] w (TextQ X (N + 2) zs w) := by
  obtain ⟨n, hnn⟩ : ∃ n, n = zs.length := ⟨_, rfl⟩
  have hn0 : 0 < n := by rw [hnn]; exact Nat.pos_of_ne_zero (fun h => hz (List.eq_nil_of_length_eq_zero h))
  have HN := hide hnn
  rw [← hnn] at hz2 ⊢
  clear hnn
  go_enter Tryz.func72, Tryz.ntmps72
  go_wp2_with fail
  refine (c_pick X N n w hN (by omega) hs).mono ?_
  rintro e w1 ⟨v, rfl, v0, v1, hg, hat⟩
  have hv1 : v < (n : Int) := by split at v1 <;> omega
  have hvx : v.toNat < zs.length := by rw [← HN.out]; omega
  obtain ⟨b, off, rfl, hbl, c0⟩ := str_rd (hA.grX (fun _ => ho) hg) (show zs[v.toNat]? = some zs[v.toNat] from List.getElem?_eq_getElem _)
  have HM := hide (List.getElem_mem hvx)
  have HG := hide hg
  have HAT := hide hat
  generalize zs[v.toNat] = z at c0 HM
  clear hg hat v1 hA
  go_wp2_with fail
  go_ret
  exact ⟨z, rfl, HM.out, HG.out, HAT.out⟩
def domeV (x : DomeD) : Value := .agg #[.string x.Name, .int .i64 x.Radius, .int .i64 x.Tilt]
/-- a valid dome -/
def DomeQ (X : Nat) (N : Int) (w : World) (e : Ending) (w' : World) : Prop := ∃ x : DomeD, e = .returned (domeV x) ∧ x.okB = true ∧ x.wf ∧ w.grownBy w' (some X) ∧ SrcAt X N w'
structure OneD (X : Nat) (N : Int) (RB XB : Nat) (x : DomeD) (w wr : World) : Prop where
  res : Blk wr RB 38 #[.string ByteArray.empty, .int .i64 0, .int .i64 0]
  blk : Blk wr XB 38 #[.string x.Name, .int .i64 x.Radius, .int .i64 x.Tilt]
  gr : w.grownBy wr (some X)
  src : SrcAt X N wr
  rw_ : w.heap.size ≤ RB
  xw : w.heap.size ≤ XB
  ne : RB ≠ XB
  Xw : X < w.heap.size
section
variable {X RB XB : Nat} {N : Int} {q : DomeD} {w wr w1 : World}
theorem OneD.x (h : OneD X N RB XB q w wr) (hx : IsX wr w1) : OneD X N RB XB q w w1 := ⟨h.res.x hx, h.blk.x hx, gr_x h.gr hx, h.src.x hx, h.rw_, h.xw, h.ne, h.Xw⟩
theorem OneD.pick {M : Int} (h : OneD X N RB XB q w wr) (hg : wr.grownBy w1 (some X)) (hat : SrcAt X M w1) : OneD X M RB XB q w w1 :=
  ⟨h.res.gr hg (fun e => by injection e with e; have := h.rw_; have := h.Xw; omega), h.blk.gr hg (fun e => by injection e with e; have := h.xw; have := h.Xw; omega), gr_tr h.gr hg, hat, h.rw_, h.xw, h.ne, h.Xw⟩
theorem OneD.set {j : Nat} {u : Value} {y : DomeD} (h : OneD X N RB XB q w wr) (hy : (#[.string q.Name, .int .i64 q.Radius, .int .i64 q.Tilt]).setIfInBounds j u = #[.string y.Name, .int .i64 y.Radius, .int .i64 y.Tilt]) : OneD X N RB XB y w (wr.setCell ⟨XB, j, none⟩ u) :=
  ⟨h.res.far h.ne u, hy ▸ h.blk.set_ j u, gr_far h.gr h.xw j u, h.src.gr (gr_of_set wr XB j u) (fun g hg => by injection hg with hg; have := h.xw; have := h.Xw; omega), h.rw_, h.xw, h.ne, h.Xw⟩
end
def domeNames : List ByteArray := [⟨#[110, 111, 114, 116, 104]⟩, ⟨#[109, 97, 105, 110]⟩, ⟨#[100, 111, 109, 101, 50]⟩]
theorem dome_names : ∀ s ∈ domeNames, nameB s = true ∧ s.size ≤ 10 := by decide +kernel
set_option maxHeartbeats 3200000 in
set_option maxRecDepth 100000 in
theorem c_l09Draw (X : Nat) (N : Int) (w : World) (hN : N ≤ 1099511620000) (hs : SrcAt X N w) : Calls Tryz.prog 37 #[.pointer (some ⟨X, 0, none⟩)] w (DomeQ X (N + 8) w) := by
  have HS := hide hs
  have hXw := hs.lt
  clear hs
  go_enter Tryz.func37, Tryz.ntmps37
  go_wp2_with fail
  obtain ⟨RB, hRB⟩ : ∃ RB, RB = w.heap.size := ⟨_, rfl⟩
  obtain ⟨KL, hKL⟩ : ∃ KL, KL = RB + 1 := ⟨_, rfl⟩
  generalize hwl : World.alloc (World.alloc w _) _ = wl
  have hres : Blk wl RB 38 #[.string ByteArray.empty, .int .i64 0, .int .i64 0] := by rw [← hwl, hRB]; exact (Blk.new w 38 _).alloc _
  have hRl : Rd strC 1 wl (some ⟨KL, 0, none⟩) [⟨#[110, 111, 114, 116, 104]⟩, ⟨#[109, 97, 105, 110]⟩, ⟨#[100, 111, 109, 101, 50]⟩] := by
    rw [← hwl, hKL, hRB]
    have h := Blk.rd (cells := strC) (xs := [⟨#[110, 111, 114, 116, 104]⟩, ⟨#[109, 97, 105, 110]⟩, ⟨#[100, 111, 109, 101, 50]⟩]) (t := 9) strC_len (Blk.new (w.alloc (.cells #[.string ByteArray.empty, .int .i64 0, .int .i64 0] 38)) 9 #[.string ⟨#[110, 111, 114, 116, 104]⟩, .string ⟨#[109, 97, 105, 110]⟩, .string ⟨#[100, 111, 109, 101, 50]⟩])
    rw [World.size_alloc] at h
    exact h
  have hxl : IsX w wl := by rw [← hwl]; exact ((IsX.refl w).alloc _).alloc _
  have hwR : w.heap.size ≤ RB := by omega
  have hKX : X < KL := by omega
  rw [← hRB, ← hKL]
  have HSl := hide (HS.out.x hxl)
  have HGl := hide (gr_of_x hxl (some X))
  have HRES := hide hres
  clear hwl hres hxl hRB hKL HS
  refine (c_text X N (some ⟨KL, 0, none⟩) 3 [⟨#[110, 111, 114, 116, 104]⟩, ⟨#[109, 97, 105, 110]⟩, ⟨#[100, 111, 109, 101, 50]⟩] wl (by omega) (by simp) (by simp) hRl (fun b off e => by injection e with e; injection e with e1 e2; omega) HSl.out).mono ?_
  rintro e w1 ⟨nm, rfl, hm, hg, hat⟩
  have HNM := hide (dome_names nm hm)
  have HR1 := hide (HRES.out.gr hg (fun e => by injection e with e; omega))
  have HG1 := hide (gr_tr HGl.out hg)
  have HS1 := hide hat
  clear hg hat hRl HSl HGl HRES hm
  go_wp2_with fail
  refine (c_pick X _ 9000 w1 (by omega) (by omega) HS1.out).mono ?_
  rintro e w2 ⟨r, rfl, r0, r1, hg, hat⟩
  have hr1 : r ≤ 8999 := by simpa using r1
  have HR2 := hide (HR1.out.gr hg (fun e => by injection e with e; omega))
  have HG2 := hide (gr_tr HG1.out hg)
  have HS2 := hide hat
  clear hg hat r1 HR1 HG1 HS1
  go_wp2_with fail
  obtain ⟨XB, hXB⟩ : ∃ XB, XB = w2.heap.size := ⟨_, rfl⟩
  obtain ⟨KM, hKM⟩ : ∃ KM, KM = XB + 1 := ⟨_, rfl⟩
  generalize hw3 : World.alloc (World.alloc w2 _) _ = w3
  have hT : OneD X (N + 2 + 2) RB XB ⟨nm, 3000 + r, 0⟩ w w3 := by
    have hx : IsX w2 w3 := by rw [← hw3]; exact ((IsX.refl w2).alloc _).alloc _
    refine ⟨HR2.out.x hx, by rw [← hw3, hXB]; exact (Blk.new w2 38 _).alloc _, gr_x HG2.out hx, HS2.out.x hx, hwR, by have := HG2.out.size; omega, by have := HR2.out.lt; omega, hXw⟩
  have hRm : Rd intC 1 w3 (some ⟨KM, 0, none⟩) [0, 0, 5000, 15000, 30000, 45000] := by
    rw [← hw3, hKM, hXB]
    have h := Blk.rd (cells := intC) (xs := [0, 0, 5000, 15000, 30000, 45000]) (t := 2) intC_len (Blk.new (w2.alloc (.cells #[.string nm, .int .i64 (3000 + r), .int .i64 0] 38)) 2 _)
    rw [World.size_alloc] at h
    exact h
  have hXK : X < KM := by have := HG2.out.size; omega
  rw [← hXB, ← hKM]
  have HT := hide hT
  clear hw3 hXB hKM hT HR2 HG2 HS2
  refine (c_among X _ 0 45000 (some ⟨KM, 0, none⟩) 6 [0, 0, 5000, 15000, 30000, 45000] w3 (by omega) (by simp) (by simp) (by simp) hRm (fun b off e => by injection e with e; injection e with e1 e2; omega) HT.out.src).mono ?_
  rintro e w4 ⟨v, rfl, v0, v1, hg, hat⟩
  have HT4 := hide (HT.out.pick hg hat)
  clear hg hat hRm HT hXK
  have z2 := HT4.out.blk.frozen 2
  have c2 := HT4.out.blk.cell 2
  simp at c2
  have hlK := HT4.out.blk.lt
  go_upto_region 3 with fail
  clear z2 c2 hlK
  have HT5 : Hid (OneD X _ RB XB ⟨nm, 3000 + r, v⟩ w _) := hide (HT4.out.set (j := 2) (u := .int .i64 v) (y := ⟨nm, 3000 + r, v⟩) rfl)
  generalize World.setCell w4 ⟨XB, 2, none⟩ (.int .i64 v) = w5 at HT5 ⊢
  clear HT4
  have e0 := HT5.out.blk.cell 0
  have e1 := HT5.out.blk.cell 1
  have e2 := HT5.out.blk.cell 2
  have z0 := HT5.out.res.cell 0
  have z1 := HT5.out.res.cell 1
  have z2 := HT5.out.res.cell 2
  simp at e0 e1 e2 z0 z1 z2
  have f0 := HT5.out.res.frozen 0
  have f1 := HT5.out.res.frozen 1
  have f2 := HT5.out.res.frozen 2
  have lb := HT5.out.blk.lt
  have lr := HT5.out.res.lt
  go_wp2_with fail
  have hB6 := (((HT5.out.res.set_ 0 (.string nm)).set_ 1 (.int .i64 (3000 + r))).set_ 2 (.int .i64 v))
  have hg6 := (gr_far (gr_far (gr_far HT5.out.gr HT5.out.rw_ 0 (.string nm)) HT5.out.rw_ 1 (.int .i64 (3000 + r))) HT5.out.rw_ 2 (.int .i64 v))
  have hXR : ∀ g, some RB = some g → X < g := fun g hg => by injection hg with hg; have := HT5.out.rw_; have := HT5.out.Xw; omega
  have hs6 := (((HT5.out.src.gr (gr_of_set _ RB 0 (.string nm)) hXR).gr (gr_of_set _ RB 1 (.int .i64 (3000 + r))) hXR).gr (gr_of_set _ RB 2 (.int .i64 v)) hXR)
  generalize World.setCell _ ⟨RB, 2, none⟩ (.int .i64 v) = V6 at hB6 hg6 hs6 ⊢
  have q0 := hB6.cell 0
  have q1 := hB6.cell 1
  have q2 := hB6.cell 2
  simp at q0 q1 q2
  exact bodyPost_ret (v := .agg #[.string nm, .int .i64 (3000 + r), .int .i64 v]) (by simp [results, Tryz.results37, go_sem, q0, q1, q2]) rfl ⟨⟨nm, 3000 + r, v⟩, rfl, by simp only [DomeD.okB, Bool.and_eq_true]; exact ⟨⟨HNM.out.1, inB_true.2 (by omega)⟩, inB_true.2 (by omega)⟩, by have := HNM.out.2; simp only [DomeD.wf, maxLen]; omega, hg6, hs6.le (by omega)⟩
set_option maxHeartbeats 3200000 in
theorem c_R8Dome (A : Option Addr) (c : Nat) (bs : List Int) (w : World) (hn : bs.length ≤ 1099511627776) (hb : ∀ x ∈ bs, byteWf x) (hA : Rd byteC 1 w A bs) :
    Calls Tryz.prog 13 #[.slice A bs.length c] w fun e w' => ∃ x : DomeD, e = .returned (domeV x) ∧ x.okB = true ∧ x.wf ∧ IsX w w' := by
  have hx0 : IsX w (w.alloc (.cells #[.string ⟨#[]⟩, .int .i64 0, .int .i64 0] 38)) := (IsX.refl w).alloc _
  have hB0 : Blk (w.alloc (.cells #[.string ⟨#[]⟩, .int .i64 0, .int .i64 0] 38)) w.heap.size 38 #[.string ⟨#[]⟩, .int .i64 0, .int .i64 0] := Blk.new _ _ _
  have HF := hide (c_l00From A c bs (w.alloc (.cells #[.string ⟨#[]⟩, .int .i64 0, .int .i64 0] 38)) hn hb (hA.x hx0))
  generalize bs.length = bl at HF ⊢
  clear hn hb hA
  go_enter Tryz.func13, Tryz.ntmps13
  go_wp2_with fail
  obtain ⟨RB, hRB⟩ : ∃ RB, RB = w.heap.size := ⟨_, rfl⟩
  generalize w.alloc (.cells #[.string ⟨#[]⟩, .int .i64 0, .int .i64 0] 38) = w0 at *
  rw [← hRB] at hB0 ⊢
  have hwR : w.heap.size ≤ RB := by omega
  clear hRB
  refine HF.out.mono ?_
  rintro e w1 ⟨rfl, hs, hx⟩
  obtain ⟨X, hX⟩ : ∃ X, X = w0.heap.size := ⟨_, rfl⟩
  rw [← hX] at hs ⊢
  have hRX : RB < X := by rw [hX]; exact hB0.lt
  have HX1 := hide (hx0.trans hx)
  have HB1 := hide (hB0.x hx)
  have HS1 := hide hs
  clear hX hx hx0 hB0 hs HF
  go_wp2_with fail
  refine (c_l09Draw X 0 w1 (by omega) HS1.out).mono ?_
  rintro e w2 ⟨x, rfl, hok, hwf, hg, hat⟩
  have hB2 := HB1.out.gr hg (fun e => by injection e with e; omega)
  have HX2 := hide (IsX.grown HX1.out hg (by intro z hz; injection hz with hz; omega))
  have HB2 := hide hB2
  have HOK := hide hok
  have HWF := hide hwf
  clear hg hat hok hwf HX1 HB1 HS1
  have f0 := hB2.cell 0
  have f1 := hB2.cell 1
  have f2 := hB2.cell 2
  simp at f0 f1 f2
  have z0 := hB2.frozen 0
  have z1 := hB2.frozen 1
  have z2 := hB2.frozen 2
  have lt2 := hB2.lt
  clear hB2
  simp only [domeV]
  go_wp2_with fail
  have hX6 : IsX w (((w2.setCell ⟨RB, 0, none⟩ (.string x.Name)).setCell ⟨RB, 1, none⟩ (.int .i64 x.Radius)).setCell ⟨RB, 2, none⟩ (.int .i64 x.Tilt)) :=
    IsX.setCell (a := ⟨RB, 2, none⟩) (IsX.setCell (a := ⟨RB, 1, none⟩) (IsX.setCell (a := ⟨RB, 0, none⟩) HX2.out hwR _) hwR _) hwR _
  have hB6 := ((HB2.out.set_ 0 (.string x.Name)).set_ 1 (.int .i64 x.Radius)).set_ 2 (.int .i64 x.Tilt)
  clear f0 f1 f2 z0 z1 z2
  generalize ((w2.setCell ⟨RB, 0, none⟩ (.string x.Name)).setCell ⟨RB, 1, none⟩ (.int .i64 x.Radius)).setCell ⟨RB, 2, none⟩ (.int .i64 x.Tilt) = V6 at *
  have q0 := hB6.cell 0
  have q1 := hB6.cell 1
  have q2 := hB6.cell 2
  simp at q0 q1 q2
  exact bodyPost_ret (v := .agg #[.string x.Name, .int .i64 x.Radius, .int .i64 x.Tilt]) (by simp [results, Tryz.results13, go_sem, q0, q1, q2]) rfl ⟨x, rfl, HOK.out, HWF.out, hX6⟩
end Go.Proofs.YtfcfgkkkepifhaaGreatDoor
