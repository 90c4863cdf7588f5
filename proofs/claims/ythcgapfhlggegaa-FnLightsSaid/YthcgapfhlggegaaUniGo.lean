/- The program's search for universes, and FewestUniverses of the program. Conditions: those of the theorems alone. -/
import Derived.Test.YthcgapfhlggegaaUniBest
namespace Go.Proofs.Ythcgapfhlggegaa
set_option linter.unusedVariables false
open Go.RowKit

/-- the numbers of m universes -/
def padU (m : Nat) (used : List Int) : List Int := used ++ List.replicate (m - used.length) 0
theorem padU_len {m : Nat} {used : List Int} (h : used.length ≤ m) : (padU m used).length = m := by simp [padU]; omega
theorem padU_at {m : Nat} {used : List Int} {u : Nat} (h : u < used.length) (h2 : u < (padU m used).length) : (padU m used)[u] = used[u] := by
  simp only [padU]; exact List.getElem_append_left h
theorem padU_new {m : Nat} {used : List Int} (h2 : used.length < (padU m used).length) : (padU m used)[used.length] = 0 := by
  simp only [padU]; rw [List.getElem_append_right (Nat.le_refl _)]; simp
theorem padU_bump {m : Nat} {used : List Int} {u : Nat} {wd : Int} (h : u ≤ used.length) (hm : u < m) (h2 : u < (padU m used).length) : padU m (bump used u wd) = (padU m used).set u ((padU m used)[u] + wd) := by
  by_cases hu : u < used.length
  · rw [padU_at hu, bump_old hu]
    simp only [padU, List.length_set]
    rw [List.set_append_left _ _ hu]
  · obtain rfl : u = used.length := by omega
    rw [padU_new, bump_new rfl]
    simp only [padU, List.length_append, List.length_singleton]
    rw [List.set_append_right _ _ (Nat.le_refl _)]
    rw [show m - used.length = (m - (used.length + 1)) + 1 by omega, List.replicate_succ]
    simp
def ugC (vw : Value) (vc vb : Value) (g : UG) : Array Value := #[vw, vb, vc, .int .i64 (g.left : Int)]
def UgAt (X B : Nat) (vw : Value) (ch : List Int) (g : UG) (w : World) : Prop := At 62 X B 2 (ugC vw) UG.used intC ch g w
def UgRes (X B : Nat) (vw : Value) (m : Nat) (ch used : List Int) (res : UOut) (f en : Bool) (w : World) : Prop := match res with
  | .found c => f = true ∧ en = true ∧ ∃ u l, UgAt X B vw c ⟨u, l, false⟩ w
  | .none l => f = false ∧ en = true ∧ UgAt X B vw ch ⟨padU m used, l, false⟩ w
  | .full => f = false ∧ en = false
def UgQ (X B : Nat) (vw : Value) (m : Nat) (ch used : List Int) (res : UOut) (w : World) (e : Ending) (w' : World) : Prop := ∃ f en, e = .returned (.tuple #[.bool f, .bool en]) ∧ Fr B X w w' ∧ UgRes X B vw m ch used res f en w'

set_option maxHeartbeats 1600000 in
theorem c_ugEnd (A : Option Addr) (c n m : Nat) (X B : Nat) (used ch : List Int) (left : Nat) (w : World) (hn : n ≤ 16) (hch : ch.length = n) (hat : UgAt X B (.slice A n c) ch ⟨padU m used, left, false⟩ w) :
    Calls Try.prog 29 #[.pointer (some ⟨X, 0, none⟩)] w (UgQ X B (.slice A n c) m ch used (putU m [] used ch left) w) := by
  obtain ⟨Ac, cc, Au, cu, hX, hC, hU, hAp⟩ := id hat
  have HAT := hide hat
  have hlb := hX.lt
  have d0 := hX.cell 0
  have d2 := hX.cell 2
  simp [ugC] at d0 d2
  rw [hch] at d2
  clear hX hC hU hAp hat
  go_enter Try.func29, Try.ntmps29
  go_wp2_with fail
  go_ret2
  exact ⟨true, true, rfl, Fr.refl _ _ _, rfl, rfl, _, _, HAT.out⟩

/-- what a call of the search is given -/
structure UgIn (ws : List Int) (A : Option Addr) (c n : Nat) (m : Nat) (X B i : Nat) (used ch : List Int) (left : Nat) (w : World) : Prop where
  XB : X < B
  Bw : B ≤ w.heap.size
  lft : left ≤ 20000
  chl : ch.length = i
  usm : used.length ≤ m
  usb : ∀ x ∈ used, 1 ≤ x ∧ x ≤ 512
  rdA : Rd intC 1 w A ws
  Ao : Out B X A
  at_ : UgAt X B (.slice A n c) ch ⟨padU m used, left, false⟩ w

set_option maxHeartbeats 6400000 in
set_option maxRecDepth 100000 in
theorem c_ugGo (A : Option Addr) (c n : Nat) (ws0 : List Int) (hnn : n = ws0.length) (hn : n ≤ 16) (hw0 : ∀ x ∈ ws0, 1 ≤ x ∧ x ≤ 64) (m : Nat) (hm : m ≤ 16) (X B : Nat) : ∀ (r i : Nat) (used ch : List Int) (left : Nat) (w : World), i + r = n →
    UgIn ws0 A c n m X B i used ch left w →
    Calls Try.prog 29 #[.pointer (some ⟨X, 0, none⟩)] w (UgQ X B (.slice A n c) m ch used (putU m (ws0.drop i) used ch left) w) := by
  have HN := hide hnn
  have HW0 := hide hw0
  clear hnn hw0
  intro r
  induction r with
  | zero =>
    intro i used ch left w hi h
    obtain rfl : i = n := by omega
    rw [show ws0.drop i = [] from List.drop_eq_nil_of_le (by rw [← HN.out]; exact Nat.le_refl _)]
    exact c_ugEnd A c i m X B used ch left w hn h.chl h.at_
  | succ r ih =>
    intro i used ch left w hi h
    have IH := hide ih
    clear ih
    have hlt : i < n := by omega
    have hltx : i < ws0.length := HN.out ▸ hlt
    obtain ⟨R, hR⟩ : ∃ R, R = putU m (ws0.drop i) used ch left := ⟨_, rfl⟩
    rw [← hR]
    rw [List.drop_eq_getElem_cons hltx, putU] at hR
    obtain ⟨hwd1, hwd2⟩ := HW0.out _ (List.getElem_mem hltx)
    obtain ⟨hXB, hBw, hleft, hchl, husm, husb, hA, hAo, hat⟩ := h
    have HUSB := hide husb
    clear husb
    obtain ⟨Ac, cc, Au, cu, hX, hC, hU, hAp⟩ := id hat
    have HAT := hide hat
    clear hat
    obtain ⟨ab, aoff, rfl, hab, k0⟩ := int_rd hA (show ws0[i]? = some ws0[i] from List.getElem?_eq_getElem _)
    have HRA := hide (fun (V : World) (hV : Fr B X w V) => hA.fr hAo hV)
    obtain ⟨wd, hwd⟩ : ∃ wd, wd = ws0[i] := ⟨_, rfl⟩
    rw [← hwd] at k0 hwd1 hwd2 hR
    clear hwd hA
    obtain ⟨q, hq⟩ : ∃ q, q = used.length := ⟨_, rfl⟩
    obtain ⟨K, hK⟩ : ∃ K, K = min m (used.length + 1) := ⟨_, rfl⟩
    rw [← hK] at hR
    rw [← hq] at hK husm
    have HQ := hide hq
    have HUL := hide (padU_len (m := m) (used := used) (by omega))
    have hlb := hX.lt
    have d0 := hX.cell 0
    have d1 := hX.cell 1
    have d2 := hX.cell 2
    simp only [ugC] at d0 d1 d2
    simp at d0 d1 d2
    rw [hchl] at d2
    rw [HUL.out] at d1
    have HR := hide hR
    have HCL := hide hchl
    clear hX hC hU hAp hq hR hchl
    have hin : ((i : Int) == (n : Int)) = false := by simp only [beq_eq_false_iff_ne, ne_eq]; omega
    go_enter Try.func29, Try.ntmps29
    go_wp2_with fail
    go_loopw [33] (fun uv wr => ∃ (u left' : Nat), uv = .int .i64 u ∧ u ≤ K ∧ (u = K → K = m) ∧ left' ≤ left ∧ Hid (Fr B X w wr) ∧ Hid (UgAt X B (.slice (some ⟨ab, aoff, none⟩) n c) ch ⟨padU m used, left', false⟩ wr) ∧ Hid (R = tryU (fun used' ch' left' => putU m (ws0.drop (i + 1)) used' ch' left') wd used ch (K - u) u left')) (fun uv _ => m - (intOf uv).toNat)
    case atStart => exact ⟨0, left, rfl, Nat.zero_le _, fun e => by omega, Nat.le_refl _, hide (Fr.refl _ _ _), HAT, hide HR.out⟩
    case round =>
      clear HAT d0 d1 d2 k0 HR hlb
      obtain ⟨u, left', rfl, huK, hKm, hll, HF, HUAT, HF0⟩ := hrel
      by_cases hum : u < m
      rotate_left
      · have HRN := hide (show R = .none left' by rw [HF0.out, show K - u = 0 by omega, tryU_zero])
        go_wp2_with fail
        go_ret2
        exact ⟨false, true, rfl, HF.out, by rw [HRN.out]; exact ⟨rfl, rfl, HUAT.out⟩⟩
      · have hltK : u < K := by
          rcases Nat.lt_or_ge u K with h1 | h1
          · exact h1
          · have := hKm (by omega); omega
        obtain ⟨Ac, cc, Au, cu, hX, hC, hU, hAp⟩ := id HUAT.out
        simp only at hU hX hAp
        rw [HUL.out] at hX hU hAp
        obtain ⟨U, hUU⟩ : ∃ U, U = padU m used := ⟨_, rfl⟩
        rw [← hUU] at hU
        have hul : U.length = m := by rw [hUU]; exact HUL.out
        have huU : u < U.length := by omega
        obtain ⟨gu, rfl, hgu, hgu'⟩ := own_some hU (by omega)
        have hX : Blk wr X 62 (ugC (.slice (some ⟨ab, aoff, none⟩) n c) (.slice Ac ch.length cc) (.slice (some ⟨gu, 0, none⟩) m cu) ⟨U, left', false⟩) := by simpa [ugC] using hX
        have HX := hide hX
        have HC := hide hC
        have HU := hide hU
        have HAp := hide hAp
        have hlb := hX.lt
        have d1 := hX.cell 1
        have d3 := hX.cell 3
        simp [ugC] at d1 d3
        have f3 := hX.frozen 3
        have q0 := own_int_at hU huU
        have fq : wr.frozen? ⟨gu, u, none⟩ = false := own_frozen hU
        have hXg : X ≠ gu := by omega
        obtain ⟨y, hy⟩ : ∃ y, y = U[u] := ⟨_, rfl⟩
        rw [← hy] at q0
        have HYU := hide hy.symm
        have hyb : 0 ≤ y ∧ y ≤ 512 ∧ (y = 0 ↔ u = q) := by
          have hu2 : u < (padU m used).length := by rw [HUL.out]; exact hum
          have hy2 : y = (padU m used)[u] := by rw [hy]; simp only [hUU]
          rcases Nat.lt_or_ge u used.length with h1 | h1
          · have h2 := HUSB.out _ (List.getElem_mem h1)
            rw [padU_at h1 hu2] at hy2
            have := HQ.out
            omega
          · have h3 : u = used.length := by have := HQ.out; omega
            have h4 : (padU m used)[u] = 0 := by subst h3; exact padU_new hu2
            rw [h4] at hy2
            have := HQ.out
            omega
        obtain ⟨hy0, hy1, hyq⟩ := hyb
        have HTB := hide (show tooBig used u wd = decide (512 < y + wd) by
          have hu2 : u < (padU m used).length := by rw [HUL.out]; exact hum
          have hy2 : y = (padU m used)[u] := by rw [hy]; simp only [hUU]
          rcases Nat.lt_or_ge u used.length with h1 | h1
          · rw [padU_at h1 hu2] at hy2
            simp only [tooBig, decide_eq_true h1, Bool.true_and, List.getD_eq_getElem?_getD, List.getElem?_eq_getElem h1, Option.getD_some, ← hy2]
          · have : y = 0 := hyq.2 (by have := HQ.out; omega)
            rw [tooBig, decide_eq_false (by omega), Bool.false_and]
            exact (decide_eq_false (by omega)).symm)
        have HBP := hide (show padU m (bump used u wd) = U.set u (y + wd) by
          have hu2 : u < (padU m used).length := by rw [HUL.out]; exact hum
          rw [padU_bump (by have := HQ.out; omega) hum hu2, hy]
          simp only [hUU])
        have HRT := hide (show R = tryU (fun used' ch' left' => putU m (ws0.drop (i + 1)) used' ch' left') wd used ch (K - (u + 1) + 1) u left' by rw [HF0.out, show K - u = K - (u + 1) + 1 by omega])
        have HUU := hide hUU
        clear hX hC hU hAp hUU hy
        have hwr : IntKind.i64.wrap (y + wd) = y + wd := IntWalk.i64_in _ (by omega)
        by_cases hbig : 512 < y + wd
        · have HBIG := hide (show tooBig used u wd = true by rw [HTB.out]; exact decide_eq_true hbig)
          have hyz : (y == 0) = false := by simp only [beq_eq_false_iff_ne, ne_eq]; omega
          have hyn : ¬ u = q := fun e => by have := hyq.2 e; omega
          clear hyq
          go_wp2_with fail
          go_roundw
          case rel => exact ⟨u + 1, left', by go_num, by omega, fun e => by omega, hll, HF, HUAT, hide (by rw [HRT.out, tryU_big HBIG.out])⟩
          case measure => simp [intOf]; omega
        · have HBIG := hide (show tooBig used u wd = false by rw [HTB.out]; exact decide_eq_false hbig)
          by_cases hz : left' = 0
          · have HRF := hide (show R = .full by rw [HRT.out, hz, tryU_full HBIG.out])
            subst hz
            rw [show (((0 : Nat) : Int)) = 0 from rfl] at d3
            clear hyq
            go_wp2_with fail
            go_ret2
            exact ⟨false, false, rfl, HF.out, by rw [HRF.out]; exact ⟨rfl, rfl⟩⟩
          · have hzb : ((left' : Int) == 0) = false := by simp only [beq_eq_false_iff_ne, ne_eq]; omega
            have HZ := hide hz
            have HYQ := hide hyq
            clear hz hyq
            go_upto_region 12 with fail
            have HXx := hide (HX.out.set_ 3 (.int .i64 ((left' : Int) - 1)))
            have HCx := hide (own_set_other HC.out 3 (.int .i64 ((left' : Int) - 1)) hXB)
            have HUx := hide (own_set_other HU.out 3 (.int .i64 ((left' : Int) - 1)) hXB)
            have HFx : Hid (Fr B X w _) := hide (HF.out.set ⟨X, 3, none⟩ (.int .i64 ((left' : Int) - 1)) (.inl rfl))
            have HLE := hide (show (left' : Int) - 1 = ((left' - 1 : Nat) : Int) by have := HZ.out; omega)
            generalize World.setCell wr ⟨X, 3, none⟩ (.int .i64 ((left' : Int) - 1)) = wx at HXx HCx HUx HFx ⊢
            rw [HLE.out] at HXx
            have HXx : Hid (Blk wx X 62 (ugC (.slice (some ⟨ab, aoff, none⟩) n c) (.slice Ac i cc) (.slice (some ⟨gu, 0, none⟩) m cu) ⟨U, left' - 1, false⟩)) := hide (by have := HXx.out; rw [HCL.out] at this; simpa [ugC] using this)
            rw [HCL.out] at HCx HAp
            clear HX HC HU HF HUAT d1 d3 f3 q0 fq hlb hzb HLE hwr
            -- the number is added
            have d1 := HXx.out.cell 1
            simp [ugC] at d1
            have q0 := own_int_at HUx.out huU
            rw [HYU.out] at q0
            have fq : wx.frozen? ⟨gu, u, none⟩ = false := own_frozen HUx.out
            have hlb := HXx.out.lt
            have hgul := World.block_lt_of_cell? wx _ q0
            simp only at hgul
            have hwr : IntKind.i64.wrap (y + wd) = y + wd := IntWalk.i64_in _ (by omega)
            have hum' : (u : Int) < (m : Int) := by omega
            go_upto_region 13 with fail
            clear hwr d1 q0 fq hlb hgul
            have HX5 := hide (HXx.out.far (p := ⟨gu, u, none⟩) hXg (.int .i64 (y + wd)))
            have HU5 := hide (own_set HUx.out (j := u) (by rw [flat_len1]; exact huU) (.int .i64 (y + wd)))
            rw [← flat_set] at HU5
            have HC5 := hide (own_beside HCx.out HAp.out u (.int .i64 (y + wd)))
            have HF5 : Hid (Fr B X w _) := hide (HFx.out.set ⟨gu, u, none⟩ (.int .i64 (y + wd)) (.inr hgu))
            generalize World.setCell wx ⟨gu, u, none⟩ (.int .i64 (y + wd)) = w5 at HX5 HU5 HC5 HF5 ⊢
            clear HXx HUx HCx HFx
            obtain ⟨BU, hBU⟩ : ∃ BU, BU = U.set u (y + wd) := ⟨_, rfl⟩
            rw [← hBU] at HU5 HBP
            have hBl : BU.length = m := by rw [hBU]; simp [hul]
            have hBu : u < BU.length := by omega
            have HBY := hide (show BU[u] = y + wd by simp only [hBU]; exact List.getElem_set_self _)
            have HBK := hide (show BU.set u y = U by rw [hBU]; exact set_back huU HYU.out)
            clear hBU
            -- the universe is chosen
            have HII := hide (info_parts Int64_info)
            have d2 := HX5.out.cell 2
            simp [ugC] at d2
            have f2 := HX5.out.frozen 2
            have hlb5 := HX5.out.lt
            have hwu : IntKind.i64.wrap ((u : Int) + 1) = (u : Int) + 1 := IntWalk.i64_in _ (by omega)
            have HNE := hide (fun j (hj : (Value.slice Ac i cc).ownBlock = some j) => HC5.out.lt j hj)
            go_wp2_with (at_builtin; obtain ⟨i0, hi0, hz0, hz1, hz2⟩ := HII.out; refine wpList_append_any _ rfl (.tmp 72) (.tmp 75) _ rfl B 2 i0 _ 1 8 Try.underlying27 hi0 hz0 hz1 hz2 rfl (by omega) (.slice Ac i cc) i (ch.flatMap intC) rfl (HC5.out.alloc _) _ (some ⟨w5.heap.size, 0, none⟩) 1 1 [.int .i64 ((u : Int) + 1)] rfl (one_readsZ w5 2 _) (one_oneZ _) (by simp only [maxLen]; omega) (by omega) (by have := HF5.out.size; simp; omega) ?_; clear hi0 hz0 hz1 hz2; intro v1 w6 hown1 hg1 hat1; obtain ⟨A6, c6, rfl⟩ := own_form hown1; have HC6 := hide hown1; have HG6 := hide hg1; have HAT6 := hide hat1; have HX6 := hide (blk_app HX5.out hg1 (fun j hj => by have := (HNE.out j hj).1; omega)); clear hown1 hg1 hat1 d2 f2; have d2 := HX6.out.cell 2; simp [ugC] at d2; have f2 := HX6.out.frozen 2; have hlb6 := HX6.out.lt)
            have HF7 : Hid (Fr B X w (w6.setCell ⟨X, 2, none⟩ (.slice A6 (i + 1) c6))) := hide (((HF5.out.x ((IsX.refl w5).alloc _) hBw).gr HG6.out hBw (fun k hk => .inl (HNE.out k hk).1)).set _ _ (.inl rfl))
            have HX7 := hide (HX6.out.set_ 2 (.slice A6 (i + 1) c6))
            have HC7 := hide (own_set_other HC6.out 2 (.slice A6 (i + 1) c6) hXB)
            have HU7 := hide (own_set_other (own_app_other HU5.out HAp.out HG6.out) 2 (.slice A6 (i + 1) c6) hXB)
            have HAP7 := hide (apart_app HAp.out (HU5.out.alloc _) HAT6.out)
            generalize w6.setCell ⟨X, 2, none⟩ (.slice A6 (i + 1) c6) = w7 at HF7 HX7 HC7 HU7 ⊢
            clear d2 f2 hlb5 hlb6 hwu HX6 HC6 HG6 HAT6 HNE HX5 HU5 HC5 HF5
            have HBM := hide (show (bump used u wd).length ≤ m by rw [bump_len]; have := HQ.out; split <;> omega)
            have HIN : Hid (UgIn ws0 (some ⟨ab, aoff, none⟩) c n m X B (i + 1) (bump used u wd) (ch ++ [((u + 1 : Nat) : Int)]) (left' - 1) w7) := hide {
              XB := hXB
              Bw := Nat.le_trans hBw HF7.out.size
              lft := by omega
              chl := by rw [intC_snoc HCL.out]
              usm := HBM.out
              usb := bump_bd HUSB.out hwd1 (by omega) HBIG.out
              rdA := HRA.out _ HF7.out
              Ao := hAo
              at_ := by
                refine ⟨A6, c6, some ⟨gu, 0, none⟩, cu, ?_, ?_, ?_, ?_⟩
                · rw [intC_snoc HCL.out]; simp only [HBP.out, hBl]; have := HX7.out; simpa [ugC] using this
                · rw [intC_snoc HCL.out, flat_snoc]; exact HC7.out
                · simp only [HBP.out, hBl]; exact HU7.out
                · rw [intC_snoc HCL.out]; simp only [HBP.out, hBl]; exact HAP7.out }
            refine (IH.out (i + 1) (bump used u wd) (ch ++ [((u + 1 : Nat) : Int)]) (left' - 1) w7 (by omega) HIN.out).mono ?_
            rintro e w8 ⟨f8, en8, rfl, hfr8, hres8⟩
            have HF8 := hide (HF7.out.trans hfr8)
            clear HX7 HC7 HU7 HAP7 HF7 HAp HIN hfr8
            cases hrr : putU m (ws0.drop (i + 1)) (bump used u wd) (ch ++ [((u + 1 : Nat) : Int)]) (left' - 1) with
            | found c8 =>
              rw [hrr] at hres8
              obtain ⟨rfl, rfl, hat8⟩ := hres8
              have HRR := hide (show R = .found c8 by rw [HRT.out]; exact tryU_found HBIG.out HZ.out hrr)
              have HAT8 := hide hat8
              clear hat8 hrr
              go_wp2_with fail
              go_ret2
              exact ⟨true, true, rfl, HF8.out, by rw [HRR.out]; exact ⟨rfl, rfl, HAT8.out⟩⟩
            | full =>
              rw [hrr] at hres8
              obtain ⟨rfl, rfl⟩ := hres8
              have HRR := hide (show R = .full by rw [HRT.out]; exact tryU_rec_full HBIG.out HZ.out hrr)
              clear hrr
              go_wp2_with fail
              go_ret2
              exact ⟨false, false, rfl, HF8.out, by rw [HRR.out]; exact ⟨rfl, rfl⟩⟩
            | none l8 =>
              rw [hrr] at hres8
              obtain ⟨rfl, rfl, hat8⟩ := hres8
              have HRR := hide (show R = tryU (fun used' ch' left' => putU m (ws0.drop (i + 1)) used' ch' left') wd used ch (K - (u + 1)) (u + 1) l8 by rw [HRT.out]; exact tryU_none HBIG.out HZ.out hrr)
              have hl8 : l8 ≤ left := by have := putU_left m _ _ _ _ _ hrr; omega
              obtain ⟨A8, c8, Au8, cu8, hX8, hC8, hU8, hAp8⟩ := hat8
              clear hrr HRT
              rw [intC_snoc HCL.out] at hX8 hC8 hAp8
              rw [flat_snoc] at hC8
              simp only [HBP.out, hBl] at hX8 hU8 hAp8
              have hcap : i + 1 ≤ c8 := own_cap hC8
              obtain ⟨g8, rfl, hg8, hg8'⟩ := own_some hC8 (by omega)
              obtain ⟨gu8, rfl, hgu8, hgu8'⟩ := own_some hU8 (by omega)
              have hcap' : (i : Int) ≤ (c8 : Int) := by omega
              have hi0 : (0 : Int) ≤ (i : Int) := by omega
              have HX8 := hide hX8
              have HC8 := hide hC8
              have HU8 := hide hU8
              have HAP8 := hide hAp8
              have d2 := hX8.cell 2
              simp [ugC] at d2
              have f2 := hX8.frozen 2
              have hlb8 := hX8.lt
              clear hX8 hC8 hU8 hAp8
              go_upto_region 18 with fail
              clear d2 f2 hlb8
              have HX9 := hide (HX8.out.set_ 2 (.slice (some ⟨g8, 0, none⟩) i c8))
              have HC9 := hide (own_set_other (own_pop HC8.out) 2 (.slice (some ⟨g8, 0, none⟩) i c8) hXB)
              have HU9 := hide (own_set_other HU8.out 2 (.slice (some ⟨g8, 0, none⟩) i c8) hXB)
              have HF9 : Hid (Fr B X w _) := hide (HF8.out.set ⟨X, 2, none⟩ (.slice (some ⟨g8, 0, none⟩) i c8) (.inl rfl))
              have HAP9 : Hid (Apart (.slice (some ⟨g8, 0, none⟩) i c8) (.slice (some ⟨gu8, 0, none⟩) m cu8)) := HAP8
              generalize World.setCell w8 ⟨X, 2, none⟩ (.slice (some ⟨g8, 0, none⟩) i c8) = w9 at HX9 HC9 HU9 HF9 ⊢
              clear HX8 HC8 HU8 HF8 HAP8
              -- the number is taken away again
              have d1 := HX9.out.cell 1
              simp [ugC] at d1
              have q0 := own_int_at HU9.out hBu
              rw [HBY.out] at q0
              have fq : w9.frozen? ⟨gu8, u, none⟩ = false := own_frozen HU9.out
              have hlb9 := HX9.out.lt
              have hgul := World.block_lt_of_cell? w9 _ q0
              simp only at hgul
              have hwr : IntKind.i64.wrap (y + wd - wd) = y + wd - wd := IntWalk.i64_in _ (by omega)
              have hXg8 : X ≠ gu8 := by omega
              go_upto_region 19 with fail
              clear hwr d1 q0 fq hlb9 hgul
              have HX10 := hide (HX9.out.far (p := ⟨gu8, u, none⟩) hXg8 (.int .i64 (y + wd - wd)))
              have HU10 := hide (own_set HU9.out (j := u) (by rw [flat_len1]; exact hBu) (.int .i64 (y + wd - wd)))
              rw [← flat_set] at HU10
              have HC10 := hide (own_beside HC9.out HAP9.out u (.int .i64 (y + wd - wd)))
              have HF10 : Hid (Fr B X w _) := hide (HF9.out.set ⟨gu8, u, none⟩ (.int .i64 (y + wd - wd)) (.inr hgu8))
              rw [show y + wd - wd = y by omega] at HX10 HU10 HC10 HF10
              rw [HBK.out] at HU10
              generalize World.setCell w9 ⟨gu8, u, none⟩ (.int .i64 y) = w10 at HX10 HU10 HC10 HF10 ⊢
              clear HX9 HC9 HU9 HF9
              have d1 := HX10.out.cell 1
              simp [ugC] at d1
              have q0 := own_int_at HU10.out huU
              rw [HYU.out] at q0
              have hlb10 := HX10.out.lt
              have hgul := World.block_lt_of_cell? w10 _ q0
              simp only at hgul
              have HAT10 : Hid (UgAt X B (.slice (some ⟨ab, aoff, none⟩) n c) ch ⟨padU m used, l8, false⟩ w10) := hide (by
                rw [← HUU.out]
                refine ⟨some ⟨g8, 0, none⟩, c8, some ⟨gu8, 0, none⟩, cu8, ?_, by rw [HCL.out]; exact HC10.out, ?_, ?_⟩
                · rw [HCL.out]; simp only [hul]; have := HX10.out; simpa [ugC] using this
                · simp only [hul]; exact HU10.out
                · rw [HCL.out]; simp only [hul]; exact HAP9.out)
              by_cases hyn : y = 0
              · have HRN := hide (show R = .none l8 by
                  have := HYQ.out.1 hyn
                  rw [HRR.out, show K - (u + 1) = 0 by omega, tryU_zero])
                have hyz : (y == 0) = true := by simp only [beq_iff_eq]; exact hyn
                clear hyn
                go_wp2_with fail
                go_ret2
                exact ⟨false, true, rfl, HF10.out, by rw [HRN.out]; exact ⟨rfl, rfl, HAT10.out⟩⟩
              · have hyz : (y == 0) = false := by simp only [beq_eq_false_iff_ne, ne_eq]; exact hyn
                have hun : ¬ u = q := fun e => hyn (HYQ.out.2 e)
                clear hyn
                go_wp2_with fail
                go_roundw
                case rel => exact ⟨u + 1, l8, by go_num, by omega, fun e => by omega, hl8, HF10, HAT10, HRR⟩
                case measure => simp [intOf]; omega
end Go.Proofs.Ythcgapfhlggegaa
