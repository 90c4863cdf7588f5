/- The reference's search for universes: the recursion. Conditions: those of the theorems alone. -/
import Derived.Test.YtlbcoplpdnidnaaUniLaw
import Derived.Test.YtlbcoplpdnidnaaSearch
namespace Go.Proofs.Ytlbcoplpdnidnaa
set_option linter.unusedVariables false
open Go.RowKit

/-- what a search for universes has in its struct -/
structure UG where
  used : List Int
  left : Nat
  full : Bool
def uniC (vw : Value) (m bud : Int) (vc vu : Value) (g : UG) : Array Value := #[vw, .int .i64 m, vc, vu, .int .i64 (bud - (g.left : Int)), .int .i64 bud, .bool g.full]
def UniAt (X B : Nat) (vw : Value) (m bud : Int) (ch : List Int) (g : UG) (w : World) : Prop := At 99 X B 2 (uniC vw m bud) UG.used intC ch g w
def UniRes (X B : Nat) (vw : Value) (m bud : Int) (ch used : List Int) (res : UOut) (b : Bool) (w : World) : Prop := match res with
  | .found c => b = true ∧ ∃ u l, UniAt X B vw m bud c ⟨u, l, false⟩ w
  | .none l => b = false ∧ UniAt X B vw m bud ch ⟨used, l, false⟩ w
  | .full => b = false ∧ UniAt X B vw m bud ch ⟨used, 0, true⟩ w
def UniQ (X B : Nat) (vw : Value) (m bud : Int) (ch used : List Int) (res : UOut) (w : World) (e : Ending) (w' : World) : Prop := ∃ b, e = .returned (.bool b) ∧ Fr B X w w' ∧ UniRes X B vw m bud ch used res b w'
/-- where nothing is found the struct is as it was, but for the budget -/
theorem UniRes.cases {X B : Nat} {vw : Value} {m bud : Int} {ch used : List Int} {res : UOut} {b : Bool} {w : World} (h : UniRes X B vw m bud ch used res b w) :
    (∃ c, res = .found c ∧ b = true ∧ ∃ u l, UniAt X B vw m bud c ⟨u, l, false⟩ w) ∨ (∃ l fl, b = false ∧ UniAt X B vw m bud ch ⟨used, l, fl⟩ w ∧ (fl = false → res = .none l) ∧ (fl = true → l = 0 ∧ res = .full)) := by
  cases res with
  | found c => exact .inl ⟨c, rfl, h.1, h.2⟩
  | none l => exact .inr ⟨l, false, h.1, h.2, fun _ => rfl, fun e => (by cases e)⟩
  | full => exact .inr ⟨0, true, h.1, h.2, fun e => (by cases e), fun _ => ⟨rfl, rfl⟩⟩
theorem apart_sym {v u : Value} (h : Apart v u) : Apart u v := by
  unfold Apart at *
  rcases h with h | h
  · cases hv : v.ownBlock with
    | none => exact .inl rfl
    | some j => exact .inr (by rw [h]; exact fun e => by cases e)
  · exact .inr (fun e => h e.symm)
/-- a row beside one that is written to -/
theorem own_beside {w : World} {base e size n n2 c2 : Nat} {v : Value} {L : List Value} {g : Nat} (h : w.ownsRow base e size v n L) (ha : Apart v (.slice (some ⟨g, 0, none⟩) n2 c2)) (j : Nat) (u : Value) : (w.setCell ⟨g, j, none⟩ u).ownsRow base e size v n L := by
  refine h.kept (gr_of_set w g j u) ?_
  rcases ha with ha | ha
  · exact absurd ha (by simp [Value.ownBlock])
  · exact .inr (fun e => ha (by rw [e]; rfl))
theorem flat_set (L : List Int) (u : Nat) (y : Int) : (L.set u y).flatMap intC = (L.flatMap intC).set u (.int .i64 y) := by
  have e : ∀ K : List Int, K.flatMap intC = K.map (Value.int .i64) := fun K => by
    induction K with
    | nil => rfl
    | cons a K ih => simp [intC, List.flatMap_cons, ih]
  rw [e, e, List.map_set]
theorem set_back {U : List Int} {u : Nat} {y z : Int} (hu : u < U.length) (h : U[u] = y) : (U.set u z).set u y = U := by
  rw [List.set_set]
  subst h
  exact List.set_getElem_self hu
theorem flat_len1 (L : List Int) : (L.flatMap intC).length = L.length := by rw [flat_len intC_len]; omega
theorem own_int_at {w : World} {base e g n c : Nat} {L : List Int} (h : w.ownsRow base e 1 (.slice (some ⟨g, 0, none⟩) n c) n (L.flatMap intC)) {u : Nat} (hu : u < L.length) : w.cell? ⟨g, u, none⟩ = some (.int .i64 L[u]) := by
  have hr : Rd intC 1 w (some ⟨g, 0, none⟩) L := Own.rd (cells := intC) (k := 1) (by omega) intC_len (by
    have hl : n = L.length := by have := h.1; rw [flat_len1] at this; omega
    subst hl; exact h) rfl
  obtain ⟨b, off, e, _, hc⟩ := int_rd hr (List.getElem?_eq_getElem hu)
  injection e with e
  injection e with e1 e2
  subst e1 e2
  simpa using hc

set_option maxHeartbeats 1600000 in
theorem c_uniEnd (A : Option Addr) (c n : Nat) (m bud : Int) (X B : Nat) (used ch : List Int) (left : Nat) (w : World) (hn : n ≤ 16) (hch : ch.length = n) (mm : Nat) (hat : UniAt X B (.slice A n c) m bud ch ⟨used, left, false⟩ w) :
    Calls Try.prog 66 #[.pointer (some ⟨X, 0, none⟩)] w (UniQ X B (.slice A n c) m bud ch used (putU mm [] used ch left) w) := by
  obtain ⟨Ac, cc, Au, cu, hX, hC, hU, hAp⟩ := id hat
  have HAT := hide hat
  have hlb := hX.lt
  have d0 := hX.cell 0
  have d2 := hX.cell 2
  simp [uniC] at d0 d2
  rw [hch] at d2
  clear hX hC hU hAp hat
  go_enter Try.func66, Try.ntmps66
  go_wp2_with fail
  go_ret
  exact ⟨true, rfl, Fr.refl _ _ _, rfl, used, left, HAT.out⟩

/-- what a call of the search is given -/
structure UniIn (ws : List Int) (A : Option Addr) (c n : Nat) (m : Nat) (bud : Int) (X B i : Nat) (used ch : List Int) (left : Nat) (w : World) : Prop where
  XB : X < B
  Bw : B ≤ w.heap.size
  lft : (left : Int) ≤ bud
  chl : ch.length = i
  usl : used.length ≤ i
  usb : ∀ x ∈ used, 1 ≤ x ∧ x ≤ 512
  rdA : Rd intC 1 w A ws
  Ao : Out B X A
  at_ : UniAt X B (.slice A n c) m bud ch ⟨used, left, false⟩ w
theorem bump_bd {used : List Int} {u : Nat} {wd : Int} (h : ∀ x ∈ used, 1 ≤ x ∧ x ≤ 512) (h1 : 1 ≤ wd) (h2 : wd ≤ 512) (hb : tooBig used u wd = false) : ∀ x ∈ bump used u wd, 1 ≤ x ∧ x ≤ 512 := by
  intro x hx
  unfold bump at hx
  split at hx
  · rename_i hu
    have hh : ¬ 512 < used.getD u 0 + wd := by
      intro h3
      simp [tooBig, hu] at hb
      simp only [List.getD_eq_getElem?_getD, List.getElem?_eq_getElem hu, Option.getD_some] at h3
      omega
    have hm : 1 ≤ used.getD u 0 := by
      rw [List.getD_eq_getElem?_getD, List.getElem?_eq_getElem hu]
      exact (h _ (List.getElem_mem hu)).1
    rcases List.mem_or_eq_of_mem_set hx with h3 | h3
    · exact h x h3
    · subst h3; omega
  · rcases List.mem_append.1 hx with h3 | h3
    · exact h x h3
    · simp at h3; omega

set_option maxHeartbeats 6400000 in
set_option maxRecDepth 100000 in
theorem c_uniRun (A : Option Addr) (c n : Nat) (ws0 : List Int) (hnn : n = ws0.length) (hn : n ≤ 16) (hw0 : ∀ x ∈ ws0, 1 ≤ x ∧ x ≤ 64) (m : Nat) (hm : m ≤ 16) (bud : Int) (hbud : bud ≤ 20000) (X B : Nat) : ∀ (r i : Nat) (used ch : List Int) (left : Nat) (w : World), i + r = n →
    UniIn ws0 A c n m bud X B i used ch left w →
    Calls Try.prog 66 #[.pointer (some ⟨X, 0, none⟩)] w (UniQ X B (.slice A n c) m bud ch used (putU m (ws0.drop i) used ch left) w) := by
  have HN := hide hnn
  have HW0 := hide hw0
  clear hnn hw0
  intro r
  induction r with
  | zero =>
    intro i used ch left w hi h
    obtain rfl : i = n := by omega
    rw [show ws0.drop i = [] from List.drop_eq_nil_of_le (by rw [← HN.out]; exact Nat.le_refl _)]
    exact c_uniEnd A c i m bud X B used ch left w hn h.chl m h.at_
  | succ r ih =>
    intro i used ch left w hi h
    have IH := hide ih
    clear ih
    have hlt : i < n := by omega
    have hltx : i < ws0.length := HN.out ▸ hlt
    obtain ⟨R, hR⟩ : ∃ R, R = putU m (ws0.drop i) used ch left := ⟨_, rfl⟩
    rw [← hR]
    rw [List.drop_eq_getElem_cons hltx, putU] at hR
    obtain ⟨hwd1, hwd2⟩ := HW0.out _ (List.getElem_mem hltx)
    obtain ⟨hXB, hBw, hleft, hchl, husl, husb, hA, hAo, hat⟩ := h
    have HUSB := hide husb
    clear husb
    obtain ⟨Ac, cc, Au, cu, hX, hC, hU, hAp⟩ := id hat
    have HAT := hide hat
    clear hat
    obtain ⟨ab, aoff, rfl, hab, k0⟩ := int_rd hA (show ws0[i]? = some ws0[i] from List.getElem?_eq_getElem _)
    have HKA := hide (show ∀ V : World, Fr B X w V → V.cell? ⟨ab, aoff + i, none⟩ = some (.int .i64 ws0[i]) from fun V hV => by
      obtain ⟨ab', aoff', e, _, k0⟩ := int_rd (hA.fr hAo hV) (show ws0[i]? = some ws0[i] from List.getElem?_eq_getElem _)
      injection e with e
      injection e with e1 e2
      subst e1 e2
      exact k0)
    have HRA := hide (fun (V : World) (hV : Fr B X w V) => hA.fr hAo hV)
    obtain ⟨wd, hwd⟩ : ∃ wd, wd = ws0[i] := ⟨_, rfl⟩
    rw [← hwd] at k0 hwd1 hwd2 hR HKA
    have hnx : ab ≠ X := (hAo ab aoff rfl).2
    clear hwd hA
    obtain ⟨K, hK⟩ : ∃ K, K = min m (used.length + 1) := ⟨_, rfl⟩
    rw [← hK] at hR
    obtain ⟨ql, hql⟩ : ∃ ql, ql = used.length := ⟨_, rfl⟩
    rw [← hql] at husl hK
    have HQL := hide hql
    have hlb := hX.lt
    have d0 := hX.cell 0
    have d2 := hX.cell 2
    simp [uniC] at d0 d2
    rw [hchl] at d2
    have HR := hide hR
    have HCL := hide hchl
    clear hX hC hU hAp hql hR hchl
    have hin : ((i : Int) == (n : Int)) = false := by simp; omega
    go_enter Try.func66, Try.ntmps66
    go_wp2_with fail
    go_loopw [4] (fun uv wr => ∃ (u left' : Nat) (full : Bool), uv = .int .i64 u ∧ u ≤ K ∧ left' ≤ left ∧ Hid (Fr B X w wr) ∧ Hid (UniAt X B (.slice (some ⟨ab, aoff, none⟩) n c) m bud ch ⟨used, left', full⟩ wr) ∧ Hid (full = false → R = tryU (fun used' ch' left' => putU m (ws0.drop (i + 1)) used' ch' left') wd used ch (K - u) u left') ∧ Hid (full = true → left' = 0 ∧ R = .full)) (fun uv _ => K - (intOf uv).toNat)
    case atStart => exact ⟨0, left, false, rfl, Nat.zero_le _, Nat.le_refl _, hide (Fr.refl _ _ _), HAT, hide (fun _ => HR.out), hide (fun e => by cases e)⟩
    case round =>
      clear HAT d0 d2 k0 HR hlb
      obtain ⟨u, left', full, rfl, huK, hll, HF, HUAT, HF0, HF1⟩ := hrel
      obtain ⟨Ac, cc, Au, cu, hX, hC, hU, hAp⟩ := id HUAT.out
      have HX := hide hX
      have HC := hide hC
      have HU := hide hU
      have HAp := hide hAp
      have hlb := hX.lt
      have d0 := hX.cell 0
      have d1 := hX.cell 1
      have d3 := hX.cell 3
      have d4 := hX.cell 4
      have d5 := hX.cell 5
      have d6 := hX.cell 6
      simp only [uniC] at d0 d1 d3 d4 d5 d6
      simp at d0 d1 d3 d4 d5 d6
      rw [← HQL.out] at d3
      have f4 := hX.frozen 4
      have f6 := hX.frozen 6
      have k0 := HKA.out _ HF.out
      have hab := World.block_lt_of_cell? wr _ k0
      simp only at hab
      clear hX hC hU hAp
      by_cases hltK : u < K
      · have hum : (u : Int) < (m : Int) := by omega
        have huq : (u : Int) ≤ (ql : Int) := by omega
        by_cases hfr : u = ql
        · -- a new universe
          have hfrb : ((u : Int) == (ql : Int)) = true := by simp only [beq_iff_eq]; omega
          have HBIG := hide (show tooBig used u wd = false by simp only [tooBig, Bool.and_eq_false_iff, decide_eq_false_iff_not]; exact .inl (by have := HQL.out; omega))
          have HFR := hide hfr
          clear hfr
          by_cases hz : left' = 0
          · have HRF := hide (show R = .full by
              cases full
              · rw [HF0.out rfl, show K - u = K - (u + 1) + 1 by omega, hz, tryU_full HBIG.out]
              · exact (HF1.out rfl).2)
            subst hz
            rw [show (((0 : Nat) : Int)) = 0 from rfl] at *
            simp only [Int.sub_zero] at d4
            go_wp2_with fail
            refine wp_region_x (by kernel_rfl) (by kernel_rfl) ?_
            repeat (go_big_quiet_step (fail))
            refine wpQuiet_nil ?_
            rintro _ ⟨q1, rfl⟩
            go_wp2_with fail
            refine wp_region_x (by kernel_rfl) (by kernel_rfl) ?_
            repeat (go_big_quiet_step (fail))
            refine wpQuiet_nil ?_
            rintro _ ⟨q2, rfl⟩
            go_upto_region 11 with fail
            have HX6 := hide (((HX.out.x (w' := xt wr q1) ⟨q1, rfl⟩).x (w' := xt (xt wr q1) q2) ⟨q2, rfl⟩).set_ 6 (.bool true))
            have HC6 := hide (own_set_other (own_x' (own_x' HC.out (w1 := xt wr q1) ⟨q1, rfl⟩) (w1 := xt (xt wr q1) q2) ⟨q2, rfl⟩) 6 (.bool true) hXB)
            have HU6 := hide (own_set_other (own_x' (own_x' HU.out (w1 := xt wr q1) ⟨q1, rfl⟩) (w1 := xt (xt wr q1) q2) ⟨q2, rfl⟩) 6 (.bool true) hXB)
            have HF6 : Hid (Fr B X w _) := hide (((HF.out.x (w2 := xt wr q1) ⟨q1, rfl⟩ hBw).x (w2 := xt (xt wr q1) q2) ⟨q2, rfl⟩ hBw).set ⟨X, 6, none⟩ (.bool true) (.inl rfl))
            generalize World.setCell _ ⟨X, 6, none⟩ (.bool true) = w6 at HX6 HC6 HU6 HF6 ⊢
            have d6 := HX6.out.cell 6
            simp [uniC] at d6
            have hlb6 := HX6.out.lt
            go_wp2_with fail
            go_ret
            refine ⟨false, rfl, HF6.out, ?_⟩
            rw [HRF.out]
            refine ⟨rfl, Ac, cc, _, cu, ?_, HC6.out, HU6.out, HAp.out⟩
            have := HX6.out
            simpa [uniC] using this
          · obtain rfl : full = false := by
              cases full
              · rfl
              · exact absurd (HF1.out rfl).1 hz
            have hnb : ((bud - (left' : Int)) == bud) = false := by simp only [beq_eq_false_iff_ne, ne_eq]; omega
            have HZ := hide hz
            have HRT := hide (show R = tryU (fun used' ch' left' => putU m (ws0.drop (i + 1)) used' ch' left') wd used ch (K - (u + 1) + 1) u left' by rw [HF0.out rfl, show K - u = K - (u + 1) + 1 by omega])
            clear hz HF0 HF1
            go_wp2_with fail
            refine wp_region_x (by kernel_rfl) (by kernel_rfl) ?_
            repeat (go_big_quiet_step (fail))
            refine wpQuiet_nil ?_
            rintro _ ⟨q1, rfl⟩
            go_wp2_with fail
            refine wp_region_x (by kernel_rfl) (by kernel_rfl) ?_
            repeat (go_big_quiet_step (fail))
            refine wpQuiet_nil ?_
            rintro _ ⟨q2, rfl⟩
            have hwb : IntKind.i64.wrap (bud - (left' : Int) + 1) = bud - (left' : Int) + 1 := IntWalk.i64_in _ (by omega)
            have HXq := hide ((HX.out.x (w' := xt wr q1) ⟨q1, rfl⟩).x (w' := xt (xt wr q1) q2) ⟨q2, rfl⟩)
            have HCq := hide (own_x' (own_x' HC.out (w1 := xt wr q1) ⟨q1, rfl⟩) (w1 := xt (xt wr q1) q2) ⟨q2, rfl⟩)
            have HUq := hide (own_x' (own_x' HU.out (w1 := xt wr q1) ⟨q1, rfl⟩) (w1 := xt (xt wr q1) q2) ⟨q2, rfl⟩)
            have HFq := hide ((HF.out.x (w2 := xt wr q1) ⟨q1, rfl⟩ hBw).x (w2 := xt (xt wr q1) q2) ⟨q2, rfl⟩ hBw)
            generalize hwq : xt (xt wr q1) q2 = wq at HXq HCq HUq HFq ⊢
            have hlbq := HXq.out.lt
            have d4 := HXq.out.cell 4
            have d6 := HXq.out.cell 6
            simp only [uniC] at d4 d6
            simp at d4 d6
            have f4 := HXq.out.frozen 4
            clear hwq d0 d1 d3 d5 f6 k0 hlb hab HX HC HU HF HUAT
            go_upto_region 14 with fail
            clear hwb hnb d4 d6 f4 hlbq
            have HXx := hide (HXq.out.set_ 4 (.int .i64 (bud - (left' : Int) + 1)))
            have HCx := hide (own_set_other HCq.out 4 (.int .i64 (bud - (left' : Int) + 1)) hXB)
            have HUx := hide (own_set_other HUq.out 4 (.int .i64 (bud - (left' : Int) + 1)) hXB)
            have HFx := hide (HFq.out.set ⟨X, 4, none⟩ (.int .i64 (bud - (left' : Int) + 1)) (.inl rfl))
            have HLE := hide (show bud - (left' : Int) + 1 = bud - ((left' - 1 : Nat) : Int) by have := HZ.out; omega)
            rw [HLE.out] at HXx HCx HUx HFx ⊢
            generalize World.setCell _ ⟨X, 4, none⟩ (.int .i64 (bud - ((left' - 1 : Nat) : Int))) = wx at HXx HCx HUx HFx ⊢
            have HXx : Hid (Blk wx X 99 (uniC (.slice (some ⟨ab, aoff, none⟩) n c) m bud (.slice Ac ch.length cc) (.slice Au used.length cu) ⟨used, left' - 1, false⟩)) := hide (by simpa [uniC] using HXx.out)
            clear HXq HCq HUq HFq
            have HII := hide (info_parts Int64_info)
            have d3 := HXx.out.cell 3
            simp [uniC] at d3
            rw [← HQL.out] at d3
            have f3 := HXx.out.frozen 3
            have hlbx := HXx.out.lt
            have HNE := hide (fun j (hj : (Value.slice Au ql cu).ownBlock = some j) => HUx.out.lt j (by rw [← HQL.out]; exact hj))
            go_wp2_with (at_builtin; obtain ⟨i0, hi0, hz0, hz1, hz2⟩ := HII.out; refine wpList_append_any _ rfl (.tmp 90) (.tmp 91) _ rfl B 2 i0 _ 1 8 Try.underlying22 hi0 hz0 hz1 hz2 rfl (by omega) (.slice Au ql cu) ql (used.flatMap intC) rfl (HQL.out ▸ HUx.out.alloc _) _ (some ⟨wx.heap.size, 0, none⟩) 1 1 [.int .i64 0] rfl (one_readsZ wx 2 0) (one_oneZ 0) (by simp only [maxLen]; omega) (by omega) (by have := HFx.out.size; simp; omega) ?_; clear hi0 hz0 hz1 hz2; intro v1 w3 hown1 hg1 hat1; obtain ⟨A1, c1, rfl⟩ := own_form hown1; have HU3 := hide hown1; have HG3 := hide hg1; have HAT1 := hide hat1; have HX3 := hide (blk_app HXx.out hg1 (fun j hj => by have := (HNE.out j hj).1; omega)); clear hown1 hg1 hat1 d3 f3; have d3 := HX3.out.cell 3; simp [uniC] at d3; have f3 := HX3.out.frozen 3; have hlb3 := HX3.out.lt)
            have HF4 : Hid (Fr B X w (w3.setCell ⟨X, 3, none⟩ (.slice A1 (ql + 1) c1))) := hide (((HFx.out.x ((IsX.refl wx).alloc _) hBw).gr HG3.out hBw (fun k hk => .inl (HNE.out k hk).1)).set _ _ (.inl rfl))
            have HX4 := hide (HX3.out.set_ 3 (.slice A1 (ql + 1) c1))
            have HU4 := hide (own_set_other HU3.out 3 (.slice A1 (ql + 1) c1) hXB)
            have HC4 := hide (own_set_other (own_app_other HCx.out (HQL.out ▸ apart_sym HAp.out) HG3.out) 3 (.slice A1 (ql + 1) c1) hXB)
            have HAP4 := hide (apart_sym (apart_app (HQL.out ▸ apart_sym HAp.out) (HCx.out.alloc _) HAT1.out))
            generalize w3.setCell ⟨X, 3, none⟩ (.slice A1 (ql + 1) c1) = w4 at HF4 HX4 HU4 HC4 HAP4 ⊢
            clear d3 f3 hlbx hlb3 HX3 HU3 HG3 HAT1 HNE HXx HCx HUx HFx
            obtain ⟨gu, rfl, hgu, hgu'⟩ := own_some HU4.out (by omega)
            have HX4 : Hid (Blk w4 X 99 (uniC (.slice (some ⟨ab, aoff, none⟩) n c) m bud (.slice Ac ch.length cc) (.slice (some ⟨gu, 0, none⟩) (ql + 1) c1) ⟨used, left' - 1, false⟩)) := hide (by simpa [uniC] using HX4.out)
            have hfr := HFR.out
            obtain ⟨U, hU⟩ : ∃ U, U = used ++ [(0 : Int)] := ⟨_, rfl⟩
            have HU4 : Hid (w4.ownsRow B 2 1 (.slice (some ⟨gu, 0, none⟩) (ql + 1) c1) (ql + 1) (U.flatMap intC)) := hide (by rw [hU, flat_snoc]; exact HU4.out)
            obtain ⟨lu, hlu⟩ : ∃ lu, lu = ql + 1 := ⟨_, rfl⟩
            have hul : U.length = lu := by rw [hU, hlu, HQL.out]; simp
            have huU : u < U.length := by omega
            obtain ⟨y, hy⟩ : ∃ y : Int, y = 0 := ⟨_, rfl⟩
            have HYU := hide (show U[u] = y by simp only [hU, hy]; rw [List.getElem_append_right (by rw [← HQL.out]; omega)]; simp)
            have HBU := hide (show bump used u wd = U.set u (y + wd) by rw [bump_new (by rw [← HQL.out]; exact hfr), hU, hfr, HQL.out, hy]; simp)
            have hqu1 : 0 ≤ y := by omega
            have hqu2 : y ≤ 512 := by omega
            have HUE := hide hU
            have HLU := hide hlu
            rw [← hlu] at HX4 HU4 HAP4
            obtain ⟨cw, hcw⟩ : ∃ cw, cw = c1 := ⟨_, rfl⟩
            rw [← hcw] at HX4 HU4 HAP4
            have hulu : (u : Int) < (lu : Int) := by omega
            clear hU hy hlu hcw hfr
            clear HAp
            rw [HCL.out] at HX4 HC4 HAP4
            obtain ⟨BU, hBU⟩ : ∃ BU, BU = bump used u wd := ⟨_, rfl⟩
            rw [← hBU] at HBU
            have hBl : BU.length = lu := by rw [HBU.out]; simp [hul]
            have hBu : u < BU.length := by omega
            have HBY := hide (show BU[u] = y + wd by simp only [HBU.out]; exact List.getElem_set_self _)
            have HBK := hide (show BU.set u y = U by rw [HBU.out]; exact set_back huU HYU.out)
            have HBB := hide (show ∀ x ∈ BU, 1 ≤ x ∧ x ≤ 512 by rw [hBU]; exact bump_bd HUSB.out hwd1 (by omega) HBIG.out)
            have HBE := hide hBU
            clear hBU
            -- the number is added
            have d0 := HX4.out.cell 0
            have d3 := HX4.out.cell 3
            simp [uniC] at d0 d3
            have k0 := HKA.out _ HF4.out
            have hab := World.block_lt_of_cell? w4 _ k0
            simp only at hab
            have q0 := own_int_at HU4.out huU
            rw [HYU.out] at q0
            have fq : w4.frozen? ⟨gu, u, none⟩ = false := own_frozen HU4.out
            have hlb4 := HX4.out.lt
            have hgul := World.block_lt_of_cell? w4 _ q0
            simp only at hgul
            have hwr : IntKind.i64.wrap (y + wd) = y + wd := IntWalk.i64_in _ (by omega)
            have hXg : X ≠ gu := by omega
            go_still_tail 16, (by kernel_rfl)
            change wpList _ _ _ _ _ w4.drew
            go_upto_region 17 with fail
            clear hwr d0 d3 k0 q0 fq hab hlb4 hgul
            have HX5 := hide ((HX4.out.far (p := ⟨gu, u, none⟩) hXg (.int .i64 (y + wd))).x (IsX.drew (IsX.refl _)))
            have HU5 := hide (own_x' (own_set HU4.out (j := u) (by rw [flat_len1]; exact huU) (.int .i64 (y + wd))) (IsX.drew (IsX.refl _)))
            rw [← flat_set, ← HBU.out] at HU5
            have HC5 := hide (own_x' (own_beside HC4.out HAP4.out u (.int .i64 (y + wd))) (IsX.drew (IsX.refl _)))
            have HF5 : Hid (Fr B X w _) := hide ((HF4.out.set ⟨gu, u, none⟩ (.int .i64 (y + wd)) (.inr hgu)).x (IsX.drew (IsX.refl _)) hBw)
            generalize World.drew (World.setCell w4 ⟨gu, u, none⟩ (.int .i64 (y + wd))) = w5 at HX5 HU5 HC5 HF5 ⊢
            clear HX4 HU4 HC4 HF4
            -- the universe is chosen
            have HII := hide (info_parts Int64_info)
            have d2 := HX5.out.cell 2
            simp [uniC] at d2
            have f2 := HX5.out.frozen 2
            have hlb5 := HX5.out.lt
            have hwu : IntKind.i64.wrap ((u : Int) + 1) = (u : Int) + 1 := IntWalk.i64_in _ (by omega)
            have HNE := hide (fun j (hj : (Value.slice Ac i cc).ownBlock = some j) => HC5.out.lt j hj)
            go_wp2_with (at_builtin; obtain ⟨i0, hi0, hz0, hz1, hz2⟩ := HII.out; refine wpList_append_any _ rfl (.tmp 115) (.tmp 118) _ rfl B 2 i0 _ 1 8 Try.underlying22 hi0 hz0 hz1 hz2 rfl (by omega) (.slice Ac i cc) i (ch.flatMap intC) rfl (HC5.out.alloc _) _ (some ⟨w5.heap.size, 0, none⟩) 1 1 [.int .i64 ((u : Int) + 1)] rfl (one_readsZ w5 2 _) (one_oneZ _) (by simp only [maxLen]; omega) (by omega) (by have := HF5.out.size; simp; omega) ?_; clear hi0 hz0 hz1 hz2; intro v1 w6 hown1 hg1 hat1; obtain ⟨A6, c6, rfl⟩ := own_form hown1; have HC6 := hide hown1; have HG6 := hide hg1; have HAT6 := hide hat1; have HX6 := hide (blk_app HX5.out hg1 (fun j hj => by have := (HNE.out j hj).1; omega)); clear hown1 hg1 hat1 d2 f2; have d2 := HX6.out.cell 2; simp [uniC] at d2; have f2 := HX6.out.frozen 2; have hlb6 := HX6.out.lt)
            have HF7 : Hid (Fr B X w (w6.setCell ⟨X, 2, none⟩ (.slice A6 (i + 1) c6))) := hide (((HF5.out.x ((IsX.refl w5).alloc _) hBw).gr HG6.out hBw (fun k hk => .inl (HNE.out k hk).1)).set _ _ (.inl rfl))
            have HX7 := hide (HX6.out.set_ 2 (.slice A6 (i + 1) c6))
            have HC7 := hide (own_set_other HC6.out 2 (.slice A6 (i + 1) c6) hXB)
            have HU7 := hide (own_set_other (own_app_other HU5.out HAP4.out HG6.out) 2 (.slice A6 (i + 1) c6) hXB)
            have HAP7 := hide (apart_app HAP4.out (HU5.out.alloc _) HAT6.out)
            generalize w6.setCell ⟨X, 2, none⟩ (.slice A6 (i + 1) c6) = w7 at HF7 HX7 HC7 HU7 ⊢
            clear d2 f2 hlb5 hlb6 hwu HX6 HC6 HG6 HAT6 HNE HX5 HU5 HC5 HF5
            have HIN : Hid (UniIn ws0 (some ⟨ab, aoff, none⟩) c n m bud X B (i + 1) BU (ch ++ [((u + 1 : Nat) : Int)]) (left' - 1) w7) := hide {
              XB := hXB
              Bw := Nat.le_trans hBw HF7.out.size
              lft := by omega
              chl := by rw [intC_snoc HCL.out]
              usl := by have h1 := HLU.out; omega
              usb := HBB.out
              rdA := HRA.out _ HF7.out
              Ao := hAo
              at_ := by
                refine ⟨A6, c6, some ⟨gu, 0, none⟩, cw, ?_, ?_, ?_, ?_⟩
                · rw [intC_snoc HCL.out]; simp only [hBl]; have := HX7.out; simpa [uniC] using this
                · rw [intC_snoc HCL.out, flat_snoc]; exact HC7.out
                · simp only [hBl]; exact HU7.out
                · rw [intC_snoc HCL.out]; simp only [hBl]; exact HAP7.out }
            refine (IH.out (i + 1) BU (ch ++ [((u + 1 : Nat) : Int)]) (left' - 1) w7 (by omega) HIN.out).mono ?_
            rintro e w8 ⟨b8, rfl, hfr8, hres8⟩
            have HF8 := hide (HF7.out.trans hfr8)
            clear HX7 HC7 HU7 HAP7 HF7 HAP4 HIN hfr8
            rcases hres8.cases with ⟨c8, hrc, rfl, u8, l8, hat8⟩ | ⟨l8, fl, rfl, hat8, hn8, hf8⟩
            · have HRR := hide (show R = .found c8 by rw [HRT.out]; exact tryU_found HBIG.out HZ.out (by rw [← HBE.out]; exact hrc))
              have HAT8 := hide hat8
              clear hat8 hres8 hrc
              go_wp2_with fail
              go_ret
              exact ⟨true, rfl, HF8.out, by rw [HRR.out]; exact ⟨rfl, _, _, HAT8.out⟩⟩
            · have HN8 := hide (show fl = false → R = tryU (fun used' ch' left' => putU m (ws0.drop (i + 1)) used' ch' left') wd used ch (K - (u + 1)) (u + 1) l8 from fun e => by rw [HRT.out]; exact tryU_none HBIG.out HZ.out (by rw [← HBE.out]; exact hn8 e))
              have HFF8 := hide (show fl = true → l8 = 0 ∧ R = .full from fun e => ⟨(hf8 e).1, by rw [HRT.out]; exact tryU_rec_full HBIG.out HZ.out (by rw [← HBE.out]; exact (hf8 e).2)⟩)
              have hl8 : l8 ≤ left := by
                cases fl
                · have := putU_left m _ _ _ _ _ (hn8 rfl); omega
                · have := (hf8 rfl).1; omega
              obtain ⟨A8, c8, Au8, cu8, hX8, hC8, hU8, hAp8⟩ := hat8
              clear hres8 hn8 hf8 HRT
              rw [intC_snoc HCL.out] at hX8 hC8 hAp8
              rw [flat_snoc] at hC8
              simp only [hBl] at hX8 hU8 hAp8
              have hcap : i + 1 ≤ c8 := own_cap hC8
              obtain ⟨g8, rfl, hg8, hg8'⟩ := own_some hC8 (by omega)
              obtain ⟨gu8, rfl, hgu8, hgu8'⟩ := own_some hU8 (by omega)
              have hcap' : (i : Int) ≤ (c8 : Int) := by omega
              have hi0 : (0 : Int) ≤ (i : Int) := by omega
              have HX8 := hide hX8
              have HC8 := hide hC8
              have HU8 := hide hU8
              have HAP8 := hide hAp8
              have d2 := hX8.cell 2
              simp [uniC] at d2
              have f2 := hX8.frozen 2
              have hlb8 := hX8.lt
              clear hX8 hC8 hU8 hAp8
              go_upto_region 21 with fail
              clear d2 f2 hlb8
              have HX9 := hide (HX8.out.set_ 2 (.slice (some ⟨g8, 0, none⟩) i c8))
              have HC9 := hide (own_set_other (own_pop HC8.out) 2 (.slice (some ⟨g8, 0, none⟩) i c8) hXB)
              have HU9 := hide (own_set_other HU8.out 2 (.slice (some ⟨g8, 0, none⟩) i c8) hXB)
              have HF9 : Hid (Fr B X w _) := hide (HF8.out.set ⟨X, 2, none⟩ (.slice (some ⟨g8, 0, none⟩) i c8) (.inl rfl))
              have HAP9 : Hid (Apart (.slice (some ⟨g8, 0, none⟩) i c8) (.slice (some ⟨gu8, 0, none⟩) lu cu8)) := HAP8
              generalize World.setCell _ ⟨X, 2, none⟩ (.slice (some ⟨g8, 0, none⟩) i c8) = w9 at HX9 HC9 HU9 HF9 ⊢
              clear HX8 HC8 HU8 HF8 HAP8
              -- the number is taken away again
              have d0 := HX9.out.cell 0
              have d3 := HX9.out.cell 3
              simp [uniC] at d0 d3
              have k0 := HKA.out _ HF9.out
              have hab := World.block_lt_of_cell? w9 _ k0
              simp only at hab
              have q0 := own_int_at HU9.out hBu
              rw [HBY.out] at q0
              have fq : w9.frozen? ⟨gu8, u, none⟩ = false := own_frozen HU9.out
              have hlb9 := HX9.out.lt
              have hgul := World.block_lt_of_cell? w9 _ q0
              simp only at hgul
              have hwr : IntKind.i64.wrap (y + wd - wd) = y + wd - wd := IntWalk.i64_in _ (by omega)
              have hXg8 : X ≠ gu8 := by omega
              go_still_tail 16, (by kernel_rfl)
              change wpList _ _ _ _ _ w9.drew
              go_upto_region 22 with fail
              clear hwr d0 d3 k0 q0 fq hab hlb9 hgul
              have HX10 := hide ((HX9.out.far (p := ⟨gu8, u, none⟩) hXg8 (.int .i64 (y + wd - wd))).x (IsX.drew (IsX.refl _)))
              have HU10 := hide (own_x' (own_set HU9.out (j := u) (by rw [flat_len1]; exact hBu) (.int .i64 (y + wd - wd))) (IsX.drew (IsX.refl _)))
              rw [← flat_set, show y + wd - wd = y by omega, HBK.out] at HU10
              have HC10 := hide (own_x' (own_beside HC9.out HAP9.out u (.int .i64 (y + wd - wd))) (IsX.drew (IsX.refl _)))
              have HF10 : Hid (Fr B X w _) := hide ((HF9.out.set ⟨gu8, u, none⟩ (.int .i64 (y + wd - wd)) (.inr hgu8)).x (IsX.drew (IsX.refl _)) hBw)
              rw [show y + wd - wd = y by omega] at HX10 HC10 HF10
              generalize World.drew (World.setCell w9 ⟨gu8, u, none⟩ (.int .i64 y)) = w10 at HX10 HU10 HC10 HF10 ⊢
              clear HX9 HC9 HU9 HF9
              rw [HUE.out, HLU.out, flat_snoc] at HU10
              have hfr := HFR.out
              have hcapu : ql + 1 ≤ cu8 := own_cap HU10.out
              have hcapu' : (u : Int) ≤ (cu8 : Int) := by omega
              have d3 := HX10.out.cell 3
              simp [uniC] at d3
              have f3 := HX10.out.frozen 3
              have hlb10 := HX10.out.lt
              clear hfr
              go_wp2_with fail
              have hfr := HFR.out
              clear d3 f3 hlb10
              have HU11 := hide (own_set_other (own_pop HU10.out) 3 (.slice (some ⟨gu8, 0, none⟩) u cu8) hXB)
              rw [← hfr] at HU11
              go_roundw
              case rel => exact ⟨u + 1, l8, fl, by go_num, by omega, hl8, hide (HF10.out.set _ _ (.inl rfl)), hide ⟨some ⟨g8, 0, none⟩, c8, some ⟨gu8, 0, none⟩, cu8, by rw [HCL.out, ← HQL.out, ← hfr]; have := HX10.out.set_ 3 (.slice (some ⟨gu8, 0, none⟩) u cu8); simpa [uniC] using this, by rw [HCL.out]; exact own_set_other HC10.out 3 _ hXB, by simp only [← HQL.out]; rw [← hfr]; exact HU11.out, by rw [HCL.out]; simp only [← HQL.out]; exact HAP9.out⟩, HN8, HFF8⟩
              case measure => simp [intOf]; omega

        · have hfrb : ((u : Int) == (ql : Int)) = false := by simp only [beq_eq_false_iff_ne, ne_eq]; omega
          have hux : u < used.length := by have := HQL.out; omega
          obtain ⟨gu, rfl, hgu, hgu'⟩ := own_some HU.out (by rw [← HQL.out]; omega)
          have q0 := own_int_at HU.out hux
          have hqu := HUSB.out _ (List.getElem_mem hux)
          obtain ⟨hqu1, hqu2⟩ := hqu
          have HQU := hide (show used.getD u 0 = used[u] by rw [List.getD_eq_getElem?_getD, List.getElem?_eq_getElem hux]; rfl)
          obtain ⟨y, hy⟩ : ∃ y, y = used[u] := ⟨_, rfl⟩
          rw [← hy] at q0 hqu1 hqu2 HQU
          have HY := hide hy
          clear hy
          have hwr : IntKind.i64.wrap (y + wd) = y + wd := IntWalk.i64_in _ (by omega)
          have huq' : (u : Int) < (ql : Int) := by omega
          by_cases hbig : 512 < y + wd
          · have HBIG := hide (show tooBig used u wd = true by simp [tooBig, hux]; rw [← HY.out]; exact hbig)
            go_wp2_with fail
            refine wp_region_x (by kernel_rfl) (by kernel_rfl) ?_
            repeat (go_big_quiet_step (fail))
            refine wpQuiet_nil ?_
            rintro _ ⟨q, rfl⟩
            go_wp2_with fail
            go_roundw
            case rel => exact ⟨u + 1, left', full, by go_num, by omega, hll, hide (HF.out.x ⟨q, rfl⟩ hBw), hide (HUAT.out.x ⟨q, rfl⟩), hide (fun e => by rw [HF0.out e, show K - u = K - (u + 1) + 1 by omega, tryU_big HBIG.out]), HF1⟩
            case measure => simp [intOf]; omega
          · have HBIG := hide (show tooBig used u wd = false by simp [tooBig]; intro _; simp [hux]; rw [← HY.out]; omega)
            by_cases hz : left' = 0
            · have HRF := hide (show R = .full by
                cases full
                · rw [HF0.out rfl, show K - u = K - (u + 1) + 1 by omega, hz, tryU_full HBIG.out]
                · exact (HF1.out rfl).2)
              subst hz
              rw [show (((0 : Nat) : Int)) = 0 from rfl] at *
              simp only [Int.sub_zero] at d4
              go_wp2_with fail
              refine wp_region_x (by kernel_rfl) (by kernel_rfl) ?_
              repeat (go_big_quiet_step (fail))
              refine wpQuiet_nil ?_
              rintro _ ⟨q1, rfl⟩
              go_wp2_with fail
              refine wp_region_x (by kernel_rfl) (by kernel_rfl) ?_
              repeat (go_big_quiet_step (fail))
              refine wpQuiet_nil ?_
              rintro _ ⟨q2, rfl⟩
              go_upto_region 11 with fail
              have HX6 := hide (((HX.out.x (w' := xt wr q1) ⟨q1, rfl⟩).x (w' := xt (xt wr q1) q2) ⟨q2, rfl⟩).set_ 6 (.bool true))
              have HC6 := hide (own_set_other (own_x' (own_x' HC.out (w1 := xt wr q1) ⟨q1, rfl⟩) (w1 := xt (xt wr q1) q2) ⟨q2, rfl⟩) 6 (.bool true) hXB)
              have HU6 := hide (own_set_other (own_x' (own_x' HU.out (w1 := xt wr q1) ⟨q1, rfl⟩) (w1 := xt (xt wr q1) q2) ⟨q2, rfl⟩) 6 (.bool true) hXB)
              have HF6 : Hid (Fr B X w _) := hide (((HF.out.x (w2 := xt wr q1) ⟨q1, rfl⟩ hBw).x (w2 := xt (xt wr q1) q2) ⟨q2, rfl⟩ hBw).set ⟨X, 6, none⟩ (.bool true) (.inl rfl))
              generalize World.setCell _ ⟨X, 6, none⟩ (.bool true) = w6 at HX6 HC6 HU6 HF6 ⊢
              have d6 := HX6.out.cell 6
              simp [uniC] at d6
              have hlb6 := HX6.out.lt
              go_wp2_with fail
              go_ret
              refine ⟨false, rfl, HF6.out, ?_⟩
              rw [HRF.out]
              refine ⟨rfl, Ac, cc, _, cu, ?_, HC6.out, HU6.out, HAp.out⟩
              have := HX6.out
              simpa [uniC] using this
            · obtain rfl : full = false := by
                cases full
                · rfl
                · exact absurd (HF1.out rfl).1 hz
              have hnb : ((bud - (left' : Int)) == bud) = false := by simp only [beq_eq_false_iff_ne, ne_eq]; omega
              have HZ := hide hz
              have HRT := hide (show R = tryU (fun used' ch' left' => putU m (ws0.drop (i + 1)) used' ch' left') wd used ch (K - (u + 1) + 1) u left' by rw [HF0.out rfl, show K - u = K - (u + 1) + 1 by omega])
              clear hz HF0 HF1
              go_wp2_with fail
              refine wp_region_x (by kernel_rfl) (by kernel_rfl) ?_
              repeat (go_big_quiet_step (fail))
              refine wpQuiet_nil ?_
              rintro _ ⟨q1, rfl⟩
              go_wp2_with fail
              refine wp_region_x (by kernel_rfl) (by kernel_rfl) ?_
              repeat (go_big_quiet_step (fail))
              refine wpQuiet_nil ?_
              rintro _ ⟨q2, rfl⟩
              have hwb : IntKind.i64.wrap (bud - (left' : Int) + 1) = bud - (left' : Int) + 1 := IntWalk.i64_in _ (by omega)
              have HXq := hide ((HX.out.x (w' := xt wr q1) ⟨q1, rfl⟩).x (w' := xt (xt wr q1) q2) ⟨q2, rfl⟩)
              have HCq := hide (own_x' (own_x' HC.out (w1 := xt wr q1) ⟨q1, rfl⟩) (w1 := xt (xt wr q1) q2) ⟨q2, rfl⟩)
              have HUq := hide (own_x' (own_x' HU.out (w1 := xt wr q1) ⟨q1, rfl⟩) (w1 := xt (xt wr q1) q2) ⟨q2, rfl⟩)
              have HFq := hide ((HF.out.x (w2 := xt wr q1) ⟨q1, rfl⟩ hBw).x (w2 := xt (xt wr q1) q2) ⟨q2, rfl⟩ hBw)
              generalize hwq : xt (xt wr q1) q2 = wq at HXq HCq HUq HFq ⊢
              have hlbq := HXq.out.lt
              have d4 := HXq.out.cell 4
              have d6 := HXq.out.cell 6
              simp only [uniC] at d4 d6
              simp at d4 d6
              have f4 := HXq.out.frozen 4
              clear hwq d0 d1 d3 d5 f6 k0 q0 hlb hab HX HC HU HF HUAT
              go_upto_region 14 with fail
              clear hwb hnb d4 d6 f4 hlbq
              have HXx := hide (HXq.out.set_ 4 (.int .i64 (bud - (left' : Int) + 1)))
              have HCx := hide (own_set_other HCq.out 4 (.int .i64 (bud - (left' : Int) + 1)) hXB)
              have HUx := hide (own_set_other HUq.out 4 (.int .i64 (bud - (left' : Int) + 1)) hXB)
              have HFx := hide (HFq.out.set ⟨X, 4, none⟩ (.int .i64 (bud - (left' : Int) + 1)) (.inl rfl))
              have HLE := hide (show bud - (left' : Int) + 1 = bud - ((left' - 1 : Nat) : Int) by have := HZ.out; omega)
              rw [HLE.out] at HXx HCx HUx HFx ⊢
              generalize World.setCell _ ⟨X, 4, none⟩ (.int .i64 (bud - ((left' - 1 : Nat) : Int))) = wx at HXx HCx HUx HFx ⊢
              have HXx : Hid (Blk wx X 99 (uniC (.slice (some ⟨ab, aoff, none⟩) n c) m bud (.slice Ac ch.length cc) (.slice (some ⟨gu, 0, none⟩) used.length cu) ⟨used, left' - 1, false⟩)) := hide (by simpa [uniC] using HXx.out)
              clear HXq HCq HUq HFq
              have HF4 := HFx
              have HX4 := HXx
              have HC4 := HCx
              have HAP4 := HAp
              obtain ⟨U, hU⟩ : ∃ U, U = used := ⟨_, rfl⟩
              obtain ⟨lu, hlu⟩ : ∃ lu, lu = ql := ⟨_, rfl⟩
              have HU4 : Hid (wx.ownsRow B 2 1 (.slice (some ⟨gu, 0, none⟩) lu cu) lu (U.flatMap intC)) := hide (by rw [hU, hlu, HQL.out]; exact HUx.out)
              rw [← HQL.out, ← hlu] at HX4 HAP4
              have hul : U.length = lu := by rw [hU, hlu, HQL.out]
              have huU : u < U.length := by rw [hU]; exact hux
              have HYU := hide (show U[u] = y by simp only [hU]; exact HY.out.symm)
              have HBU := hide (show bump used u wd = U.set u (y + wd) by rw [bump_old hux, hU, HY.out])
              have hqu1 : 0 ≤ y := by omega
              have HUE := hide hU
              have HLU := hide hlu
              obtain ⟨cw, hcw⟩ : ∃ cw, cw = cu := ⟨_, rfl⟩
              rw [← hcw] at HX4 HU4 HAP4
              have hulu : (u : Int) < (lu : Int) := by omega
              clear hU hlu hcw HXx HCx HUx HFx huq' hwr
              generalize wx = w4 at HF4 HX4 HC4 HU4 ⊢
              clear HAp
              rw [HCL.out] at HX4 HC4 HAP4
              obtain ⟨BU, hBU⟩ : ∃ BU, BU = bump used u wd := ⟨_, rfl⟩
              rw [← hBU] at HBU
              have hBl : BU.length = lu := by rw [HBU.out]; simp [hul]
              have hBu : u < BU.length := by omega
              have HBY := hide (show BU[u] = y + wd by simp only [HBU.out]; exact List.getElem_set_self _)
              have HBK := hide (show BU.set u y = U by rw [HBU.out]; exact set_back huU HYU.out)
              have HBB := hide (show ∀ x ∈ BU, 1 ≤ x ∧ x ≤ 512 by rw [hBU]; exact bump_bd HUSB.out hwd1 (by omega) HBIG.out)
              have HBE := hide hBU
              clear hBU
              -- the number is added
              have d0 := HX4.out.cell 0
              have d3 := HX4.out.cell 3
              simp [uniC] at d0 d3
              have k0 := HKA.out _ HF4.out
              have hab := World.block_lt_of_cell? w4 _ k0
              simp only at hab
              have q0 := own_int_at HU4.out huU
              rw [HYU.out] at q0
              have fq : w4.frozen? ⟨gu, u, none⟩ = false := own_frozen HU4.out
              have hlb4 := HX4.out.lt
              have hgul := World.block_lt_of_cell? w4 _ q0
              simp only at hgul
              have hwr : IntKind.i64.wrap (y + wd) = y + wd := IntWalk.i64_in _ (by omega)
              have hXg : X ≠ gu := by omega
              go_wp2_with fail
              go_still_tail 16, (by kernel_rfl)
              change wpList _ _ _ _ _ w4.drew
              go_upto_region 17 with fail
              clear hwr d0 d3 k0 q0 fq hab hlb4 hgul
              have HX5 := hide ((HX4.out.far (p := ⟨gu, u, none⟩) hXg (.int .i64 (y + wd))).x (IsX.drew (IsX.refl _)))
              have HU5 := hide (own_x' (own_set HU4.out (j := u) (by rw [flat_len1]; exact huU) (.int .i64 (y + wd))) (IsX.drew (IsX.refl _)))
              rw [← flat_set, ← HBU.out] at HU5
              have HC5 := hide (own_x' (own_beside HC4.out HAP4.out u (.int .i64 (y + wd))) (IsX.drew (IsX.refl _)))
              have HF5 : Hid (Fr B X w _) := hide ((HF4.out.set ⟨gu, u, none⟩ (.int .i64 (y + wd)) (.inr hgu)).x (IsX.drew (IsX.refl _)) hBw)
              generalize World.drew (World.setCell w4 ⟨gu, u, none⟩ (.int .i64 (y + wd))) = w5 at HX5 HU5 HC5 HF5 ⊢
              clear HX4 HU4 HC4 HF4
              -- the universe is chosen
              have HII := hide (info_parts Int64_info)
              have d2 := HX5.out.cell 2
              simp [uniC] at d2
              have f2 := HX5.out.frozen 2
              have hlb5 := HX5.out.lt
              have hwu : IntKind.i64.wrap ((u : Int) + 1) = (u : Int) + 1 := IntWalk.i64_in _ (by omega)
              have HNE := hide (fun j (hj : (Value.slice Ac i cc).ownBlock = some j) => HC5.out.lt j hj)
              go_wp2_with (at_builtin; obtain ⟨i0, hi0, hz0, hz1, hz2⟩ := HII.out; refine wpList_append_any _ rfl (.tmp 115) (.tmp 118) _ rfl B 2 i0 _ 1 8 Try.underlying22 hi0 hz0 hz1 hz2 rfl (by omega) (.slice Ac i cc) i (ch.flatMap intC) rfl (HC5.out.alloc _) _ (some ⟨w5.heap.size, 0, none⟩) 1 1 [.int .i64 ((u : Int) + 1)] rfl (one_readsZ w5 2 _) (one_oneZ _) (by simp only [maxLen]; omega) (by omega) (by have := HF5.out.size; simp; omega) ?_; clear hi0 hz0 hz1 hz2; intro v1 w6 hown1 hg1 hat1; obtain ⟨A6, c6, rfl⟩ := own_form hown1; have HC6 := hide hown1; have HG6 := hide hg1; have HAT6 := hide hat1; have HX6 := hide (blk_app HX5.out hg1 (fun j hj => by have := (HNE.out j hj).1; omega)); clear hown1 hg1 hat1 d2 f2; have d2 := HX6.out.cell 2; simp [uniC] at d2; have f2 := HX6.out.frozen 2; have hlb6 := HX6.out.lt)
              have HF7 : Hid (Fr B X w (w6.setCell ⟨X, 2, none⟩ (.slice A6 (i + 1) c6))) := hide (((HF5.out.x ((IsX.refl w5).alloc _) hBw).gr HG6.out hBw (fun k hk => .inl (HNE.out k hk).1)).set _ _ (.inl rfl))
              have HX7 := hide (HX6.out.set_ 2 (.slice A6 (i + 1) c6))
              have HC7 := hide (own_set_other HC6.out 2 (.slice A6 (i + 1) c6) hXB)
              have HU7 := hide (own_set_other (own_app_other HU5.out HAP4.out HG6.out) 2 (.slice A6 (i + 1) c6) hXB)
              have HAP7 := hide (apart_app HAP4.out (HU5.out.alloc _) HAT6.out)
              generalize w6.setCell ⟨X, 2, none⟩ (.slice A6 (i + 1) c6) = w7 at HF7 HX7 HC7 HU7 ⊢
              clear d2 f2 hlb5 hlb6 hwu HX6 HC6 HG6 HAT6 HNE HX5 HU5 HC5 HF5
              have HIN : Hid (UniIn ws0 (some ⟨ab, aoff, none⟩) c n m bud X B (i + 1) BU (ch ++ [((u + 1 : Nat) : Int)]) (left' - 1) w7) := hide {
                XB := hXB
                Bw := Nat.le_trans hBw HF7.out.size
                lft := by omega
                chl := by rw [intC_snoc HCL.out]
                usl := by have h1 := HLU.out; omega
                usb := HBB.out
                rdA := HRA.out _ HF7.out
                Ao := hAo
                at_ := by
                  refine ⟨A6, c6, some ⟨gu, 0, none⟩, cw, ?_, ?_, ?_, ?_⟩
                  · rw [intC_snoc HCL.out]; simp only [hBl]; have := HX7.out; simpa [uniC] using this
                  · rw [intC_snoc HCL.out, flat_snoc]; exact HC7.out
                  · simp only [hBl]; exact HU7.out
                  · rw [intC_snoc HCL.out]; simp only [hBl]; exact HAP7.out }
              refine (IH.out (i + 1) BU (ch ++ [((u + 1 : Nat) : Int)]) (left' - 1) w7 (by omega) HIN.out).mono ?_
              rintro e w8 ⟨b8, rfl, hfr8, hres8⟩
              have HF8 := hide (HF7.out.trans hfr8)
              clear HX7 HC7 HU7 HAP7 HF7 HAP4 HIN hfr8
              rcases hres8.cases with ⟨c8, hrc, rfl, u8, l8, hat8⟩ | ⟨l8, fl, rfl, hat8, hn8, hf8⟩
              · have HRR := hide (show R = .found c8 by rw [HRT.out]; exact tryU_found HBIG.out HZ.out (by rw [← HBE.out]; exact hrc))
                have HAT8 := hide hat8
                clear hat8 hres8 hrc
                go_wp2_with fail
                go_ret
                exact ⟨true, rfl, HF8.out, by rw [HRR.out]; exact ⟨rfl, _, _, HAT8.out⟩⟩
              · have HN8 := hide (show fl = false → R = tryU (fun used' ch' left' => putU m (ws0.drop (i + 1)) used' ch' left') wd used ch (K - (u + 1)) (u + 1) l8 from fun e => by rw [HRT.out]; exact tryU_none HBIG.out HZ.out (by rw [← HBE.out]; exact hn8 e))
                have HFF8 := hide (show fl = true → l8 = 0 ∧ R = .full from fun e => ⟨(hf8 e).1, by rw [HRT.out]; exact tryU_rec_full HBIG.out HZ.out (by rw [← HBE.out]; exact (hf8 e).2)⟩)
                have hl8 : l8 ≤ left := by
                  cases fl
                  · have := putU_left m _ _ _ _ _ (hn8 rfl); omega
                  · have := (hf8 rfl).1; omega
                obtain ⟨A8, c8, Au8, cu8, hX8, hC8, hU8, hAp8⟩ := hat8
                clear hres8 hn8 hf8 HRT
                rw [intC_snoc HCL.out] at hX8 hC8 hAp8
                rw [flat_snoc] at hC8
                simp only [hBl] at hX8 hU8 hAp8
                have hcap : i + 1 ≤ c8 := own_cap hC8
                obtain ⟨g8, rfl, hg8, hg8'⟩ := own_some hC8 (by omega)
                obtain ⟨gu8, rfl, hgu8, hgu8'⟩ := own_some hU8 (by omega)
                have hcap' : (i : Int) ≤ (c8 : Int) := by omega
                have hi0 : (0 : Int) ≤ (i : Int) := by omega
                have HX8 := hide hX8
                have HC8 := hide hC8
                have HU8 := hide hU8
                have HAP8 := hide hAp8
                have d2 := hX8.cell 2
                simp [uniC] at d2
                have f2 := hX8.frozen 2
                have hlb8 := hX8.lt
                clear hX8 hC8 hU8 hAp8
                go_upto_region 21 with fail
                clear d2 f2 hlb8
                have HX9 := hide (HX8.out.set_ 2 (.slice (some ⟨g8, 0, none⟩) i c8))
                have HC9 := hide (own_set_other (own_pop HC8.out) 2 (.slice (some ⟨g8, 0, none⟩) i c8) hXB)
                have HU9 := hide (own_set_other HU8.out 2 (.slice (some ⟨g8, 0, none⟩) i c8) hXB)
                have HF9 : Hid (Fr B X w _) := hide (HF8.out.set ⟨X, 2, none⟩ (.slice (some ⟨g8, 0, none⟩) i c8) (.inl rfl))
                have HAP9 : Hid (Apart (.slice (some ⟨g8, 0, none⟩) i c8) (.slice (some ⟨gu8, 0, none⟩) lu cu8)) := HAP8
                generalize World.setCell _ ⟨X, 2, none⟩ (.slice (some ⟨g8, 0, none⟩) i c8) = w9 at HX9 HC9 HU9 HF9 ⊢
                clear HX8 HC8 HU8 HF8 HAP8
                -- the number is taken away again
                have d0 := HX9.out.cell 0
                have d3 := HX9.out.cell 3
                simp [uniC] at d0 d3
                have k0 := HKA.out _ HF9.out
                have hab := World.block_lt_of_cell? w9 _ k0
                simp only at hab
                have q0 := own_int_at HU9.out hBu
                rw [HBY.out] at q0
                have fq : w9.frozen? ⟨gu8, u, none⟩ = false := own_frozen HU9.out
                have hlb9 := HX9.out.lt
                have hgul := World.block_lt_of_cell? w9 _ q0
                simp only at hgul
                have hwr : IntKind.i64.wrap (y + wd - wd) = y + wd - wd := IntWalk.i64_in _ (by omega)
                have hXg8 : X ≠ gu8 := by omega
                go_still_tail 16, (by kernel_rfl)
                change wpList _ _ _ _ _ w9.drew
                go_upto_region 22 with fail
                clear hwr d0 d3 k0 q0 fq hab hlb9 hgul
                have HX10 := hide ((HX9.out.far (p := ⟨gu8, u, none⟩) hXg8 (.int .i64 (y + wd - wd))).x (IsX.drew (IsX.refl _)))
                have HU10 := hide (own_x' (own_set HU9.out (j := u) (by rw [flat_len1]; exact hBu) (.int .i64 (y + wd - wd))) (IsX.drew (IsX.refl _)))
                rw [← flat_set, show y + wd - wd = y by omega, HBK.out] at HU10
                have HC10 := hide (own_x' (own_beside HC9.out HAP9.out u (.int .i64 (y + wd - wd))) (IsX.drew (IsX.refl _)))
                have HF10 : Hid (Fr B X w _) := hide ((HF9.out.set ⟨gu8, u, none⟩ (.int .i64 (y + wd - wd)) (.inr hgu8)).x (IsX.drew (IsX.refl _)) hBw)
                rw [show y + wd - wd = y by omega] at HX10 HC10 HF10
                generalize World.drew (World.setCell w9 ⟨gu8, u, none⟩ (.int .i64 y)) = w10 at HX10 HU10 HC10 HF10 ⊢
                clear HX9 HC9 HU9 HF9
                rw [HUE.out] at HU10
                rw [HLU.out, HQL.out] at HU10 HX10 HAP9
                go_wp2_with fail
                go_roundw
                case rel => exact ⟨u + 1, l8, fl, by go_num, by omega, hl8, HF10, hide ⟨some ⟨g8, 0, none⟩, c8, some ⟨gu8, 0, none⟩, cu8, by rw [HCL.out]; have := HX10.out; simpa [uniC] using this, by rw [HCL.out]; exact HC10.out, HU10.out, by rw [HCL.out]; exact HAP9.out⟩, HN8, HFF8⟩
                case measure => simp [intOf]; omega

      · have HRN := hide (show full = false → R = .none left' from fun e => by rw [HF0.out e, show K - u = 0 by omega, tryU_zero])
        have hcl : ¬ ((u : Int) < (m : Int)) ∨ ((u : Int) < (m : Int) ∧ ¬ ((u : Int) ≤ (ql : Int))) := by omega
        rcases hcl with hcl | ⟨hcl1, hcl2⟩
        all_goals
          go_wp2_with fail
          go_ret
          refine ⟨false, rfl, HF.out, ?_⟩
          cases full
          · rw [HRN.out rfl]; exact ⟨rfl, HUAT.out⟩
          · obtain ⟨rfl, h2⟩ := HF1.out rfl
            rw [h2]; exact ⟨rfl, HUAT.out⟩

end Go.Proofs.Ytlbcoplpdnidnaa
