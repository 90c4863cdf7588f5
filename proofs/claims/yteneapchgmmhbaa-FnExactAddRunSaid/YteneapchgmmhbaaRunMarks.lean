/- Marks written into rows of runs of the call's own, and found there. Conditions: lists no longer than 2^20. -/
import Derived.Test.YteneapchgmmhbaaRunOwn
namespace Go.Proofs.Yteneapchgmmhbaa
set_option linter.unusedVariables false
open Go.RowKit

section
variable {w w' : World} {base i g n c : Nat} {v : Value} {es : List RunE} {E : RunE}
theorem RunRow.putD' {u : Value} (h : RunRow w base (.slice (some ⟨g, 0, none⟩) n c) es) (hE : es[i]? = some E) : RunRow (w.setCell ⟨g, i * 3, none⟩ u) base (.slice (some ⟨g, 0, none⟩) n c) (es.set i { E with day := u }) := by
  obtain ⟨hi, rfl⟩ := List.getElem?_eq_some_iff.1 hE
  exact h.putD hi
theorem RunRow.putC' {L : List Value} (h : RunRow w base v es) (hE : es[i]? = some E) (hg : w.grownBy w' E.cv.ownBlock) (ho : w'.ownsRow base 9 1 E.cv E.cn L) : RunRow w' base v (es.set i { E with cl := L }) := by
  obtain ⟨hi, rfl⟩ := List.getElem?_eq_some_iff.1 hE
  exact h.putC hi hg ho
theorem RunRow.putR' {L : List Value} (h : RunRow w base v es) (hE : es[i]? = some E) (hg : w.grownBy w' E.rv.ownBlock) (ho : w'.ownsRow base 47 4 E.rv E.rn L) : RunRow w' base v (es.set i { E with rl := L }) := by
  obtain ⟨hi, rfl⟩ := List.getElem?_eq_some_iff.1 hE
  exact h.putR hi hg ho
theorem RunRow.cells' (h : RunRow w base (.slice (some ⟨g, 0, none⟩) n c) es) (hE : es[i]? = some E) : base ≤ g ∧ g < w.heap.size ∧ w.cell? ⟨g, i * 3, none⟩ = some E.day ∧ w.cell? ⟨g, i * 3 + 1, none⟩ = some E.cv ∧ w.cell? ⟨g, i * 3 + 2, none⟩ = some E.rv ∧ (∀ j, w.frozen? ⟨g, j, none⟩ = false) := by
  obtain ⟨hi, rfl⟩ := List.getElem?_eq_some_iff.1 hE
  obtain ⟨g', e, r⟩ := h.cell i hi
  injection e with e
  injection e with e
  subst e
  exact r
theorem RunRow.form {A : Option Addr} (h : RunRow w base (.slice A n c) es) (hn : 0 < n) : n = es.length ∧ ∃ g, A = some ⟨g, 0, none⟩ := by
  rcases h.row.2 with ⟨hv, h0⟩ | ⟨g, _, _, hv, _⟩
  · injection hv with _ hv; omega
  · injection hv with h1 h2; exact ⟨h2, g, h1⟩
theorem set_at (hE : es[i]? = some E) (F : RunE) : (es.set i F)[i]? = some F := by
  obtain ⟨hi, _⟩ := List.getElem?_eq_some_iff.1 hE
  rw [List.getElem?_set_self hi]
theorem take_set {F : RunE} (hi : i < es.length) : (es.set i F).take (i + 1) = es.take i ++ [F] := by
  rw [List.take_succ_eq_append_getElem (by simpa using hi), List.getElem_set_self, List.take_set_of_le (by omega)]
end
def MkE (k : Int) (e : RunE) : Prop := e.day = .int .i64 k ∧ (∀ j, j < e.cn * 1 → e.cl[j]? = some (markStringC (k + 1) j)) ∧ (∀ j, j < e.rn * 4 → e.rl[j]? = some (markRemarkC (k + 1 + e.cn) j))
def Marked : Int → List RunE → Int → Prop
  | k, [], q => q = k
  | k, e :: es, q => MkE k e ∧ Marked (k + 1 + e.cn + e.rn * 4) es q
theorem Marked.snoc {e : RunE} : ∀ {es : List RunE} {k q : Int}, Marked k es q → MkE q e → Marked k (es ++ [e]) (q + 1 + e.cn + e.rn * 4)
  | [], k, q, h, hm => by simp only [Marked] at h; subst h; exact ⟨hm, rfl⟩
  | a :: es, k, q, h, hm => ⟨h.1, Marked.snoc h.2 hm⟩
def SmE (es : List RunE) : Prop := ∀ e ∈ es, e.cn ≤ 1048576 ∧ e.rn ≤ 1048576
theorem SmE.set {es : List RunE} {i : Nat} {F : RunE} (h : SmE es) (hF : F.cn ≤ 1048576 ∧ F.rn ≤ 1048576) : SmE (es.set i F) := fun e he => by
  rcases mem_set he with rfl | ⟨j, hj, _, rfl⟩
  · exact hF
  · exact h _ (List.getElem_mem hj)
set_option maxHeartbeats 3200000 in
theorem c_markRunSO (A : Option Addr) (n c base : Nat) (es : List RunE) (s : Int) (w : World) (hnn : n = es.length) (hn : n ≤ 1048576) (hs0 : 1 ≤ s) (hs1 : s ≤ 1048576) (hsm : SmE es) (hR : RunRow w base (.slice A n c) es) :
    Calls Try.prog 10 #[.slice A n c, .int .i64 s] w fun e w' => ∃ (k : Int) (es' : List RunE), e = .returned (.int .i64 k) ∧ 0 ≤ k ∧ es'.length = n ∧ SmE es' ∧ Marked s es' k ∧ RunRow w' base (.slice A n c) es' ∧ Below base w w' := by
  have HSM0 := hide hsm
  have HR0 := hide hR
  have HN := hide hnn
  clear hsm hR hnn
  go_enter Try.func10, Try.ntmps10
  go_wp2_with fail
  go_loopw [1, 5] (fun kv iv wr => ∃ (i : Nat) (q : Int) (fs : List RunE), i ≤ n ∧ iv = .int .i64 i ∧ kv = .int .i64 q ∧ s ≤ q ∧ q ≤ s + i * 5242881 ∧ Hid (fs.length = n) ∧ Hid (SmE fs) ∧ Hid (Marked s (fs.take i) q) ∧ Hid (RunRow wr base (.slice A n c) fs) ∧ Hid (Below base w wr)) (fun _ iv _ => n - (intOf iv).toNat)
  case atStart => exact ⟨0, s, es, Nat.zero_le _, rfl, rfl, by omega, by omega, hide HN.out.symm, HSM0, hide rfl, HR0, hide (Below.refl _ _)⟩
  case round =>
    clear HSM0 HR0 HN
    obtain ⟨i, q, fs, hi', rfl, rfl, hq1, hq2, HL, HSM, HMK, HR, HB⟩ := hrel
    by_cases hlt : i < n
    · have hq3 : q ≤ 8796093022208 := by omega
      obtain ⟨-, g, rfl⟩ := HR.out.form (by omega)
      have hif : i < fs.length := by rw [HL.out]; exact hlt
      obtain ⟨E, hE⟩ : ∃ E, fs[i]? = some E := ⟨_, List.getElem?_eq_getElem hif⟩
      obtain ⟨hsc, hsr⟩ := HSM.out _ (List.mem_of_getElem? hE)
      obtain ⟨dy, ca, cn, cc, cl, ra, rn, rc, rl⟩ := E
      obtain ⟨hgb, hgl, d0, d1, d2, hz⟩ := HR.out.cells' hE
      simp only [RunE.cv, RunE.rv] at d0 d1 d2 hsc hsr
      have z0 := hz (i * 3)
      have HE := hide hE
      clear hE hz
      go_wp2_with fail
      have HR1 := hide (HR.out.putD' (u := .int .i64 q) HE.out)
      have HE1 := hide (set_at HE.out (⟨.int .i64 q, ca, cn, cc, cl, ra, rn, rc, rl⟩ : RunE))
      have HB1 := hide (HB.out.setCell (p := ⟨g, i * 3, none⟩) hgb (.int .i64 q))
      clear d0 d1 d2 z0 hgl
      generalize World.setCell wr ⟨g, i * 3, none⟩ (.int .i64 q) = wa at HR1 HB1 ⊢
      obtain ⟨-, hgla, -, d1, d2, -⟩ := HR1.out.cells' HE1.out
      simp only [RunE.cv, RunE.rv] at d1 d2
      have hca := HR1.out.cue _ (List.mem_of_getElem? HE1.out)
      simp only [RunE.cv] at hca
      refine (c_markStringS ca cc cn base cl _ wa (by omega) (by omega) (by omega) hca).mono ?_
      rintro e wb ⟨rfl, L1, ho1, hm1, hg1⟩
      have HR2 := hide (HR1.out.putC' HE1.out hg1 ho1)
      have HE2 := hide (set_at HE1.out (⟨.int .i64 q, ca, cn, cc, L1, ra, rn, rc, rl⟩ : RunE))
      have HB2 := hide (HB1.out.grown hg1 (by omega) (fun k hk => (hca.lt k hk).1))
      have HM1 := hide hm1
      clear hg1 ho1 hm1 hca d1 d2 hgla
      obtain ⟨-, hglb, -, -, d2, -⟩ := HR2.out.cells' HE2.out
      simp only [RunE.rv] at d2
      go_wp2_with fail
      have hra := HR2.out.rem _ (List.mem_of_getElem? HE2.out)
      simp only [RunE.rv] at hra
      refine (c_markRemarkS ra rc rn base rl _ wb (by omega) (by omega) (by omega) hra).mono ?_
      rintro e wc ⟨rfl, L2, ho2, hm2, hg2⟩
      have HR3 := hide (HR2.out.putR' HE2.out hg2 ho2)
      have HB3 := hide (HB2.out.grown hg2 (by omega) (fun k hk => (hra.lt k hk).1))
      have HM2 := hide hm2
      clear hg2 ho2 hm2 hra d2 hglb
      go_wp2_with fail
      go_roundw
      case rel =>
        refine ⟨i + 1, _, _, by omega, by go_num, rfl, by omega, by omega, hide (by simpa using HL.out), hide (((HSM.out.set ⟨hsc, hsr⟩).set ⟨hsc, hsr⟩).set ⟨hsc, hsr⟩), hide ?_, HR3, HB3⟩
        rw [List.set_set, List.set_set, take_set hif]
        exact HMK.out.snoc ⟨rfl, HM1.out, HM2.out⟩
      case measure => simp [intOf]; omega
    · obtain rfl : i = n := by omega
      have HT := hide (show fs.take i = fs from List.take_of_length_le (by rw [HL.out]; exact Nat.le_refl _))
      go_wp2_with fail
      go_ret
      exact ⟨q, fs, rfl, by omega, HL.out, HSM.out, HT.out ▸ HMK.out, HR.out, HB.out⟩
theorem Marked.at_ : ∀ {fs : List RunE} {s q : Int} (i : Nat) (hi : i < fs.length), Marked s fs q → ∃ p, Marked s (fs.take i) p ∧ MkE p fs[i] ∧ Marked s (fs.take (i + 1)) (p + 1 + fs[i].cn + fs[i].rn * 4)
  | e :: fs, s, q, 0, _, h => ⟨s, rfl, h.1, ⟨h.1, rfl⟩⟩
  | e :: fs, s, q, i + 1, hi, h => by
    obtain ⟨p, h1, h2, h3⟩ := Marked.at_ (fs := fs) i (by simpa using hi) h.2
    exact ⟨p, ⟨h.1, h1⟩, h2, ⟨h.1, h3⟩⟩
theorem Marked.uniq : ∀ {fs : List RunE} {s q q' : Int}, Marked s fs q → Marked s fs q' → q = q'
  | [], _, _, _, h, h' => by simp only [Marked] at h h'; omega
  | e :: fs, _, _, _, h, h' => Marked.uniq h.2 h'.2
set_option maxHeartbeats 3200000 in
theorem c_heldRunSO (A : Option Addr) (n c base : Nat) (fs : List RunE) (s k : Int) (w : World) (hnn : fs.length = n) (hn : n ≤ 1048576) (hs0 : 1 ≤ s) (hs1 : s ≤ 1048576) (hsm : SmE fs) (hm : Marked s fs k) (hR : RunRow w base (.slice A n c) fs) :
    Calls Try.prog 11 #[.slice A n c, .int .i64 s] w fun e w' => e = .returned (.int .i64 k) ∧ IsX w w' := by
  have HSM := hide hsm
  have HR := hide hR
  have HL := hide hnn
  have HMK := hide hm
  clear hsm hR hnn hm
  go_enter Try.func11, Try.ntmps11
  go_wp2_with fail
  go_loopw [1, 5] (fun kv iv wr => ∃ (i : Nat) (q : Int), i ≤ n ∧ iv = .int .i64 i ∧ kv = .int .i64 q ∧ s ≤ q ∧ q ≤ s + i * 5242881 ∧ Hid (Marked s (fs.take i) q) ∧ IsX w wr) (fun _ iv _ => n - (intOf iv).toNat)
  case atStart => exact ⟨0, s, Nat.zero_le _, rfl, rfl, by omega, by omega, hide rfl, IsX.refl _⟩
  case round =>
    obtain ⟨i, q, hi', rfl, rfl, hq1, hq2, HQ, p, rfl⟩ := hrel
    by_cases hlt : i < n
    · have hq3 : q ≤ 8796093022208 := by omega
      obtain ⟨-, g, rfl⟩ := HR.out.form (by omega)
      have hif : i < fs.length := by rw [HL.out]; exact hlt
      obtain ⟨q', h1, h2, h3⟩ := Marked.at_ i hif HMK.out
      obtain rfl := Marked.uniq HQ.out h1
      obtain ⟨E, hE⟩ : ∃ E, fs[i]? = some E := ⟨_, List.getElem?_eq_getElem hif⟩
      have hEE : fs[i] = E := by rw [List.getElem?_eq_getElem hif] at hE; injection hE
      rw [hEE] at h2 h3
      obtain ⟨hsc, hsr⟩ := HSM.out _ (List.mem_of_getElem? hE)
      obtain ⟨dy, ca, cn, cc, cl, ra, rn, rc, rl⟩ := E
      obtain ⟨hgb, hgl, d0, d1, d2, hz⟩ := HR.out.cells' hE
      have hca := HR.out.cue _ (List.mem_of_getElem? hE)
      have hra := HR.out.rem _ (List.mem_of_getElem? hE)
      simp only [RunE.cv, RunE.rv] at d0 d1 d2 hsc hsr hca hra
      obtain ⟨rfl, hm1, hm2⟩ := h2
      simp only at hm1 hm2 h3
      have HCA := hide hca
      have HRA := hide hra
      have HM1 := hide hm1
      have HM2 := hide hm2
      have H3 := hide h3
      have HQQ : (q == q) = true := beq_self_eq_true q
      clear hE hEE hz hca hra hm1 hm2 h3 h1
      go_wp2_with fail
      refine (c_heldStringS ca cc cn base cl _ _ (by omega) (by omega) (by omega) (own_x HCA.out ⟨p, rfl⟩) HM1.out).mono ?_
      rintro e wb ⟨rfl, hxb⟩
      have HXB := hide (IsX.trans ⟨p, rfl⟩ hxb : IsX w wb)
      have d2' := keep HXB.out hgl d2
      have hglb : g < wb.heap.size := Nat.lt_of_lt_of_le hgl HXB.out.size
      clear hxb d0 d1 d2 hgl
      go_wp2_with fail
      refine (c_heldRemarkS ra rc rn base rl _ _ (by omega) (by omega) (by omega) (own_x HRA.out HXB.out) HM2.out).mono ?_
      rintro e wc ⟨rfl, hxc⟩
      have HXC := hide (HXB.out.trans hxc)
      clear hxc d2'
      go_wp2_with fail
      go_roundw
      case rel => exact ⟨i + 1, _, by omega, by go_num, rfl, by omega, by omega, H3, HXC.out⟩
      case measure => simp [intOf]; omega
    · obtain rfl : i = n := by omega
      have HT := hide (show fs.take i = fs from List.take_of_length_le (by rw [HL.out]; exact Nat.le_refl _))
      have HE := hide (Marked.uniq (HT.out ▸ HQ.out) HMK.out)
      go_wp2_with fail
      go_ret
      exact ⟨by rw [← HE.out]; rfl, ⟨p, rfl⟩⟩
end Go.Proofs.Yteneapchgmmhbaa
