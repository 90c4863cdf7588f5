/- The library's stable sort of a row of numbers, as a whole. Conditions: the row is the call's own and rises; the comparing closure answers as told and leaves what was there. -/
import Derived.Test.YtadmpefbpklibaaStableH
namespace Go.Proofs.Ytadmpefbpklibaa
set_option linter.unusedVariables false
open Go.RowKit Go.Sort

theorem c_symMerge (pr : Int → Int) (ok : Int → Prop) (bx N c g : Nat) (w0 : World) (hcmp : CmpOk pr ok bx w0) (hN : N ≤ 1099511627776) : ∀ K, SymFor pr ok bx N c g w0 K
  | 0 => fun P U V S a m b w hk hu hv => by omega
  | K + 1 => fun P U V S a m b w hk hu hv ha hm hb hU hV hlt hok h => by
    have ih := c_symMerge pr ok bx N c g w0 hcmp hN K
    by_cases h1 : U.length = 1
    · obtain ⟨u, rfl⟩ : ∃ u, U = [u] := by
        match U, h1 with
        | [u], _ => exact ⟨u, rfl⟩
      refine (c_symOne pr ok bx P V S u a m b N c g w0 w hcmp ha hm hb hV (fun v hv => hlt u (by simp) v hv) (hok u (by simp)) (fun x hx => hok x (by simp [hx])) hN (by simpa using h)).mono ?_
      rintro e w' ⟨rfl, Z, z1, z2, z3⟩
      exact ⟨rfl, Z, z1, z2, z3⟩
    · by_cases h2 : V.length = 1
      · obtain ⟨v, rfl⟩ : ∃ v, V = [v] := by
          match V, h2 with
          | [v], _ => exact ⟨v, rfl⟩
        exact c_symTwo pr ok bx P U S v a m b N c g w0 w hcmp ha hm hb (by omega) hU (fun u hu => hlt u hu v (by simp)) (hok v (by simp)) (fun x hx => hok x (by simp [hx])) hN (by simpa using h)
      · exact c_symMore pr ok bx N c g w0 K hcmp hN ih P U V S a m b w hk (by omega) (by omega) ha hm hb hU hV hlt hok h
/-- the row after t elements have been sorted by blocks of 20 -/
def Part (pr : Int → Int) (F : List Int) (t : Nat) (D : List (List Int)) : Prop := D.flatten.Perm (F.take t) ∧ D.flatten.length = t ∧ (∀ c ∈ D, c.length = 20) ∧ Goods pr D
theorem Part.zero (pr : Int → Int) (F : List Int) : Part pr F 0 [] := ⟨by simp, rfl, fun c h => by simp at h, fun c h => by simp at h, List.Pairwise.nil⟩
theorem part_lt {F : List Int} (hF : F.Pairwise (· < ·)) {t : Nat} {x y : Int} (hx : x ∈ F.take t) (hy : y ∈ F.drop t) : x < y := by
  have h := hF
  rw [← List.take_append_drop t F] at h
  exact (List.pairwise_append.1 h).2.2 x hx y hy
theorem Part.goods {pr : Int → Int} {F : List Int} {t k : Nat} {D : List (List Int)} {Z : List Int} (h : Part pr F t D) (hF : F.Pairwise (· < ·)) (hp : Z.Perm ((F.drop t).take k)) (hs : Srt pr Z) : Goods pr (D ++ [Z]) ∧ (D ++ [Z]).flatten.Perm (F.take (t + k)) := by
  obtain ⟨h1, h2, h3, h4⟩ := h
  refine ⟨h4.more (fun x hx y hy => part_lt hF (h1.mem_iff.1 hx) (List.mem_of_mem_take hy)) hp hs, ?_⟩
  have e : F.take (t + k) = F.take t ++ (F.drop t).take k := List.take_add
  rw [e, List.flatten_append]
  simp only [List.flatten_cons, List.flatten_nil, List.append_nil]
  exact h1.append hp
theorem Part.step {pr : Int → Int} {F : List Int} {t : Nat} {D : List (List Int)} {Z : List Int} (h : Part pr F t D) (hF : F.Pairwise (· < ·)) (ht : t + 20 ≤ F.length) (hp : Z.Perm ((F.drop t).take 20)) (hs : Srt pr Z) : Part pr F (t + 20) (D ++ [Z]) := by
  obtain ⟨g1, g2⟩ := h.goods hF hp hs
  obtain ⟨h1, h2, h3, h4⟩ := h
  have hz : Z.length = 20 := by rw [hp.length_eq, List.length_take, List.length_drop]; omega
  refine ⟨g2, by rw [List.flatten_append, List.length_append, h2]; simp [hz], fun c hc => ?_, g1⟩
  rcases List.mem_append.1 hc with hc | hc
  · exact h3 c hc
  · rw [List.mem_singleton.1 hc]; exact hz
/-- sorted blocks of bs elements, the last one perhaps shorter -/
def Runs (pr : Int → Int) (F : List Int) (bs : Nat) (C : List (List Int)) : Prop := 0 < bs ∧ Chk bs C ∧ Goods pr C ∧ C.flatten.Perm F
theorem Part.done {pr : Int → Int} {F : List Int} {t : Nat} {D : List (List Int)} {Z : List Int} (h : Part pr F t D) (hF : F.Pairwise (· < ·)) (ht : F.length < t + 20) (hp : Z.Perm (F.drop t)) (hs : Srt pr Z) : ∃ C, Runs pr F 20 C ∧ C.flatten = D.flatten ++ Z := by
  have hz : Z.length < 20 := by rw [hp.length_eq, List.length_drop]; omega
  have hp' : Z.Perm ((F.drop t).take 20) := by rw [List.take_of_length_le (by rw [List.length_drop]; omega)]; exact hp
  obtain ⟨g1, g2⟩ := h.goods hF hp' hs
  rw [List.take_of_length_le (by omega)] at g2
  obtain ⟨h1, h2, h3, h4⟩ := h
  rcases Nat.eq_zero_or_pos Z.length with h0 | h0
  · have hn := List.eq_nil_of_length_eq_zero h0
    subst hn
    refine ⟨D, ⟨by omega, by have := Chk.app (T := []) h3 (by omega) trivial; simpa using this, h4, by simpa using g2⟩, by simp⟩
  · refine ⟨D ++ [Z], ⟨by omega, Chk.app h3 (by omega) ⟨fun _ => by omega, fun h => absurd rfl h, trivial, h0⟩, g1, g2⟩, by simp⟩
/-- a pass that merges blocks two by two: D is merged, T is to come -/
def Pass (pr : Int → Int) (F : List Int) (bs t : Nat) (D T : List (List Int)) : Prop := D.flatten.length = t ∧ (∀ c ∈ D, c.length = 2 * bs) ∧ 0 < bs ∧ Chk bs T ∧ Goods pr (D ++ T) ∧ (D ++ T).flatten.Perm F
theorem Runs.pass {pr : Int → Int} {F : List Int} {bs : Nat} {C : List (List Int)} (h : Runs pr F bs C) : Pass pr F bs 0 [] C := ⟨rfl, fun c h => by simp at h, h.1, h.2.1, by simpa using h.2.2.1, by simpa using h.2.2.2⟩
theorem pass_len {pr : Int → Int} {F : List Int} {bs t : Nat} {D T : List (List Int)} (h : Pass pr F bs t D T) : t + T.flatten.length = F.length := by
  have := h.2.2.2.2.2.length_eq
  rw [List.flatten_append, List.length_append, h.1] at this
  exact this
theorem flat_mid (D r : List (List Int)) (c d : List Int) : (D ++ c :: d :: r).flatten = D.flatten ++ (c ++ (d ++ r.flatten)) := by simp
theorem flat_one (D r : List (List Int)) (Z : List Int) : (D ++ Z :: r).flatten = D.flatten ++ (Z ++ r.flatten) := by simp
theorem Pass.step {pr : Int → Int} {F : List Int} {bs t : Nat} {D T : List (List Int)} (h : Pass pr F bs t D T) (ht : t + 2 * bs ≤ F.length) :
    ∃ c d r, T = c :: d :: r ∧ c.length = bs ∧ d.length = bs ∧ Srt pr c ∧ Srt pr d ∧ (∀ x ∈ c, ∀ y ∈ d, x < y) ∧ (∀ x ∈ c ++ d, x ∈ F) ∧ ∀ Z : List Int, Z.Perm (c ++ d) → Srt pr Z → Pass pr F bs (t + 2 * bs) (D ++ [Z]) r := by
  have hl := pass_len h
  obtain ⟨h1, h2, h3, h4, h5, h6⟩ := h
  obtain ⟨c, d, r, rfl, hc, hd, hr⟩ := h4.two h3 (by omega)
  obtain ⟨g1, g2, g3⟩ := h5.parts
  refine ⟨c, d, r, rfl, hc, hd, g1, g2, g3, fun x hx => h6.mem_iff.1 (by rw [flat_mid]; simp only [List.mem_append] at hx ⊢; rcases hx with hx | hx <;> simp [hx]), fun Z hp hs => ?_⟩
  have hz : Z.length = 2 * bs := by rw [hp.length_eq, List.length_append]; omega
  refine ⟨by rw [List.flatten_append, List.length_append, h1]; simp [hz], fun x hx => ?_, h3, hr, ?_, ?_⟩
  · rcases List.mem_append.1 hx with hx | hx
    · exact h2 x hx
    · rw [List.mem_singleton.1 hx]; exact hz
  · have := h5.merge hp hs
    simpa using this
  · refine List.Perm.trans ?_ h6
    rw [List.append_assoc, List.singleton_append, flat_one, flat_mid]
    refine List.Perm.append_left _ ?_
    have := hp.append_right r.flatten
    rwa [List.append_assoc] at this
theorem Pass.last {pr : Int → Int} {F : List Int} {bs t : Nat} {D T : List (List Int)} (h : Pass pr F bs t D T) (ht : F.length < t + 2 * bs) :
    (t + bs < F.length ∧ ∃ c d, T = [c, d] ∧ c.length = bs ∧ 0 < d.length ∧ Srt pr c ∧ Srt pr d ∧ (∀ x ∈ c, ∀ y ∈ d, x < y) ∧ (∀ x ∈ c ++ d, x ∈ F) ∧ ∀ Z : List Int, Z.Perm (c ++ d) → Srt pr Z → Runs pr F (2 * bs) (D ++ [Z])) ∨
    (F.length ≤ t + bs ∧ Runs pr F (2 * bs) (D ++ T)) := by
  have hl := pass_len h
  obtain ⟨h1, h2, h3, h4, h5, h6⟩ := h
  rcases h4.tail h3 (by omega) with ⟨k1, c, d, rfl, hc, hd0, hd⟩ | ⟨k1, k2⟩
  · left
    obtain ⟨g1, g2, g3⟩ := h5.parts
    refine ⟨by omega, c, d, rfl, hc, hd0, g1, g2, g3, fun x hx => h6.mem_iff.1 (by rw [flat_mid]; simp only [List.mem_append] at hx ⊢; rcases hx with hx | hx <;> simp [hx]), fun Z hp hs => ?_⟩
    have hz : Z.length = bs + d.length := by rw [hp.length_eq, List.length_append, hc]
    refine ⟨by omega, Chk.app h2 (by omega) ⟨fun _ => by omega, fun h => absurd rfl h, trivial, by omega⟩, h5.merge hp hs, ?_⟩
    refine List.Perm.trans ?_ h6
    rw [flat_one, flat_mid]
    refine List.Perm.append_left _ ?_
    have := hp.append_right ([] : List (List Int)).flatten
    rwa [List.append_assoc] at this
  · right
    refine ⟨by omega, by omega, ?_, h5, h6⟩
    rcases k2 with rfl | ⟨c, rfl, hc0, hc⟩
    · have := Chk.app (T := []) h2 (by omega) trivial
      exact this
    · exact Chk.app h2 (by omega) ⟨fun _ => by omega, fun h => absurd rfl h, trivial, hc0⟩
theorem Runs.done {pr : Int → Int} {F : List Int} {bs : Nat} {C : List (List Int)} (h : Runs pr F bs C) (hl : F.length ≤ bs) : Srt pr C.flatten ∧ C.flatten.Perm F := by
  obtain ⟨h1, h2, h3, h4⟩ := h
  refine ⟨?_, h4⟩
  rcases h2.one h1 (by rw [h4.length_eq]; exact hl) with rfl | ⟨c, rfl⟩
  · exact List.Pairwise.nil
  · simpa using h3.1 c (by simp)

set_option maxHeartbeats 6400000 in
set_option maxRecDepth 100000 in
theorem c_stable (pr : Int → Int) (ok : Int → Prop) (bx : Nat) (F : List Int) (n c g : Nat) (w0 w : World) (hcmp : CmpOk pr ok bx w0) (hF : F.Pairwise (· < ·)) (hok : ∀ x ∈ F, ok x) (hn : n = F.length) (hN : n ≤ 1099511627776) (h : RowAt g n c w0 w F) :
    Calls Try.prog 38 #[.slice (some ⟨g, 0, none⟩) n c, .int .i64 (n : Int), .func (.func 23) #[] #[.pointer (some ⟨bx, 0, none⟩)]] w fun e w' => e = .returned (.tuple #[]) ∧ ∃ Z : List Int, Z.Perm F ∧ Srt pr Z ∧ RowAt g n c w0 w' Z := by
  have HSM := hide (fun K => c_symMerge pr ok bx n c g w0 hcmp hN K)
  have HIS := hide (fun (P X S : List Int) (a b : Nat) (W : World) => c_insSort pr ok bx P X S a b n c g w0 W hcmp)
  have HF := hide hF
  have HOK := hide hok
  have HNN := hide hn
  have HST : Hid (∃ D, Part pr F 0 D ∧ RowAt g n c w0 w (D.flatten ++ F.drop 0)) := hide ⟨[], Part.zero pr F, by simpa using h⟩
  clear hcmp hF hok hn h
  go_enter Try.func38, Try.ntmps38
  go_wp2_with fail
  go_loopw [7, 8] (fun av bv wr => ∃ t : Nat, t ≤ n ∧ av = .int .i64 (t : Int) ∧ bv = .int .i64 ((t : Int) + 20) ∧ Hid (∃ D, Part pr F t D ∧ RowAt g n c w0 wr (D.flatten ++ F.drop t))) (fun av _ _ => n - (intOf av).toNat)
  case atStart => exact ⟨0, Nat.zero_le _, rfl, rfl, HST⟩
  case round =>
    clear HST
    obtain ⟨t, ht, rfl, rfl, HD⟩ := hrel
    obtain ⟨D, hd, hr⟩ := HD.out
    have HPT := hide hd
    have HR := hide hr
    have hdl := hd.2.1
    by_cases hlt : t + 20 ≤ n
    · have hz : ((t : Int) + 20 ≤ (n : Int)) := by omega
      obtain ⟨b, hb⟩ : ∃ b, b = t + 20 := ⟨_, rfl⟩
      have tb : (t : Int) + 20 = (b : Int) := by omega
      have HB := hide hb
      have HC := hide (HIS.out D.flatten ((F.drop t).take 20) (F.drop (t + 20)) t b wr (by omega) (by rw [List.length_take, List.length_drop, hdl]; have := HNN.out; omega)
        ((HF.out.sublist (List.drop_sublist _ _)).sublist (List.take_sublist _ _)) (fun x hx => HOK.out x (List.mem_of_mem_drop (List.mem_of_mem_take hx))) hN (by
          rw [show (F.drop t).take 20 ++ F.drop (t + 20) = F.drop t by rw [← List.drop_drop, List.take_append_drop]]
          exact hr))
      have hbN : b ≤ n := by omega
      rw [tb] at hz
      clear hd hr hdl hb
      go_wp2_with (go_at_call 48; refine HC.out.mono ?_; rintro e w2 ⟨rfl, Z, z1, z2, z3⟩; have HZ := hide (show _ ∧ _ ∧ _ from ⟨z1, z2, z3⟩); clear z1 z2 z3)
      go_roundw
      case rel => exact ⟨b, hbN, rfl, by go_num, hide ⟨D ++ [Z], by rw [HB.out]; exact HPT.out.step HF.out (by have := HNN.out; omega) HZ.out.1 HZ.out.2.1, by rw [HB.out]; have := HZ.out.2.2; simpa using this⟩⟩
      case measure => have := HB.out; simp [intOf]; omega
    · have hz : ¬ ((t : Int) + 20 ≤ (n : Int)) := by omega
      have HC := hide (HIS.out D.flatten (F.drop t) [] t n wr (by omega) (by rw [List.length_drop, hdl]; have := HNN.out; omega)
        (HF.out.sublist (List.drop_sublist _ _)) (fun x hx => HOK.out x (List.mem_of_mem_drop hx)) hN (by simpa using hr))
      have HLT := hide hlt
      clear hd hr hdl hlt
      go_wp2_with (go_at_call 48; refine HC.out.mono ?_; rintro e w2 ⟨rfl, Z, z1, z2, z3⟩; have HZ := hide (show _ ∧ _ ∧ _ from ⟨z1, z2, z3⟩); clear z1 z2 z3)
      have HRUN : Hid (∃ C, Runs pr F 20 C ∧ RowAt g n c w0 w2 C.flatten) := hide (by
        obtain ⟨C, k1, k2⟩ := HPT.out.done HF.out (by have := HNN.out; have := HLT.out; omega) HZ.out.1 HZ.out.2.1
        refine ⟨C, k1, ?_⟩
        have := HZ.out.2.2
        rw [List.append_nil] at this
        rw [k2]; exact this)
      clear hz HC HZ HR HD HPT
      go_loopw [6] (fun sv wr => ∃ bs : Nat, 20 ≤ bs ∧ bs ≤ 4398046511104 ∧ sv = .int .i64 (bs : Int) ∧ Hid (∃ C, Runs pr F bs C ∧ RowAt g n c w0 wr C.flatten)) (fun sv _ => n - (intOf sv).toNat)
      case atStart => exact ⟨20, Nat.le_refl _, by omega, rfl, HRUN⟩
      case round =>
        clear HRUN
        obtain ⟨bs, hbs, hbs2, rfl, HC⟩ := hrel
        by_cases hlt : bs < n
        · have HST2 : Hid (∃ D T, Pass pr F bs 0 D T ∧ RowAt g n c w0 wr (D ++ T).flatten) := hide (by
            obtain ⟨C, k1, k2⟩ := HC.out
            exact ⟨[], C, k1.pass, by simpa using k2⟩)
          obtain ⟨b2, hb2⟩ : ∃ b2, b2 = 2 * bs := ⟨_, rfl⟩
          have tb2 : 2 * (bs : Int) = (b2 : Int) := by omega
          have tb3 : (bs : Int) * 2 = (b2 : Int) := by omega
          have HB2 := hide hb2
          have hb20 : b2 ≤ 2199023255552 := by omega
          clear hb2 HC
          go_wp2_with fail
          go_loopw [7, 8] (fun av bv wr => ∃ t : Nat, t ≤ n ∧ av = .int .i64 (t : Int) ∧ bv = .int .i64 ((t : Int) + (b2 : Int)) ∧ Hid (∃ D T, Pass pr F bs t D T ∧ RowAt g n c w0 wr (D ++ T).flatten)) (fun av _ _ => n - (intOf av).toNat)
          case atStart => exact ⟨0, Nat.zero_le _, rfl, by go_num, HST2⟩
          case round =>
            clear HST2
            obtain ⟨t, ht, rfl, rfl, HD⟩ := hrel
            obtain ⟨D, T, hd, hr⟩ := HD.out
            have hdl := hd.1
            by_cases hle : t + b2 ≤ n
            · obtain ⟨c1, d1, r1, hT, hc, hdd, s1, s2, s3, s4, hz⟩ := hd.step (by have := HNN.out; have := HB2.out; omega)
              have HSTEP := hide hz
              obtain ⟨b, hb⟩ : ∃ b, b = t + b2 := ⟨_, rfl⟩
              obtain ⟨m, hm⟩ : ∃ m, m = t + bs := ⟨_, rfl⟩
              have tb : (t : Int) + (b2 : Int) = (b : Int) := by omega
              have tm : (t : Int) + (bs : Int) = (m : Int) := by omega
              have HB := hide hb
              have HM := hide hm
              have HCC := hide (HSM.out (c1.length + d1.length) D.flatten c1 d1 r1.flatten t m b wr (Nat.le_refl _) (by omega) (by omega) (by omega) (by omega) (by have := HB2.out; omega) s1 s2 s3 (fun x hx => HOK.out x (s4 x hx)) (by rw [hT, flat_mid] at hr; exact hr))
              have hbN : b ≤ n := by omega
              have hmN : m ≤ n := by have := HB2.out; omega
              have hzz : (t : Int) + (b2 : Int) ≤ (n : Int) := by omega
              rw [tb] at hzz ⊢
              clear hd hr hdl hb hm hT hc hdd s1 s2 s3 s4 hz tb HD hle
              go_wp2_with (go_at_call 49; refine HCC.out.mono ?_; rintro e w2 ⟨rfl, Z, z1, z2, z3⟩; have HZ := hide (show _ ∧ _ ∧ _ from ⟨z1, z2, z3⟩); clear z1 z2 z3)
              go_roundw
              case rel => exact ⟨b, hbN, rfl, by go_num, hide ⟨D ++ [Z], r1, by have := HSTEP.out Z HZ.out.1 HZ.out.2.1; rw [HB.out, HB2.out]; exact this, by have := HZ.out.2.2; simpa using this⟩⟩
              case measure => have := HB.out; have := HB2.out; simp [intOf]; omega
            · have hzz : ¬ ((t : Int) + (b2 : Int) ≤ (n : Int)) := by omega
              obtain ⟨m, hm⟩ : ∃ m, m = t + bs := ⟨_, rfl⟩
              have tm : (t : Int) + (bs : Int) = (m : Int) := by omega
              have HM := hide hm
              have hmb : m ≤ 2199023255552 := by omega
              rcases hd.last (by have := HNN.out; have := HB2.out; omega) with ⟨k1, c1, d1, hT, hc, hdd, s1, s2, s3, s4, hz⟩ | ⟨k1, k2⟩
              · have HSTEP := hide hz
                have HCC := hide (HSM.out (c1.length + d1.length) D.flatten c1 d1 [] t m n wr (Nat.le_refl _) (by omega) (by omega) (by omega) (by omega) (by have h6 := hd.2.2.2.2.2.length_eq; rw [hT, flat_mid] at h6; simp only [List.length_append, List.flatten_nil, List.length_nil] at h6; have := HNN.out; omega) s1 s2 s3 (fun x hx => HOK.out x (s4 x hx)) (by rw [hT, flat_mid] at hr; simpa using hr))
                have hmn : m < n := by have := HNN.out; omega
                clear hd hr hdl hm hT hc hdd s1 s2 s3 s4 hz HD hle k1
                go_wp2_with (go_at_call 49; refine HCC.out.mono ?_; rintro e w2 ⟨rfl, Z, z1, z2, z3⟩; have HZ := hide (show _ ∧ _ ∧ _ from ⟨z1, z2, z3⟩); clear z1 z2 z3)
                go_roundw
                case rel => exact ⟨b2, by have := HB2.out; omega, by have := HB2.out; omega, rfl, hide ⟨D ++ [Z], by have := HSTEP.out Z HZ.out.1 HZ.out.2.1; rw [HB2.out]; exact this, by have := HZ.out.2.2; simpa using this⟩⟩
                case measure => have := HB2.out; simp [intOf]; omega
              · have HRUN : Hid (∃ C, Runs pr F b2 C ∧ RowAt g n c w0 wr C.flatten) := hide ⟨D ++ T, by rw [HB2.out]; exact k2, hr⟩
                have hmn : ¬ m < n := by have := HNN.out; omega
                clear hd hr hdl hm HD hle k1 k2
                go_wp2_with fail
                go_roundw
                case rel => exact ⟨b2, by have := HB2.out; omega, by have := HB2.out; omega, rfl, HRUN⟩
                case measure => have := HB2.out; simp [intOf]; omega
        · have HFIN : Hid (∃ Z : List Int, Z.Perm F ∧ Srt pr Z ∧ RowAt g n c w0 wr Z) := hide (by
            obtain ⟨C, k1, k2⟩ := HC.out
            obtain ⟨q1, q2⟩ := k1.done (by have := HNN.out; omega)
            exact ⟨_, q2, q1, k2⟩)
          go_wp2_with fail
          go_end0
          exact ⟨rfl, HFIN.out⟩
theorem c_SortStable (pr : Int → Int) (ok : Int → Prop) (bx : Nat) (F : List Int) (n c g : Nat) (w0 w : World) (hcmp : CmpOk pr ok bx w0) (hF : F.Pairwise (· < ·)) (hok : ∀ x ∈ F, ok x) (hn : n = F.length) (hN : n ≤ 1099511627776) (h : RowAt g n c w0 w F) :
    Calls Try.prog 22 #[.slice (some ⟨g, 0, none⟩) n c, .func (.func 23) #[] #[.pointer (some ⟨bx, 0, none⟩)]] w fun e w' => e = .returned (.tuple #[]) ∧ ∃ Z : List Int, Z.Perm F ∧ Srt pr Z ∧ RowAt g n c w0 w' Z := by
  have HC := hide (c_stable pr ok bx F n c g w0 w hcmp hF hok hn hN h)
  clear hcmp hF hok hn h
  go_enter Try.func22, Try.ntmps22
  go_wp2_with (go_at_call 38; refine HC.out.mono ?_; rintro e w2 ⟨rfl, hz⟩; have HZ := hide hz; clear hz)
  go_end0
  exact ⟨rfl, HZ.out⟩

end Go.Proofs.Ytadmpefbpklibaa
