/- People with open notes: WhoMustCome of the reference and of the program. Conditions: lists no longer than 2^40. -/
import Derived.Test.YtegehdhdlljikaaWhoLaw
import Derived.Test.YtegehdhdlljikaaSortLaidS
import Derived.Test.YtegehdhdlljikaaRemarksFns
import Derived.Test.YtegehdhdlljikaaMarks
import Derived.Test.YtegehdhdlljikaaOpenSeatsFns
import Derived.Test.YtegehdhdlljikaaLString
import Derived.Sort.OwnSorted
import Derived.Lib.RowBridge
namespace Go.Proofs.Ytegehdhdlljikaa
set_option linter.unusedVariables false
open Go.RowKit Go.Sort

theorem strs_one (xs : List ByteArray) : ∀ u ∈ xs.flatMap strC, u.oneCell' = true := by
  intro u hu
  rw [List.mem_flatMap] at hu
  obtain ⟨x, _, hx⟩ := hu
  simp only [strC, List.mem_singleton] at hx
  subst hx; rfl
theorem str_oneW (x : ByteArray) : ∀ u ∈ [Value.string x], u.oneCell' = true := by
  intro u hu
  simp only [List.mem_singleton] at hu
  subst hu; rfl
theorem str_reads (w : World) (t : Nat) (u : ByteArray) : Reads (w.alloc (.cells #[.string u] t)) (w.alloc (.cells #[.string u] t)).heap.size 1 (some ⟨w.heap.size, 0, none⟩) 1 [.string u] :=
  Rd.reads (cells := strC) (xs := [u]) (by omega) strC_len (Blk.rd (cells := strC) (xs := [u]) (t := t) strC_len (Blk.new w t #[.string u]))
theorem row_formS {w : World} {base e size n : Nat} {v : Value} {L : List Value} (h : w.ownsRow base e size v (n + 1) L) : ∃ g c, v = .slice (some ⟨g, 0, none⟩) (n + 1) c ∧ n + 1 ≤ c := by
  rcases h.2 with ⟨_, h0⟩ | ⟨g, cap, cur, hv, _, _, h1, _⟩
  · omega
  · exact ⟨g, cap, hv, h1⟩
theorem row_capS {w : World} {base e size n m c : Nat} {A : Option Addr} {L : List Value} (h : w.ownsRow base e size (.slice A n c) m L) : m ≤ c := by
  rcases h.2 with ⟨_, h0⟩ | ⟨g, cap, cur, hv, _, _, h1, _⟩
  · omega
  · injection hv with _ _ hc; subst hc; exact h1
theorem Rd.partS {w : World} {g a m : Nat} {xs : List ByteArray} (h : Rd strC 1 w (some ⟨g, 0, none⟩) xs) : Rd strC 1 w (some ⟨g, a, none⟩) ((xs.drop a).take m) := fun i z hi => by
  rw [List.getElem?_take] at hi
  split at hi
  · rw [List.getElem?_drop] at hi
    obtain ⟨b, off, e1, hb, hcc⟩ := h _ z hi
    injection e1 with e1
    injection e1 with e1 e2
    subst e1 e2
    refine ⟨g, a, rfl, hb, fun j u hu => ?_⟩
    have := hcc j u hu
    rw [show 0 + (a + i) * 1 + j = a + i * 1 + j by omega] at this
    exact this
  · cases hi
theorem pair_reads (W : World) (o : Obj) (u : Value) (t : Nat) : Reads ((W.alloc o).alloc (.cells #[u] t)) ((W.alloc o).alloc (.cells #[u] t)).heap.size 1 (some ⟨W.heap.size + 1, 0, none⟩) 1 [u] := by
  refine ⟨rfl, fun _ => ⟨⟨W.heap.size + 1, 0, none⟩, rfl, by simp, fun j x hx => ?_⟩⟩
  cases j with
  | zero =>
    have hb := (Blk.new (W.alloc o) t #[u]).cell 0
    simp at hx hb
    rw [← hx]; simp [Addr.add, hb]
  | succ j => simp at hx

set_option maxRecDepth 100000 in
set_option maxHeartbeats 6400000 in
theorem c_l21Put (g n c base : Nat) (xs : List ByteArray) (x : ByteArray) (w : World) (hnn : n = xs.length) (hn : n ≤ 1048576) (hc : n ≤ c) (hb : base ≤ w.heap.size) (hO : w.ownsRow base 9 1 (.slice (some ⟨g, 0, none⟩) n c) n (xs.flatMap strC)) :
    Calls Try.prog 42 #[.slice (some ⟨g, 0, none⟩) n c, .string x] w fun e w' => ∃ g' c', e = .returned (.slice (some ⟨g', 0, none⟩) (putS xs x).length c') ∧ (putS xs x).length ≤ c' ∧ w'.ownsRow base 9 1 (.slice (some ⟨g', 0, none⟩) (putS xs x).length c') (putS xs x).length ((putS xs x).flatMap strC) ∧ IsX w w' := by
  have HI := hide (info_parts String_info)
  have HN := hide hnn
  have HO := hide hO
  have HRD : Hid (Rd strC 1 w (some ⟨g, 0, none⟩) xs) := hide (Rd.of_own (by omega) strC_len hO)
  clear hnn hO
  go_enter Try.func42, Try.ntmps42
  go_wp2_with fail
  go_loopw [5] (fun av wr => ∃ a : Nat, a ≤ n ∧ av = .int .i64 a ∧ Hid (∀ i (h : i < xs.length), i < a → Op.bytesLess xs[i].toList x.toList = true) ∧ IsX w wr) (fun av _ => n - (intOf av).toNat)
  case atStart => exact ⟨0, Nat.zero_le _, rfl, hide (fun i h hi => absurd hi (by omega)), IsX.refl _⟩
  case round =>
    obtain ⟨a, ha, rfl, HF, p, rfl⟩ := hrel
    by_cases hlt : a < n
    · have hax : a < xs.length := HN.out ▸ hlt
      obtain ⟨b1, off1, e1, hb1, ca⟩ := str_rd HRD.out (show xs[a]? = some xs[a] from List.getElem?_eq_getElem _)
      injection e1 with e1
      injection e1 with e1 e2
      subst e1 e2
      simp only [Nat.zero_add] at ca
      obtain ⟨y, hy⟩ : ∃ y, y = xs[a] := ⟨_, rfl⟩
      have HY := hide hy
      rw [← hy] at ca
      clear hy
      cases hl : Op.bytesLess y.toList x.toList
      · cases he : (y.toList == x.toList)
        · have HP := hide (show putS xs x = xs.take a ++ x :: xs.drop a from putS_mid a hax HF.out (by rw [← HY.out]; exact hl) (by rw [← HY.out]; exact he))
          have hac : ¬ a = c := by omega
          have HR1 := hide (show ∀ W, IsX w W → Reads W W.heap.size 1 (some ⟨g, 0, none⟩) (a) ((xs.take (a)).flatMap strC) from fun W hx => by
            have h := ((HRD.out.x hx).partS (a := 0) (m := a)).reads (by omega) strC_len
            rw [List.drop_zero, List.length_take, HN.out.symm, Nat.min_eq_left (by omega)] at h
            exact h)
          have HR2 := hide (show ∀ W, IsX w W → Reads W W.heap.size 1 (some ⟨g, a, none⟩) (n - a) ((xs.drop (a)).flatMap strC) from fun W hx => by
            have h := ((HRD.out.x hx).partS (a := a) (m := n - a)).reads (by omega) strC_len
            have hdl : (xs.drop a).take (n - a) = xs.drop a := List.take_of_length_le (by rw [List.length_drop, ← HN.out]; exact Nat.le_refl _)
            rw [hdl, List.length_drop, ← HN.out] at h
            exact h)
          go_wp2_with first | (at_builtin; obtain ⟨i0, hi0, hz0, hz1, hz2⟩ := HI.out; refine wpList_append_any _ rfl (.tmp 34) (.tmp 37) _ rfl (xt w p).heap.size 9 i0 _ 1 16 Try.underlying26 hi0 hz0 hz1 hz2 rfl (by omega) (.slice (some ⟨(xt w p).heap.size, 0, none⟩) 0 0) 0 [] rfl (World.ownsRow_made (xt w p) #[] 0 (Nat.le_refl _) (by simp [maxLen]) rfl) _ (some ⟨g, 0, none⟩) a c ((xs.take a).flatMap strC) rfl (HR1.out _ (IsX.alloc ⟨p, rfl⟩ _)) (strs_one _) (by simp only [maxLen]; omega) (by omega) (by simp) ?_; clear hi0 hz0 hz1 hz2; intro v1 w1 hown1 hg1 hat1; have HO1 : Hid (_root_.Go.World.ownsRow w1 w.heap.size 9 1 v1 a ((xs.take a).flatMap strC)) := hide (by have h := row_le hown1 (size_xt w p); rw [Nat.zero_add, List.nil_append] at h; exact h); have hx1 : IsX w w1 := IsX.grown (IsX.alloc (w' := xt w p) ⟨p, rfl⟩ _) hg1 (by intro z hz; have := (World.ownsRow.lt hown1 ); simp [Value.ownBlock] at hz; have := size_xt w p; omega); clear hown1 hg1 hat1; obtain ⟨p1, rfl⟩ := hx1) | (at_builtin; obtain ⟨i0, hi0, hz0, hz1, hz2⟩ := HI.out; refine wpList_append_any _ rfl (.tmp 39) (.tmp 41) _ rfl w.heap.size 9 i0 _ 1 16 Try.underlying26 hi0 hz0 hz1 hz2 rfl (by omega) _ a ((xs.take a).flatMap strC) rfl (HO1.out.alloc _) _ (some ⟨(xt w p1).heap.size, 0, none⟩) 1 1 [Value.string x] rfl (str_reads (xt w p1) _ _) (str_oneW x) (by simp only [maxLen]; omega) (by omega) (by have := size_xt w p1; simp; omega) ?_; clear hi0 hz0 hz1 hz2; intro v2 w2 hown1 hg1 hat1; have HO2 := hide hown1; have hx1 : IsX w w2 := IsX.grown (IsX.alloc (w' := xt w p1) ⟨p1, rfl⟩ _) hg1 (by intro z hz; exact (HO1.out.lt z hz).1); clear hown1 hg1 hat1; obtain ⟨p2, rfl⟩ := hx1) | (at_builtin; obtain ⟨i0, hi0, hz0, hz1, hz2⟩ := HI.out; refine wpList_append_any _ rfl (.tmp 43) (.tmp 46) _ rfl w.heap.size 9 i0 _ 1 16 Try.underlying26 hi0 hz0 hz1 hz2 rfl (by omega) _ (a + 1) ((xs.take a).flatMap strC ++ [Value.string x]) rfl HO2.out _ (some ⟨g, a, none⟩) (n - a) (c - a) ((xs.drop a).flatMap strC) rfl (HR2.out _ ⟨p2, rfl⟩) (strs_one _) (by simp only [maxLen]; omega) (by omega) (size_xt w p2) ?_; clear hi0 hz0 hz1 hz2; intro v3 w3 hown1 hg1 hat1; have HO3 := hide hown1; have hx1 : IsX w w3 := IsX.grown ⟨p2, rfl⟩ hg1 (by intro z hz; exact (HO2.out.lt z hz).1); clear hown1 hg1 hat1; obtain ⟨p3, rfl⟩ := hx1)
          go_ret
          have HL := hide (show (putS xs x).length = n + 1 by rw [HP.out]; simp; have := HN.out; omega)
          have h := HO3.out
          rw [show a + 1 + (n - a) = n + 1 by omega] at h
          obtain ⟨g', c', hform, hcap'⟩ := row_formS h
          subst hform
          refine ⟨g', c', by rw [HL.out]; rfl, by rw [HL.out]; exact hcap', ?_, ⟨p3, rfl⟩⟩
          rw [HL.out, HP.out, List.flatMap_append, List.flatMap_cons]
          rw [List.append_assoc] at h
          exact row_le h hb
        · have HP := hide (show putS xs x = xs from putS_same a hax HF.out (by rw [← HY.out]; exact hl) (by rw [← HY.out]; exact he))
          go_wp2_with fail
          go_ret
          refine ⟨g, c, by rw [HP.out, HN.out.symm]; rfl, by rw [HP.out, HN.out.symm]; exact hc, ?_, ⟨p, rfl⟩⟩
          rw [HP.out, HN.out.symm]
          exact own_x HO.out ⟨p, rfl⟩
      · have HF' := hide (step_all (p := fun z => Op.bytesLess z.toList x.toList) hax HF.out (by rw [← HY.out]; exact hl))
        go_wp2_with fail
        go_roundw
        case rel => exact ⟨a + 1, by omega, by go_num, HF', ⟨p, rfl⟩⟩
        case measure => simp [intOf]; omega
    · obtain rfl : a = n := by omega
      have HP := hide (show putS xs x = xs.take a ++ x :: xs.drop a from by
        rw [putS_end (fun i h => HF.out i h (by rw [HN.out]; exact h)), List.take_of_length_le (by rw [← HN.out]; exact Nat.le_refl _), List.drop_of_length_le (by rw [← HN.out]; exact Nat.le_refl _)])
      have HNA : Hid (a = xs.length) := HN
      by_cases hce : a = c
      · subst hce
        have HR1 := hide (show ∀ W, IsX w W → Reads W W.heap.size 1 (some ⟨g, 0, none⟩) (a) ((xs.take (a)).flatMap strC) from fun W hx => by
          have h := ((HRD.out.x hx).partS (a := 0) (m := a)).reads (by omega) strC_len
          rw [List.drop_zero, List.length_take, HN.out.symm, Nat.min_eq_left (by omega)] at h
          exact h)
        have HR2 := hide (show ∀ W, IsX w W → Reads W W.heap.size 1 (some ⟨g, 0, none⟩) (0) ((xs.drop (a)).flatMap strC) from fun W hx => by
          rw [List.drop_of_length_le (by rw [← HN.out]; exact Nat.le_refl _)]; exact Reads.none_)
        go_wp2_with first | (at_builtin; obtain ⟨i0, hi0, hz0, hz1, hz2⟩ := HI.out; refine wpList_append_any _ rfl (.tmp 34) (.tmp 37) _ rfl (xt w p).heap.size 9 i0 _ 1 16 Try.underlying26 hi0 hz0 hz1 hz2 rfl (by omega) (.slice (some ⟨(xt w p).heap.size, 0, none⟩) 0 0) 0 [] rfl (World.ownsRow_made (xt w p) #[] 0 (Nat.le_refl _) (by simp [maxLen]) rfl) _ (some ⟨g, 0, none⟩) a a ((xs.take a).flatMap strC) rfl (HR1.out _ (IsX.alloc ⟨p, rfl⟩ _)) (strs_one _) (by simp only [maxLen]; omega) (by omega) (by simp) ?_; clear hi0 hz0 hz1 hz2; intro v1 w1 hown1 hg1 hat1; have HO1 : Hid (_root_.Go.World.ownsRow w1 w.heap.size 9 1 v1 a ((xs.take a).flatMap strC)) := hide (by have h := row_le hown1 (size_xt w p); rw [Nat.zero_add, List.nil_append] at h; exact h); have hx1 : IsX w w1 := IsX.grown (IsX.alloc (w' := xt w p) ⟨p, rfl⟩ _) hg1 (by intro z hz; have := (World.ownsRow.lt hown1 ); simp [Value.ownBlock] at hz; have := size_xt w p; omega); clear hown1 hg1 hat1; obtain ⟨p1, rfl⟩ := hx1) | (at_builtin; obtain ⟨i0, hi0, hz0, hz1, hz2⟩ := HI.out; refine wpList_append_any _ rfl (.tmp 39) (.tmp 41) _ rfl w.heap.size 9 i0 _ 1 16 Try.underlying26 hi0 hz0 hz1 hz2 rfl (by omega) _ a ((xs.take a).flatMap strC) rfl (HO1.out.alloc _) _ (some ⟨(xt w p1).heap.size, 0, none⟩) 1 1 [Value.string x] rfl (str_reads (xt w p1) _ _) (str_oneW x) (by simp only [maxLen]; omega) (by omega) (by have := size_xt w p1; simp; omega) ?_; clear hi0 hz0 hz1 hz2; intro v2 w2 hown1 hg1 hat1; have HO2 := hide hown1; have hx1 : IsX w w2 := IsX.grown (IsX.alloc (w' := xt w p1) ⟨p1, rfl⟩ _) hg1 (by intro z hz; exact (HO1.out.lt z hz).1); clear hown1 hg1 hat1; obtain ⟨p2, rfl⟩ := hx1) | (at_builtin; obtain ⟨i0, hi0, hz0, hz1, hz2⟩ := HI.out; refine wpList_append_any _ rfl (.tmp 43) (.tmp 46) _ rfl w.heap.size 9 i0 _ 1 16 Try.underlying26 hi0 hz0 hz1 hz2 rfl (by omega) _ (a + 1) ((xs.take a).flatMap strC ++ [Value.string x]) rfl HO2.out _ (some ⟨g, 0, none⟩) (0) (0) ((xs.drop a).flatMap strC) rfl (HR2.out _ ⟨p2, rfl⟩) (strs_one _) (by simp only [maxLen]; omega) (by omega) (size_xt w p2) ?_; clear hi0 hz0 hz1 hz2; intro v3 w3 hown1 hg1 hat1; have HO3 := hide hown1; have hx1 : IsX w w3 := IsX.grown ⟨p2, rfl⟩ hg1 (by intro z hz; exact (HO2.out.lt z hz).1); clear hown1 hg1 hat1; obtain ⟨p3, rfl⟩ := hx1)
        go_ret
        have HL := hide (show (putS xs x).length = a + 1 by rw [HP.out]; simp; have := HN.out; omega)
        have h := HO3.out
        rw [show a + 1 + (0) = a + 1 by omega] at h
        obtain ⟨g', c', hform, hcap'⟩ := row_formS h
        subst hform
        refine ⟨g', c', by rw [HL.out]; rfl, by rw [HL.out]; exact hcap', ?_, ⟨p3, rfl⟩⟩
        rw [HL.out, HP.out, List.flatMap_append, List.flatMap_cons]
        rw [List.append_assoc] at h
        exact row_le h hb
      · skip
        have HR1 := hide (show ∀ W, IsX w W → Reads W W.heap.size 1 (some ⟨g, 0, none⟩) (a) ((xs.take (a)).flatMap strC) from fun W hx => by
          have h := ((HRD.out.x hx).partS (a := 0) (m := a)).reads (by omega) strC_len
          rw [List.drop_zero, List.length_take, HN.out.symm, Nat.min_eq_left (by omega)] at h
          exact h)
        have HR2 := hide (show ∀ W, IsX w W → Reads W W.heap.size 1 (some ⟨g, a, none⟩) (0) ((xs.drop (a)).flatMap strC) from fun W hx => by
          rw [List.drop_of_length_le (by rw [← HN.out]; exact Nat.le_refl _)]; exact Reads.none_)
        go_wp2_with first | (at_builtin; obtain ⟨i0, hi0, hz0, hz1, hz2⟩ := HI.out; refine wpList_append_any _ rfl (.tmp 34) (.tmp 37) _ rfl (xt w p).heap.size 9 i0 _ 1 16 Try.underlying26 hi0 hz0 hz1 hz2 rfl (by omega) (.slice (some ⟨(xt w p).heap.size, 0, none⟩) 0 0) 0 [] rfl (World.ownsRow_made (xt w p) #[] 0 (Nat.le_refl _) (by simp [maxLen]) rfl) _ (some ⟨g, 0, none⟩) a c ((xs.take a).flatMap strC) rfl (HR1.out _ (IsX.alloc ⟨p, rfl⟩ _)) (strs_one _) (by simp only [maxLen]; omega) (by omega) (by simp) ?_; clear hi0 hz0 hz1 hz2; intro v1 w1 hown1 hg1 hat1; have HO1 : Hid (_root_.Go.World.ownsRow w1 w.heap.size 9 1 v1 a ((xs.take a).flatMap strC)) := hide (by have h := row_le hown1 (size_xt w p); rw [Nat.zero_add, List.nil_append] at h; exact h); have hx1 : IsX w w1 := IsX.grown (IsX.alloc (w' := xt w p) ⟨p, rfl⟩ _) hg1 (by intro z hz; have := (World.ownsRow.lt hown1 ); simp [Value.ownBlock] at hz; have := size_xt w p; omega); clear hown1 hg1 hat1; obtain ⟨p1, rfl⟩ := hx1) | (at_builtin; obtain ⟨i0, hi0, hz0, hz1, hz2⟩ := HI.out; refine wpList_append_any _ rfl (.tmp 39) (.tmp 41) _ rfl w.heap.size 9 i0 _ 1 16 Try.underlying26 hi0 hz0 hz1 hz2 rfl (by omega) _ a ((xs.take a).flatMap strC) rfl (HO1.out.alloc _) _ (some ⟨(xt w p1).heap.size, 0, none⟩) 1 1 [Value.string x] rfl (str_reads (xt w p1) _ _) (str_oneW x) (by simp only [maxLen]; omega) (by omega) (by have := size_xt w p1; simp; omega) ?_; clear hi0 hz0 hz1 hz2; intro v2 w2 hown1 hg1 hat1; have HO2 := hide hown1; have hx1 : IsX w w2 := IsX.grown (IsX.alloc (w' := xt w p1) ⟨p1, rfl⟩ _) hg1 (by intro z hz; exact (HO1.out.lt z hz).1); clear hown1 hg1 hat1; obtain ⟨p2, rfl⟩ := hx1) | (at_builtin; obtain ⟨i0, hi0, hz0, hz1, hz2⟩ := HI.out; refine wpList_append_any _ rfl (.tmp 43) (.tmp 46) _ rfl w.heap.size 9 i0 _ 1 16 Try.underlying26 hi0 hz0 hz1 hz2 rfl (by omega) _ (a + 1) ((xs.take a).flatMap strC ++ [Value.string x]) rfl HO2.out _ (some ⟨g, a, none⟩) (0) (c - a) ((xs.drop a).flatMap strC) rfl (HR2.out _ ⟨p2, rfl⟩) (strs_one _) (by simp only [maxLen]; omega) (by omega) (size_xt w p2) ?_; clear hi0 hz0 hz1 hz2; intro v3 w3 hown1 hg1 hat1; have HO3 := hide hown1; have hx1 : IsX w w3 := IsX.grown ⟨p2, rfl⟩ hg1 (by intro z hz; exact (HO2.out.lt z hz).1); clear hown1 hg1 hat1; obtain ⟨p3, rfl⟩ := hx1)
        go_ret
        have HL := hide (show (putS xs x).length = a + 1 by rw [HP.out]; simp; have := HN.out; omega)
        have h := HO3.out
        rw [show a + 1 + (0) = a + 1 by omega] at h
        obtain ⟨g', c', hform, hcap'⟩ := row_formS h
        subst hform
        refine ⟨g', c', by rw [HL.out]; rfl, by rw [HL.out]; exact hcap', ?_, ⟨p3, rfl⟩⟩
        rw [HL.out, HP.out, List.flatMap_append, List.flatMap_cons]
        rw [List.append_assoc] at h
        exact row_le h hb
theorem c_insS0 (A : Option Addr) (c : Nat) (w : World) : Calls Try.prog 46 #[.slice A 0 c, .int .i64 0, .int .i64 0] w fun e w' => e = .returned (.tuple #[]) ∧ w = w' := by
  go_enter Try.func46, Try.ntmps46
  go_wp2_with fail
  go_loopw [6] (fun iv wr => iv = .int .i64 1 ∧ w = wr) (fun _ _ => 0)
  case atStart => exact ⟨rfl, rfl⟩
  case round =>
    obtain ⟨rfl, rfl⟩ := hrel
    go_wp2_with fail
    go_end0
    exact ⟨rfl, rfl⟩
theorem c_pdqS0 (A : Option Addr) (c : Nat) (l : Int) (w : World) : Calls Try.prog 33 #[.slice A 0 c, .int .i64 0, .int .i64 0, .int .i64 l] w fun e w' => e = .returned (.tuple #[]) ∧ w = w' := by
  go_enter Try.func33, Try.ntmps33
  go_wp2_with fail
  refine wp_loop_rounds 1 ?_
  rw [rounds_succ]
  go_wp2_with (go_at_call 46; refine (c_insS0 A c _).mono ?_; rintro e w1 ⟨rfl, rfl⟩)
  (try simp only [Exit.inBlock, Exit.then]); refine bodyPost_ret (results_none rfl _ _ _) rfl ?_
  exact ⟨rfl, rfl⟩
theorem c_SortS0 (A : Option Addr) (c : Nat) (w : World) : Calls Try.prog 21 #[.slice A 0 c] w fun e w' => e = .returned (.tuple #[]) ∧ w = w' := by
  go_enter Try.func21, Try.ntmps21
  go_wp2_with fail
  refine (Try.bits_Len 0 w (by omega) (by omega)).mono ?_
  rintro e w1 ⟨rfl, rfl⟩
  go_wp2_with fail
  refine (c_pdqS0 A c _ _).mono ?_
  rintro e w1 ⟨rfl, rfl⟩
  go_wp2_with fail
  go_end0
  exact ⟨rfl, rfl⟩

def whoRs (xs : List RunD) : List ByteArray := (openRs xs).map (fun r => r.Who)
def whoZ (xs : List RunD) : List ByteArray := if runsB xs = true then (whoRs xs).foldl putS [] else []
theorem who_len {xs : List RunD} (h : runsB xs = true) : (openRs xs).length ≤ 128 := by
  obtain ⟨h1, h2⟩ := runs_bd h
  have := openRs_len xs h2
  omega
theorem whoZ_len (xs : List RunD) : (whoZ xs).length ≤ 1099511627776 := by
  unfold whoZ
  split
  · rename_i h
    have h1 := foldS_len (whoRs xs) []
    have h2 := who_len h
    have h3 : (whoRs xs).length = (openRs xs).length := by simp [whoRs]
    simp only [List.length_nil] at h1
    omega
  · simp
theorem flat_str (zs : List ByteArray) : zs.flatMap strC = (zs.map keyB).map encStr := by
  induction zs with
  | nil => rfl
  | cons z zs ih => simp only [List.flatMap_cons, List.map_cons, ih]; cases z; rfl
theorem row_take {w : World} {base e n m cap : Nat} {A : Option Addr} {L : List Value} (h : w.ownsRow base e 1 (.slice A n cap) n L) (hm : m ≤ n) (hA : A ≠ none) : w.ownsRow base e 1 (.slice A m cap) m (L.take m) := by
  refine ⟨by rw [List.length_take, h.1]; omega, ?_⟩
  rcases h.2 with ⟨h2, _⟩ | ⟨g, c2, cur, hv, hb, hh, h1, h2, h3, h4⟩
  · injection h2 with e _ _; exact absurd e hA
  · injection hv with e1 e2 e3
    subst e1 e3
    refine .inr ⟨g, cap, cur, rfl, hb, hh, by omega, h2, h3, ?_⟩
    rw [← h4, List.take_take, Nat.mul_one, Nat.mul_one, Nat.min_eq_left hm]
/-- the sort and the compaction of a row of the call's own -/
theorem c_SortS (w0 : World) (A : Option Addr) (n c : Nat) (zs : List ByteArray) (base : Nat) (w : World) (hnn : n = zs.length) (hO : w.ownsRow base 9 1 (.slice A n c) n (zs.flatMap strC)) (hx : IsX w0 w) (hb : w0.heap.size ≤ base) (hn : n ≤ 1048576) :
    Calls Try.prog 21 #[.slice A n c] w fun e w' => e = .returned (.tuple #[]) ∧ w'.ownsRow base 9 1 (.slice A n c) n ((sortB (zs.map keyB)).map encStr) ∧ IsX w0 w' := by
  have hsl : (sortB (zs.map keyB)).length = n := by rw [(sortB_perm _).length_eq, List.length_map, hnn]
  rcases hO.2 with ⟨h1, h0⟩ | ⟨g, cap, cur, hv, hg, hh, h1, h2, h3, h4⟩
  · subst h0
    refine (c_SortS0 A c w).mono ?_
    rintro e w1 ⟨rfl, rfl⟩
    rw [List.eq_nil_of_length_eq_zero hsl]
    rw [List.eq_nil_of_length_eq_zero hnn.symm] at hO
    exact ⟨rfl, hO, hx⟩
  · injection hv with hA _ hc
    subst hA
    subst hc
    have hkl : (zs.map keyB).length = n := by rw [List.length_map, hnn]
    rw [flat_str, Nat.mul_one, ← hkl] at h4
    have key := Try.slices_Sort_string g 0 c (zs.map keyB) w (holds_of_block hh h4) (Array.getElem?_eq_some_iff.1 hh).1 (by omega)
    rw [hkl] at key
    refine key.mono ?_
    rintro e w1 ⟨rfl, k, os, rfl⟩
    refine ⟨rfl, ?_, hx.grown (row := some g) (grownBy_sorted _) (by intro z hz; injection hz with hz; omega)⟩
    have := ownsRow_sorted (w := w) (n := k) (os := os) (ss := zs.map keyB) (ts := sortB (zs.map keyB)) (by rw [hsl, hkl]) hg hh (by omega) h2 h3
    rw [hkl] at this
    exact this
theorem c_CompactS (w0 : World) (A : Option Addr) (n c : Nat) (ks : List (List UInt8)) (base : Nat) (w : World) (hnn : n = ks.length) (hO : w.ownsRow base 9 1 (.slice A n c) n (ks.map encStr)) (hx : IsX w0 w) (hb : w0.heap.size ≤ base) (hn : n ≤ 1048576) :
    Calls Try.prog 22 #[.slice A n c] w fun e w' => e = .returned (.slice A (Lib.compact ks).length c) ∧ w'.ownsRow base 9 1 (.slice A (Lib.compact ks).length c) (Lib.compact ks).length ((Lib.compact ks).map encStr) ∧ IsX w0 w' := by
  have hcl := Lib.compact_length_le ks
  rcases hO.2 with ⟨h1, h0⟩ | ⟨g, cap, cur, hv, hg, hh, h1, h2, h3, h4⟩
  · subst h0
    have hk := List.eq_nil_of_length_eq_zero hnn.symm
    subst hk
    have hce : Lib.compact ([] : List (List UInt8)) = [] := List.eq_nil_of_length_eq_zero (by simpa using hcl)
    refine (Try.slices_Compact_string_empty A c w).mono ?_
    rintro e w1 ⟨rfl, rfl⟩
    rw [hce]
    exact ⟨rfl, hO, hx⟩
  · injection hv with hA _ hc
    subst hA
    subst hc
    rw [Nat.mul_one, hnn] at h4
    have key := Try.slices_Compact_string g 0 c ks w (holds_of_block hh h4) (by omega) (by omega)
    rw [← hnn] at key
    refine key.mono ?_
    rintro e w1 ⟨rfl, q, rfl⟩
    obtain ⟨ts, hts⟩ : ∃ ts, ts = Lib.compact ks ++ List.replicate (n - (Lib.compact ks).length) [] := ⟨_, rfl⟩
    have htl : ts.length = ks.length := by rw [hts]; simp; omega
    have hrow := ownsRow_sorted (w := w) (n := q) (os := #[]) (ss := ks) (ts := ts) htl hg hh (by omega) h2 h3
    have hgr := grownBy_sorted (w := w) (g := g) (n := q) (os := #[]) ts.toArray
    rw [grow_empty] at hrow hgr
    rw [← hnn] at hrow
    rw [← hts]
    refine ⟨rfl, ?_, hx.grown hgr (by intro z hz; injection hz with hz; omega)⟩
    have := row_take hrow (m := (Lib.compact ks).length) (by omega) (by simp)
    have htk : (ts.map encStr).take (Lib.compact ks).length = (Lib.compact ks).map encStr := by rw [hts, List.map_append, List.take_left' (by simp)]
    rw [htk] at this
    exact this

set_option maxRecDepth 100000 in
set_option maxHeartbeats 3200000 in
theorem i_WhoMustCome (A0 : Option Addr) (c0 : Nat) (xs0 : List RunD) (w : World) (hn0 : xs0.length ≤ 1099511627776) (hw0 : ∀ x ∈ xs0, x.wf) (hs0 : ∀ x ∈ xs0, x.small 1099511627776) (hA0 : RdRun 0 w A0 xs0) :
    Calls Try.prog 8 #[.slice A0 xs0.length c0] w (SlPost strC 1 9 w (whoZ xs0) (openC xs0)) := by
  cases hv : runsB xs0
  · have HZ := hide (show whoZ xs0 = [] by simp [whoZ, hv])
    have HC := hide (show openC xs0 = 1 by simp [openC, hv])
    go_enter Try.func8, Try.ntmps8
    go_wp2_with fail
    refine (cb (c_ValidRuns A0 c0 xs0 w hn0 hw0 hs0 hA0) hv).mono ?_
    rintro e w1 ⟨rfl, hx⟩
    go_wp2_with fail
    go_ret2
    exact SlPost.none HZ.out (by rw [HC.out]; rfl) hx
  have HZ := hide (show whoZ xs0 = (whoRs xs0).foldl putS [] by simp [whoZ, hv])
  have HC := hide (show openC xs0 = 0 by simp [openC, hv])
  have HV := hide hv
  have hol := who_len hv
  have HI := hide (info_parts String_info)
  go_enter Try.func8, Try.ntmps8
  go_wp2_with fail
  refine (cb (c_ValidRuns A0 c0 xs0 w hn0 hw0 hs0 hA0) hv).mono ?_
  rintro e w1 ⟨rfl, hx⟩
  go_wp2_with fail
  refine (c_openRemarks A0 c0 xs0 w1 HV.out (hA0.x hx)).mono ?_
  rintro e w2 ⟨A, c, rfl, hO, hx2⟩
  have HX := hide (hx.trans hx2)
  obtain ⟨rs, hrs⟩ : ∃ rs, rs = openRs xs0 := ⟨_, rfl⟩
  have HRS := hide hrs
  rw [← hrs] at hO hol ⊢
  have HRD := hide (Own.rd (by omega) RemarkD.cells_len hO rfl)
  obtain ⟨n, hnn⟩ : ∃ n, n = rs.length := ⟨_, rfl⟩
  have HN := hide hnn
  rw [← hnn] at hol ⊢
  have hw2 := HX.out.size
  clear hrs hnn hO hv hw0 hs0 hA0 hx hx2
  go_wp2_with fail
  have HO : Hid (w2.ownsRow w2.heap.size 9 1 (.slice none 0 0) 0 []) := hide (World.ownsRow_nil _ _ _ _)
  go_loopw [4, 13] (fun ov iv wr => ∃ q : Nat, q ≤ n ∧ iv = .int .i64 q ∧ Hid (wr.ownsRow w2.heap.size 9 1 ov q (((whoRs xs0).take q).flatMap strC)) ∧ IsX w2 wr) (fun _ iv _ => n - (intOf iv).toNat)
  case atStart => exact ⟨0, Nat.zero_le _, rfl, HO, IsX.refl w2⟩
  case round =>
    clear HO
    obtain ⟨q, hq, rfl, HO, p, rfl⟩ := hrel
    by_cases hlt : q < n
    · skip
      have hqx : q < rs.length := HN.out ▸ hlt
      obtain ⟨b, off, e0, hb, d0, d1, d2, d3⟩ := RemarkD.rd HRD.out (show rs[q]? = some rs[q] from List.getElem?_eq_getElem _)
      obtain ⟨y, hy⟩ : ∃ y, y = rs[q].Who := ⟨_, rfl⟩
      rw [← hy] at d1
      have HSU := hide (show (whoRs xs0).take (q + 1) = (whoRs xs0).take q ++ [y] from by
        have hql : q < (whoRs xs0).length := by rw [whoRs, List.length_map, ← HRS.out]; exact hqx
        have hyq : (whoRs xs0)[q] = y := by
          simp only [whoRs, List.getElem_map, hy]
          congr 1
          have := HRS.out
          subst this
          rfl
        rw [List.take_succ_eq_append_getElem hql, hyq])
      obtain ⟨nu, hnu⟩ : ∃ s, s = rs[q].Number := ⟨_, rfl⟩
      obtain ⟨cu, hcu⟩ : ∃ s, s = rs[q].Cue := ⟨_, rfl⟩
      obtain ⟨dn, hdn⟩ : ∃ s, s = rs[q].Done := ⟨_, rfl⟩
      rw [← hnu] at d0
      rw [← hcu] at d2
      rw [← hdn] at d3
      subst e0
      clear hy hnu hcu hdn
      go_wp2_with (at_builtin; obtain ⟨i0, hi0, hz0, hz1, hz2⟩ := HI.out; refine wpList_append_any _ rfl (.tmp 17) (.tmp 20) _ rfl w2.heap.size 9 i0 _ 1 16 Try.underlying26 hi0 hz0 hz1 hz2 rfl (by omega) _ q ((((whoRs xs0).take q)).flatMap strC) rfl ((HO.out.alloc _).alloc _) _ (some ⟨(xt w2 p).heap.size + 1, 0, none⟩) 1 1 [Value.string y] rfl (pair_reads (xt w2 p) _ _ _) (str_oneW y) (by simp only [maxLen]; omega) (by omega) (by have := size_xt w2 p; simp; omega) ?_; clear hi0 hz0 hz1 hz2; intro v1 w3 hown1 hg1 hat1; have HO1 := hide hown1; have hx1 : IsX w2 w3 := IsX.grown ((IsX.alloc (w' := xt w2 p) ⟨p, rfl⟩ _).alloc _) hg1 (by intro z hz; exact (HO.out.lt z hz).1); clear hown1 hg1 hat1; obtain ⟨p1, rfl⟩ := hx1)
      go_roundw
      case rel => exact ⟨q + 1, by omega, by go_num, hide (by rw [HSU.out, List.flatMap_append]; exact HO1.out), ⟨p1, rfl⟩⟩
      case measure => simp [intOf]; omega
    · obtain rfl : q = n := by omega
      have hT : (whoRs xs0).take q = whoRs xs0 := List.take_of_length_le (by rw [whoRs, List.length_map, ← HRS.out, ← HN.out]; exact Nat.le_refl _)
      rw [hT] at HO
      clear hT
      obtain ⟨Ao, co, hform⟩ := row_slice HO.out
      subst hform
      have HWL := hide (show q = (whoRs xs0).length by rw [whoRs, List.length_map, ← HRS.out]; exact HN.out)
      go_wp2_with fail
      refine (c_SortS w2 Ao q co (whoRs xs0) w2.heap.size (xt w2 p) HWL.out HO.out ⟨p, rfl⟩ (Nat.le_refl _) (by omega)).mono ?_
      rintro e w5 ⟨rfl, hO5, hx5⟩
      have HO5 := hide hO5
      have HX5 := hide hx5
      clear hO5 hx5
      go_wp2_with fail
      refine (c_CompactS w2 Ao q co (sortB ((whoRs xs0).map keyB)) w2.heap.size w5 (by rw [(sortB_perm _).length_eq, List.length_map]; exact HWL.out) HO5.out HX5.out (Nat.le_refl _) (by omega)).mono ?_
      rintro e w6 ⟨rfl, hO6, hx6⟩
      have HO6 := hide hO6
      have HX6 := hide hx6
      have HWS := hide (show Lib.compact (sortB ((whoRs xs0).map keyB)) = (whoZ xs0).map keyB by rw [HZ.out]; exact who_same _)
      clear hO6 hx6
      obtain ⟨m, hm⟩ : ∃ m, m = (Lib.compact (sortB ((whoRs xs0).map keyB))).length := ⟨_, rfl⟩
      have HM := hide hm
      rw [← hm] at HO6 ⊢
      clear hm
      go_wp2_with fail
      go_ret2
      have HML := hide (show m = (whoZ xs0).length by rw [HM.out, HWS.out, List.length_map])
      refine ⟨Ao, co, by rw [HC.out, ← HML.out]; rfl, ?_, HX.out.trans HX6.out⟩
      have h := HO6.out
      rw [HWS.out, ← flat_str, HML.out] at h
      exact row_le h hw2

end Go.Proofs.Ytegehdhdlljikaa
