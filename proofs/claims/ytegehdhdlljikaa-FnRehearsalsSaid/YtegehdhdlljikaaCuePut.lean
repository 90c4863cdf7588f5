/- A cue put into its place: l13Put, AddCue of the reference. Conditions: lists no longer than 2^20. -/
import Derived.Test.YtegehdhdlljikaaDrawCue
namespace Go.Proofs.Ytegehdhdlljikaa
set_option linter.unusedVariables false
open Go.RowKit Go.ChangeShapes

/-- the list with a cue in its place -/
def InsAt (xs : List CueD) (x : CueD) (zs : List CueD) : Prop := ∃ k, k ≤ xs.length ∧ zs = xs.take k ++ x :: xs.drop k ∧ (∀ j (h : j < xs.length), k ≤ j → cueLt x xs[j] = true) ∧ ∀ (h : 0 < k) (h2 : k - 1 < xs.length), cueLt x xs[k - 1] = false
theorem cues_oneC (xs : List CueD) : ∀ u ∈ xs.flatMap CueD.cells, u.oneCell' = true := by
  intro u hu
  rw [List.mem_flatMap] at hu
  obtain ⟨x, _, hx⟩ := hu
  simp only [CueD.cells, List.mem_cons, List.not_mem_nil, or_false] at hx
  rcases hx with rfl | rfl | rfl | rfl | rfl | rfl <;> rfl
theorem cue_readsC (w : World) (x : CueD) : Reads (w.alloc (.cells #[.string x.Id, .int .i64 x.Time, .int .i64 x.Length, .string x.Target, .int .i64 x.Action, .int .i64 x.Val] 60)) (w.alloc (.cells #[.string x.Id, .int .i64 x.Time, .int .i64 x.Length, .string x.Target, .int .i64 x.Action, .int .i64 x.Val] 60)).heap.size 6 (some ⟨w.heap.size, 0, none⟩) 1 x.cells := by
  have h := Rd.reads (cells := CueD.cells) (xs := [x]) (by omega) CueD.cells_len (Blk.rd (cells := CueD.cells) (xs := [x]) (t := 60) CueD.cells_len (Blk.new w 60 #[.string x.Id, .int .i64 x.Time, .int .i64 x.Length, .string x.Target, .int .i64 x.Action, .int .i64 x.Val]))
  simpa using h
theorem cue_part {w : World} {g a m : Nat} {xs : List CueD} (h : Rd CueD.cells 6 w (some ⟨g, 0, none⟩) xs) : Rd CueD.cells 6 w (some ⟨g, a * 6, none⟩) ((xs.drop a).take m) := fun i z hi => by
  rw [List.getElem?_take] at hi
  split at hi
  · rw [List.getElem?_drop] at hi
    obtain ⟨b, off, e1, hb, hcc⟩ := h _ z hi
    injection e1 with e1
    injection e1 with e1 e2
    subst e1 e2
    refine ⟨g, a * 6, rfl, hb, fun j u hu => ?_⟩
    have := hcc j u hu
    rw [show 0 + (a + i) * 6 + j = a * 6 + i * 6 + j by omega] at this
    exact this
  · cases hi
set_option maxHeartbeats 6400000 in
set_option maxRecDepth 100000 in
theorem c_l13Put (g n c : Nat) (xs : List CueD) (x : CueD) (w : World) (hnn : n = xs.length) (hn : n ≤ 1048576) (hc : n ≤ c) (hA : Rd CueD.cells 6 w (some ⟨g, 0, none⟩) xs) :
    Calls Try.prog 61 #[.slice (some ⟨g, 0, none⟩) n c, cueV x] w fun e w' => ∃ g' c' zs, e = .returned (.slice (some ⟨g', 0, none⟩) zs.length c') ∧ zs.length ≤ c' ∧ InsAt xs x zs ∧ w'.ownsRow w.heap.size 60 6 (.slice (some ⟨g', 0, none⟩) zs.length c') zs.length (zs.flatMap CueD.cells) ∧ IsX w w' := by
  have HI := hide (info_parts Cue_info)
  have HN := hide hnn
  have HRA := hide hA
  clear hnn hA
  unfold cueV
  go_enter Try.func61, Try.ntmps61
  go_wp2_with fail
  obtain ⟨PB, hPB⟩ : ∃ PB, PB = w.heap.size := ⟨_, rfl⟩
  generalize hw1 : World.alloc w _ = W1
  have HX1 : Hid (IsX w W1) := hide (by rw [← hw1]; exact (IsX.refl w).alloc _)
  have HB1 : Hid (Blk W1 PB 60 #[.string x.Id, .int .i64 x.Time, .int .i64 x.Length, .string x.Target, .int .i64 x.Action, .int .i64 x.Val]) := hide (by rw [← hw1, hPB]; exact Blk.new w 60 _)
  rw [← hPB]
  clear hw1 hPB
  have b0 := HB1.out.cell 0
  have b1 := HB1.out.cell 1
  have b2 := HB1.out.cell 2
  have b3 := HB1.out.cell 3
  have b4 := HB1.out.cell 4
  have b5 := HB1.out.cell 5
  simp at b0 b1 b2 b3 b4 b5
  have lb := HB1.out.lt
  go_loopw [5] (fun av wr => ∃ k : Nat, k ≤ n ∧ av = .int .i64 (k : Int) ∧ Hid (∀ j (h : j < xs.length), k ≤ j → cueLt x xs[j] = true) ∧ IsX W1 wr) (fun av _ => (intOf av).toNat)
  case atStart => exact ⟨n, Nat.le_refl _, rfl, hide (fun j h hk => absurd h (by have := HN.out; omega)), IsX.refl _⟩
  case round =>
    obtain ⟨k, hk, rfl, HF, p, rfl⟩ := hrel
    have HXP := hide (HX1.out.xt p)
    cases k with
    | zero =>
      rw [show (((0 : Nat) : Int)) = 0 from rfl]
      by_cases hn0 : n = 0
      · by_cases hc0 : c = 0
        · subst hn0 hc0
          have HBW := hide (HB1.out.x (w' := xt W1 p) ⟨p, rfl⟩)
          have HRT := hide (show ∀ W, IsX w W → Reads W W.heap.size 6 (some ⟨g, 0, none⟩) (0) ((xs.take (0)).flatMap CueD.cells) from fun W hx => by
            have h := (cue_part (a := 0) (m := 0) (HRA.out.x hx)).reads (by omega) CueD.cells_len
            rw [List.drop_zero, Nat.zero_mul, List.length_take, HN.out.symm, Nat.min_eq_left (by omega)] at h
            exact h)
          have HRD := hide (show ∀ W, IsX w W → Reads W W.heap.size 6 (some ⟨g, 0, none⟩) (0) ((xs.drop (0)).flatMap CueD.cells) from fun W hx => by
            rw [List.drop_of_length_le (by have := HN.out; omega)]; exact Reads.none_)
          go_wp2_with (first | (at_builtin; obtain ⟨i0, hi0, hz0, hz1, hz2⟩ := HI.out; refine wpList_append_any _ rfl (.tmp 20) (.tmp 23) _ rfl w.heap.size 60 i0 _ 6 64 Try.underlying42 hi0 hz0 hz1 hz2 rfl (by omega) (.slice (some ⟨(xt W1 p).heap.size, 0, none⟩) 0 0) (0) ([]) rfl (row_le (World.ownsRow_made (xt W1 p) #[] 0 (Nat.le_refl _) (by simp [maxLen]) rfl) (HXP.out.size)) _ (some ⟨g, 0, none⟩) (0) 0 ((xs.take (0)).flatMap CueD.cells) rfl (HRT.out _ (IsX.alloc HXP.out _)) (cues_oneC _) (by simp only [maxLen]; omega) (by omega) (by have := HXP.out.size; simp; omega) ?_; clear hi0 hz0 hz1 hz2; intro v3 w3 hown1 hg1 hat1; have HO3 := hide hown1; have HX3 : Hid (IsX w w3) := hide (IsX.grown (IsX.alloc HXP.out _) hg1 (by intro z hz; simp [Value.ownBlock] at hz; have := HXP.out.size; omega)); have hB3 := (HBW.out.x (IsX.grown ((IsX.refl _).alloc _) hg1 (by intro z hz; simp [Value.ownBlock] at hz; omega))); have q0 := hB3.cell 0; have q1 := hB3.cell 1; have q2 := hB3.cell 2; have q3 := hB3.cell 3; have q4 := hB3.cell 4; have q5 := hB3.cell 5; simp at q0 q1 q2 q3 q4 q5; have lq := hB3.lt; clear hown1 hg1 hat1 hB3) | (at_builtin; obtain ⟨i0, hi0, hz0, hz1, hz2⟩ := HI.out; refine wpList_append_any _ rfl (.tmp 25) (.tmp 27) _ rfl w.heap.size 60 i0 _ 6 64 Try.underlying42 hi0 hz0 hz1 hz2 rfl (by omega) (v3) (0) ((xs.take (0)).flatMap CueD.cells) rfl ((by have h := HO3.out; simpa using h : World.ownsRow w3 w.heap.size 60 6 v3 (0) ((xs.take (0)).flatMap CueD.cells)).alloc _) _ (some ⟨w3.heap.size, 0, none⟩) 1 1 (x.cells) rfl (cue_readsC w3 x) (fun u hu => cues_oneC [x] u (by simpa using hu)) (by simp only [maxLen]; omega) (by omega) (by have := HX3.out.size; simp; omega) ?_; clear hi0 hz0 hz1 hz2; intro v4 w4 hown1 hg1 hat1; have HO4 := hide hown1; have HX4 : Hid (IsX w w4) := hide (IsX.grown (IsX.alloc HX3.out _) hg1 (by intro z hz; exact (HO3.out.lt z hz).1)); clear hown1 hg1 hat1) | (at_builtin; obtain ⟨i0, hi0, hz0, hz1, hz2⟩ := HI.out; refine wpList_append_any _ rfl (.tmp 29) (.tmp 32) _ rfl w.heap.size 60 i0 _ 6 64 Try.underlying42 hi0 hz0 hz1 hz2 rfl (by omega) (v4) (0 + 1) ((xs.take (0)).flatMap CueD.cells ++ x.cells) rfl (HO4.out) _ (some ⟨g, 0, none⟩) (0) (0) ((xs.drop (0)).flatMap CueD.cells) rfl (HRD.out _ HX4.out) (cues_oneC _) (by simp only [maxLen]; omega) (by omega) (HX4.out.size) ?_; clear hi0 hz0 hz1 hz2; intro v5 w5 hown1 hg1 hat1; have HO5 := hide hown1; have HX5 : Hid (IsX w w5) := hide (IsX.grown (HX4.out) hg1 (by intro z hz; exact (HO4.out.lt z hz).1)); clear hown1 hg1 hat1))
          go_ret
          have HZ := hide (show InsAt xs x (xs.take (0) ++ x :: xs.drop (0)) from ⟨0, by have := HN.out; omega, rfl, HF.out, fun h _ => absurd h (by omega)⟩)
          have HZL := hide (show (xs.take (0) ++ x :: xs.drop (0)).length = 0 + 1 by have := HN.out; rw [List.length_append, List.length_cons, List.length_take, List.length_drop]; omega)
          have h : World.ownsRow w5 w.heap.size 60 6 v5 (0 + 1) ((xs.take (0) ++ x :: xs.drop (0)).flatMap CueD.cells) := by
            have h := HO5.out
            rw [show 0 + 1 + (0) = 0 + 1 by omega] at h
            rw [List.flatMap_append, List.flatMap_cons]
            simpa using h
          obtain ⟨g', c', rfl, hcap⟩ := row_formS h
          exact ⟨g', c', _, by rw [HZL.out]; rfl, by rw [HZL.out]; exact hcap, HZ.out, by rw [HZL.out]; exact h, HX5.out⟩
        · subst hn0
          have hc1 : 0 < c := by omega
          have HBW := hide (HB1.out.x (w' := xt W1 p) ⟨p, rfl⟩)
          have HRT := hide (show ∀ W, IsX w W → Reads W W.heap.size 6 (some ⟨g, 0, none⟩) (0) ((xs.take (0)).flatMap CueD.cells) from fun W hx => by
            have h := (cue_part (a := 0) (m := 0) (HRA.out.x hx)).reads (by omega) CueD.cells_len
            rw [List.drop_zero, Nat.zero_mul, List.length_take, HN.out.symm, Nat.min_eq_left (by omega)] at h
            exact h)
          have HRD := hide (show ∀ W, IsX w W → Reads W W.heap.size 6 (some ⟨g, 0 * 6, none⟩) (0) ((xs.drop (0)).flatMap CueD.cells) from fun W hx => by
            rw [List.drop_of_length_le (by have := HN.out; omega)]; exact Reads.none_)
          go_wp2_with (first | (at_builtin; obtain ⟨i0, hi0, hz0, hz1, hz2⟩ := HI.out; refine wpList_append_any _ rfl (.tmp 20) (.tmp 23) _ rfl w.heap.size 60 i0 _ 6 64 Try.underlying42 hi0 hz0 hz1 hz2 rfl (by omega) (.slice (some ⟨(xt W1 p).heap.size, 0, none⟩) 0 0) (0) ([]) rfl (row_le (World.ownsRow_made (xt W1 p) #[] 0 (Nat.le_refl _) (by simp [maxLen]) rfl) (HXP.out.size)) _ (some ⟨g, 0, none⟩) (0) c ((xs.take (0)).flatMap CueD.cells) rfl (HRT.out _ (IsX.alloc HXP.out _)) (cues_oneC _) (by simp only [maxLen]; omega) (by omega) (by have := HXP.out.size; simp; omega) ?_; clear hi0 hz0 hz1 hz2; intro v3 w3 hown1 hg1 hat1; have HO3 := hide hown1; have HX3 : Hid (IsX w w3) := hide (IsX.grown (IsX.alloc HXP.out _) hg1 (by intro z hz; simp [Value.ownBlock] at hz; have := HXP.out.size; omega)); have hB3 := (HBW.out.x (IsX.grown ((IsX.refl _).alloc _) hg1 (by intro z hz; simp [Value.ownBlock] at hz; omega))); have q0 := hB3.cell 0; have q1 := hB3.cell 1; have q2 := hB3.cell 2; have q3 := hB3.cell 3; have q4 := hB3.cell 4; have q5 := hB3.cell 5; simp at q0 q1 q2 q3 q4 q5; have lq := hB3.lt; clear hown1 hg1 hat1 hB3) | (at_builtin; obtain ⟨i0, hi0, hz0, hz1, hz2⟩ := HI.out; refine wpList_append_any _ rfl (.tmp 25) (.tmp 27) _ rfl w.heap.size 60 i0 _ 6 64 Try.underlying42 hi0 hz0 hz1 hz2 rfl (by omega) (v3) (0) ((xs.take (0)).flatMap CueD.cells) rfl ((by have h := HO3.out; simpa using h : World.ownsRow w3 w.heap.size 60 6 v3 (0) ((xs.take (0)).flatMap CueD.cells)).alloc _) _ (some ⟨w3.heap.size, 0, none⟩) 1 1 (x.cells) rfl (cue_readsC w3 x) (fun u hu => cues_oneC [x] u (by simpa using hu)) (by simp only [maxLen]; omega) (by omega) (by have := HX3.out.size; simp; omega) ?_; clear hi0 hz0 hz1 hz2; intro v4 w4 hown1 hg1 hat1; have HO4 := hide hown1; have HX4 : Hid (IsX w w4) := hide (IsX.grown (IsX.alloc HX3.out _) hg1 (by intro z hz; exact (HO3.out.lt z hz).1)); clear hown1 hg1 hat1) | (at_builtin; obtain ⟨i0, hi0, hz0, hz1, hz2⟩ := HI.out; refine wpList_append_any _ rfl (.tmp 29) (.tmp 32) _ rfl w.heap.size 60 i0 _ 6 64 Try.underlying42 hi0 hz0 hz1 hz2 rfl (by omega) (v4) (0 + 1) ((xs.take (0)).flatMap CueD.cells ++ x.cells) rfl (HO4.out) _ (some ⟨g, 0 * 6, none⟩) (0) (c - 0) ((xs.drop (0)).flatMap CueD.cells) rfl (HRD.out _ HX4.out) (cues_oneC _) (by simp only [maxLen]; omega) (by omega) (HX4.out.size) ?_; clear hi0 hz0 hz1 hz2; intro v5 w5 hown1 hg1 hat1; have HO5 := hide hown1; have HX5 : Hid (IsX w w5) := hide (IsX.grown (HX4.out) hg1 (by intro z hz; exact (HO4.out.lt z hz).1)); clear hown1 hg1 hat1))
          go_ret
          have HZ := hide (show InsAt xs x (xs.take (0) ++ x :: xs.drop (0)) from ⟨0, by have := HN.out; omega, rfl, HF.out, fun h _ => absurd h (by omega)⟩)
          have HZL := hide (show (xs.take (0) ++ x :: xs.drop (0)).length = 0 + 1 by have := HN.out; rw [List.length_append, List.length_cons, List.length_take, List.length_drop]; omega)
          have h : World.ownsRow w5 w.heap.size 60 6 v5 (0 + 1) ((xs.take (0) ++ x :: xs.drop (0)).flatMap CueD.cells) := by
            have h := HO5.out
            rw [show 0 + 1 + (0) = 0 + 1 by omega] at h
            rw [List.flatMap_append, List.flatMap_cons]
            simpa using h
          obtain ⟨g', c', rfl, hcap⟩ := row_formS h
          exact ⟨g', c', _, by rw [HZL.out]; rfl, by rw [HZL.out]; exact hcap, HZ.out, by rw [HZL.out]; exact h, HX5.out⟩
      · have hn1 : 0 < n := by omega
        have HBW := hide (HB1.out.x (w' := xt W1 p) ⟨p, rfl⟩)
        have HRT := hide (show ∀ W, IsX w W → Reads W W.heap.size 6 (some ⟨g, 0, none⟩) (0) ((xs.take (0)).flatMap CueD.cells) from fun W hx => by
          have h := (cue_part (a := 0) (m := 0) (HRA.out.x hx)).reads (by omega) CueD.cells_len
          rw [List.drop_zero, Nat.zero_mul, List.length_take, HN.out.symm, Nat.min_eq_left (by omega)] at h
          exact h)
        have HRD := hide (show ∀ W, IsX w W → Reads W W.heap.size 6 (some ⟨g, 0 * 6, none⟩) (n - 0) ((xs.drop (0)).flatMap CueD.cells) from fun W hx => by
          have h := (cue_part (a := 0) (m := n - (0)) (HRA.out.x hx)).reads (by omega) CueD.cells_len
          have hdl : (xs.drop (0)).take (n - (0)) = xs.drop (0) := List.take_of_length_le (by rw [List.length_drop, ← HN.out]; exact Nat.le_refl _)
          rw [hdl, List.length_drop, ← HN.out] at h
          exact h)
        go_wp2_with (first | (at_builtin; obtain ⟨i0, hi0, hz0, hz1, hz2⟩ := HI.out; refine wpList_append_any _ rfl (.tmp 20) (.tmp 23) _ rfl w.heap.size 60 i0 _ 6 64 Try.underlying42 hi0 hz0 hz1 hz2 rfl (by omega) (.slice (some ⟨(xt W1 p).heap.size, 0, none⟩) 0 0) (0) ([]) rfl (row_le (World.ownsRow_made (xt W1 p) #[] 0 (Nat.le_refl _) (by simp [maxLen]) rfl) (HXP.out.size)) _ (some ⟨g, 0, none⟩) (0) c ((xs.take (0)).flatMap CueD.cells) rfl (HRT.out _ (IsX.alloc HXP.out _)) (cues_oneC _) (by simp only [maxLen]; omega) (by omega) (by have := HXP.out.size; simp; omega) ?_; clear hi0 hz0 hz1 hz2; intro v3 w3 hown1 hg1 hat1; have HO3 := hide hown1; have HX3 : Hid (IsX w w3) := hide (IsX.grown (IsX.alloc HXP.out _) hg1 (by intro z hz; simp [Value.ownBlock] at hz; have := HXP.out.size; omega)); have hB3 := (HBW.out.x (IsX.grown ((IsX.refl _).alloc _) hg1 (by intro z hz; simp [Value.ownBlock] at hz; omega))); have q0 := hB3.cell 0; have q1 := hB3.cell 1; have q2 := hB3.cell 2; have q3 := hB3.cell 3; have q4 := hB3.cell 4; have q5 := hB3.cell 5; simp at q0 q1 q2 q3 q4 q5; have lq := hB3.lt; clear hown1 hg1 hat1 hB3) | (at_builtin; obtain ⟨i0, hi0, hz0, hz1, hz2⟩ := HI.out; refine wpList_append_any _ rfl (.tmp 25) (.tmp 27) _ rfl w.heap.size 60 i0 _ 6 64 Try.underlying42 hi0 hz0 hz1 hz2 rfl (by omega) (v3) (0) ((xs.take (0)).flatMap CueD.cells) rfl ((by have h := HO3.out; simpa using h : World.ownsRow w3 w.heap.size 60 6 v3 (0) ((xs.take (0)).flatMap CueD.cells)).alloc _) _ (some ⟨w3.heap.size, 0, none⟩) 1 1 (x.cells) rfl (cue_readsC w3 x) (fun u hu => cues_oneC [x] u (by simpa using hu)) (by simp only [maxLen]; omega) (by omega) (by have := HX3.out.size; simp; omega) ?_; clear hi0 hz0 hz1 hz2; intro v4 w4 hown1 hg1 hat1; have HO4 := hide hown1; have HX4 : Hid (IsX w w4) := hide (IsX.grown (IsX.alloc HX3.out _) hg1 (by intro z hz; exact (HO3.out.lt z hz).1)); clear hown1 hg1 hat1) | (at_builtin; obtain ⟨i0, hi0, hz0, hz1, hz2⟩ := HI.out; refine wpList_append_any _ rfl (.tmp 29) (.tmp 32) _ rfl w.heap.size 60 i0 _ 6 64 Try.underlying42 hi0 hz0 hz1 hz2 rfl (by omega) (v4) (0 + 1) ((xs.take (0)).flatMap CueD.cells ++ x.cells) rfl (HO4.out) _ (some ⟨g, 0 * 6, none⟩) (n - 0) (c - 0) ((xs.drop (0)).flatMap CueD.cells) rfl (HRD.out _ HX4.out) (cues_oneC _) (by simp only [maxLen]; omega) (by omega) (HX4.out.size) ?_; clear hi0 hz0 hz1 hz2; intro v5 w5 hown1 hg1 hat1; have HO5 := hide hown1; have HX5 : Hid (IsX w w5) := hide (IsX.grown (HX4.out) hg1 (by intro z hz; exact (HO4.out.lt z hz).1)); clear hown1 hg1 hat1))
        go_ret
        have HZ := hide (show InsAt xs x (xs.take (0) ++ x :: xs.drop (0)) from ⟨0, by have := HN.out; omega, rfl, HF.out, fun h _ => absurd h (by omega)⟩)
        have HZL := hide (show (xs.take (0) ++ x :: xs.drop (0)).length = n + 1 by have := HN.out; rw [List.length_append, List.length_cons, List.length_take, List.length_drop]; omega)
        have h : World.ownsRow w5 w.heap.size 60 6 v5 (n + 1) ((xs.take (0) ++ x :: xs.drop (0)).flatMap CueD.cells) := by
          have h := HO5.out
          rw [show 0 + 1 + (n - 0) = n + 1 by omega] at h
          rw [List.flatMap_append, List.flatMap_cons]
          simpa using h
        obtain ⟨g', c', rfl, hcap⟩ := row_formS h
        exact ⟨g', c', _, by rw [HZL.out]; rfl, by rw [HZL.out]; exact hcap, HZ.out, by rw [HZL.out]; exact h, HX5.out⟩
    | succ j =>
      have hjx : j < xs.length := by have := HN.out; omega
      obtain ⟨b', off', e0, hb', d0, d1, d2, d3, d4, d5⟩ := CueD.rd HRA.out (show xs[j]? = some xs[j] from List.getElem?_eq_getElem _)
      injection e0 with e0
      injection e0 with e0 e1
      subst e0 e1
      simp only [Nat.zero_add] at d0 d1
      have HBF := hide (fun (V : World) (hV : IsX W1 V) => c_l13Before x xs[j] PB 0 g (j * 6) V (Nat.lt_of_lt_of_le lb hV.size) (Nat.lt_of_lt_of_le hb' (HX1.out.trans hV).size) (keep hV lb b0) (keep hV lb b1) (keep (HX1.out.trans hV) hb' d0) (keep (HX1.out.trans hV) hb' d1))
      clear d0 d1 d2 d3 d4 d5
      have hi1 : (0 : Int) ≤ (j : Int) := by omega
      have hi2 : (j : Int) < (n : Int) := by omega
      have hjn : j < n := by omega
      cases hl : cueLt x xs[j]
      · have HL := hide hl
        go_wp2_with fail
        refine (cb (HBF.out _ ⟨p, rfl⟩) hl).mono ?_
        rintro e w2 ⟨rfl, hx2⟩
        have HX2 := hide (HXP.out.trans hx2)
        have HB2 := hide ((HB1.out.x (w' := xt W1 p) ⟨p, rfl⟩).x hx2)
        clear hx2 b0 b1 b2 b3 b4 b5 lb hl HBF
        have b0 := HB2.out.cell 0
        have b1 := HB2.out.cell 1
        have b2 := HB2.out.cell 2
        have b3 := HB2.out.cell 3
        have b4 := HB2.out.cell 4
        have b5 := HB2.out.cell 5
        simp at b0 b1 b2 b3 b4 b5
        have lb := HB2.out.lt
        by_cases hjn2 : j + 1 < n
        · skip
          have HBW := HB2
          have HRT := hide (show ∀ W, IsX w W → Reads W W.heap.size 6 (some ⟨g, 0, none⟩) ((j + 1)) ((xs.take ((j + 1))).flatMap CueD.cells) from fun W hx => by
            have h := (cue_part (a := 0) (m := (j + 1)) (HRA.out.x hx)).reads (by omega) CueD.cells_len
            rw [List.drop_zero, Nat.zero_mul, List.length_take, HN.out.symm, Nat.min_eq_left (by omega)] at h
            exact h)
          have HRD := hide (show ∀ W, IsX w W → Reads W W.heap.size 6 (some ⟨g, (j + 1) * 6, none⟩) (n - (j + 1)) ((xs.drop ((j + 1))).flatMap CueD.cells) from fun W hx => by
            have h := (cue_part (a := (j + 1)) (m := n - ((j + 1))) (HRA.out.x hx)).reads (by omega) CueD.cells_len
            have hdl : (xs.drop ((j + 1))).take (n - ((j + 1))) = xs.drop ((j + 1)) := List.take_of_length_le (by rw [List.length_drop, ← HN.out]; exact Nat.le_refl _)
            rw [hdl, List.length_drop, ← HN.out] at h
            exact h)
          go_wp2_with (first | (at_builtin; obtain ⟨i0, hi0, hz0, hz1, hz2⟩ := HI.out; refine wpList_append_any _ rfl (.tmp 20) (.tmp 23) _ rfl w.heap.size 60 i0 _ 6 64 Try.underlying42 hi0 hz0 hz1 hz2 rfl (by omega) (.slice (some ⟨w2.heap.size, 0, none⟩) 0 0) (0) ([]) rfl (row_le (World.ownsRow_made w2 #[] 0 (Nat.le_refl _) (by simp [maxLen]) rfl) (HX2.out.size)) _ (some ⟨g, 0, none⟩) ((j + 1)) c ((xs.take ((j + 1))).flatMap CueD.cells) rfl (HRT.out _ (IsX.alloc HX2.out _)) (cues_oneC _) (by simp only [maxLen]; omega) (by omega) (by have := HX2.out.size; simp; omega) ?_; clear hi0 hz0 hz1 hz2; intro v3 w3 hown1 hg1 hat1; have HO3 := hide hown1; have HX3 : Hid (IsX w w3) := hide (IsX.grown (IsX.alloc HX2.out _) hg1 (by intro z hz; simp [Value.ownBlock] at hz; have := HX2.out.size; omega)); have hB3 := (HBW.out.x (IsX.grown ((IsX.refl _).alloc _) hg1 (by intro z hz; simp [Value.ownBlock] at hz; omega))); have q0 := hB3.cell 0; have q1 := hB3.cell 1; have q2 := hB3.cell 2; have q3 := hB3.cell 3; have q4 := hB3.cell 4; have q5 := hB3.cell 5; simp at q0 q1 q2 q3 q4 q5; have lq := hB3.lt; clear hown1 hg1 hat1 hB3) | (at_builtin; obtain ⟨i0, hi0, hz0, hz1, hz2⟩ := HI.out; refine wpList_append_any _ rfl (.tmp 25) (.tmp 27) _ rfl w.heap.size 60 i0 _ 6 64 Try.underlying42 hi0 hz0 hz1 hz2 rfl (by omega) (v3) ((j + 1)) ((xs.take ((j + 1))).flatMap CueD.cells) rfl ((by have h := HO3.out; simpa using h : World.ownsRow w3 w.heap.size 60 6 v3 ((j + 1)) ((xs.take ((j + 1))).flatMap CueD.cells)).alloc _) _ (some ⟨w3.heap.size, 0, none⟩) 1 1 (x.cells) rfl (cue_readsC w3 x) (fun u hu => cues_oneC [x] u (by simpa using hu)) (by simp only [maxLen]; omega) (by omega) (by have := HX3.out.size; simp; omega) ?_; clear hi0 hz0 hz1 hz2; intro v4 w4 hown1 hg1 hat1; have HO4 := hide hown1; have HX4 : Hid (IsX w w4) := hide (IsX.grown (IsX.alloc HX3.out _) hg1 (by intro z hz; exact (HO3.out.lt z hz).1)); clear hown1 hg1 hat1) | (at_builtin; obtain ⟨i0, hi0, hz0, hz1, hz2⟩ := HI.out; refine wpList_append_any _ rfl (.tmp 29) (.tmp 32) _ rfl w.heap.size 60 i0 _ 6 64 Try.underlying42 hi0 hz0 hz1 hz2 rfl (by omega) (v4) ((j + 1) + 1) ((xs.take ((j + 1))).flatMap CueD.cells ++ x.cells) rfl (HO4.out) _ (some ⟨g, (j + 1) * 6, none⟩) (n - (j + 1)) (c - (j + 1)) ((xs.drop ((j + 1))).flatMap CueD.cells) rfl (HRD.out _ HX4.out) (cues_oneC _) (by simp only [maxLen]; omega) (by omega) (HX4.out.size) ?_; clear hi0 hz0 hz1 hz2; intro v5 w5 hown1 hg1 hat1; have HO5 := hide hown1; have HX5 : Hid (IsX w w5) := hide (IsX.grown (HX4.out) hg1 (by intro z hz; exact (HO4.out.lt z hz).1)); clear hown1 hg1 hat1))
          go_ret
          have HZ := hide (show InsAt xs x (xs.take ((j + 1)) ++ x :: xs.drop ((j + 1))) from ⟨(j + 1), by have := HN.out; omega, rfl, HF.out, fun _ _ => HL.out⟩)
          have HZL := hide (show (xs.take ((j + 1)) ++ x :: xs.drop ((j + 1))).length = n + 1 by have := HN.out; rw [List.length_append, List.length_cons, List.length_take, List.length_drop]; omega)
          have h : World.ownsRow w5 w.heap.size 60 6 v5 (n + 1) ((xs.take ((j + 1)) ++ x :: xs.drop ((j + 1))).flatMap CueD.cells) := by
            have h := HO5.out
            rw [show (j + 1) + 1 + (n - (j + 1)) = n + 1 by omega] at h
            rw [List.flatMap_append, List.flatMap_cons]
            simpa using h
          obtain ⟨g', c', rfl, hcap⟩ := row_formS h
          exact ⟨g', c', _, by rw [HZL.out]; rfl, by rw [HZL.out]; exact hcap, HZ.out, by rw [HZL.out]; exact h, HX5.out⟩
        · have hje : j + 1 = n := by omega
          by_cases hcn : c = n
          · subst hcn
            obtain rfl : c = j + 1 := by omega
            have HBW := HB2
            have HRT := hide (show ∀ W, IsX w W → Reads W W.heap.size 6 (some ⟨g, 0, none⟩) ((j + 1)) ((xs.take ((j + 1))).flatMap CueD.cells) from fun W hx => by
              have h := (cue_part (a := 0) (m := (j + 1)) (HRA.out.x hx)).reads (by omega) CueD.cells_len
              rw [List.drop_zero, Nat.zero_mul, List.length_take, HN.out.symm, Nat.min_eq_left (by omega)] at h
              exact h)
            have HRD := hide (show ∀ W, IsX w W → Reads W W.heap.size 6 (some ⟨g, 0, none⟩) (0) ((xs.drop ((j + 1))).flatMap CueD.cells) from fun W hx => by
              rw [List.drop_of_length_le (by have := HN.out; omega)]; exact Reads.none_)
            go_wp2_with (first | (at_builtin; obtain ⟨i0, hi0, hz0, hz1, hz2⟩ := HI.out; refine wpList_append_any _ rfl (.tmp 20) (.tmp 23) _ rfl w.heap.size 60 i0 _ 6 64 Try.underlying42 hi0 hz0 hz1 hz2 rfl (by omega) (.slice (some ⟨w2.heap.size, 0, none⟩) 0 0) (0) ([]) rfl (row_le (World.ownsRow_made w2 #[] 0 (Nat.le_refl _) (by simp [maxLen]) rfl) (HX2.out.size)) _ (some ⟨g, 0, none⟩) ((j + 1)) (j + 1) ((xs.take ((j + 1))).flatMap CueD.cells) rfl (HRT.out _ (IsX.alloc HX2.out _)) (cues_oneC _) (by simp only [maxLen]; omega) (by omega) (by have := HX2.out.size; simp; omega) ?_; clear hi0 hz0 hz1 hz2; intro v3 w3 hown1 hg1 hat1; have HO3 := hide hown1; have HX3 : Hid (IsX w w3) := hide (IsX.grown (IsX.alloc HX2.out _) hg1 (by intro z hz; simp [Value.ownBlock] at hz; have := HX2.out.size; omega)); have hB3 := (HBW.out.x (IsX.grown ((IsX.refl _).alloc _) hg1 (by intro z hz; simp [Value.ownBlock] at hz; omega))); have q0 := hB3.cell 0; have q1 := hB3.cell 1; have q2 := hB3.cell 2; have q3 := hB3.cell 3; have q4 := hB3.cell 4; have q5 := hB3.cell 5; simp at q0 q1 q2 q3 q4 q5; have lq := hB3.lt; clear hown1 hg1 hat1 hB3) | (at_builtin; obtain ⟨i0, hi0, hz0, hz1, hz2⟩ := HI.out; refine wpList_append_any _ rfl (.tmp 25) (.tmp 27) _ rfl w.heap.size 60 i0 _ 6 64 Try.underlying42 hi0 hz0 hz1 hz2 rfl (by omega) (v3) ((j + 1)) ((xs.take ((j + 1))).flatMap CueD.cells) rfl ((by have h := HO3.out; simpa using h : World.ownsRow w3 w.heap.size 60 6 v3 ((j + 1)) ((xs.take ((j + 1))).flatMap CueD.cells)).alloc _) _ (some ⟨w3.heap.size, 0, none⟩) 1 1 (x.cells) rfl (cue_readsC w3 x) (fun u hu => cues_oneC [x] u (by simpa using hu)) (by simp only [maxLen]; omega) (by omega) (by have := HX3.out.size; simp; omega) ?_; clear hi0 hz0 hz1 hz2; intro v4 w4 hown1 hg1 hat1; have HO4 := hide hown1; have HX4 : Hid (IsX w w4) := hide (IsX.grown (IsX.alloc HX3.out _) hg1 (by intro z hz; exact (HO3.out.lt z hz).1)); clear hown1 hg1 hat1) | (at_builtin; obtain ⟨i0, hi0, hz0, hz1, hz2⟩ := HI.out; refine wpList_append_any _ rfl (.tmp 29) (.tmp 32) _ rfl w.heap.size 60 i0 _ 6 64 Try.underlying42 hi0 hz0 hz1 hz2 rfl (by omega) (v4) ((j + 1) + 1) ((xs.take ((j + 1))).flatMap CueD.cells ++ x.cells) rfl (HO4.out) _ (some ⟨g, 0, none⟩) (0) (0) ((xs.drop ((j + 1))).flatMap CueD.cells) rfl (HRD.out _ HX4.out) (cues_oneC _) (by simp only [maxLen]; omega) (by omega) (HX4.out.size) ?_; clear hi0 hz0 hz1 hz2; intro v5 w5 hown1 hg1 hat1; have HO5 := hide hown1; have HX5 : Hid (IsX w w5) := hide (IsX.grown (HX4.out) hg1 (by intro z hz; exact (HO4.out.lt z hz).1)); clear hown1 hg1 hat1))
            go_ret
            have HZ := hide (show InsAt xs x (xs.take ((j + 1)) ++ x :: xs.drop ((j + 1))) from ⟨(j + 1), by have := HN.out; omega, rfl, HF.out, fun _ _ => HL.out⟩)
            have HZL := hide (show (xs.take ((j + 1)) ++ x :: xs.drop ((j + 1))).length = j + 1 + 1 by have := HN.out; rw [List.length_append, List.length_cons, List.length_take, List.length_drop]; omega)
            have h : World.ownsRow w5 w.heap.size 60 6 v5 (j + 1 + 1) ((xs.take ((j + 1)) ++ x :: xs.drop ((j + 1))).flatMap CueD.cells) := by
              have h := HO5.out
              rw [show (j + 1) + 1 + (0) = j + 1 + 1 by omega] at h
              rw [List.flatMap_append, List.flatMap_cons]
              simpa using h
            obtain ⟨g', c', rfl, hcap⟩ := row_formS h
            exact ⟨g', c', _, by rw [HZL.out]; rfl, by rw [HZL.out]; exact hcap, HZ.out, by rw [HZL.out]; exact h, HX5.out⟩
          · have hcn1 : j + 1 < c := by omega
            obtain rfl : n = j + 1 := by omega
            have HBW := HB2
            have HRT := hide (show ∀ W, IsX w W → Reads W W.heap.size 6 (some ⟨g, 0, none⟩) ((j + 1)) ((xs.take ((j + 1))).flatMap CueD.cells) from fun W hx => by
              have h := (cue_part (a := 0) (m := (j + 1)) (HRA.out.x hx)).reads (by omega) CueD.cells_len
              rw [List.drop_zero, Nat.zero_mul, List.length_take, HN.out.symm, Nat.min_eq_left (by omega)] at h
              exact h)
            have HRD := hide (show ∀ W, IsX w W → Reads W W.heap.size 6 (some ⟨g, (j + 1) * 6, none⟩) (0) ((xs.drop ((j + 1))).flatMap CueD.cells) from fun W hx => by
              rw [List.drop_of_length_le (by have := HN.out; omega)]; exact Reads.none_)
            go_wp2_with (first | (at_builtin; obtain ⟨i0, hi0, hz0, hz1, hz2⟩ := HI.out; refine wpList_append_any _ rfl (.tmp 20) (.tmp 23) _ rfl w.heap.size 60 i0 _ 6 64 Try.underlying42 hi0 hz0 hz1 hz2 rfl (by omega) (.slice (some ⟨w2.heap.size, 0, none⟩) 0 0) (0) ([]) rfl (row_le (World.ownsRow_made w2 #[] 0 (Nat.le_refl _) (by simp [maxLen]) rfl) (HX2.out.size)) _ (some ⟨g, 0, none⟩) ((j + 1)) c ((xs.take ((j + 1))).flatMap CueD.cells) rfl (HRT.out _ (IsX.alloc HX2.out _)) (cues_oneC _) (by simp only [maxLen]; omega) (by omega) (by have := HX2.out.size; simp; omega) ?_; clear hi0 hz0 hz1 hz2; intro v3 w3 hown1 hg1 hat1; have HO3 := hide hown1; have HX3 : Hid (IsX w w3) := hide (IsX.grown (IsX.alloc HX2.out _) hg1 (by intro z hz; simp [Value.ownBlock] at hz; have := HX2.out.size; omega)); have hB3 := (HBW.out.x (IsX.grown ((IsX.refl _).alloc _) hg1 (by intro z hz; simp [Value.ownBlock] at hz; omega))); have q0 := hB3.cell 0; have q1 := hB3.cell 1; have q2 := hB3.cell 2; have q3 := hB3.cell 3; have q4 := hB3.cell 4; have q5 := hB3.cell 5; simp at q0 q1 q2 q3 q4 q5; have lq := hB3.lt; clear hown1 hg1 hat1 hB3) | (at_builtin; obtain ⟨i0, hi0, hz0, hz1, hz2⟩ := HI.out; refine wpList_append_any _ rfl (.tmp 25) (.tmp 27) _ rfl w.heap.size 60 i0 _ 6 64 Try.underlying42 hi0 hz0 hz1 hz2 rfl (by omega) (v3) ((j + 1)) ((xs.take ((j + 1))).flatMap CueD.cells) rfl ((by have h := HO3.out; simpa using h : World.ownsRow w3 w.heap.size 60 6 v3 ((j + 1)) ((xs.take ((j + 1))).flatMap CueD.cells)).alloc _) _ (some ⟨w3.heap.size, 0, none⟩) 1 1 (x.cells) rfl (cue_readsC w3 x) (fun u hu => cues_oneC [x] u (by simpa using hu)) (by simp only [maxLen]; omega) (by omega) (by have := HX3.out.size; simp; omega) ?_; clear hi0 hz0 hz1 hz2; intro v4 w4 hown1 hg1 hat1; have HO4 := hide hown1; have HX4 : Hid (IsX w w4) := hide (IsX.grown (IsX.alloc HX3.out _) hg1 (by intro z hz; exact (HO3.out.lt z hz).1)); clear hown1 hg1 hat1) | (at_builtin; obtain ⟨i0, hi0, hz0, hz1, hz2⟩ := HI.out; refine wpList_append_any _ rfl (.tmp 29) (.tmp 32) _ rfl w.heap.size 60 i0 _ 6 64 Try.underlying42 hi0 hz0 hz1 hz2 rfl (by omega) (v4) ((j + 1) + 1) ((xs.take ((j + 1))).flatMap CueD.cells ++ x.cells) rfl (HO4.out) _ (some ⟨g, (j + 1) * 6, none⟩) (0) (c - (j + 1)) ((xs.drop ((j + 1))).flatMap CueD.cells) rfl (HRD.out _ HX4.out) (cues_oneC _) (by simp only [maxLen]; omega) (by omega) (HX4.out.size) ?_; clear hi0 hz0 hz1 hz2; intro v5 w5 hown1 hg1 hat1; have HO5 := hide hown1; have HX5 : Hid (IsX w w5) := hide (IsX.grown (HX4.out) hg1 (by intro z hz; exact (HO4.out.lt z hz).1)); clear hown1 hg1 hat1))
            go_ret
            have HZ := hide (show InsAt xs x (xs.take ((j + 1)) ++ x :: xs.drop ((j + 1))) from ⟨(j + 1), by have := HN.out; omega, rfl, HF.out, fun _ _ => HL.out⟩)
            have HZL := hide (show (xs.take ((j + 1)) ++ x :: xs.drop ((j + 1))).length = j + 1 + 1 by have := HN.out; rw [List.length_append, List.length_cons, List.length_take, List.length_drop]; omega)
            have h : World.ownsRow w5 w.heap.size 60 6 v5 (j + 1 + 1) ((xs.take ((j + 1)) ++ x :: xs.drop ((j + 1))).flatMap CueD.cells) := by
              have h := HO5.out
              rw [show (j + 1) + 1 + (0) = j + 1 + 1 by omega] at h
              rw [List.flatMap_append, List.flatMap_cons]
              simpa using h
            obtain ⟨g', c', rfl, hcap⟩ := row_formS h
            exact ⟨g', c', _, by rw [HZL.out]; rfl, by rw [HZL.out]; exact hcap, HZ.out, by rw [HZL.out]; exact h, HX5.out⟩
      · have HF' := hide (show ∀ i (h : i < xs.length), j ≤ i → cueLt x xs[i] = true from fun i h hji => by
          by_cases e : i = j
          · subst e; exact hl
          · exact HF.out i h (by omega))
        go_wp2_with fail
        refine (cb (HBF.out _ ⟨p, rfl⟩) hl).mono ?_
        rintro e w2 ⟨rfl, hx2⟩
        have HX2 := hide (IsX.trans (w' := xt W1 p) ⟨p, rfl⟩ hx2)
        clear hx2
        go_wp2_with fail
        go_roundw
        case rel => exact ⟨j, by omega, by go_num, HF', HX2.out⟩
        case measure => simp [intOf]
end Go.Proofs.Ytegehdhdlljikaa
