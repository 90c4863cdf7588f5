/- slices.Insert of one offer into a row of the call's own: the contract. Conditions: at most 15 offers. -/
import Derived.Test.YthahbdpholpmkaaAddInsert
namespace Go.Proofs.Ythahbdpholpmkaa
set_option linter.unusedVariables false
open Go.RowKit

theorem ins_list {cs vs : List Value} {cur : Array Value} {n k : Nat} (hk : k ≤ n) (hcl : cs.length = n * 5) (hvl : vs.length = 5) (hs : (n + 1) * 5 ≤ cur.size)
    (h1 : ∀ j, j < k * 5 → cur[j]? = cs[j]?) (h2 : ∀ j u, vs[j]? = some u → cur[k * 5 + j]? = some u) (h3 : ∀ j u, (cs.drop (k * 5))[j]? = some u → cur[(k + 1) * 5 + j]? = some u) :
    cur.toList.take ((n + 1) * 5) = cs.take (k * 5) ++ (vs ++ cs.drop (k * 5)) := by
  have hlt : (cs.take (k * 5)).length = k * 5 := by rw [List.length_take]; omega
  have hld : (cs.drop (k * 5)).length = n * 5 - k * 5 := by rw [List.length_drop]; omega
  apply List.ext_getElem?
  intro j
  rw [List.getElem?_take]
  by_cases hj : j < (n + 1) * 5
  · rw [if_pos hj, Array.getElem?_toList]
    by_cases ha : j < k * 5
    · rw [List.getElem?_append_left (by omega), List.getElem?_take, if_pos ha, h1 j ha]
    · rw [List.getElem?_append_right (by omega), hlt]
      by_cases hb : j - k * 5 < 5
      · rw [List.getElem?_append_left (by omega), List.getElem?_eq_getElem (by omega)]
        have := h2 (j - k * 5) _ (List.getElem?_eq_getElem (by omega))
        rw [show k * 5 + (j - k * 5) = j by omega] at this
        exact this
      · rw [List.getElem?_append_right (by omega), hvl, List.getElem?_eq_getElem (by omega)]
        have := h3 (j - k * 5 - 5) _ (List.getElem?_eq_getElem (by omega))
        rw [show (k + 1) * 5 + (j - k * 5 - 5) = j by omega] at this
        exact this
  · rw [if_neg hj, List.getElem?_eq_none (by simp only [List.length_append]; omega)]
theorem ins_flat (xs : List OfferD) (x : OfferD) {k : Nat} (hk : k ≤ xs.length) : (xs.take k ++ [x] ++ xs.drop k).flatMap OfferD.cells = (xs.flatMap OfferD.cells).take (k * 5) ++ (x.cells ++ (xs.flatMap OfferD.cells).drop (k * 5)) := by
  have e : xs.flatMap OfferD.cells = (xs.take k).flatMap OfferD.cells ++ (xs.drop k).flatMap OfferD.cells := by rw [← List.flatMap_append, List.take_append_drop]
  have hl : ((xs.take k).flatMap OfferD.cells).length = k * 5 := by rw [flat_len OfferD.cells_len, List.length_take, Nat.min_eq_left hk]
  rw [e, List.take_left' hl, List.drop_left' hl, List.flatMap_append, List.flatMap_append, List.append_assoc]
  simp
/-- the two copies of the roads, in either order, fill the row -/
theorem own_ins {w w' : World} {base g cap n k : Nat} {cs vs : List Value} {cur : Array Value} (hb : base ≤ g) (hB : Blk w g 76 cur) (hsz : cur.size = cap * 5) (hcap : n + 1 ≤ cap) (hmax : cap ≤ maxLen) (hk : k ≤ n) (hcl : cs.length = n * 5) (hvl : vs.length = 5)
    (hp : ∀ j, j < k * 5 → cur[j]? = cs[j]?)
    (hw : w' = (w.setCells g (k * 5) vs).drew.setCells g ((k + 1) * 5) (cs.drop (k * 5)) ∨ w' = (w.setCells g ((k + 1) * 5) (cs.drop (k * 5))).setCells g (k * 5) vs) :
    w'.ownsRow base 76 5 (.slice (some ⟨g, 0, none⟩) (n + 1) cap) (n + 1) (cs.take (k * 5) ++ (vs ++ cs.drop (k * 5))) := by
  have hld : (cs.drop (k * 5)).length = n * 5 - k * 5 := by rw [List.length_drop]; omega
  have key : ∃ cur', Blk w' g 76 cur' ∧ cur'.size = cur.size ∧ (∀ j, j < k * 5 → cur'[j]? = cs[j]?) ∧ (∀ j u, vs[j]? = some u → cur'[k * 5 + j]? = some u) ∧ (∀ j u, (cs.drop (k * 5))[j]? = some u → cur'[(k + 1) * 5 + j]? = some u) := by
    rcases hw with rfl | rfl
    · rw [set_put, set_put]
      obtain ⟨c1, b1, s1, l1, m1, r1⟩ := putAll_blk g 76 vs (k * 5) w cur hB (by omega)
      obtain ⟨c2, b2, s2, l2, m2, r2⟩ := putAll_blk g 76 (cs.drop (k * 5)) ((k + 1) * 5) _ c1 (b1.x (IsX.drew (IsX.refl _))) (by omega)
      refine ⟨c2, b2, by omega, fun j hj => by rw [l2 j (by omega), l1 j hj, hp j hj], fun j u hu => ?_, m2⟩
      have hj : j < vs.length := (List.getElem?_eq_some_iff.1 hu).1
      rw [l2 _ (by omega)]; exact m1 j u hu
    · rw [set_put, set_put]
      obtain ⟨c1, b1, s1, l1, m1, r1⟩ := putAll_blk g 76 (cs.drop (k * 5)) ((k + 1) * 5) w cur hB (by omega)
      obtain ⟨c2, b2, s2, l2, m2, r2⟩ := putAll_blk g 76 vs (k * 5) _ c1 b1 (by omega)
      refine ⟨c2, b2, by omega, fun j hj => by rw [l2 j hj, l1 j (by omega), hp j hj], m2, fun j u hu => ?_⟩
      rw [r2 _ (by omega)]; exact m1 j u hu
  obtain ⟨cur', hB', hs', h1, h2, h3⟩ := key
  refine ⟨by simp only [List.length_append, List.length_take, hld]; omega, .inr ⟨g, cap, cur', rfl, hb, hB', hcap, hmax, by omega, ?_⟩⟩
  exact ins_list hk hcl hvl (by omega) h1 h2 h3
set_option maxRecDepth 100000 in
set_option maxHeartbeats 3200000 in
theorem c_InsertOffer (w0 : World) (A : Option Addr) (n c k vb base : Nat) (xs : List OfferD) (x : OfferD) (w : World) (hnn : n = xs.length) (hO : w.ownsRow base 76 5 (.slice A n c) n (xs.flatMap OfferD.cells)) (hb0 : w0.heap.size ≤ base) (hbw : base ≤ w.heap.size) (hx : IsX w0 w) (hn : n ≤ 15) (hk : k ≤ n)
    (hV : Blk w vb 76 x.cells.toArray) (hvb : ∀ g, A = some ⟨g, 0, none⟩ → vb ≠ g) :
    Calls Try.prog 111 #[.slice A n c, .int .i64 (k : Int), .slice (some ⟨vb, 0, none⟩) 1 1] w fun e w' => ∃ A' c', e = .returned (.slice A' (n + 1) c') ∧ w'.ownsRow base 76 5 (.slice A' (n + 1) c') (n + 1) ((xs.take k ++ [x] ++ xs.drop k).flatMap OfferD.cells) ∧ IsX w0 w' := by
  by_cases hkn : k = n
  · subst hkn
    have HI := hide (info_parts Offer_info)
    have HF := hide (show (xs.take k ++ [x] ++ xs.drop k).flatMap OfferD.cells = xs.flatMap OfferD.cells ++ x.cells by
      rw [hnn, List.take_length, List.drop_length, List.append_nil, List.flatMap_append]; simp)
    have hR : Reads w w.heap.size 5 (some ⟨vb, 0, none⟩) 1 x.cells := by
      have h := Rd.reads (cells := OfferD.cells) (xs := [x]) (by omega) OfferD.cells_len (Blk.rd (cells := OfferD.cells) (xs := [x]) (t := 76) OfferD.cells_len (by simpa using hV))
      simpa using h
    have HR := hide hR
    have HO := hide hO
    have HX := hide hx
    have hck : k ≤ c := by
      rcases hO.2 with ⟨hv, h0⟩ | ⟨g, cap, cur, hv, hbg, hh, hle, _⟩
      · omega
      · injection hv with _ _ hc; omega
    have hkk : ((k : Int) == (k : Int)) = true := by simp
    clear hnn hO hR hx hV hvb
    by_cases hc : c = k
    all_goals
      go_enter Try.func111, Try.ntmps111
      go_wp2_with (at_builtin; obtain ⟨i0, hi0, hz0, hz1, hz2⟩ := HI.out; refine wpList_append_any _ rfl (.tmp 23) (.tmp 24) _ rfl base 76 i0 _ 5 56 Try.underlying27 hi0 hz0 hz1 hz2 rfl (by omega) _ k (xs.flatMap OfferD.cells) rfl HO.out _ (some ⟨vb, 0, none⟩) 1 1 x.cells rfl HR.out (fun u hu => offer_one [x] u (by simpa using hu)) (by simp only [maxLen]; omega) (by omega) hbw ?_; clear hi0 hz0 hz1 hz2; intro v1 w1 hown1 hg1 hat1; have HO1 := hide hown1; have HX1 : Hid (IsX w0 w1) := hide (IsX.grown HX.out hg1 (by intro z hz; have := (HO.out.lt z hz).1; omega)); clear hown1 hg1 hat1)
      go_ret
      obtain ⟨A', c', hform⟩ := own_form' HO1.out
      subst hform
      exact ⟨A', c', rfl, by rw [HF.out]; exact HO1.out, HX1.out⟩
  · have hone := offer_one xs
    have honex : ∀ u ∈ x.cells, u.oneCell' = true := fun u hu => offer_one [x] u (by simpa using hu)
    have hcl : (xs.flatMap OfferD.cells).length = n * 5 := by rw [flat_len OfferD.cells_len, ← hnn]
    rcases hO.2 with ⟨_, h0⟩ | ⟨g, cap, cur, hv, hbg, hh, hle, hmax, hcs, htake⟩
    · omega
    injection hv with e1 e2 e3
    subst e1 e3
    have hB : Blk w g 76 cur := hh
    have hvg := hvb g rfl
    have hcur : ∀ j, j < n * 5 → cur[j]? = (xs.flatMap OfferD.cells)[j]? := fun j hj => by rw [← htake, List.getElem?_take, if_pos hj, Array.getElem?_toList]
    have hcells : ∀ j v, (xs.flatMap OfferD.cells)[j]? = some v → w.cell? ⟨g, j, none⟩ = some v := fun j v hj => by
      rw [hB.cell, hcur j (by have := (List.getElem?_eq_some_iff.1 hj).1; omega), hj]
    have hvs : ∀ j v, x.cells[j]? = some v → w.cell? ⟨vb, j, none⟩ = some v := fun j v hj => by rw [hV.cell, List.getElem?_toArray, hj]
    rw [ins_flat xs x (by omega)]
    have hgw := hB.lt
    by_cases hc : c = n
    · subst hc
      refine (c_InsGrow g c k vb (xs.flatMap OfferD.cells) x.cells w (by omega) (by omega) hcl rfl hcells hvs hone honex).mono ?_
      rintro e w' ⟨rfl, rfl⟩
      have hG := grownCap_ge w (c + 1) c 76
      have hG2 := grownCap_le_maxLen w (c + 1) c 76 (by unfold maxLen; omega)
      generalize grownCap w (c + 1) c 76 = G at hG hG2 ⊢
      refine ⟨_, G, rfl, ?_, ?_⟩
      · refine own_ins (w := (w.alloc (.cells _ 76)).drew) (n := c) (k := k) (cap := G) hbw ((Blk.new w 76 _).x (IsX.drew (IsX.refl _))) ?_ hG hG2 hk hcl rfl ?_ (.inl rfl)
        · simp only [Array.size_append, List.size_toArray, List.length_take, hcl]
          simp [Builtin.zeroCells, zOffer, Value.cells]
          omega
        · intro j hj
          rw [Array.getElem?_append_left (by simp only [Array.size_append, List.size_toArray, List.length_take, hcl]; omega), Array.getElem?_append_left (by simp only [List.size_toArray, List.length_take, hcl]; omega), List.getElem?_toArray, List.getElem?_take, if_pos hj]
      · rw [set_put, set_put]
        exact putAll_x _ (by have := hx.size; omega) _ _ _ (IsX.drew (putAll_x _ (by have := hx.size; omega) _ _ _ (IsX.drew (hx.alloc _))))
    · refine (c_InsShift g n c k vb (xs.flatMap OfferD.cells) x.cells w (by omega) (by omega) (by omega) (by unfold maxLen at hmax; omega) hvg hcl rfl hcells
        (fun j hj => by rw [hB.cell, Array.getElem?_eq_getElem (by omega)]; rfl) (fun j _ => hB.frozen j) hvs hone honex 76 76 5 cur.size ?_ ?_ (by omega) (hV.frozen _) (hV.frozen _)).mono ?_
      · have h := hV; unfold Blk at h; simp [World.shape?, h, OfferD.cells]
      · simp [World.shape?, hh]
      rintro e w' ⟨rfl, rfl⟩
      refine ⟨_, c, rfl, own_ins (n := n) (k := k) (cap := c) hbg (hB.x (IsX.drew (IsX.refl _))) hcs (by omega) hmax hk hcl rfl (fun j hj => hcur j (by omega)) (.inr rfl), ?_⟩
      rw [set_put, set_put]
      exact putAll_x _ (by omega) _ _ _ (putAll_x _ (by omega) _ _ _ (IsX.drew hx))

end Go.Proofs.Ythahbdpholpmkaa
