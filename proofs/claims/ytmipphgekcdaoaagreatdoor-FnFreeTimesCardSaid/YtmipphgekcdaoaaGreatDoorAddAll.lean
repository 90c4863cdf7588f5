/- Joined texts: AddLaw, AddInsert, AddIns, AddImpl. Conditions: told in each. -/
import Derived.Test.YtmipphgekcdaoaaGreatDoorDropFns
import Derived.Lib.AppendZerosOnto
import Derived.Lib.Overlaps
import Derived.Shelf.Spec.SlicesInsertGrow
import Derived.Test.YtmipphgekcdaoaaGreatDoorTail
import Derived.Deep.RegionHeld3
/-! AddLaw -/
namespace Go.Proofs.YtmipphgekcdaoaaGreatDoor
set_option linter.unusedVariables false
open Go.RowKit

def lessB (x y : OfferD) : Bool := Op.bytesLess y.Id.toList x.Id.toList
/-- the place of x: the first offer that does not stand before it -/
def addK (xs : List OfferD) (x : OfferD) : Nat := xs.findIdx fun y => !lessB x y
def takenB (xs : List OfferD) (x : OfferD) : Bool := match xs[addK xs x]? with | some y => y.Id.toList == x.Id.toList | none => false
def addOk (xs : List OfferD) (x : OfferD) : Bool := offersB xs && x.okB
def addC (xs : List OfferD) (x : OfferD) : Int := if addOk xs x = true then (if takenB xs x = true then 4 else if xs.length = 16 then 5 else 0) else 1
def addAll (xs : List OfferD) (x : OfferD) : List OfferD := xs.take (addK xs x) ++ [x] ++ xs.drop (addK xs x)
def addZ (xs : List OfferD) (x : OfferD) : List OfferD := if addC xs x = 0 then addAll xs x else []
section
variable {xs : List OfferD} {x : OfferD}
theorem add_bad (h : addOk xs x = false) : addZ xs x = [] ∧ addC xs x = 1 := by simp [addZ, addC, h]
theorem add_taken (h : addOk xs x = true) (ht : takenB xs x = true) : addZ xs x = [] ∧ addC xs x = 4 := by simp [addZ, addC, h, ht]
theorem add_full (h : addOk xs x = true) (ht : takenB xs x = false) (hn : xs.length = 16) : addZ xs x = [] ∧ addC xs x = 5 := by simp [addZ, addC, h, ht, hn]
theorem add_ok (h : addOk xs x = true) (ht : takenB xs x = false) (hn : ¬ xs.length = 16) : addZ xs x = addAll xs x ∧ addC xs x = 0 := by simp [addZ, addC, h, ht, hn]
theorem addK_at {k : Nat} (h : k < xs.length) (hb : ∀ i (h : i < xs.length), i < k → lessB x xs[i] = true) (hk : lessB x xs[k] = false) : addK xs x = k := by
  unfold addK
  rw [List.findIdx_eq h]
  exact ⟨by simp [hk], fun j hj => by simp [hb j (by omega) hj]⟩
theorem addK_end (hb : ∀ i (h : i < xs.length), lessB x xs[i] = true) : addK xs x = xs.length := by
  unfold addK
  rw [List.findIdx_eq_length]
  intro y hy
  obtain ⟨i, hi, rfl⟩ := List.getElem_of_mem hy
  simp [hb i hi]
theorem taken_at {k : Nat} (h : k < xs.length) (e : addK xs x = k) : takenB xs x = (xs[k].Id.toList == x.Id.toList) := by
  unfold takenB; rw [e, List.getElem?_eq_getElem h]
theorem taken_end (e : addK xs x = xs.length) : takenB xs x = false := by
  unfold takenB; rw [e, List.getElem?_eq_none (Nat.le_refl _)]
theorem addAll_len : (addAll xs x).length = xs.length + 1 := by
  have h : addK xs x ≤ xs.length := List.findIdx_le_length
  simp only [addAll, List.length_append, List.length_take, List.length_drop, List.length_cons, List.length_nil]
  omega
theorem addZ_len (xs : List OfferD) (x : OfferD) : (addZ xs x).length ≤ 1099511627776 := by
  unfold addZ
  split
  · rename_i h
    rw [addAll_len]
    have : addOk xs x = true := by
      cases ho : addOk xs x with
      | true => rfl
      | false => simp [addC, ho] at h
    simp only [addOk, Bool.and_eq_true] at this
    have := offers_len this.1
    omega
  · simp
theorem rowLe {w : World} {base base' e size n : Nat} {v : Value} {L : List Value} (h : w.ownsRow base e size v n L) (hb : base' ≤ base) : w.ownsRow base' e size v n L := by
  refine ⟨h.1, ?_⟩
  rcases h.2 with h2 | ⟨g, cap, cur, hv, hg, r⟩
  · exact .inl h2
  · exact .inr ⟨g, cap, cur, hv, Nat.le_trans hb hg, r⟩
theorem offer_part {w : World} {g a m : Nat} {xs : List OfferD} (h : Rd OfferD.cells 5 w (some ⟨g, 0, none⟩) xs) : Rd OfferD.cells 5 w (some ⟨g, a * 5, none⟩) ((xs.drop a).take m) := fun i z hi => by
  rw [List.getElem?_take] at hi
  split at hi
  · rw [List.getElem?_drop] at hi
    obtain ⟨b, off, e1, hb, hcc⟩ := h _ z hi
    injection e1 with e1
    injection e1 with e1 e2
    subst e1 e2
    refine ⟨g, a * 5, rfl, hb, fun j u hu => ?_⟩
    have := hcc j u hu
    rw [show 0 + (a + i) * 5 + j = a * 5 + i * 5 + j by omega] at this
    exact this
  · cases hi
end

end Go.Proofs.YtmipphgekcdaoaaGreatDoor

/-! AddInsert -/
namespace Go.Proofs.YtmipphgekcdaoaaGreatDoor
set_option linter.unusedVariables false
open Go.RowKit

/-- 'copy' at elements of k cells -/
theorem run_copy_k {P : Program} (w : World) (dT sT ty elem : TypeId) (k b o dLen dCap : Nat) (a : Addr) (sLen sCap m : Nat) (cs : List Value)
    (hu : P.underlying dT = some (.slice elem)) (hs : (P.info? elem).map (·.size) = some k) (hm : Nat.min sLen dLen = m) (hn : cs.length = m * k)
    (hsrc : ∀ j v, cs[j]? = some v → w.cell? (a.add j) = some v) (hc : ∀ j, j < cs.length → (w.cell? ⟨b, o + j, none⟩).isSome = true) (hf : ∀ j, j < cs.length → w.frozen? ⟨b, o + j, none⟩ = false) (h1 : ∀ v ∈ cs, v.oneCell' = true) :
    (Builtin.copy_ #[dT, sT] ty #[.slice (some ⟨b, o, none⟩) dLen dCap, .slice (some a) sLen sCap]).run P w = .ok (goInt m) (w.setCells b o cs) := by
  have hst := run_storeCells_cells (P := P) b o cs 0 w (by simpa using hc) (by simpa using hf) h1
  cases hq : P.info? elem with
  | none => simp [hq] at hs
  | some i =>
    have hi : i.size = k := by simpa [hq] using hs
    have hfc := run_firstCells_some (P := P) w k m a sLen sCap cs hn hsrc
    have hm' : min sLen dLen = m := hm
    simp [Builtin.copy_, run_underlying hu, Builtin.lenOf, sizeOf, typeInfo, hq, hi, hm', hfc, hst]
def zOffer : Value := .agg #[.string ByteArray.empty, .string ByteArray.empty, .int .i64 0, .int .i64 0, .int .i64 0]
set_option maxRecDepth 100000 in
set_option maxHeartbeats 3200000 in
theorem c_InsGrow (g n k vb : Nat) (cs vs : List Value) (w : World) (hk : k < n) (hn : n ≤ 16) (hcl : cs.length = n * 5) (hvl : vs.length = 5)
    (hcs : ∀ j v, cs[j]? = some v → w.cell? ⟨g, j, none⟩ = some v) (hvs : ∀ j v, vs[j]? = some v → w.cell? ⟨vb, j, none⟩ = some v) (h1c : ∀ v ∈ cs, v.oneCell' = true) (h1v : ∀ v ∈ vs, v.oneCell' = true) :
    Calls Tryz.prog 26 #[.slice (some ⟨g, 0, none⟩) n n, .int .i64 (k : Int), .slice (some ⟨vb, 0, none⟩) 1 1] w fun e w' =>
      e = .returned (.slice (some ⟨w.heap.size, 0, none⟩) (n + 1) (grownCap w (n + 1) n 33)) ∧
      w' = (((w.alloc (.cells ((cs.take (k * 5)).toArray ++ Builtin.zeroCells zOffer.cells (n + 1 - k) ++ Builtin.zeroCells zOffer.cells (grownCap w (n + 1) n 33 - (n + 1))) 33)).drew.setCells w.heap.size (k * 5) vs).drew).setCells w.heap.size ((k + 1) * 5) (cs.drop (k * 5)) := by
  obtain ⟨i0, hi0, hz0, hzs, hzb⟩ := info_parts Offer_info
  have hz2 : ((k : Int) == (n : Int)) = false := by rw [beq_eq_false_iff_ne]; omega
  have hz3 : (n : Int) < (n : Int) + 1 := by omega
  have hsz : (Tryz.prog.info? 33).map (·.size) = some 5 := by rw [hi0]; simp [hzs]
  have hbw : g < w.heap.size := World.block_lt_of_cell? w _ (hcs 0 _ (List.getElem?_eq_getElem (by omega)))
  have hvw : vb < w.heap.size := World.block_lt_of_cell? w _ (hvs 0 _ (List.getElem?_eq_getElem (by omega)))
  have hkk : (n : Int) + 1 - (k : Int) = ((n + 1 - k : Nat) : Int) := by omega
  have hik : k + (n + 1 - k) = n + 1 := by omega
  have hold : (Builtin.firstCells i0.size k (.slice (some ⟨g, 0, none⟩) k n)).run Tryz.prog w.drew = .ok (cs.take (k * 5)).toArray w.drew := by
    rw [hzs]
    exact run_firstCells_some w.drew 5 k ⟨g, 0, none⟩ k n (cs.take (k * 5)) (by rw [List.length_take]; omega) (fun j v hj => by
      rw [Addr.add_lit]
      rw [List.getElem?_take] at hj
      split at hj
      · have := hcs j v hj
        rw [Nat.zero_add]; exact this
      · cases hj)
  have hrz : ∀ ty, (Builtin.append_ #[24, 3] ty #[.slice (some ⟨g, 0, none⟩) k n, .int .i64 ((n : Int) + 1 - (k : Int))]).run Tryz.prog w =
      .ok (.slice (some ⟨w.heap.size, 0, none⟩) (n + 1) (grownCap w (n + 1) n 33)) (w.drew.alloc (.cells ((cs.take (k * 5)).toArray ++ Builtin.zeroCells zOffer.cells (n + 1 - k) ++ Builtin.zeroCells zOffer.cells (grownCap w (n + 1) n 33 - (n + 1))) 33)) := fun ty => by
    have h := Lib.run_append_grow_zeros (P := Tryz.prog) w 24 3 ty 33 i0 _ .i64 .i64 Tryz.underlying24 Tryz.underlying3 hi0 hz0 (some ⟨g, 0, none⟩) k n (cs.take (k * 5)) hold (n + 1 - k) (by omega) (by omega) (by omega) (by omega) (by rw [hzb]; omega) (by rw [hzb, hik]; exact growslice_fits (by omega) (by omega))
    rw [hik] at h
    rw [hkk]
    exact h
  obtain ⟨G, hG⟩ : ∃ G, G = grownCap w (n + 1) n 33 := ⟨_, rfl⟩
  obtain ⟨ROW, hROW⟩ : ∃ ROW : Array Value, ROW = (cs.take (k * 5)).toArray ++ Builtin.zeroCells zOffer.cells (n + 1 - k) ++ Builtin.zeroCells zOffer.cells (G - (n + 1)) := ⟨_, rfl⟩
  rw [← hG] at hrz ⊢
  rw [← hROW] at hrz ⊢
  have hRl : (n + 1) * 5 ≤ ROW.size := by
    rw [hROW]
    simp [Builtin.zeroCells, zOffer, Value.cells]
    omega
  obtain ⟨W1, hW1⟩ : ∃ W1, W1 = w.drew.alloc (.cells ROW 33) := ⟨_, rfl⟩
  rw [← hW1] at hrz
  have hN : ∀ j, j < (n + 1) * 5 → (W1.cell? ⟨w.heap.size, j, none⟩).isSome = true := fun j hj => by
    rw [hW1, World.cell?_alloc_at (w := w.drew) ROW _ w.heap.size j rfl, Array.getElem?_eq_getElem (by omega)]; rfl
  have hNf : ∀ j, W1.frozen? ⟨w.heap.size, j, none⟩ = false := fun j => by rw [hW1]; exact World.frozen?_alloc_at (w := w.drew) ROW _ w.heap.size j rfl
  have hOb : ∀ j v, w.cell? ⟨g, j, none⟩ = some v → W1.cell? ⟨g, j, none⟩ = some v := fun j v h => by rw [hW1, World.cell?_alloc_past (w := w.drew) _ g j hbw]; exact h
  have hOv : ∀ j v, w.cell? ⟨vb, j, none⟩ = some v → W1.cell? ⟨vb, j, none⟩ = some v := fun j v h => by rw [hW1, World.cell?_alloc_past (w := w.drew) _ vb j hvw]; exact h
  have hcpA : ∀ (W : World), (∀ x, W.cell? x = W1.cell? x) → (∀ x, W.frozen? x = W1.frozen? x) → ∀ ty dc, (Builtin.copy_ #[24, 24] ty #[.slice (some ⟨w.heap.size, k * 5, none⟩) (n + 1 - k) dc, .slice (some ⟨vb, 0, none⟩) 1 1]).run Tryz.prog W = .ok (goInt 1) (W.setCells w.heap.size (k * 5) vs) := fun W hWc hWf ty dc =>
    run_copy_k W _ _ ty 33 5 w.heap.size (k * 5) (n + 1 - k) dc ⟨vb, 0, none⟩ 1 1 1 vs Tryz.underlying24 hsz (by simp only [Nat.min_def]; split <;> omega) (by omega)
      (fun j v hj => by rw [Addr.add_lit, hWc, Nat.zero_add]; exact hOv _ v (hvs j v hj))
      (fun j hj => by rw [hWc]; exact hN _ (by omega)) (fun j hj => by rw [hWf]; exact hNf _) h1v
  have hGn : n + 1 ≤ G := by rw [hG]; exact grownCap_ge w _ _ _
  have hG63 : G ≤ 9223372036854775807 := by
    have := grownCap_le_maxLen w (n + 1) n 33 (by unfold maxLen; omega)
    rw [← hG] at this
    unfold maxLen at this
    omega
  have hGi : ¬ (G = k) := by omega
  have hGim : ¬ (G = k + 1) := by omega
  have hci : ¬ (n = k) := by omega
  have hbN : g ≠ w.heap.size := by omega
  have hdl : (cs.drop (k * 5)).length = (n - k) * 5 := by rw [List.length_drop, hcl]; omega
  have hcpB : ∀ (W : World), (∀ x, W.cell? x = (W1.setCells w.heap.size (k * 5) vs).cell? x) → (∀ x, W.frozen? x = (W1.setCells w.heap.size (k * 5) vs).frozen? x) → ∀ ty dc sc, (Builtin.copy_ #[24, 24] ty #[.slice (some ⟨w.heap.size, (k + 1) * 5, none⟩) (n - k) dc, .slice (some ⟨g, k * 5, none⟩) (n - k) sc]).run Tryz.prog W = .ok (goInt (n - k : Nat)) (W.setCells w.heap.size ((k + 1) * 5) (cs.drop (k * 5))) := fun W hWc hWf ty dc sc =>
    run_copy_k W _ _ ty 33 5 w.heap.size ((k + 1) * 5) (n - k) dc ⟨g, k * 5, none⟩ (n - k) sc (n - k) (cs.drop (k * 5)) Tryz.underlying24 hsz (by simp [Nat.min_def]) hdl
      (fun j v hj => by
        rw [Addr.add_lit, hWc, World.cell?_setCells_out _ _ _ _ _ (fun h _ => absurd h hbN)]
        exact hOb _ v (hcs (k * 5 + j) v (by rwa [List.getElem?_drop] at hj)))
      (fun j hj => by rw [hWc]; exact isSome_setCells _ _ _ _ (fun t ht => hN _ (by omega)) _ (hN _ (by omega)))
      (fun j hj => by rw [hWf, World.frozen?_setCells]; exact hNf _) (fun v hv => h1c v (List.mem_of_mem_drop hv))
  subst hW1
  have hE1 : ∀ x, ((w.alloc (.cells ROW 33)).drew).cell? x = (w.drew.alloc (.cells ROW 33)).cell? x := fun x => rfl
  have hE2 : ∀ x, ((w.alloc (.cells ROW 33)).drew).frozen? x = (w.drew.alloc (.cells ROW 33)).frozen? x := fun x => rfl
  have hF1 : ∀ x, (((w.alloc (.cells ROW 33)).drew.setCells w.heap.size (k * 5) vs).drew).cell? x = ((w.drew.alloc (.cells ROW 33)).setCells w.heap.size (k * 5) vs).cell? x := fun x => rfl
  have hF2 : ∀ x, (((w.alloc (.cells ROW 33)).drew.setCells w.heap.size (k * 5) vs).drew).frozen? x = ((w.drew.alloc (.cells ROW 33)).setCells w.heap.size (k * 5) vs).frozen? x := fun x => rfl
  have hw1 : IntKind.i64.wrap ((k : Int) + 1) = (k : Int) + 1 := by rw [IntKind.wrap_i64]; omega
  have hb1 : (0 : Int) ≤ (k : Int) + 1 := by omega
  have hin : k ≤ n := by omega
  have htn : ((k : Int) + 1).toNat = k + 1 := by omega
  have hb3 : (k : Int) ≤ (n : Int) := by omega
  clear hkk hik hold hROW hG hRl
  have mixed : Tryz.prog.follows .mixedOrders = true := by kernel_rfl
  go_enter Tryz.func26, Tryz.ntmps26
  go_wp2_with (first
    | (at_builtin; refine Lib.wpList_append_run _ rfl _ _ _ _ rfl _ _ rfl rfl _ _ (hrz _) ?_)
    | (at_builtin; refine wpList_copy_runI _ rfl _ _ 24 24 rfl _ _ rfl rfl (hcpA _ hE1 hE2 _ _) ?_)
    | (at_builtin; refine wpList_copy_runI _ rfl _ _ 24 24 rfl _ _ rfl rfl (hcpB _ (fun _ => rfl) (fun _ => rfl) _ _ _) ?_))
  go_region_law_o (refine step_copy_runI rfl _ _ 24 24 rfl (.slice (some ⟨w.heap.size, (k + 1) * 5, none⟩) (n - k) (G - (k + 1))) (.slice (some ⟨g, k * 5, none⟩) (n - k) (n - k)) (by simp [Act.eval, Act.put]) (by simp [Act.eval, Act.put]) (hcpB _ hF1 hF2 3 (G - (k + 1)) (n - k)) ?_)
  go_wp2
  go_ret
  exact ⟨rfl, rfl⟩
set_option maxRecDepth 100000 in
set_option maxHeartbeats 3200000 in
theorem c_InsShift (g n c k vb : Nat) (cs vs : List Value) (w : World) (hk : k < n) (hn : n ≤ 16) (hroom : n + 1 ≤ c) (hc63 : c ≤ 9223372036854775807) (hvb : vb ≠ g) (hcl : cs.length = n * 5) (hvl : vs.length = 5)
    (hcs : ∀ j v, cs[j]? = some v → w.cell? ⟨g, j, none⟩ = some v) (hsp : ∀ j, j < (n + 1) * 5 → (w.cell? ⟨g, j, none⟩).isSome = true) (hfz : ∀ j, j < (n + 1) * 5 → w.frozen? ⟨g, j, none⟩ = false)
    (hvs : ∀ j v, vs[j]? = some v → w.cell? ⟨vb, j, none⟩ = some v) (h1c : ∀ v ∈ cs, v.oneCell' = true) (h1v : ∀ v ∈ vs, v.oneCell' = true)
    (tA tB : TypeId) (kA kB : Nat) (hsa : w.shape? vb = some (tA, kA)) (hsb : w.shape? g = some (tB, kB)) (hkB : kB ≠ 0) (hfa : w.frozen? ⟨vb, 0, none⟩ = false) (hfe : w.frozen? ⟨vb, kA, none⟩ = false) :
    Calls Tryz.prog 26 #[.slice (some ⟨g, 0, none⟩) n c, .int .i64 (k : Int), .slice (some ⟨vb, 0, none⟩) 1 1] w fun e w' =>
      e = .returned (.slice (some ⟨g, 0, none⟩) (n + 1) c) ∧ w' = (w.drew.setCells g ((k + 1) * 5) (cs.drop (k * 5))).setCells g (k * 5) vs := by
  obtain ⟨i0, hi0, hz0, hzs, hzb⟩ := info_parts Offer_info
  have hz2 : ((k : Int) == (n : Int)) = false := by rw [beq_eq_false_iff_ne]; omega
  have hsz : (Tryz.prog.info? 33).map (·.size) = some 5 := by rw [hi0]; simp [hzs]
  have hsO : ∀ w, (Go.sizeOf 33).run Tryz.prog w = .ok 5 w := fun w => by simp [Go.sizeOf, Go.typeInfo, hi0, hzs]
  have hov : ∀ lb cb, (callFunc 44 #[.slice (some ⟨vb, 0, none⟩) 1 1, .slice (some ⟨g, (k + 1) * 5, none⟩) lb cb]).run Tryz.prog w = .ok (.value (.bool false)) w := fun lb cb => by
    rw [run_callFunc_extern Tryz.func44 (by kernel_rfl) (by kernel_rfl) (by kernel_rfl) (e := Extern.SlicesOverlaps.overlaps #[24, 24] #[4]) (by kernel_rfl),
      Lib.run_overlaps_apart w 24 4 33 Tryz.underlying24 5 hsO ⟨vb, 0, none⟩ ⟨g, (k + 1) * 5, none⟩ 1 1 lb cb hvb tA tB kA kB hsa hsb hkB hfa hfe]
    rfl
  have hdl : (cs.drop (k * 5)).length = (n - k) * 5 := by rw [List.length_drop, hcl]; omega
  have mixed : Tryz.prog.follows .mixedOrders = true := by kernel_rfl
  have hw1 : IntKind.i64.wrap ((k : Int) + 1) = (k : Int) + 1 := by rw [IntKind.wrap_i64]; omega
  have hb1 : (0 : Int) ≤ (k : Int) + 1 := by omega
  have hin : k ≤ n := by omega
  have htn : ((k : Int) + 1).toNat = k + 1 := by omega
  have hb2 : ¬ (c = k + 1) := by omega
  have hb3 : (k : Int) ≤ (n : Int) + 1 := by omega
  have hb4 : ¬ (c = k) := by omega
  have hb5 : ¬ ((c : Int) < (n : Int) + 1) := by omega
  have hcp1 : ∀ ty dc sc, (Builtin.copy_ #[24, 24] ty #[.slice (some ⟨g, (k + 1) * 5, none⟩) (n - k) dc, .slice (some ⟨g, k * 5, none⟩) (n + 1 - k) sc]).run Tryz.prog w.drew = .ok (goInt (n - k : Nat)) (w.drew.setCells g ((k + 1) * 5) (cs.drop (k * 5))) := fun ty dc sc =>
    run_copy_k w.drew _ _ ty 33 5 g ((k + 1) * 5) (n - k) dc ⟨g, k * 5, none⟩ (n + 1 - k) sc (n - k) (cs.drop (k * 5)) Tryz.underlying24 hsz (by simp only [Nat.min_def]; split <;> omega) hdl
      (fun j v hj => by rw [Addr.add_lit]; exact hcs (k * 5 + j) v (by rwa [List.getElem?_drop] at hj))
      (fun j hj => hsp _ (by omega)) (fun j hj => hfz _ (by omega)) (fun v hv => h1c v (List.mem_of_mem_drop hv))
  obtain ⟨W1, hW1⟩ : ∃ W1, W1 = w.drew.setCells g ((k + 1) * 5) (cs.drop (k * 5)) := ⟨_, rfl⟩
  have hsp1 : ∀ t, t < (n + 1) * 5 → (W1.cell? ⟨g, t, none⟩).isSome = true := fun t ht => by
    rw [hW1]
    exact isSome_setCells g (cs.drop (k * 5)) ((k + 1) * 5) w.drew (fun j hj => hsp _ (by rw [hdl] at hj; omega)) t (hsp t ht)
  have hcp2 : ∀ (W : World), (∀ x, W.cell? x = W1.cell? x) → (∀ x, W.frozen? x = W1.frozen? x) → ∀ ty dc, (Builtin.copy_ #[24, 24] ty #[.slice (some ⟨g, k * 5, none⟩) (n + 1 - k) dc, .slice (some ⟨vb, 0, none⟩) 1 1]).run Tryz.prog W = .ok (goInt 1) (W.setCells g (k * 5) vs) := fun W hWc hWf ty dc =>
    run_copy_k W _ _ ty 33 5 g (k * 5) (n + 1 - k) dc ⟨vb, 0, none⟩ 1 1 1 vs Tryz.underlying24 hsz (by simp only [Nat.min_def]; split <;> omega) (by omega)
      (fun j v hj => by
        rw [Addr.add_lit, Nat.zero_add, hWc, hW1, World.cell?_setCells_out g _ _ _ _ (fun h _ => absurd h hvb)]
        exact hvs j v hj)
      (fun j hj => by rw [hWc]; exact hsp1 _ (by omega)) (fun j hj => by rw [hWf, hW1, World.frozen?_setCells]; exact hfz _ (by omega)) h1v
  rw [← hW1] at hcp1
  go_enter Tryz.func26, Tryz.ntmps26
  go_wp2_with (simp only [hov])
  go_region_law_o (refine step_copy_runI rfl _ _ 24 24 rfl _ _ (by simp [Act.eval, Act.put]) (by simp [Act.eval, Act.put]) (hcp1 _ _ _) ?_)
  go_wp2_with (at_builtin; refine wpList_copy_runI _ rfl _ _ 24 24 rfl _ _ rfl rfl (hcp2 _ (fun _ => rfl) (fun _ => rfl) _ _) ?_)
  go_ret
  first | exact ⟨rfl, rfl⟩ | exact ⟨rfl, by rw [hW1]⟩

end Go.Proofs.YtmipphgekcdaoaaGreatDoor

/-! AddIns -/
namespace Go.Proofs.YtmipphgekcdaoaaGreatDoor
set_option linter.unusedVariables false
open Go.RowKit

theorem ins_list {cs vs : List Value} {cur : Array Value} {n k : Nat} (hk : k ≤ n) (hcl : cs.length = n * 5) (hvl : vs.length = 5) (hs : (n + 1) * 5 ≤ cur.size)
    (h1 : ∀ j, j < k * 5 → cur[j]? = cs[j]?) (h2 : ∀ j u, vs[j]? = some u → cur[k * 5 + j]? = some u) (h3 : ∀ j u, (cs.drop (k * 5))[j]? = some u → cur[(k + 1) * 5 + j]? = some u) :
    cur.toList.take ((n + 1) * 5) = cs.take (k * 5) ++ (vs ++ cs.drop (k * 5)) := by
  have hlt : (cs.take (k * 5)).length = k * 5 := by rw [List.length_take]; omega
  have hld : (cs.drop (k * 5)).length = n * 5 - k * 5 := by rw [List.length_drop]; omega
  apply List.ext_getElem?
  intro j
  rw [List.getElem?_take]
  by_cases hj : j < (n + 1) * 5
  · rw [if_pos hj, Array.getElem?_toList]
    by_cases ha : j < k * 5
    · rw [List.getElem?_append_left (by omega), List.getElem?_take, if_pos ha, h1 j ha]
    · rw [List.getElem?_append_right (by omega), hlt]
      by_cases hb : j - k * 5 < 5
      · rw [List.getElem?_append_left (by omega), List.getElem?_eq_getElem (by omega)]
        have := h2 (j - k * 5) _ (List.getElem?_eq_getElem (by omega))
        rw [show k * 5 + (j - k * 5) = j by omega] at this
        exact this
      · rw [List.getElem?_append_right (by omega), hvl, List.getElem?_eq_getElem (by omega)]
        have := h3 (j - k * 5 - 5) _ (List.getElem?_eq_getElem (by omega))
        rw [show (k + 1) * 5 + (j - k * 5 - 5) = j by omega] at this
        exact this
  · rw [if_neg hj, List.getElem?_eq_none (by simp only [List.length_append]; omega)]
theorem ins_flat (xs : List OfferD) (x : OfferD) {k : Nat} (hk : k ≤ xs.length) : (xs.take k ++ [x] ++ xs.drop k).flatMap OfferD.cells = (xs.flatMap OfferD.cells).take (k * 5) ++ (x.cells ++ (xs.flatMap OfferD.cells).drop (k * 5)) := by
  have e : xs.flatMap OfferD.cells = (xs.take k).flatMap OfferD.cells ++ (xs.drop k).flatMap OfferD.cells := by rw [← List.flatMap_append, List.take_append_drop]
  have hl : ((xs.take k).flatMap OfferD.cells).length = k * 5 := by rw [flat_len OfferD.cells_len, List.length_take, Nat.min_eq_left hk]
  rw [e, List.take_left' hl, List.drop_left' hl, List.flatMap_append, List.flatMap_append, List.append_assoc]
  simp
/-- the two copies of the roads, in either order, fill the row -/
theorem own_ins {w w' : World} {base g cap n k : Nat} {cs vs : List Value} {cur : Array Value} (hb : base ≤ g) (hB : Blk w g 33 cur) (hsz : cur.size = cap * 5) (hcap : n + 1 ≤ cap) (hmax : cap ≤ maxLen) (hk : k ≤ n) (hcl : cs.length = n * 5) (hvl : vs.length = 5)
    (hp : ∀ j, j < k * 5 → cur[j]? = cs[j]?)
    (hw : w' = (w.setCells g (k * 5) vs).drew.setCells g ((k + 1) * 5) (cs.drop (k * 5)) ∨ w' = (w.setCells g ((k + 1) * 5) (cs.drop (k * 5))).setCells g (k * 5) vs) :
    w'.ownsRow base 33 5 (.slice (some ⟨g, 0, none⟩) (n + 1) cap) (n + 1) (cs.take (k * 5) ++ (vs ++ cs.drop (k * 5))) := by
  have hld : (cs.drop (k * 5)).length = n * 5 - k * 5 := by rw [List.length_drop]; omega
  have key : ∃ cur', Blk w' g 33 cur' ∧ cur'.size = cur.size ∧ (∀ j, j < k * 5 → cur'[j]? = cs[j]?) ∧ (∀ j u, vs[j]? = some u → cur'[k * 5 + j]? = some u) ∧ (∀ j u, (cs.drop (k * 5))[j]? = some u → cur'[(k + 1) * 5 + j]? = some u) := by
    rcases hw with rfl | rfl
    · rw [set_put, set_put]
      obtain ⟨c1, b1, s1, l1, m1, r1⟩ := putAll_blk g 33 vs (k * 5) w cur hB (by omega)
      obtain ⟨c2, b2, s2, l2, m2, r2⟩ := putAll_blk g 33 (cs.drop (k * 5)) ((k + 1) * 5) _ c1 (b1.x (IsX.drew (IsX.refl _))) (by omega)
      refine ⟨c2, b2, by omega, fun j hj => by rw [l2 j (by omega), l1 j hj, hp j hj], fun j u hu => ?_, m2⟩
      have hj : j < vs.length := (List.getElem?_eq_some_iff.1 hu).1
      rw [l2 _ (by omega)]; exact m1 j u hu
    · rw [set_put, set_put]
      obtain ⟨c1, b1, s1, l1, m1, r1⟩ := putAll_blk g 33 (cs.drop (k * 5)) ((k + 1) * 5) w cur hB (by omega)
      obtain ⟨c2, b2, s2, l2, m2, r2⟩ := putAll_blk g 33 vs (k * 5) _ c1 b1 (by omega)
      refine ⟨c2, b2, by omega, fun j hj => by rw [l2 j hj, l1 j (by omega), hp j hj], m2, fun j u hu => ?_⟩
      rw [r2 _ (by omega)]; exact m1 j u hu
  obtain ⟨cur', hB', hs', h1, h2, h3⟩ := key
  refine ⟨by simp only [List.length_append, List.length_take, hld]; omega, .inr ⟨g, cap, cur', rfl, hb, hB', hcap, hmax, by omega, ?_⟩⟩
  exact ins_list hk hcl hvl (by omega) h1 h2 h3
set_option maxRecDepth 100000 in
set_option maxHeartbeats 3200000 in
theorem c_InsertOffer (w0 : World) (A : Option Addr) (n c k vb base : Nat) (xs : List OfferD) (x : OfferD) (w : World) (hnn : n = xs.length) (hO : w.ownsRow base 33 5 (.slice A n c) n (xs.flatMap OfferD.cells)) (hb0 : w0.heap.size ≤ base) (hbw : base ≤ w.heap.size) (hx : IsX w0 w) (hn : n ≤ 15) (hk : k ≤ n)
    (hV : Blk w vb 33 x.cells.toArray) (hvb : ∀ g, A = some ⟨g, 0, none⟩ → vb ≠ g) :
    Calls Tryz.prog 26 #[.slice A n c, .int .i64 (k : Int), .slice (some ⟨vb, 0, none⟩) 1 1] w fun e w' => ∃ A' c', e = .returned (.slice A' (n + 1) c') ∧ w'.ownsRow base 33 5 (.slice A' (n + 1) c') (n + 1) ((xs.take k ++ [x] ++ xs.drop k).flatMap OfferD.cells) ∧ IsX w0 w' := by
  by_cases hkn : k = n
  · subst hkn
    have HI := hide (info_parts Offer_info)
    have HF := hide (show (xs.take k ++ [x] ++ xs.drop k).flatMap OfferD.cells = xs.flatMap OfferD.cells ++ x.cells by
      rw [hnn, List.take_length, List.drop_length, List.append_nil, List.flatMap_append]; simp)
    have hR : Reads w w.heap.size 5 (some ⟨vb, 0, none⟩) 1 x.cells := by
      have h := Rd.reads (cells := OfferD.cells) (xs := [x]) (by omega) OfferD.cells_len (Blk.rd (cells := OfferD.cells) (xs := [x]) (t := 33) OfferD.cells_len (by simpa using hV))
      simpa using h
    have HR := hide hR
    have HO := hide hO
    have HX := hide hx
    have hck : k ≤ c := by
      rcases hO.2 with ⟨hv, h0⟩ | ⟨g, cap, cur, hv, hbg, hh, hle, _⟩
      · omega
      · injection hv with _ _ hc; omega
    have hkk : ((k : Int) == (k : Int)) = true := by simp
    clear hnn hO hR hx hV hvb
    by_cases hc : c = k
    all_goals
      go_enter Tryz.func26, Tryz.ntmps26
      go_wp2_with (at_builtin; obtain ⟨i0, hi0, hz0, hz1, hz2⟩ := HI.out; refine wpList_append_any _ rfl (.tmp 23) (.tmp 24) _ rfl base 33 i0 _ 5 56 Tryz.underlying24 hi0 hz0 hz1 hz2 rfl (by omega) _ k (xs.flatMap OfferD.cells) rfl HO.out _ (some ⟨vb, 0, none⟩) 1 1 x.cells rfl HR.out (fun u hu => offer_one [x] u (by simpa using hu)) (by simp only [maxLen]; omega) (by omega) hbw ?_; clear hi0 hz0 hz1 hz2; intro v1 w1 hown1 hg1 hat1; have HO1 := hide hown1; have HX1 : Hid (IsX w0 w1) := hide (IsX.grown HX.out hg1 (by intro z hz; have := (HO.out.lt z hz).1; omega)); clear hown1 hg1 hat1)
      go_ret
      obtain ⟨A', c', hform⟩ := own_form' HO1.out
      subst hform
      exact ⟨A', c', rfl, by rw [HF.out]; exact HO1.out, HX1.out⟩
  · have hone := offer_one xs
    have honex : ∀ u ∈ x.cells, u.oneCell' = true := fun u hu => offer_one [x] u (by simpa using hu)
    have hcl : (xs.flatMap OfferD.cells).length = n * 5 := by rw [flat_len OfferD.cells_len, ← hnn]
    rcases hO.2 with ⟨_, h0⟩ | ⟨g, cap, cur, hv, hbg, hh, hle, hmax, hcs, htake⟩
    · omega
    injection hv with e1 e2 e3
    subst e1 e3
    have hB : Blk w g 33 cur := hh
    have hvg := hvb g rfl
    have hcur : ∀ j, j < n * 5 → cur[j]? = (xs.flatMap OfferD.cells)[j]? := fun j hj => by rw [← htake, List.getElem?_take, if_pos hj, Array.getElem?_toList]
    have hcells : ∀ j v, (xs.flatMap OfferD.cells)[j]? = some v → w.cell? ⟨g, j, none⟩ = some v := fun j v hj => by
      rw [hB.cell, hcur j (by have := (List.getElem?_eq_some_iff.1 hj).1; omega), hj]
    have hvs : ∀ j v, x.cells[j]? = some v → w.cell? ⟨vb, j, none⟩ = some v := fun j v hj => by rw [hV.cell, List.getElem?_toArray, hj]
    rw [ins_flat xs x (by omega)]
    have hgw := hB.lt
    by_cases hc : c = n
    · subst hc
      refine (c_InsGrow g c k vb (xs.flatMap OfferD.cells) x.cells w (by omega) (by omega) hcl rfl hcells hvs hone honex).mono ?_
      rintro e w' ⟨rfl, rfl⟩
      have hG := grownCap_ge w (c + 1) c 33
      have hG2 := grownCap_le_maxLen w (c + 1) c 33 (by unfold maxLen; omega)
      generalize grownCap w (c + 1) c 33 = G at hG hG2 ⊢
      refine ⟨_, G, rfl, ?_, ?_⟩
      · refine own_ins (w := (w.alloc (.cells _ 33)).drew) (n := c) (k := k) (cap := G) hbw ((Blk.new w 33 _).x (IsX.drew (IsX.refl _))) ?_ hG hG2 hk hcl rfl ?_ (.inl rfl)
        · simp only [Array.size_append, List.size_toArray, List.length_take, hcl]
          simp [Builtin.zeroCells, zOffer, Value.cells]
          omega
        · intro j hj
          rw [Array.getElem?_append_left (by simp only [Array.size_append, List.size_toArray, List.length_take, hcl]; omega), Array.getElem?_append_left (by simp only [List.size_toArray, List.length_take, hcl]; omega), List.getElem?_toArray, List.getElem?_take, if_pos hj]
      · rw [set_put, set_put]
        exact putAll_x _ (by have := hx.size; omega) _ _ _ (IsX.drew (putAll_x _ (by have := hx.size; omega) _ _ _ (IsX.drew (hx.alloc _))))
    · refine (c_InsShift g n c k vb (xs.flatMap OfferD.cells) x.cells w (by omega) (by omega) (by omega) (by unfold maxLen at hmax; omega) hvg hcl rfl hcells
        (fun j hj => by rw [hB.cell, Array.getElem?_eq_getElem (by omega)]; rfl) (fun j _ => hB.frozen j) hvs hone honex 33 33 5 cur.size ?_ ?_ (by omega) (hV.frozen _) (hV.frozen _)).mono ?_
      · have h := hV; unfold Blk at h; simp [World.shape?, h, OfferD.cells]
      · simp [World.shape?, hh]
      rintro e w' ⟨rfl, rfl⟩
      refine ⟨_, c, rfl, own_ins (n := n) (k := k) (cap := c) hbg (hB.x (IsX.drew (IsX.refl _))) hcs (by omega) hmax hk hcl rfl (fun j hj => hcur j (by omega)) (.inr rfl), ?_⟩
      rw [set_put, set_put]
      exact putAll_x _ (by omega) _ _ _ (putAll_x _ (by omega) _ _ _ (IsX.drew hx))

end Go.Proofs.YtmipphgekcdaoaaGreatDoor

/-! AddImpl -/
namespace Go.Proofs.YtmipphgekcdaoaaGreatDoor
set_option linter.unusedVariables false
open Go.RowKit

set_option maxRecDepth 100000 in
set_option maxHeartbeats 6400000 in
theorem i_AddOffer (Ad : Option Addr) (cd : Nat) (xs0 : List OfferD) (x1 : OfferD) (w : World) (hn0 : xs0.length ≤ 1099511627776) (hw0 : ∀ x ∈ xs0, x.wf) (hA0 : Rd OfferD.cells 5 w Ad xs0) (hx1 : x1.wf) :
    Calls Tryz.prog 9 #[.slice Ad xs0.length cd, .agg #[.string x1.Id, .string x1.Kind, .int .i64 x1.Start, .int .i64 x1.Length, .int .i64 x1.Worth]] w (SlPost OfferD.cells 5 33 w (addZ xs0 x1) (addC xs0 x1)) := by
  have hs0 : x1.Id.size ≤ maxLen := by simp only [OfferD.wf] at hx1; omega
  have hs1 : x1.Kind.size ≤ maxLen := by simp only [OfferD.wf] at hx1; omega
  cases hv : offersB xs0
  · have HB := hide (add_bad (x := x1) (show addOk xs0 x1 = false by simp [addOk, hv]))
    go_enter Tryz.func9, Tryz.ntmps9
    go_wp2_with fail
    obtain ⟨W, hW⟩ : ∃ W, W = w.alloc (.cells #[.string x1.Id, .string x1.Kind, .int .i64 x1.Start, .int .i64 x1.Length, .int .i64 x1.Worth] 33) := ⟨_, rfl⟩
    have hx : IsX w W := hW ▸ (IsX.refl w).alloc _
    have hB : Blk W w.heap.size 33 #[.string x1.Id, .string x1.Kind, .int .i64 x1.Start, .int .i64 x1.Length, .int .i64 x1.Worth] := hW ▸ Blk.new w _ _
    rw [← hW]
    clear hW
    refine (cb (c_ValidOffers Ad cd xs0 W hn0 hw0 (hA0.x hx)) hv).mono ?_
    rintro e w1 ⟨rfl, hx2⟩
    replace hB := hB.x hx2
    replace hx := hx.trans hx2
    clear hx2
    have e0 : w1.cell? ⟨w.heap.size, 0, none⟩ = some (.string x1.Id) := hB.cell 0
    have e1 : w1.cell? ⟨w.heap.size, 1, none⟩ = some (.string x1.Kind) := hB.cell 1
    have e2 : w1.cell? ⟨w.heap.size, 2, none⟩ = some (.int .i64 x1.Start) := hB.cell 2
    have e3 : w1.cell? ⟨w.heap.size, 3, none⟩ = some (.int .i64 x1.Length) := hB.cell 3
    have e4 : w1.cell? ⟨w.heap.size, 4, none⟩ = some (.int .i64 x1.Worth) := hB.cell 4
    go_wp2_with fail
    go_ret2
    exact SlPost.none HB.out.1 (by rw [HB.out.2]; rfl) hx
  cases ho : x1.okB
  · have HB := hide (add_bad (show addOk xs0 x1 = false by simp [addOk, ho]))
    go_enter Tryz.func9, Tryz.ntmps9
    go_wp2_with fail
    obtain ⟨W, hW⟩ : ∃ W, W = w.alloc (.cells #[.string x1.Id, .string x1.Kind, .int .i64 x1.Start, .int .i64 x1.Length, .int .i64 x1.Worth] 33) := ⟨_, rfl⟩
    have hx : IsX w W := hW ▸ (IsX.refl w).alloc _
    have hB : Blk W w.heap.size 33 #[.string x1.Id, .string x1.Kind, .int .i64 x1.Start, .int .i64 x1.Length, .int .i64 x1.Worth] := hW ▸ Blk.new w _ _
    rw [← hW]
    clear hW
    refine (cb (c_ValidOffers Ad cd xs0 W hn0 hw0 (hA0.x hx)) hv).mono ?_
    rintro e w1 ⟨rfl, hx2⟩
    replace hB := hB.x hx2
    replace hx := hx.trans hx2
    clear hx2
    have e0 : w1.cell? ⟨w.heap.size, 0, none⟩ = some (.string x1.Id) := hB.cell 0
    have e1 : w1.cell? ⟨w.heap.size, 1, none⟩ = some (.string x1.Kind) := hB.cell 1
    have e2 : w1.cell? ⟨w.heap.size, 2, none⟩ = some (.int .i64 x1.Start) := hB.cell 2
    have e3 : w1.cell? ⟨w.heap.size, 3, none⟩ = some (.int .i64 x1.Length) := hB.cell 3
    have e4 : w1.cell? ⟨w.heap.size, 4, none⟩ = some (.int .i64 x1.Worth) := hB.cell 4
    go_wp2_with fail
    refine (cb (c_validOffer x1 w1 hs0 hs1) ho).mono ?_
    rintro e w2 ⟨rfl, hx2⟩
    clear e0 e1 e2 e3 e4
    replace hB := hB.x hx2
    replace hx := hx.trans hx2
    clear hx2
    go_wp2_with fail
    go_ret2
    exact SlPost.none HB.out.1 (by rw [HB.out.2]; rfl) hx
  have HOK := hide (show addOk xs0 x1 = true by simp [addOk, hv, ho])
  have hcl := offers_len hv
  have HI := hide (info_parts Offer_info)
  go_enter Tryz.func9, Tryz.ntmps9
  go_wp2_with fail
  obtain ⟨W, hW⟩ : ∃ W, W = w.alloc (.cells #[.string x1.Id, .string x1.Kind, .int .i64 x1.Start, .int .i64 x1.Length, .int .i64 x1.Worth] 33) := ⟨_, rfl⟩
  have hx : IsX w W := hW ▸ (IsX.refl w).alloc _
  have hB : Blk W w.heap.size 33 #[.string x1.Id, .string x1.Kind, .int .i64 x1.Start, .int .i64 x1.Length, .int .i64 x1.Worth] := hW ▸ Blk.new w _ _
  rw [← hW]
  clear hW
  refine (cb (c_ValidOffers Ad cd xs0 W hn0 hw0 (hA0.x hx)) hv).mono ?_
  rintro e w1 ⟨rfl, hx2⟩
  replace hB := hB.x hx2
  replace hx := hx.trans hx2
  clear hx2
  have e0 : w1.cell? ⟨w.heap.size, 0, none⟩ = some (.string x1.Id) := hB.cell 0
  have e1 : w1.cell? ⟨w.heap.size, 1, none⟩ = some (.string x1.Kind) := hB.cell 1
  have e2 : w1.cell? ⟨w.heap.size, 2, none⟩ = some (.int .i64 x1.Start) := hB.cell 2
  have e3 : w1.cell? ⟨w.heap.size, 3, none⟩ = some (.int .i64 x1.Length) := hB.cell 3
  have e4 : w1.cell? ⟨w.heap.size, 4, none⟩ = some (.int .i64 x1.Worth) := hB.cell 4
  go_wp2_with fail
  refine (cb (c_validOffer x1 w1 hs0 hs1) ho).mono ?_
  rintro e w2 ⟨rfl, hx2⟩
  clear e0 e1 e2 e3 e4
  replace hB := hB.x hx2
  replace hx := hx.trans hx2
  clear hx2
  have HX := hide hx
  have hw2 := hx.size
  have HRA := hide (hA0.x hx)
  have k0 : w2.cell? ⟨w.heap.size, 0, none⟩ = some (.string x1.Id) := hB.cell 0
  have k1 : w2.cell? ⟨w.heap.size, 1, none⟩ = some (.string x1.Kind) := hB.cell 1
  have k2 : w2.cell? ⟨w.heap.size, 2, none⟩ = some (.int .i64 x1.Start) := hB.cell 2
  have k3 : w2.cell? ⟨w.heap.size, 3, none⟩ = some (.int .i64 x1.Length) := hB.cell 3
  have k4 : w2.cell? ⟨w.heap.size, 4, none⟩ = some (.int .i64 x1.Worth) := hB.cell 4
  have hbx := hB.lt
  obtain ⟨n, hnn⟩ : ∃ n, n = xs0.length := ⟨_, rfl⟩
  have HN := hide hnn
  rw [← hnn] at hcl ⊢
  clear hnn hv ho hw0 hA0 hx hn0 hB hs0 hs1 hx1
  go_wp2
  go_loopw [6] (fun iv wr => ∃ k : Nat, k ≤ n ∧ iv = .int .i64 k ∧ Hid (∀ i (h : i < xs0.length), i < k → lessB x1 xs0[i] = true) ∧ IsX w2 wr) (fun iv _ => n - (intOf iv).toNat)
  case atStart => exact ⟨0, Nat.zero_le _, rfl, hide (fun i h hi => absurd hi (by omega)), IsX.refl _⟩
  case round =>
    obtain ⟨k, hk, rfl, HF, p, rfl⟩ := hrel
    by_cases hlt : k < n
    · have hkx : k < xs0.length := HN.out ▸ hlt
      obtain ⟨b, off, e0, hb, c0, c1, c2, c3, c4⟩ := OfferD.rd HRA.out (show xs0[k]? = some xs0[k] from List.getElem?_eq_getElem _)
      subst e0
      clear c1 c2 c3 c4
      have hdn : decide ((k : Int) < (n : Int)) = true := decide_eq_true (by omega)
      cases hl : Op.bytesLess xs0[k].Id.toList x1.Id.toList
      rotate_left
      · have HS := hide (step_all (p := lessB x1) hkx HF.out hl)
        go_wp2
        refine wp_region_x (by kernel_rfl) (by kernel_rfl) ?_
        repeat (go_big_quiet_step (fail))
        refine wpQuiet_nil ?_
        rintro _ ⟨q, rfl⟩
        go_wp2
        go_roundw
        case rel => exact ⟨k + 1, by omega, by go_num, HS, IsX.xt ⟨p, rfl⟩ q⟩
        case measure => simp [intOf]; omega
      have HK := hide (addK_at hkx HF.out hl)
      have hta := taken_at hkx HK.out
      cases ht : (xs0[k].Id.toList == x1.Id.toList)
      rotate_left
      · have HB := hide (add_taken HOK.out (by rw [hta, ht]))
        clear hta
        try clear h16
        go_wp2
        refine wp_region_x (by kernel_rfl) (by kernel_rfl) ?_
        repeat (go_big_quiet_step (fail))
        refine wpQuiet_nil ?_
        rintro _ ⟨q, rfl⟩
        obtain ⟨pn, en⟩ : IsX w2 _ := IsX.xt ⟨p, rfl⟩ q
        rw [en]
        clear en q
        go_wp2
        refine wp_region_x (by kernel_rfl) (by kernel_rfl) ?_
        repeat (go_big_quiet_step (fail))
        refine wpQuiet_nil ?_
        rintro _ ⟨q2, rfl⟩
        go_wp2
        go_ret2
        exact SlPost.none HB.out.1 (by rw [HB.out.2]; rfl) (HX.out.trans (IsX.xt ⟨pn, rfl⟩ q2))
      rw [ht] at hta
      by_cases h16 : n = 16
      · have HB := hide (add_full HOK.out hta (by rw [← HN.out]; exact h16))
        have HN16 : Hid (((n : Int) == 16) = true) := hide (by simp; omega)
        clear hta
        try clear h16
        go_wp2
        refine wp_region_x (by kernel_rfl) (by kernel_rfl) ?_
        repeat (go_big_quiet_step (fail))
        refine wpQuiet_nil ?_
        rintro _ ⟨q, rfl⟩
        obtain ⟨pn, en⟩ : IsX w2 _ := IsX.xt ⟨p, rfl⟩ q
        rw [en]
        clear en q
        go_wp2
        refine wp_region_x (by kernel_rfl) (by kernel_rfl) ?_
        repeat (go_big_quiet_step (fail))
        refine wpQuiet_nil ?_
        rintro _ ⟨q2, rfl⟩
        have hn16 := HN16.out
        go_wp2
        go_ret2
        exact SlPost.none HB.out.1 (by rw [HB.out.2]; rfl) (HX.out.trans (IsX.xt ⟨pn, rfl⟩ q2))
      have HB := hide (add_ok HOK.out hta (by rw [← HN.out]; exact h16))
      have HN16 : Hid (((n : Int) == 16) = false) := hide (by simp; omega)
      have hnk : ¬ (n - k = 0) := by omega
      clear hta
      go_wp2
      refine wp_region_x (by kernel_rfl) (by kernel_rfl) ?_
      repeat (go_big_quiet_step (fail))
      refine wpQuiet_nil ?_
      rintro _ ⟨q, rfl⟩
      obtain ⟨pn, en⟩ : IsX w2 _ := IsX.xt ⟨p, rfl⟩ q
      rw [en]
      clear en q
      go_wp2
      refine wp_region_x (by kernel_rfl) (by kernel_rfl) ?_
      repeat (go_big_quiet_step (fail))
      refine wpQuiet_nil ?_
      rintro _ ⟨q2, rfl⟩
      obtain ⟨pm, em⟩ : IsX w2 _ := IsX.xt ⟨pn, rfl⟩ q2
      rw [em]
      clear em q2 pn p
      obtain ⟨p, hp⟩ : ∃ p, p = pm := ⟨_, rfl⟩
      rw [← hp]
      have hn16 := HN16.out
      clear hp pm c0
      have HCL := hide (show ∀ V, IsX w2 V → Calls Tryz.prog 27 #[.slice (some ⟨b, off, none⟩) n cd] V fun e w' => ∃ A' c', e = .returned (.slice A' n c') ∧ w'.ownsRow V.heap.size 33 5 (.slice A' n c') n (xs0.flatMap OfferD.cells) ∧ IsX V w' from fun V hV => by
        have h := c_CloneOffer (some ⟨b, off, none⟩) cd xs0 V (by have := HN.out; omega) (HRA.out.x hV)
        unfold Own at h
        rw [← HN.out] at h
        exact h)
      have HS := hide (show ∀ V, IsX w2 V → V.cell? ⟨w.heap.size, 0, none⟩ = some (.string x1.Id) ∧ V.cell? ⟨w.heap.size, 1, none⟩ = some (.string x1.Kind) ∧ V.cell? ⟨w.heap.size, 2, none⟩ = some (.int .i64 x1.Start) ∧ V.cell? ⟨w.heap.size, 3, none⟩ = some (.int .i64 x1.Length) ∧ V.cell? ⟨w.heap.size, 4, none⟩ = some (.int .i64 x1.Worth) from fun V hV => ⟨keep hV hbx k0, keep hV hbx k1, keep hV hbx k2, keep hV hbx k3, keep hV hbx k4⟩)
      obtain ⟨W, hW⟩ : ∃ W, W = xt w2 p := ⟨_, rfl⟩
      have HWX := hide (show IsX w2 W from ⟨p, hW⟩)
      rw [← hW]
      clear hW p
      obtain ⟨d0, d1, d2, d3, d4⟩ := HS.out W HWX.out
      have n0 := World.new_ne W ⟨w.heap.size, 0, none⟩ d0
      clear k0 k1 k2 k3 k4
      have HIB := hide (show ∀ (A' : Option Addr) (c' : Nat) (w5 : World), IsX W.drew w5 → w5.ownsRow W.drew.heap.size 33 5 (.slice A' n c') n (xs0.flatMap OfferD.cells) → Calls Tryz.prog 26 #[.slice A' n c', .int .i64 (k : Int), .slice (some ⟨w5.heap.size, 0, none⟩) 1 1] (w5.alloc (.cells #[.string x1.Id, .string x1.Kind, .int .i64 x1.Start, .int .i64 x1.Length, .int .i64 x1.Worth] 33)) fun e w' => ∃ A2 c2, e = .returned (.slice A2 (n + 1) c2) ∧ w'.ownsRow W.heap.size 33 5 (.slice A2 (n + 1) c2) (n + 1) ((xs0.take k ++ [x1] ++ xs0.drop k).flatMap OfferD.cells) ∧ IsX W w' from fun A' c' w5 hx5 hO5 =>
        c_InsertOffer W A' n c' k w5.heap.size W.heap.size xs0 x1 _ HN.out (hO5.alloc _) (Nat.le_refl _) (Nat.le_trans (IsX.size (IsX.trans (IsX.drew (IsX.refl W)) hx5)) (IsX.size ((IsX.refl w5).alloc _))) (IsX.alloc (IsX.trans (IsX.drew (IsX.refl W)) hx5) _) (by omega) (by omega) (Blk.new w5 33 _) (fun g hg => by have := (hO5.lt g (by rw [hg]; rfl)).2; omega))
      have HIA := hide (show ∀ (A' : Option Addr) (c' : Nat) (w5 : World), IsX (W.alloc (.cells #[.string x1.Id, .string x1.Kind, .int .i64 x1.Start, .int .i64 x1.Length, .int .i64 x1.Worth] 33)).drew w5 → w5.ownsRow (W.alloc (.cells #[.string x1.Id, .string x1.Kind, .int .i64 x1.Start, .int .i64 x1.Length, .int .i64 x1.Worth] 33)).drew.heap.size 33 5 (.slice A' n c') n (xs0.flatMap OfferD.cells) → Calls Tryz.prog 26 #[.slice A' n c', .int .i64 (k : Int), .slice (some ⟨W.heap.size, 0, none⟩) 1 1] w5 fun e w' => ∃ A2 c2, e = .returned (.slice A2 (n + 1) c2) ∧ w'.ownsRow W.heap.size 33 5 (.slice A2 (n + 1) c2) (n + 1) ((xs0.take k ++ [x1] ++ xs0.drop k).flatMap OfferD.cells) ∧ IsX W w' from fun A' c' w5 hx5 hO5 => by
        have hWW : IsX W (W.alloc (.cells #[.string x1.Id, .string x1.Kind, .int .i64 x1.Start, .int .i64 x1.Length, .int .i64 x1.Worth] 33)).drew := IsX.drew ((IsX.refl W).alloc _)
        have hsz : (W.alloc (.cells #[.string x1.Id, .string x1.Kind, .int .i64 x1.Start, .int .i64 x1.Length, .int .i64 x1.Worth] 33)).drew.heap.size = W.heap.size + 1 := by simp
        refine c_InsertOffer W A' n c' k W.heap.size W.heap.size xs0 x1 w5 HN.out (rowLe hO5 hWW.size) (Nat.le_refl _) (hWW.trans hx5).size (hWW.trans hx5) (by omega) (by omega) (((Blk.new W 33 _).x (IsX.drew (IsX.refl _))).x hx5) (fun g hg => ?_)
        have := (hO5.lt g (by rw [hg]; rfl)).1
        rw [hsz] at this
        omega)
      go_wp2_with fail
      go_region_held3 (fun V => V.cell? ⟨w.heap.size, 0, none⟩ = some (.string x1.Id) ∧ V.cell? ⟨w.heap.size, 1, none⟩ = some (.string x1.Kind) ∧ V.cell? ⟨w.heap.size, 2, none⟩ = some (.int .i64 x1.Start) ∧ V.cell? ⟨w.heap.size, 3, none⟩ = some (.int .i64 x1.Length) ∧ V.cell? ⟨w.heap.size, 4, none⟩ = some (.int .i64 x1.Worth))
        (first | go_keep | (exact HS.out _ (HWX.out.trans (IsX.drew (IsX.alloc (IsX.refl _) _)))) | (exact HS.out _ (HWX.out.trans (IsX.alloc (IsX.refl _) _))) | (exact HS.out _ (HWX.out.trans hx5)) | (exact HS.out _ (HWX.out.trans (hx5.alloc _))) | (exact HS.out _ (HWX.out.trans (IsX.drew (hx5.alloc _)))) | (exact HS.out _ (HWX.out.trans hx6)))
        ((first
          | (go_at_call 27; refine (HCL.out _ (HWX.out.trans (by first | exact IsX.refl _ | exact IsX.drew (IsX.refl _) | exact IsX.drew (IsX.alloc (IsX.refl _) _) | exact IsX.alloc (IsX.refl _) _ | exact IsX.alloc (IsX.drew (IsX.refl _)) _))).mono ?_; rintro e w5 ⟨A', c', rfl, hO5, hx5'⟩; have hx5 : IsX W w5 := IsX.trans (by first | exact IsX.refl _ | exact IsX.drew (IsX.refl _) | exact IsX.drew (IsX.alloc (IsX.refl _) _) | exact IsX.alloc (IsX.refl _) _ | exact IsX.alloc (IsX.drew (IsX.refl _)) _) hx5')
          | (go_at_call 26; (first | (refine (HIB.out _ _ _ hx5' hO5).mono ?_) | (refine (HIA.out _ _ _ hx5' hO5).mono ?_)); rintro e w6 ⟨A2, c2, rfl, hO6, hx6⟩)))
      all_goals
        go_wp2
        go_ret2
        have HL := hide (show (addZ xs0 x1).length = n + 1 by rw [HB.out.1, addAll_len, HN.out])
        refine ⟨A2, c2, by rw [HB.out.2, HL.out]; rfl, ?_, HX.out.trans (HWX.out.trans hx6)⟩
        unfold Own
        rw [HL.out, HB.out.1, addAll, HK.out]
        exact rowLe hO6 (Nat.le_trans hw2 HWX.out.size)
    · obtain rfl : k = n := by omega
      have hdn : decide ((k : Int) < (k : Int)) = false := by simp
      have HK := hide (show addK xs0 x1 = k by rw [HN.out]; exact addK_end (fun i h => HF.out i h (by rw [HN.out]; exact h)))
      have hta := taken_end (xs := xs0) (x := x1) (by rw [HK.out]; exact HN.out)
      by_cases h16 : k = 16
      · have HB := hide (add_full HOK.out hta (by rw [← HN.out]; exact h16))
        have HN16 : Hid (((k : Int) == 16) = true) := hide (by simp; omega)
        clear hta
        try clear h16
        go_wp2
        refine wp_region_x (by kernel_rfl) (by kernel_rfl) ?_
        repeat (go_big_quiet_step (fail))
        refine wpQuiet_nil ?_
        rintro _ ⟨q, rfl⟩
        obtain ⟨pn, en⟩ : IsX w2 _ := IsX.xt ⟨p, rfl⟩ q
        rw [en]
        clear en q
        go_wp2
        refine wp_region_x (by kernel_rfl) (by kernel_rfl) ?_
        repeat (go_big_quiet_step (fail))
        refine wpQuiet_nil ?_
        rintro _ ⟨q2, rfl⟩
        have hn16 := HN16.out
        go_wp2
        go_ret2
        exact SlPost.none HB.out.1 (by rw [HB.out.2]; rfl) (HX.out.trans (IsX.xt ⟨pn, rfl⟩ q2))
      have HB := hide (add_ok HOK.out hta (by rw [← HN.out]; exact h16))
      have HN16 : Hid (((k : Int) == 16) = false) := hide (by simp; omega)
      clear hta
      go_wp2
      refine wp_region_x (by kernel_rfl) (by kernel_rfl) ?_
      repeat (go_big_quiet_step (fail))
      refine wpQuiet_nil ?_
      rintro _ ⟨q, rfl⟩
      obtain ⟨pn, en⟩ : IsX w2 _ := IsX.xt ⟨p, rfl⟩ q
      rw [en]
      clear en q
      go_wp2
      refine wp_region_x (by kernel_rfl) (by kernel_rfl) ?_
      repeat (go_big_quiet_step (fail))
      refine wpQuiet_nil ?_
      rintro _ ⟨q2, rfl⟩
      obtain ⟨pm, em⟩ : IsX w2 _ := IsX.xt ⟨pn, rfl⟩ q2
      rw [em]
      clear em q2 pn p
      obtain ⟨p, hp⟩ : ∃ p, p = pm := ⟨_, rfl⟩
      rw [← hp]
      have hn16 := HN16.out
      clear hp pm
      obtain ⟨n, hnk⟩ : ∃ n, n = k := ⟨_, rfl⟩
      subst hnk
      have HCL := hide (show ∀ V, IsX w2 V → Calls Tryz.prog 27 #[.slice Ad n cd] V fun e w' => ∃ A' c', e = .returned (.slice A' n c') ∧ w'.ownsRow V.heap.size 33 5 (.slice A' n c') n (xs0.flatMap OfferD.cells) ∧ IsX V w' from fun V hV => by
        have h := c_CloneOffer Ad cd xs0 V (by have := HN.out; omega) (HRA.out.x hV)
        unfold Own at h
        rw [← HN.out] at h
        exact h)
      have HS := hide (show ∀ V, IsX w2 V → V.cell? ⟨w.heap.size, 0, none⟩ = some (.string x1.Id) ∧ V.cell? ⟨w.heap.size, 1, none⟩ = some (.string x1.Kind) ∧ V.cell? ⟨w.heap.size, 2, none⟩ = some (.int .i64 x1.Start) ∧ V.cell? ⟨w.heap.size, 3, none⟩ = some (.int .i64 x1.Length) ∧ V.cell? ⟨w.heap.size, 4, none⟩ = some (.int .i64 x1.Worth) from fun V hV => ⟨keep hV hbx k0, keep hV hbx k1, keep hV hbx k2, keep hV hbx k3, keep hV hbx k4⟩)
      obtain ⟨W, hW⟩ : ∃ W, W = xt w2 p := ⟨_, rfl⟩
      have HWX := hide (show IsX w2 W from ⟨p, hW⟩)
      rw [← hW]
      clear hW p
      obtain ⟨d0, d1, d2, d3, d4⟩ := HS.out W HWX.out
      have n0 := World.new_ne W ⟨w.heap.size, 0, none⟩ d0
      clear k0 k1 k2 k3 k4
      have HIB := hide (show ∀ (A' : Option Addr) (c' : Nat) (w5 : World), IsX W.drew w5 → w5.ownsRow W.drew.heap.size 33 5 (.slice A' n c') n (xs0.flatMap OfferD.cells) → Calls Tryz.prog 26 #[.slice A' n c', .int .i64 (n : Int), .slice (some ⟨w5.heap.size, 0, none⟩) 1 1] (w5.alloc (.cells #[.string x1.Id, .string x1.Kind, .int .i64 x1.Start, .int .i64 x1.Length, .int .i64 x1.Worth] 33)) fun e w' => ∃ A2 c2, e = .returned (.slice A2 (n + 1) c2) ∧ w'.ownsRow W.heap.size 33 5 (.slice A2 (n + 1) c2) (n + 1) ((xs0.take n ++ [x1] ++ xs0.drop n).flatMap OfferD.cells) ∧ IsX W w' from fun A' c' w5 hx5 hO5 =>
        c_InsertOffer W A' n c' n w5.heap.size W.heap.size xs0 x1 _ HN.out (hO5.alloc _) (Nat.le_refl _) (Nat.le_trans (IsX.size (IsX.trans (IsX.drew (IsX.refl W)) hx5)) (IsX.size ((IsX.refl w5).alloc _))) (IsX.alloc (IsX.trans (IsX.drew (IsX.refl W)) hx5) _) (by omega) (by omega) (Blk.new w5 33 _) (fun g hg => by have := (hO5.lt g (by rw [hg]; rfl)).2; omega))
      have HIA := hide (show ∀ (A' : Option Addr) (c' : Nat) (w5 : World), IsX (W.alloc (.cells #[.string x1.Id, .string x1.Kind, .int .i64 x1.Start, .int .i64 x1.Length, .int .i64 x1.Worth] 33)).drew w5 → w5.ownsRow (W.alloc (.cells #[.string x1.Id, .string x1.Kind, .int .i64 x1.Start, .int .i64 x1.Length, .int .i64 x1.Worth] 33)).drew.heap.size 33 5 (.slice A' n c') n (xs0.flatMap OfferD.cells) → Calls Tryz.prog 26 #[.slice A' n c', .int .i64 (n : Int), .slice (some ⟨W.heap.size, 0, none⟩) 1 1] w5 fun e w' => ∃ A2 c2, e = .returned (.slice A2 (n + 1) c2) ∧ w'.ownsRow W.heap.size 33 5 (.slice A2 (n + 1) c2) (n + 1) ((xs0.take n ++ [x1] ++ xs0.drop n).flatMap OfferD.cells) ∧ IsX W w' from fun A' c' w5 hx5 hO5 => by
        have hWW : IsX W (W.alloc (.cells #[.string x1.Id, .string x1.Kind, .int .i64 x1.Start, .int .i64 x1.Length, .int .i64 x1.Worth] 33)).drew := IsX.drew ((IsX.refl W).alloc _)
        have hsz : (W.alloc (.cells #[.string x1.Id, .string x1.Kind, .int .i64 x1.Start, .int .i64 x1.Length, .int .i64 x1.Worth] 33)).drew.heap.size = W.heap.size + 1 := by simp
        refine c_InsertOffer W A' n c' n W.heap.size W.heap.size xs0 x1 w5 HN.out (rowLe hO5 hWW.size) (Nat.le_refl _) (hWW.trans hx5).size (hWW.trans hx5) (by omega) (by omega) (((Blk.new W 33 _).x (IsX.drew (IsX.refl _))).x hx5) (fun g hg => ?_)
        have := (hO5.lt g (by rw [hg]; rfl)).1
        rw [hsz] at this
        omega)
      go_wp2_with fail
      go_region_held3 (fun V => V.cell? ⟨w.heap.size, 0, none⟩ = some (.string x1.Id) ∧ V.cell? ⟨w.heap.size, 1, none⟩ = some (.string x1.Kind) ∧ V.cell? ⟨w.heap.size, 2, none⟩ = some (.int .i64 x1.Start) ∧ V.cell? ⟨w.heap.size, 3, none⟩ = some (.int .i64 x1.Length) ∧ V.cell? ⟨w.heap.size, 4, none⟩ = some (.int .i64 x1.Worth))
        (first | go_keep | (exact HS.out _ (HWX.out.trans (IsX.drew (IsX.alloc (IsX.refl _) _)))) | (exact HS.out _ (HWX.out.trans (IsX.alloc (IsX.refl _) _))) | (exact HS.out _ (HWX.out.trans hx5)) | (exact HS.out _ (HWX.out.trans (hx5.alloc _))) | (exact HS.out _ (HWX.out.trans (IsX.drew (hx5.alloc _)))) | (exact HS.out _ (HWX.out.trans hx6)))
        ((first
          | (go_at_call 27; refine (HCL.out _ (HWX.out.trans (by first | exact IsX.refl _ | exact IsX.drew (IsX.refl _) | exact IsX.drew (IsX.alloc (IsX.refl _) _) | exact IsX.alloc (IsX.refl _) _ | exact IsX.alloc (IsX.drew (IsX.refl _)) _))).mono ?_; rintro e w5 ⟨A', c', rfl, hO5, hx5'⟩; have hx5 : IsX W w5 := IsX.trans (by first | exact IsX.refl _ | exact IsX.drew (IsX.refl _) | exact IsX.drew (IsX.alloc (IsX.refl _) _) | exact IsX.alloc (IsX.refl _) _ | exact IsX.alloc (IsX.drew (IsX.refl _)) _) hx5')
          | (go_at_call 26; (first | (refine (HIB.out _ _ _ hx5' hO5).mono ?_) | (refine (HIA.out _ _ _ hx5' hO5).mono ?_)); rintro e w6 ⟨A2, c2, rfl, hO6, hx6⟩)))
      all_goals
        go_wp2
        go_ret2
        have HL := hide (show (addZ xs0 x1).length = n + 1 by rw [HB.out.1, addAll_len, HN.out])
        refine ⟨A2, c2, by rw [HB.out.2, HL.out]; rfl, ?_, HX.out.trans (HWX.out.trans hx6)⟩
        unfold Own
        rw [HL.out, HB.out.1, addAll, HK.out]
        exact rowLe hO6 (Nat.le_trans hw2 HWX.out.size)

end Go.Proofs.YtmipphgekcdaoaaGreatDoor
