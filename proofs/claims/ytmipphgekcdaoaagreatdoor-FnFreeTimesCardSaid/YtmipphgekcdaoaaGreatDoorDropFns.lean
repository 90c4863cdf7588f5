/- An offer dropped: what the reference and the program compute. Conditions: offers are valid. -/
import Derived.Test.YtmipphgekcdaoaaGreatDoorDays
import Derived.Test.YtmipphgekcdaoaaGreatDoorOwn
import Derived.Test.YtmipphgekcdaoaaGreatDoorMarks
import Derived.Deep.RegionLaw
import Derived.Lib.SliceRun
namespace Go.Proofs.YtmipphgekcdaoaaGreatDoor
set_option linter.unusedVariables false
open Go.RowKit

theorem bl_irrefl : ∀ x : List UInt8, Op.bytesLess x x = false
  | [] => rfl
  | a :: x => by simp [Op.bytesLess, bl_irrefl x]
theorem bl_trans : ∀ x y z : List UInt8, Op.bytesLess x y = true → Op.bytesLess y z = true → Op.bytesLess x z = true
  | x, y, [], _, h2 => by cases y <;> simp [Op.bytesLess] at h2
  | x, [], c :: z, h1, _ => by cases x <;> simp [Op.bytesLess] at h1
  | [], b :: y, c :: z, _, _ => rfl
  | a :: x, b :: y, c :: z, h1, h2 => by
    simp only [Op.bytesLess, Bool.or_eq_true, Bool.and_eq_true, decide_eq_true_eq, beq_iff_eq] at h1 h2 ⊢
    rcases h1 with h1 | ⟨rfl, h1⟩ <;> rcases h2 with h2 | ⟨rfl, h2⟩
    · exact .inl (UInt8.lt_trans h1 h2)
    · exact .inl h1
    · exact .inl h2
    · exact .inr ⟨rfl, bl_trans x y z h1 h2⟩
theorem ids_lt {xs : List OfferD} (h : offersB xs = true) (i : Nat) : ∀ d (hd : i + d + 1 < xs.length), Op.bytesLess (xs[i]'(by omega)).Id.toList xs[i + d + 1].Id.toList = true
  | 0, hd => by
    simp only [offersB, Bool.and_eq_true] at h
    have := allGood_lt h.2 hd
    simpa [OfferD.geB] using this
  | d + 1, hd => by
    have h1 := ids_lt h i d (by omega)
    have h2 := ids_lt h (i + d + 1) 0 (by omega)
    exact bl_trans _ _ _ h1 h2
def pId (id : ByteArray) (x : OfferD) : Bool := x.Id.toList == id.toList
theorem ids_one {xs : List OfferD} {id : ByteArray} (h : offersB xs = true) {i j : Nat} (hij : i < j) (hj : j < xs.length) (hi : pId id (xs[i]'(by omega)) = true) : pId id xs[j] = false := by
  have h1 := ids_lt h i (j - i - 1) (by omega)
  have e : i + (j - i - 1) + 1 = j := by omega
  simp only [e] at h1
  cases hp : pId id xs[j] with
  | false => rfl
  | true =>
    simp only [pId, beq_iff_eq] at hi hp
    rw [hi, hp, bl_irrefl] at h1
    cases h1
def flt (id : ByteArray) (xs : List OfferD) : List OfferD := xs.filter fun x => !pId id x
def dropI (id : ByteArray) (xs : List OfferD) : Int := idxI (pId id) xs
def dropZ (id : ByteArray) (xs : List OfferD) : List OfferD := if offersB xs = true then (if dropI id xs < 0 then [] else flt id xs) else []
def dropC (id : ByteArray) (xs : List OfferD) : Int := if offersB xs = true then (if dropI id xs < 0 then 3 else 0) else 1
theorem flt_len (id : ByteArray) (xs : List OfferD) : (flt id xs).length ≤ xs.length := List.length_filter_le _ _
theorem dropZ_len (id : ByteArray) (xs : List OfferD) : (dropZ id xs).length ≤ 1099511627776 := by
  unfold dropZ
  split
  · rename_i h
    have h1 := offers_len h
    have h2 := flt_len id xs
    split
    · simp
    · omega
  · simp
theorem flt_take {id : ByteArray} {xs : List OfferD} {k : Nat} (h : k < xs.length) : flt id (xs.take (k + 1)) = if pId id xs[k] = true then flt id (xs.take k) else flt id (xs.take k) ++ [xs[k]] := by
  unfold flt
  rw [List.take_succ_eq_append_getElem h, List.filter_append]
  cases hp : pId id xs[k] <;> simp [hp]
theorem flt_none {id : ByteArray} {xs : List OfferD} (h : ∀ i (h : i < xs.length), pId id xs[i] = false) : flt id xs = xs := by
  unfold flt
  rw [List.filter_eq_self]
  intro x hx
  obtain ⟨i, hi, rfl⟩ := List.getElem_of_mem hx
  simp [h i hi]
theorem flt_some {id : ByteArray} {xs : List OfferD} {i : Nat} (hv : offersB xs = true) (hi : i < xs.length) (hp : pId id xs[i] = true) (hb : ∀ j (h : j < xs.length), j < i → pId id xs[j] = false) : flt id xs = xs.take i ++ xs.drop (i + 1) := by
  have e : xs = xs.take i ++ xs[i] :: xs.drop (i + 1) := by rw [← List.drop_eq_getElem_cons hi, List.take_append_drop]
  have h1 : (xs.take i).filter (fun x => !pId id x) = xs.take i := by
    rw [List.filter_eq_self]
    intro x hx
    obtain ⟨j, hj, rfl⟩ := List.getElem_of_mem hx
    rw [List.length_take] at hj
    rw [List.getElem_take, hb j (by omega) (by omega)]; rfl
  have h2 : (xs.drop (i + 1)).filter (fun x => !pId id x) = xs.drop (i + 1) := by
    rw [List.filter_eq_self]
    intro x hx
    obtain ⟨j, hj, rfl⟩ := List.getElem_of_mem hx
    rw [List.length_drop] at hj
    rw [List.getElem_drop, ids_one hv (show i < i + 1 + j by omega) (by omega) hp]; rfl
  unfold flt
  conv => lhs; rw [e]
  rw [List.filter_append, List.filter_cons, hp, h1, h2]
  simp
theorem drop_len {xs : List OfferD} {i : Nat} (hi : i < xs.length) : (xs.take i ++ xs.drop (i + 1)).length = xs.length - 1 := by
  rw [List.length_append, List.length_take, List.length_drop]; omega
theorem offer_reads (w : World) (x : OfferD) : Reads (w.alloc (.cells #[.string x.Id, .string x.Kind, .int .i64 x.Start, .int .i64 x.Length, .int .i64 x.Worth] 33)) (w.alloc (.cells #[.string x.Id, .string x.Kind, .int .i64 x.Start, .int .i64 x.Length, .int .i64 x.Worth] 33)).heap.size 5 (some ⟨w.heap.size, 0, none⟩) 1 x.cells := by
  have h := Rd.reads (cells := OfferD.cells) (xs := [x]) (by omega) OfferD.cells_len (Blk.rd (cells := OfferD.cells) (xs := [x]) (t := 33) OfferD.cells_len (Blk.new w 33 #[.string x.Id, .string x.Kind, .int .i64 x.Start, .int .i64 x.Length, .int .i64 x.Worth]))
  simpa using h
theorem offer_one (xs : List OfferD) : ∀ u ∈ xs.flatMap OfferD.cells, u.oneCell' = true := by
  intro u hu
  rw [List.mem_flatMap] at hu
  obtain ⟨x, _, hx⟩ := hu
  simp only [OfferD.cells, List.mem_cons, List.not_mem_nil, or_false] at hx
  rcases hx with rfl | rfl | rfl | rfl | rfl <;> rfl
theorem own_form' {w : World} {base e size n : Nat} {v : Value} {xs : List Value} (h : w.ownsRow base e size v n xs) : ∃ A c, v = .slice A n c := by
  rcases h.2 with ⟨rfl, rfl⟩ | ⟨g, cap, cur, rfl, _⟩
  · exact ⟨none, 0, rfl⟩
  · exact ⟨_, _, rfl⟩
theorem set_put (g : Nat) : ∀ (vs : List Value) (o : Nat) (w : World), w.setCells g o vs = putAll w g o vs
  | [], _, _ => rfl
  | v :: vs, o, w => set_put g vs (o + 1) _

set_option maxHeartbeats 800000 in
theorem c_CloneOffer (A : Option Addr) (c : Nat) (xs : List OfferD) (w : World) (hn : xs.length ≤ 1099511627776) (hA : Rd OfferD.cells 5 w A xs) :
    Calls Tryz.prog 27 #[.slice A xs.length c] w fun e w' => ∃ A' c', e = .returned (.slice A' xs.length c') ∧ Own OfferD.cells 5 33 w' w.heap.size (.slice A' xs.length c') xs ∧ IsX w w' := by
  rcases A with _ | a
  · have hx0 : xs = [] := by
      cases xs with
      | nil => rfl
      | cons y ys => obtain ⟨b, off, e, _⟩ := hA 0 y rfl; cases e
    subst hx0
    clear hA hn
    have hq := fun (W : World) => Lib.run_eql_slice_nil (P := Tryz.prog) W 24 33 none 0 c 0 0 Tryz.underlying24
    go_enter Tryz.func27, Tryz.ntmps27
    go_wp2
    go_ret
    exact ⟨none, 0, rfl, World.ownsRow_nil _ _ _ _, IsX.refl _⟩
  have HI := hide (info_parts Offer_info)
  have HR := hide (hA.reads (by omega) OfferD.cells_len)
  obtain ⟨n, hnn⟩ : ∃ n, n = xs.length := ⟨_, rfl⟩
  have HN := hide hnn
  rw [← hnn] at hn ⊢
  have HR' := hide (show Reads (w.alloc (.cells #[] 33)) w.heap.size 5 (some a) n (xs.flatMap OfferD.cells) from hnn ▸ HR.out.alloc (Nat.le_refl _) _)
  have HONE := hide (offer_one xs)
  clear hnn HR hA
  have hq := fun (W : World) => Lib.run_eql_slice_nil (P := Tryz.prog) W 24 33 (some a) n c 0 0 Tryz.underlying24
  go_enter Tryz.func27, Tryz.ntmps27
  go_wp2_with (at_builtin; obtain ⟨i0, hi0, hz0, hz1, hz2⟩ := HI.out; refine wpList_append_any _ rfl (.tmp 5) (.tmp 6) _ rfl w.heap.size 33 i0 _ 5 56 Tryz.underlying24 hi0 hz0 hz1 hz2 rfl (by omega) (.slice (some ⟨w.heap.size, 0, none⟩) 0 0) 0 [] rfl (World.ownsRow_made w #[] 0 (Nat.le_refl _) (by simp [maxLen]) rfl) w.heap.size (some a) n c (xs.flatMap OfferD.cells) rfl HR'.out HONE.out (by simp only [maxLen]; omega) (by omega) (by simp) ?_; clear hi0 hz0 hz1 hz2; intro v1 w1 hown1 hg1 hat1)
  have HO := hide hown1
  have hx1 : IsX w w1 := IsX.grown ((IsX.refl w).alloc _) hg1 (by intro k hk; simp [Value.ownBlock] at hk; omega)
  clear hown1 hg1 hat1
  go_ret
  have ho := HO.out
  rw [Nat.zero_add, List.nil_append] at ho
  obtain ⟨A', c', rfl⟩ := own_form' ho
  exact ⟨A', c', rfl, HN.out ▸ ho, hx1⟩

set_option maxHeartbeats 400000 in
theorem c_dropClo (x : OfferD) (id : ByteArray) (b : Nat) (w : World) (hb : b < w.heap.size) (l1 : w.cell? ⟨b, 0, none⟩ = some (.string id)) :
    Calls Tryz.prog 29 #[.agg #[.string x.Id, .string x.Kind, .int .i64 x.Start, .int .i64 x.Length, .int .i64 x.Worth], .pointer (some ⟨b, 0, none⟩)] w fun e w' => e = .returned (.bool (pId id x)) ∧ IsX w w' := by
  have HP := hide (show pId id x = (x.Id.toList == id.toList) from rfl)
  go_enter Tryz.func29, Tryz.ntmps29
  go_wp2_with fail
  go_ret
  exact ⟨by rw [HP.out]; rfl, (IsX.refl w).alloc _⟩
set_option maxHeartbeats 800000 in
theorem c_IndexOffer (id : ByteArray) (b1 : Nat) (A : Option Addr) (c : Nat) (xs : List OfferD) (w : World) (hn : xs.length ≤ 1099511627776) (hA : Rd OfferD.cells 5 w A xs) (hb1 : b1 < w.heap.size) (l1 : w.cell? ⟨b1, 0, none⟩ = some (.string id)) :
    Calls Tryz.prog 28 #[.slice A xs.length c, .func (.func 29) #[] #[.pointer (some ⟨b1, 0, none⟩)]] w fun e w' => e = .returned (.int .i64 (dropI id xs)) ∧ IsX w w' := by
  obtain ⟨n, hnn⟩ : ∃ n, n = xs.length := ⟨_, rfl⟩
  have HN := hide hnn
  have HC := hide (show ∀ x W, IsX w W → Calls Tryz.prog 29 #[.agg #[.string x.Id, .string x.Kind, .int .i64 x.Start, .int .i64 x.Length, .int .i64 x.Worth], .pointer (some ⟨b1, 0, none⟩)] W fun e w' => e = .returned (.bool (pId id x)) ∧ IsX W w' from fun x W hW => c_dropClo x id b1 W (Nat.lt_of_lt_of_le hb1 hW.size) (keep hW hb1 l1))
  rw [← hnn] at hn ⊢
  clear hnn l1 hb1
  go_enter Tryz.func28, Tryz.ntmps28
  go_wp2
  go_loopw [8] (fun i wr => ∃ k : Nat, k ≤ n ∧ i = .int .i64 k ∧ (∀ i (h : i < xs.length), i < k → pId id xs[i] = false) ∧ IsX w wr) (fun i _ => n - (intOf i).toNat)
  case atStart => exact ⟨0, Nat.zero_le _, rfl, fun i h hi => absurd hi (by omega), IsX.refl _⟩
  case round =>
    obtain ⟨k, hk, rfl, hall, p, rfl⟩ := hrel
    have HA := hide hall
    clear hall
    by_cases hlt : k < n
    · have hltx : k < xs.length := HN.out ▸ hlt
      obtain ⟨b, off, rfl, hb, c0, c1, c2, c3, c4⟩ := OfferD.rd hA (show xs[k]? = some xs[k] from List.getElem?_eq_getElem _)
      clear hA
      cases hp : pId id xs[k]
      · have HP := hide hp
        go_wp2_with (go_at_call 29; refine (cb (HC.out xs[k] _ ⟨p, rfl⟩) hp).mono ?_; rintro e w1 ⟨rfl, q, rfl⟩)
        go_roundw
        case rel => exact ⟨k + 1, by omega, by go_num, step_all hltx HA.out HP.out, IsX.xt ⟨p, rfl⟩ q⟩
        case measure => simp [intOf]; omega
      · have HR := hide (show dropI id xs = (k : Int) from idxI_at hltx HA.out hp)
        go_wp2_with (go_at_call 29; refine (cb (HC.out xs[k] _ ⟨p, rfl⟩) hp).mono ?_; rintro e w1 ⟨rfl, q, rfl⟩)
        go_ret
        exact ⟨by rw [HR.out]; rfl, IsX.xt ⟨p, rfl⟩ q⟩
    · have HR := hide (show dropI id xs = -1 from idxI_none (fun i h => HA.out i h (by have := HN.out; omega)))
      go_wp2
      go_ret
      exact ⟨by rw [HR.out]; rfl, ⟨p, rfl⟩⟩

end Go.Proofs.YtmipphgekcdaoaaGreatDoor
