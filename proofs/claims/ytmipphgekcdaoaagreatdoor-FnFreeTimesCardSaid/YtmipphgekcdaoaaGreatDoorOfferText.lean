/- The text of an offer: OfferText of the program. Conditions: the library's variables as the rows lay them. -/
import Derived.Test.YtmipphgekcdaoaaGreatDoorReadText
import Derived.Test.YtmipphgekcdaoaaGreatDoorFmt
import Derived.Deep.RegionHeld3
import Derived.StillTailTactics
namespace Go.Proofs.YtmipphgekcdaoaaGreatDoor
set_option linter.unusedVariables false
open Go.RowKit

theorem decDigits_size : ∀ (u : Nat), (Lib.decDigits u).length ≤ u + 1 := by
  intro u
  induction u using Nat.strongRecOn with
  | _ u ih =>
    rw [Lib.decDigits]
    split
    · simp
    · rw [List.length_append, List.length_singleton]
      have := ih (u / 10) (by omega)
      omega
theorem decI_size {z : Int} (h : -1 ≤ z) (h1 : z ≤ 1099511627776) : (decI z).size ≤ 1099511627780 := by
  show (Lib.itoa z).toArray.size ≤ _
  rw [List.size_toArray]
  unfold Lib.itoa
  split
  · have := decDigits_size z.natAbs; rw [List.length_cons]; omega
  · have := decDigits_size z.toNat; omega
theorem c_DecimalI (z : Int) (w : World) (h0 : -1 ≤ z) (h1 : z ≤ 1099511627776) (ht : EnvOk w) : Calls Tryz.prog 48 #[.int .i64 z] w fun e w' => e = .returned (.string (decI z)) ∧ IsX w w' :=
  c_DecimalV z w (by omega) (by omega) ht
theorem TString_info : (Tryz.prog.info? 9).map (fun i => (i.zero, i.size, i.bytes)) = some (some (.string ByteArray.empty), 1, 16) := by kernel_rfl
theorem list_size {xs : List Int} (hb : ∀ z ∈ xs, 0 ≤ z ∧ z ≤ 1000000) : ∀ k, k ≤ xs.length → (listT (xs.take k)).size ≤ 1099511627790 * k
  | 0, _ => by rw [list_zero]; exact Nat.zero_le _
  | 1, h => by
    have z1 := decI_size (z := xs[0]) (by have := hb _ (List.getElem_mem h); omega) (by have := hb _ (List.getElem_mem h); omega)
    rw [← list_one h, ByteArray.size_append]
    have : (⟨#[]⟩ : ByteArray).size = 0 := rfl
    omega
  | j + 1 + 1, h => by
    have ih := list_size hb (j + 1) (by omega)
    have z1 := decI_size (z := xs[j + 1]) (by have := hb _ (List.getElem_mem h); omega) (by have := hb _ (List.getElem_mem h); omega)
    rw [← list_more h, ByteArray.size_append, ByteArray.size_append]
    have : (⟨#[44]⟩ : ByteArray).size = 1 := rfl
    omega
theorem list_join (xs : List Int) : (⟨(Lib.join ((xs.map decI).map (·.data.toList)) (⟨#[44]⟩ : ByteArray).data.toList).toArray⟩ : ByteArray) = listT xs := by
  unfold listT
  rw [List.map_map]
  have e : ((fun x : ByteArray => x.data.toList) ∘ decI) = Lib.itoa := by
    funext z; simp [decI]
  rw [e]
set_option maxHeartbeats 1600000 in
theorem c_ListText (A : Option Addr) (c : Nat) (xs : List Int) (w : World) (h1 : 0 < xs.length) (hn : xs.length ≤ 64) (hb : ∀ z ∈ xs, 0 ≤ z ∧ z ≤ 1000000) (hA : Rd intC 1 w A xs) (ht : EnvOk w) :
    Calls Tryz.prog 33 #[.slice A xs.length c] w fun e w' => e = .returned (.string (listT xs)) ∧ IsX w w' ∧ (listT xs).size ≤ 1099511627790 * 64 := by
  have HTB := hide ht
  have hlz := list_size hb xs.length (Nat.le_refl _)
  rw [List.take_length] at hlz
  have HLZ := hide (Nat.le_trans hlz (Nat.mul_le_mul_left _ hn))
  have HJ := hide (list_join xs)
  clear ht hlz
  obtain ⟨i0, hi0, hz0, hz1, hz2⟩ := info_parts TString_info
  obtain ⟨n, hnn⟩ : ∃ n, n = xs.length := ⟨_, rfl⟩
  have HN := hide hnn
  rw [← hnn] at hn h1 ⊢
  clear hnn
  have HB := hide hb
  have hnb : ((n : Int) == 0) = false := by rw [beq_eq_false_iff_ne]; omega
  clear hb
  have hmk := fun W => run_make_rowN (P := Tryz.prog) 54 9 i0 _ Tryz.underlying54 hi0 hz0 .i64 .i64 n n (Nat.le_refl _) (by rw [hz2]; omega) (by omega) W
  rw [hz1] at hmk
  clear hz0 hz1 hz2 hi0
  go_enter Tryz.func33, Tryz.ntmps33
  go_wp2_with fail
  clear hnb
  go_loopw [17] (fun i wr => ∃ k : Nat, k ≤ n ∧ i = .int .i64 k ∧ Filled strC 1 9 w wr w.heap.size (xs.map decI) k) (fun i _ => n - (intOf i).toNat)
  case atStart => exact ⟨0, Nat.zero_le _, rfl, Filled.start w (IsX.refl _) _ (by rw [List.length_map, ← HN.out]; first | exact size_madeCells _ _ | (rw [Nat.mul_one]; exact size_madeCells _ _))⟩
  case round =>
    obtain ⟨k, hk, rfl, hrel⟩ := hrel
    obtain ⟨⟨p, rfl⟩, cur, hB, hcs, hcur⟩ := hrel
    have HCUR := hide hcur
    clear hcur
    by_cases hlt : k < n
    · have hltx : k < xs.length := HN.out ▸ hlt
      obtain ⟨b, off, rfl, hbb, c0⟩ := int_rd hA (show xs[k]? = some xs[k] from List.getElem?_eq_getElem _)
      have HZ := hide (HB.out _ (List.getElem_mem hltx))
      have hin : inB xs[k] (-1000000000000) 1000000000000 = true := inB_true.2 (by have := HZ.out; omega)
      have hcs' : cur.size = n := by rw [hcs, List.length_map, Nat.mul_one, ← HN.out]
      have hmz : (xs.map decI)[k]? = some (decI xs[k]) := by rw [List.getElem?_map, List.getElem?_eq_getElem hltx]; rfl
      have HMZ := hide hmz
      have HCS := hide hcs
      clear hA hmz hcs
      go_wp2_with first | (go_at_call 38; refine (cb (c_within xs[k] _ _ _) hin).mono ?_; rintro e w' ⟨rfl, rfl⟩) | (go_at_call 48; refine (c_DecimalI xs[k] _ (by have := HZ.out; omega) (by have := HZ.out; omega) (HTB.out.x ⟨p, rfl⟩)).mono ?_; rintro e w1 ⟨rfl, hx1⟩; have hB1 := hB.x hx1; obtain ⟨v0, s0⟩ := hB1.has (i := k) (by rw [hcs']; exact hlt); have z0 := hB1.frozen k; have hlb := hB1.lt; have HX1 := hide (IsX.trans ⟨p, rfl⟩ hx1); have HB1 := hide hB1; clear hB hB1 hx1)
      have hst := Filled.step (cells := strC) (x := decI xs[k]) HB1.out HCS.out HCUR.out HMZ.out strC_len HX1.out (Nat.le_refl _)
      rw [Nat.mul_one] at hst
      have HST := hide hst
      clear hst
      go_roundw
      case rel => exact ⟨k + 1, by omega, by go_num, HST.out⟩
      case measure => simp [intOf]; omega
    · obtain rfl : k = n := by omega
      have hfd := Filled.done (cells := strC) (xs := xs.map decI) (w := w) (wr := xt w p) (g := w.heap.size) (by rw [List.length_map, ← HN.out]; exact ⟨⟨p, rfl⟩, cur, hB, hcs, HCUR.out⟩) strC_len
      have hrd := hfd.1.rd (cells := strC) strC_len
      have HC := hide (show ∀ (j : Nat) x, (xs.map decI)[j]? = some x → (xt w p).cell? ⟨w.heap.size, 0 + j, none⟩ = some (.string x) from fun j x hj => by
        obtain ⟨b3, off3, e3, _, c3⟩ := str_rd hrd hj
        injection e3 with e3
        injection e3 with e4 e5
        subst e4 e5
        exact c3)
      have hlt2 := hfd.1.lt
      have hlen : (xs.map decI).length = k := by rw [List.length_map, ← HN.out]
      have HJN := hide (Tryz.strings_Join w.heap.size 0 k (xs.map decI) ⟨#[44]⟩ (xt w p) HC.out hlt2 (by omega) (by omega) (by
        have h3 : (Lib.join ((xs.map decI).map (·.data.toList)) (⟨#[44]⟩ : ByteArray).data.toList).length = (listT xs).size := by rw [← HJ.out]; rfl
        rw [h3]; have := HLZ.out; omega))
      have HJ2 := hide (show Calls Tryz.prog 49 #[.slice (some ⟨w.heap.size, 0, none⟩) k k, .string ⟨#[44]⟩] (xt w p) fun e w' => e = .returned (.string (listT xs)) ∧ Below (xt w p).heap.size (xt w p) w' from by
        have h := HJN.out; rw [hlen, HJ.out] at h; exact h)
      clear hfd hrd hB hcs hlen hlt2
      go_wp2_with (go_at_call 49; refine HJ2.out.mono ?_; rintro e w1 ⟨rfl, hbl⟩; have hx1 := IsX.of_below hbl; clear hbl)
      go_ret
      exact ⟨rfl, IsX.trans ⟨p, rfl⟩ hx1, HLZ.out⟩

def textOfferZ (x : OfferD) : ByteArray := if x.okB = true then x.text else ⟨#[]⟩
theorem numsOffer_ok {x : OfferD} (h : x.okB = true) : ∀ z ∈ x.nums, 0 ≤ z ∧ z ≤ 1000000 := by
  simp only [OfferD.okB, Bool.and_eq_true] at h
  have h2 := inB_true.1 h.1.1.2
  have h3 := inB_true.1 h.1.2
  have h4 := inB_true.1 h.2
  intro z hz
  simp only [OfferD.nums, List.mem_cons, List.not_mem_nil, or_false] at hz
  rcases hz with rfl | rfl | rfl <;> omega
theorem offer_sizes {x : OfferD} (h : x.okB = true) : x.Id.size ≤ 10 ∧ x.Kind.size ≤ 10 := by
  simp only [OfferD.okB, Bool.and_eq_true] at h
  have h1 := name_size h.1.1.1.1
  have h2 := name_size h.1.1.1.2
  omega
set_option maxRecDepth 100000 in
set_option maxHeartbeats 3200000 in
theorem i_OfferText (x : OfferD) (w : World) (hx0 : x.wf) (ht : EnvOk w) : Calls Tryz.prog 12 #[.agg #[.string x.Id, .string x.Kind, .int .i64 x.Start, .int .i64 x.Length, .int .i64 x.Worth]] w fun e w' => e = .returned (.string (textOfferZ x)) ∧ IsX w w' := by
  have hs0 : x.Id.size ≤ maxLen := by have := hx0; simp only [OfferD.wf] at this; omega
  have hs1 : x.Kind.size ≤ maxLen := by have := hx0; simp only [OfferD.wf] at this; omega
  have HTB := hide ht
  clear ht
  cases hok : x.okB
  · have HR := hide (show textOfferZ x = ⟨#[]⟩ by simp [textOfferZ, hok])
    go_enter Tryz.func12, Tryz.ntmps12
    go_wp2_with fail
    refine (cb (c_validOffer x _ hs0 hs1) hok).mono ?_
    rintro e w' ⟨rfl, hx⟩
    go_wp2_with fail
    go_ret
    exact ⟨by rw [HR.out]; rfl, IsX.trans ((IsX.refl w).alloc _) hx⟩
  have HR := hide (show textOfferZ x = x.Id ++ ⟨#[32]⟩ ++ x.Kind ++ ⟨#[32]⟩ ++ listT x.nums by simp [textOfferZ, hok, OfferD.text])
  obtain ⟨z0, z1⟩ := offer_sizes hok
  have HK := hide (numsOffer_ok hok)
  have hlsz : (listT x.nums).size ≤ 1099511627790 * 3 := by
    have := list_size HK.out x.nums.length (Nat.le_refl _)
    rw [List.take_length] at this
    exact this
  have z6 : (⟨#[32]⟩ : ByteArray).size = 1 := rfl
  have q1 : (9223372036854775807 < x.Id.size + 1) = False := by simp; omega
  have q2 : (9223372036854775807 < x.Id.size + 1 + x.Kind.size) = False := by simp; omega
  have q3 : (9223372036854775807 < x.Id.size + 1 + x.Kind.size + 1) = False := by simp; omega
  have q4 : (9223372036854775807 < x.Id.size + 1 + x.Kind.size + 1 + (listT x.nums).size) = False := by simp; omega
  go_enter Tryz.func12, Tryz.ntmps12
  go_wp2_with fail
  obtain ⟨W, hW⟩ : ∃ W, W = w.alloc (.cells #[.string x.Id, .string x.Kind, .int .i64 x.Start, .int .i64 x.Length, .int .i64 x.Worth] 33) := ⟨_, rfl⟩
  have hx : IsX w W := hW ▸ (IsX.refl w).alloc _
  have hB : Blk W w.heap.size 33 #[.string x.Id, .string x.Kind, .int .i64 x.Start, .int .i64 x.Length, .int .i64 x.Worth] := hW ▸ Blk.new w _ _
  rw [← hW]
  clear hW
  refine (cb (c_validOffer x W hs0 hs1) hok).mono ?_
  rintro e w1 ⟨rfl, hx1⟩
  replace hB := hB.x hx1
  have HX0 := hide (hx.trans hx1)
  obtain ⟨b, hbx⟩ : ∃ b, b = w.heap.size := ⟨_, rfl⟩
  rw [← hbx] at hB ⊢
  have c0 := hB.cell 0
  have c1 := hB.cell 1
  have c2 := hB.cell 2
  have c3 := hB.cell 3
  have c4 := hB.cell 4
  simp at c0 c1 c2 c3 c4
  have hb := hB.lt
  have hxl : IsX w1 ((w1.alloc (.cells #[.int .i64 x.Start, .int .i64 x.Length, .int .i64 x.Worth] 2)).drew) := IsX.drew ((IsX.refl w1).alloc _)
  have hl := c_ListText (some ⟨w1.heap.size, 0, none⟩) 3 x.nums ((w1.alloc (.cells #[.int .i64 x.Start, .int .i64 x.Length, .int .i64 x.Worth] 2)).drew) (by simp [OfferD.nums]) (by simp [OfferD.nums]) HK.out (Blk.rd intC_len ((Blk.new w1 2 #[.int .i64 x.Start, .int .i64 x.Length, .int .i64 x.Worth]).x (IsX.drew (IsX.refl _)))) (HTB.out.x (HX0.out.trans hxl))
  have HL : Hid (Calls Tryz.prog 33 #[.slice (some ⟨w1.heap.size, 0, none⟩) 3 3] ((w1.alloc (.cells #[.int .i64 x.Start, .int .i64 x.Length, .int .i64 x.Worth] 2)).drew) _) := hide hl
  have HX := hide hxl
  have HS := hide (show ∀ W, IsX w1 W → W.cell? ⟨b, 0, none⟩ = some (.string x.Id) ∧ W.cell? ⟨b, 1, none⟩ = some (.string x.Kind) ∧ W.cell? ⟨b, 2, none⟩ = some (.int .i64 x.Start) ∧ W.cell? ⟨b, 3, none⟩ = some (.int .i64 x.Length) ∧ W.cell? ⟨b, 4, none⟩ = some (.int .i64 x.Worth) from fun W hW => ⟨keep hW hb c0, keep hW hb c1, keep hW hb c2, keep hW hb c3, keep hW hb c4⟩)
  have hn0 := World.new_ne w1 ⟨b, 0, none⟩ c0
  clear hB hx hx1 hok hbx hl hxl z6 z0 z1 hlsz hs0 hs1 hx0
  go_wp2
  go_region_held3 (fun w' => w'.cell? ⟨b, 0, none⟩ = some (.string x.Id) ∧ w'.cell? ⟨b, 1, none⟩ = some (.string x.Kind) ∧ w'.cell? ⟨b, 2, none⟩ = some (.int .i64 x.Start) ∧ w'.cell? ⟨b, 3, none⟩ = some (.int .i64 x.Length) ∧ w'.cell? ⟨b, 4, none⟩ = some (.int .i64 x.Worth)) (first | go_keep | (exact HS.out _ (IsX.drew (IsX.alloc (IsX.refl _) _))) | (exact HS.out _ (HX.out.trans hx1)))
    ((go_at_call 33; refine HL.out.mono ?_; rintro e w2 ⟨rfl, hx1, hls⟩))
  go_wp2
  go_ret
  exact ⟨by rw [HR.out]; rfl, (HX0.out.trans HX.out).trans hx1⟩

end Go.Proofs.YtmipphgekcdaoaaGreatDoor
