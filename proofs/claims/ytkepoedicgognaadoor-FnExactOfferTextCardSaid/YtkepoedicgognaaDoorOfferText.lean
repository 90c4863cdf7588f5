/- The text of an offer: what the reference and the program compute. Conditions: the table as the program's text lays it. -/
import Derived.Test.YtkepoedicgognaaDoorTexts
import Derived.Deep.RegionHeld3
namespace Go.Proofs.YtkepoedicgognaaDoor
set_option linter.unusedVariables false
open Go.RowKit

def OfferD.nums (x : OfferD) : List Int := [x.Start, x.Length, x.Worth]
def OfferD.text (x : OfferD) : ByteArray := x.Id ++ ⟨#[32]⟩ ++ x.Kind ++ ⟨#[32]⟩ ++ listT x.nums
def textOfferZ (x : OfferD) : ByteArray := if x.okB = true then x.text else ⟨#[]⟩
theorem numsOffer_ok {x : OfferD} (h : x.okB = true) : ∀ z ∈ x.nums, 0 ≤ z ∧ z ≤ 1000000 := by
  simp only [OfferD.okB, Bool.and_eq_true] at h
  have h2 := inB_true.1 h.1.1.2
  have h3 := inB_true.1 h.1.2
  have h4 := inB_true.1 h.2
  intro z hz
  simp only [OfferD.nums, List.mem_cons, List.not_mem_nil, or_false] at hz
  rcases hz with rfl | rfl | rfl <;> omega
theorem offer_sizes {x : OfferD} (h : x.okB = true) : x.Id.size ≤ 10 ∧ x.Kind.size ≤ 10 := by
  simp only [OfferD.okB, Bool.and_eq_true] at h
  have h1 := name_size h.1.1.1.1
  have h2 := name_size h.1.1.1.2
  omega
set_option maxRecDepth 100000 in
set_option maxHeartbeats 3200000 in
theorem c_l22Text (x : OfferD) (b off : Nat) (w : World) (hok : x.okB = true) (hb : b < w.heap.size) (c0 : w.cell? ⟨b, off, none⟩ = some (.string x.Id)) (c1 : w.cell? ⟨b, off + 1, none⟩ = some (.string x.Kind)) (c2 : w.cell? ⟨b, off + 2, none⟩ = some (.int .i64 x.Start)) (c3 : w.cell? ⟨b, off + 3, none⟩ = some (.int .i64 x.Length)) (c4 : w.cell? ⟨b, off + 4, none⟩ = some (.int .i64 x.Worth)) :
    Calls Tryd.prog 50 #[.pointer (some ⟨b, off, none⟩)] w fun e w' => e = .returned (.string x.text) ∧ IsX w w' := by
  have HT := hide (show x.text = x.Id ++ ⟨#[32]⟩ ++ x.Kind ++ ⟨#[32]⟩ ++ listT x.nums from rfl)
  obtain ⟨z0, z1⟩ := offer_sizes hok
  have HK := hide (numsOffer_ok hok)
  clear hok
  have hlsz : (listT x.nums).size ≤ 1099511627790 * 3 := by
    have := list_size HK.out x.nums.length (Nat.le_refl _)
    rw [List.take_length] at this
    exact this
  have z6 : (⟨#[32]⟩ : ByteArray).size = 1 := rfl
  have q1 : (9223372036854775807 < x.Id.size + 1) = False := by simp; omega
  have q2 : (9223372036854775807 < x.Id.size + 1 + x.Kind.size) = False := by simp; omega
  have q3 : (9223372036854775807 < x.Id.size + 1 + x.Kind.size + 1) = False := by simp; omega
  have q4 : (9223372036854775807 < x.Id.size + 1 + x.Kind.size + 1 + (listT x.nums).size) = False := by simp; omega
  have hl := c_l01List (some ⟨w.heap.size, 0, none⟩) 3 x.nums ((w.alloc (.cells #[.int .i64 x.Start, .int .i64 x.Length, .int .i64 x.Worth] 2)).drew) (by simp [OfferD.nums]) (by simp [OfferD.nums]) HK.out (Blk.rd intC_len ((Blk.new w 2 #[.int .i64 x.Start, .int .i64 x.Length, .int .i64 x.Worth]).x (IsX.drew (IsX.refl _))))
  have HL : Hid (Calls Tryd.prog 68 #[.slice (some ⟨w.heap.size, 0, none⟩) 3 3] ((w.alloc (.cells #[.int .i64 x.Start, .int .i64 x.Length, .int .i64 x.Worth] 2)).drew) _) := hide hl
  have hx : IsX w ((w.alloc (.cells #[.int .i64 x.Start, .int .i64 x.Length, .int .i64 x.Worth] 2)).drew) := IsX.drew ((IsX.refl w).alloc _)
  have HX := hide hx
  have HS := hide (show ∀ W, IsX w W → W.cell? ⟨b, off, none⟩ = some (.string x.Id) ∧ W.cell? ⟨b, off + 1, none⟩ = some (.string x.Kind) ∧ W.cell? ⟨b, off + 2, none⟩ = some (.int .i64 x.Start) ∧ W.cell? ⟨b, off + 3, none⟩ = some (.int .i64 x.Length) ∧ W.cell? ⟨b, off + 4, none⟩ = some (.int .i64 x.Worth) from fun W hW => ⟨keep hW hb c0, keep hW hb c1, keep hW hb c2, keep hW hb c3, keep hW hb c4⟩)
  clear hl hx z6 z0 z1 hlsz
  have hn0 := World.new_ne w ⟨b, off, none⟩ c0
  go_enter Tryd.func50, Tryd.ntmps50
  go_wp2
  go_region_held3 (fun w' => w'.cell? ⟨b, off, none⟩ = some (.string x.Id) ∧ w'.cell? ⟨b, off + 1, none⟩ = some (.string x.Kind) ∧ w'.cell? ⟨b, off + 2, none⟩ = some (.int .i64 x.Start) ∧ w'.cell? ⟨b, off + 3, none⟩ = some (.int .i64 x.Length) ∧ w'.cell? ⟨b, off + 4, none⟩ = some (.int .i64 x.Worth)) (first | go_keep | (exact HS.out _ (IsX.drew (IsX.alloc (IsX.refl _) _))) | (exact HS.out _ (HX.out.trans hx1)))
    ((go_at_call 68; refine HL.out.mono ?_; rintro e w1 ⟨rfl, hx1, hls⟩))
  go_wp2
  go_ret
  exact ⟨by rw [HT.out]; rfl, HX.out.trans hx1⟩
theorem s_OfferText (x0 : OfferD) (w : World) (hx0 : x0.wf) : Calls Tryd.prog 27 #[.agg #[.string x0.Id, .string x0.Kind, .int .i64 x0.Start, .int .i64 x0.Length, .int .i64 x0.Worth]] w fun e w' => e = .returned (.string (textOfferZ x0)) ∧ IsX w w' := by
  have hs0 : x0.Id.size ≤ maxLen := by have := hx0; simp only [OfferD.wf] at this; omega
  have hs1 : x0.Kind.size ≤ maxLen := by have := hx0; simp only [OfferD.wf] at this; omega
  cases hok : x0.okB
  · have HR := hide (show textOfferZ x0 = ⟨#[]⟩ by simp [textOfferZ, hok])
    go_enter Tryd.func27, Tryd.ntmps27
    go_wp2_with fail
    obtain ⟨W, hW⟩ : ∃ W, W = w.alloc (.cells #[.string x0.Id, .string x0.Kind, .int .i64 x0.Start, .int .i64 x0.Length, .int .i64 x0.Worth] 55) := ⟨_, rfl⟩
    have hx : IsX w W := hW ▸ (IsX.refl w).alloc _
    have hB : Blk W w.heap.size 55 #[.string x0.Id, .string x0.Kind, .int .i64 x0.Start, .int .i64 x0.Length, .int .i64 x0.Worth] := hW ▸ Blk.new w _ _
    rw [← hW]
    clear hW
    refine (cb (c_l22One x0 w.heap.size 0 W hs0 hs1 hB.lt (hB.cell 0) (hB.cell 1) (hB.cell 2) (hB.cell 3) (hB.cell 4)) hok).mono ?_
    rintro e w' ⟨rfl, hx1⟩
    go_wp2_with fail
    go_ret
    exact ⟨by rw [HR.out]; rfl, hx.trans hx1⟩
  have HR := hide (show textOfferZ x0 = x0.text by simp [textOfferZ, hok])
  have HOK := hide hok
  go_enter Tryd.func27, Tryd.ntmps27
  go_wp2_with fail
  obtain ⟨W, hW⟩ : ∃ W, W = w.alloc (.cells #[.string x0.Id, .string x0.Kind, .int .i64 x0.Start, .int .i64 x0.Length, .int .i64 x0.Worth] 55) := ⟨_, rfl⟩
  have hx : IsX w W := hW ▸ (IsX.refl w).alloc _
  have hB : Blk W w.heap.size 55 #[.string x0.Id, .string x0.Kind, .int .i64 x0.Start, .int .i64 x0.Length, .int .i64 x0.Worth] := hW ▸ Blk.new w _ _
  rw [← hW]
  clear hW
  refine (cb (c_l22One x0 w.heap.size 0 W hs0 hs1 hB.lt (hB.cell 0) (hB.cell 1) (hB.cell 2) (hB.cell 3) (hB.cell 4)) hok).mono ?_
  rintro e w1 ⟨rfl, hx1⟩
  replace hB := hB.x hx1
  go_wp2_with fail
  refine (c_l22Text x0 w.heap.size 0 w1 HOK.out hB.lt (hB.cell 0) (hB.cell 1) (hB.cell 2) (hB.cell 3) (hB.cell 4)).mono ?_
  rintro e w2 ⟨rfl, hx2⟩
  go_wp2_with fail
  go_ret
  exact ⟨by rw [HR.out]; rfl, (hx.trans hx1).trans hx2⟩
set_option maxRecDepth 100000 in
set_option maxHeartbeats 3200000 in
theorem i_OfferText (x : OfferD) (w : World) (hx0 : x.wf) (ht : Lib.TabIs Tryd.prog w "internal/strconv.uint64pow10" .u64 Lib.pow10Tab) : Calls Tryd.prog 29 #[.agg #[.string x.Id, .string x.Kind, .int .i64 x.Start, .int .i64 x.Length, .int .i64 x.Worth]] w fun e w' => e = .returned (.string (textOfferZ x)) ∧ IsX w w' := by
  have hs0 : x.Id.size ≤ maxLen := by have := hx0; simp only [OfferD.wf] at this; omega
  have hs1 : x.Kind.size ≤ maxLen := by have := hx0; simp only [OfferD.wf] at this; omega
  have HTB := hide ht
  clear ht
  cases hok : x.okB
  · have HR := hide (show textOfferZ x = ⟨#[]⟩ by simp [textOfferZ, hok])
    go_enter Tryd.func29, Tryd.ntmps29
    go_wp2_with fail
    refine (cb (c_validOffer x _ hs0 hs1) hok).mono ?_
    rintro e w' ⟨rfl, hx⟩
    go_wp2_with fail
    go_ret
    exact ⟨by rw [HR.out]; rfl, IsX.trans ((IsX.refl w).alloc _) hx⟩
  have HR := hide (show textOfferZ x = x.Id ++ ⟨#[32]⟩ ++ x.Kind ++ ⟨#[32]⟩ ++ listT x.nums by simp [textOfferZ, hok, OfferD.text])
  obtain ⟨z0, z1⟩ := offer_sizes hok
  have HK := hide (numsOffer_ok hok)
  have hlsz : (listT x.nums).size ≤ 1099511627790 * 3 := by
    have := list_size HK.out x.nums.length (Nat.le_refl _)
    rw [List.take_length] at this
    exact this
  have z6 : (⟨#[32]⟩ : ByteArray).size = 1 := rfl
  have q1 : (9223372036854775807 < x.Id.size + 1) = False := by simp; omega
  have q2 : (9223372036854775807 < x.Id.size + 1 + x.Kind.size) = False := by simp; omega
  have q3 : (9223372036854775807 < x.Id.size + 1 + x.Kind.size + 1) = False := by simp; omega
  have q4 : (9223372036854775807 < x.Id.size + 1 + x.Kind.size + 1 + (listT x.nums).size) = False := by simp; omega
  go_enter Tryd.func29, Tryd.ntmps29
  go_wp2_with fail
  obtain ⟨W, hW⟩ : ∃ W, W = w.alloc (.cells #[.string x.Id, .string x.Kind, .int .i64 x.Start, .int .i64 x.Length, .int .i64 x.Worth] 55) := ⟨_, rfl⟩
  have hx : IsX w W := hW ▸ (IsX.refl w).alloc _
  have hB : Blk W w.heap.size 55 #[.string x.Id, .string x.Kind, .int .i64 x.Start, .int .i64 x.Length, .int .i64 x.Worth] := hW ▸ Blk.new w _ _
  rw [← hW]
  clear hW
  refine (cb (c_validOffer x W hs0 hs1) hok).mono ?_
  rintro e w1 ⟨rfl, hx1⟩
  replace hB := hB.x hx1
  have HX0 := hide (hx.trans hx1)
  obtain ⟨b, hbx⟩ : ∃ b, b = w.heap.size := ⟨_, rfl⟩
  rw [← hbx] at hB ⊢
  have c0 := hB.cell 0
  have c1 := hB.cell 1
  have c2 := hB.cell 2
  have c3 := hB.cell 3
  have c4 := hB.cell 4
  simp at c0 c1 c2 c3 c4
  have hb := hB.lt
  have hxl : IsX w1 ((w1.alloc (.cells #[.int .i64 x.Start, .int .i64 x.Length, .int .i64 x.Worth] 2)).drew) := IsX.drew ((IsX.refl w1).alloc _)
  have hl := c_ListText (some ⟨w1.heap.size, 0, none⟩) 3 x.nums ((w1.alloc (.cells #[.int .i64 x.Start, .int .i64 x.Length, .int .i64 x.Worth] 2)).drew) (by simp [OfferD.nums]) (by simp [OfferD.nums]) HK.out (Blk.rd intC_len ((Blk.new w1 2 #[.int .i64 x.Start, .int .i64 x.Length, .int .i64 x.Worth]).x (IsX.drew (IsX.refl _)))) (tab_x HTB.out (HX0.out.trans hxl))
  have HL : Hid (Calls Tryd.prog 42 #[.slice (some ⟨w1.heap.size, 0, none⟩) 3 3] ((w1.alloc (.cells #[.int .i64 x.Start, .int .i64 x.Length, .int .i64 x.Worth] 2)).drew) _) := hide hl
  have HX := hide hxl
  have HS := hide (show ∀ W, IsX w1 W → W.cell? ⟨b, 0, none⟩ = some (.string x.Id) ∧ W.cell? ⟨b, 1, none⟩ = some (.string x.Kind) ∧ W.cell? ⟨b, 2, none⟩ = some (.int .i64 x.Start) ∧ W.cell? ⟨b, 3, none⟩ = some (.int .i64 x.Length) ∧ W.cell? ⟨b, 4, none⟩ = some (.int .i64 x.Worth) from fun W hW => ⟨keep hW hb c0, keep hW hb c1, keep hW hb c2, keep hW hb c3, keep hW hb c4⟩)
  have hn0 := World.new_ne w1 ⟨b, 0, none⟩ c0
  clear hB hx hx1 hok hbx hl hxl z6 z0 z1 hlsz hs0 hs1 hx0
  go_wp2
  go_region_held3 (fun w' => w'.cell? ⟨b, 0, none⟩ = some (.string x.Id) ∧ w'.cell? ⟨b, 1, none⟩ = some (.string x.Kind) ∧ w'.cell? ⟨b, 2, none⟩ = some (.int .i64 x.Start) ∧ w'.cell? ⟨b, 3, none⟩ = some (.int .i64 x.Length) ∧ w'.cell? ⟨b, 4, none⟩ = some (.int .i64 x.Worth)) (first | go_keep | (exact HS.out _ (IsX.drew (IsX.alloc (IsX.refl _) _))) | (exact HS.out _ (HX.out.trans hx1)))
    ((go_at_call 42; refine HL.out.mono ?_; rintro e w2 ⟨rfl, hx1, hls⟩))
  go_wp2
  go_ret
  exact ⟨by rw [HR.out]; rfl, (HX0.out.trans HX.out).trans hx1⟩

end Go.Proofs.YtkepoedicgognaaDoor
