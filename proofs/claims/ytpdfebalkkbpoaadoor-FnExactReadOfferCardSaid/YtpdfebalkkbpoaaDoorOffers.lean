/- Lists of Offer: what the validity tests of the reference and of the program compute, and sums. Conditions: strings no longer than 2^63 - 1 bytes, lists no longer than 2^40. -/
import Derived.Test.YtpdfebalkkbpoaaDoorFlatOffer
import Derived.Test.YtpdfebalkkbpoaaDoorNames
import Derived.Test.YtpdfebalkkbpoaaDoorLists
namespace Go.Proofs.YtpdfebalkkbpoaaDoor
set_option linter.unusedVariables false
open Go.RowKit

def OfferD.okB (x : OfferD) : Bool := nameB x.Id && nameB x.Kind && inB x.Start 0 1439 && inB x.Length 1 (1440 - x.Start) && inB x.Worth 0 10000
def OfferD.geB (x y : OfferD) : Bool := !(Op.bytesLess x.Id.toList y.Id.toList)
def offersB (xs : List OfferD) : Bool := decide (xs.length ≤ 16) && allGood OfferD.okB OfferD.geB xs

set_option maxHeartbeats 800000 in
theorem c_validOffer (x : OfferD) (w : World) (hs0 : x.Id.size ≤ maxLen) (hs1 : x.Kind.size ≤ maxLen) :
    Calls Tryd.prog 17 #[.agg #[.string x.Id, .string x.Kind, .int .i64 x.Start, .int .i64 x.Length, .int .i64 x.Worth]] w fun e w' => e = .returned (.bool x.okB) ∧ IsX w w' := by
  cases h0 : nameB x.Id
  · have HR := hide (show x.okB = false by simp [OfferD.okB, h0])
    go_enter Tryd.func17, Tryd.ntmps17
    go_wp2_with (first | (go_at_call 27; (with_reducible refine (c_IsName x.Id _ hs0).mono ?_); rintro e w' ⟨rfl, rfl⟩) | (go_at_call 27; (with_reducible refine (c_IsName x.Kind _ hs1).mono ?_); rintro e w' ⟨rfl, rfl⟩) | (go_at_call 25; refine (c_within _ _ _ _).mono ?_; rintro e w' ⟨rfl, rfl⟩))
    go_ret
    exact ⟨by rw [HR.out]; first | rfl | exact congrArg (fun b => Ending.returned (Value.bool b)) (by simp; omega), (IsX.refl _).alloc _⟩
  cases h1 : nameB x.Kind
  · have HR := hide (show x.okB = false by simp [OfferD.okB, h0, h1])
    go_enter Tryd.func17, Tryd.ntmps17
    go_wp2_with (first | (go_at_call 27; (with_reducible refine (c_IsName x.Id _ hs0).mono ?_); rintro e w' ⟨rfl, rfl⟩) | (go_at_call 27; (with_reducible refine (c_IsName x.Kind _ hs1).mono ?_); rintro e w' ⟨rfl, rfl⟩) | (go_at_call 25; refine (c_within _ _ _ _).mono ?_; rintro e w' ⟨rfl, rfl⟩))
    go_ret
    exact ⟨by rw [HR.out]; first | rfl | exact congrArg (fun b => Ending.returned (Value.bool b)) (by simp; omega), (IsX.refl _).alloc _⟩
  cases h2 : inB x.Start 0 1439
  · have HR := hide (show x.okB = false by simp [OfferD.okB, h0, h1, h2])
    go_enter Tryd.func17, Tryd.ntmps17
    go_wp2_with (first | (go_at_call 27; (with_reducible refine (c_IsName x.Id _ hs0).mono ?_); rintro e w' ⟨rfl, rfl⟩) | (go_at_call 27; (with_reducible refine (c_IsName x.Kind _ hs1).mono ?_); rintro e w' ⟨rfl, rfl⟩) | (go_at_call 25; refine (c_within _ _ _ _).mono ?_; rintro e w' ⟨rfl, rfl⟩))
    go_ret
    exact ⟨by rw [HR.out]; first | rfl | exact congrArg (fun b => Ending.returned (Value.bool b)) (by simp; omega), (IsX.refl _).alloc _⟩
  have bs := inB_true.1 h2
  obtain ⟨bs0, bs1⟩ := bs
  cases h3 : inB x.Length 1 (1440 - x.Start)
  · have HR := hide (show x.okB = false by simp [OfferD.okB, h0, h1, h2, h3])
    go_enter Tryd.func17, Tryd.ntmps17
    go_wp2_with (first | (go_at_call 27; (with_reducible refine (c_IsName x.Id _ hs0).mono ?_); rintro e w' ⟨rfl, rfl⟩) | (go_at_call 27; (with_reducible refine (c_IsName x.Kind _ hs1).mono ?_); rintro e w' ⟨rfl, rfl⟩) | (go_at_call 25; refine (c_within _ _ _ _).mono ?_; rintro e w' ⟨rfl, rfl⟩))
    go_ret
    exact ⟨by rw [HR.out]; first | rfl | exact congrArg (fun b => Ending.returned (Value.bool b)) (by simp; omega), (IsX.refl _).alloc _⟩
  cases h4 : inB x.Worth 0 10000
  · have HR := hide (show x.okB = false by simp [OfferD.okB, h0, h1, h2, h3, h4])
    go_enter Tryd.func17, Tryd.ntmps17
    go_wp2_with (first | (go_at_call 27; (with_reducible refine (c_IsName x.Id _ hs0).mono ?_); rintro e w' ⟨rfl, rfl⟩) | (go_at_call 27; (with_reducible refine (c_IsName x.Kind _ hs1).mono ?_); rintro e w' ⟨rfl, rfl⟩) | (go_at_call 25; refine (c_within _ _ _ _).mono ?_; rintro e w' ⟨rfl, rfl⟩))
    go_ret
    exact ⟨by rw [HR.out]; first | rfl | exact congrArg (fun b => Ending.returned (Value.bool b)) (by simp; omega), (IsX.refl _).alloc _⟩
  have HR := hide (show x.okB = true by simp [OfferD.okB, h0, h1, h2, h3, h4])
  go_enter Tryd.func17, Tryd.ntmps17
  go_wp2_with (first | (go_at_call 27; (with_reducible refine (c_IsName x.Id _ hs0).mono ?_); rintro e w' ⟨rfl, rfl⟩) | (go_at_call 27; (with_reducible refine (c_IsName x.Kind _ hs1).mono ?_); rintro e w' ⟨rfl, rfl⟩) | (go_at_call 25; refine (c_within _ _ _ _).mono ?_; rintro e w' ⟨rfl, rfl⟩))
  go_ret
  exact ⟨by rw [HR.out]; first | rfl | exact congrArg (fun b => Ending.returned (Value.bool b)) (by simp; omega), (IsX.refl _).alloc _⟩

set_option maxHeartbeats 1600000 in
theorem c_l22One (x : OfferD) (b off : Nat) (w : World) (hs0 : x.Id.size ≤ maxLen) (hs1 : x.Kind.size ≤ maxLen) (hb : b < w.heap.size) (c0 : w.cell? ⟨b, off, none⟩ = some (.string x.Id)) (c1 : w.cell? ⟨b, off + 1, none⟩ = some (.string x.Kind)) (c2 : w.cell? ⟨b, off + 2, none⟩ = some (.int .i64 x.Start)) (c3 : w.cell? ⟨b, off + 3, none⟩ = some (.int .i64 x.Length)) (c4 : w.cell? ⟨b, off + 4, none⟩ = some (.int .i64 x.Worth)) :
    Calls Tryd.prog 26 #[.pointer (some ⟨b, off, none⟩)] w fun e w' => e = .returned (.bool x.okB) ∧ IsX w w' := by
  cases h0 : nameB x.Id
  · have HR := hide (show x.okB = false by simp [OfferD.okB, h0])
    go_enter Tryd.func26, Tryd.ntmps26
    go_wp2
    refine wp_region_x (by kernel_rfl) (by kernel_rfl) ?_
    repeat (go_big_quiet_step ((first | (go_at_call 34; with_reducible exact call_q (cb (c_name x.Id _ hs0) h0)))))
    refine wpQuiet_nil ?_
    rintro _ ⟨q, rfl⟩
    go_wp2
    go_ret
    exact ⟨by rw [HR.out]; first | rfl | exact congrArg (fun b => Ending.returned (Value.bool b)) (by simp; omega), ⟨q, rfl⟩⟩
  cases h1 : nameB x.Kind
  · have HR := hide (show x.okB = false by simp [OfferD.okB, h0, h1])
    go_enter Tryd.func26, Tryd.ntmps26
    go_wp2
    refine wp_region_x (by kernel_rfl) (by kernel_rfl) ?_
    repeat (go_big_quiet_step ((first | (go_at_call 34; with_reducible exact call_q (cb (c_name x.Id _ hs0) h0)) | (go_at_call 34; with_reducible exact call_q (cb (c_name x.Kind _ hs1) h1)))))
    refine wpQuiet_nil ?_
    rintro _ ⟨q, rfl⟩
    go_wp2
    go_ret
    exact ⟨by rw [HR.out]; first | rfl | exact congrArg (fun b => Ending.returned (Value.bool b)) (by simp; omega), ⟨q, rfl⟩⟩
  cases h2 : inB x.Start 0 1439
  · have HR := hide (show x.okB = false by simp [OfferD.okB, h0, h1, h2])
    go_enter Tryd.func26, Tryd.ntmps26
    go_wp2
    refine wp_region_x (by kernel_rfl) (by kernel_rfl) ?_
    repeat (go_big_quiet_step ((first | (go_at_call 34; with_reducible exact call_q (cb (c_name x.Id _ hs0) h0)) | (go_at_call 34; with_reducible exact call_q (cb (c_name x.Kind _ hs1) h1)) | (go_at_call 21; with_reducible exact call_q (cb (c_in x.Start 0 1439 _) h2)))))
    refine wpQuiet_nil ?_
    rintro _ ⟨q, rfl⟩
    go_wp2
    go_ret
    exact ⟨by rw [HR.out]; first | rfl | exact congrArg (fun b => Ending.returned (Value.bool b)) (by simp; omega), ⟨q, rfl⟩⟩
  have bs := inB_true.1 h2
  obtain ⟨bs0, bs1⟩ := bs
  cases h3 : inB x.Length 1 (1440 - x.Start)
  · have HR := hide (show x.okB = false by simp [OfferD.okB, h0, h1, h2, h3])
    go_enter Tryd.func26, Tryd.ntmps26
    go_wp2
    refine wp_region_x (by kernel_rfl) (by kernel_rfl) ?_
    repeat (go_big_quiet_step ((first | (go_at_call 34; with_reducible exact call_q (cb (c_name x.Id _ hs0) h0)) | (go_at_call 34; with_reducible exact call_q (cb (c_name x.Kind _ hs1) h1)) | (go_at_call 21; with_reducible exact call_q (cb (c_in x.Start 0 1439 _) h2)) | (go_at_call 21; with_reducible exact call_q (cb (c_in x.Length 1 (1440 - x.Start) _) h3)))))
    refine wpQuiet_nil ?_
    rintro _ ⟨q, rfl⟩
    go_wp2
    go_ret
    exact ⟨by rw [HR.out]; first | rfl | exact congrArg (fun b => Ending.returned (Value.bool b)) (by simp; omega), ⟨q, rfl⟩⟩
  cases h4 : inB x.Worth 0 10000
  · have HR := hide (show x.okB = false by simp [OfferD.okB, h0, h1, h2, h3, h4])
    go_enter Tryd.func26, Tryd.ntmps26
    go_wp2
    refine wp_region_x (by kernel_rfl) (by kernel_rfl) ?_
    repeat (go_big_quiet_step ((first | (go_at_call 34; with_reducible exact call_q (cb (c_name x.Id _ hs0) h0)) | (go_at_call 34; with_reducible exact call_q (cb (c_name x.Kind _ hs1) h1)) | (go_at_call 21; with_reducible exact call_q (cb (c_in x.Start 0 1439 _) h2)) | (go_at_call 21; with_reducible exact call_q (cb (c_in x.Length 1 (1440 - x.Start) _) h3)) | (go_at_call 21; with_reducible exact call_q (cb (c_in x.Worth 0 10000 _) h4)))))
    refine wpQuiet_nil ?_
    rintro _ ⟨q, rfl⟩
    go_wp2
    go_ret
    exact ⟨by rw [HR.out]; first | rfl | exact congrArg (fun b => Ending.returned (Value.bool b)) (by simp; omega), ⟨q, rfl⟩⟩
  have HR := hide (show x.okB = true by simp [OfferD.okB, h0, h1, h2, h3, h4])
  go_enter Tryd.func26, Tryd.ntmps26
  go_wp2
  refine wp_region_x (by kernel_rfl) (by kernel_rfl) ?_
  repeat (go_big_quiet_step ((first | (go_at_call 34; with_reducible exact call_q (cb (c_name x.Id _ hs0) h0)) | (go_at_call 34; with_reducible exact call_q (cb (c_name x.Kind _ hs1) h1)) | (go_at_call 21; with_reducible exact call_q (cb (c_in x.Start 0 1439 _) h2)) | (go_at_call 21; with_reducible exact call_q (cb (c_in x.Length 1 (1440 - x.Start) _) h3)) | (go_at_call 21; with_reducible exact call_q (cb (c_in x.Worth 0 10000 _) h4)))))
  refine wpQuiet_nil ?_
  rintro _ ⟨q, rfl⟩
  go_wp2
  go_ret
  exact ⟨by rw [HR.out]; first | rfl | exact congrArg (fun b => Ending.returned (Value.bool b)) (by simp; omega), ⟨q, rfl⟩⟩

end Go.Proofs.YtpdfebalkkbpoaaDoor
