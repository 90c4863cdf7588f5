/- Numbers as text: l01Dec of the reference computes the decimal numeral. Conditions: from 0 to 2^40. -/
import Derived.Test.YtkepoedicgognaaDoorProg
import Derived.Test.YtkepoedicgognaaDoorOpen
import Derived.Test.YtkepoedicgognaaDoorOwn
import Derived.Test.YtkepoedicgognaaDoorLists
import Derived.Lib.SlBytesRow
import Derived.Lib.ItoaNum
namespace Go.Proofs.YtkepoedicgognaaDoor
set_option linter.unusedVariables false
open Go.RowKit

def byteC (x : UInt8) : List Value := [.int .u8 (x.toNat : Int)]
theorem byteC_len (x : UInt8) : (byteC x).length = 1 := rfl
theorem byte_info : (Tryd.prog.info? 5).map (fun i => (i.zero, i.size, i.bytes)) = some (some (.int .u8 0), 1, 1) := by kernel_rfl
theorem byte_reads (w : World) (u : Int) : Reads (w.alloc (.cells #[.int .u8 u] 5)) (w.alloc (.cells #[.int .u8 u] 5)).heap.size 1 (some ⟨w.heap.size, 0, none⟩) 1 [.int .u8 u] := by
  refine ⟨rfl, fun _ => ⟨⟨w.heap.size, 0, none⟩, rfl, by simp, fun j u' hu => ?_⟩⟩
  cases j with
  | zero =>
    simp at hu
    subst hu
    rw [show (Addr.add ⟨w.heap.size, 0, none⟩ 0) = ⟨w.heap.size, 0, none⟩ from rfl, (Blk.new w 5 #[.int .u8 u]).cell 0]; rfl
  | succ j => simp at hu
theorem byte_one (u : Int) : ∀ x ∈ [Value.int .u8 u], x.oneCell' = true := by
  intro x hx
  simp only [List.mem_singleton] at hx
  subst hx; rfl
theorem row_slice' {w : World} {base e size n : Nat} {v : Value} {L : List Value} (h : w.ownsRow base e size v n L) : ∃ A c, v = .slice A n c := by
  rcases h.2 with ⟨rfl, rfl⟩ | ⟨g, cap, cur, hv, _⟩
  · exact ⟨none, 0, rfl⟩
  · exact ⟨_, _, hv⟩
theorem row_x {w w' : World} {base e size n : Nat} {v : Value} {L : List Value} (h : w.ownsRow base e size v n L) (hx : IsX w w') : w'.ownsRow base e size v n L := by
  refine ⟨h.1, ?_⟩
  rcases h.2 with h2 | ⟨g, cap, cur, hv, hb, hh, r⟩
  · exact .inl h2
  · exact .inr ⟨g, cap, cur, hv, hb, (hx.below.block g (Array.getElem?_eq_some_iff.1 hh).1).trans hh, r⟩
theorem row_lt {w : World} {base e size n : Nat} {v : Value} {L : List Value} (h : w.ownsRow base e size v n L) : ∀ k, v.ownBlock = some k → base ≤ k := by
  intro k hk
  rcases h.2 with ⟨rfl, rfl⟩ | ⟨g, cap, cur, rfl, hb, _⟩
  · simp [Value.ownBlock] at hk
  · simp [Value.ownBlock] at hk; omega
theorem byte_rd {w : World} {A : Option Addr} {xs : List UInt8} (h : Rd byteC 1 w A xs) {i : Nat} {x : UInt8} (hx : xs[i]? = some x) :
    ∃ b off, A = some ⟨b, off, none⟩ ∧ b < w.heap.size ∧ w.cell? ⟨b, off + i, none⟩ = some (.int .u8 (x.toNat : Int)) := by
  obtain ⟨b, off, e, hb, hc⟩ := h i x hx
  have := hc 0 _ rfl
  rw [Nat.mul_one, Nat.add_zero] at this
  exact ⟨b, off, e, hb, this⟩
/-- the digits that are still to come -/
def decR (u : Nat) : List UInt8 := if u = 0 then [] else Lib.decDigits u
def digit (u : Nat) : UInt8 := UInt8.ofNat (48 + u % 10)
theorem decR_step {u : Nat} (h : 0 < u) : decR u = decR (u / 10) ++ [digit u] := by
  unfold decR digit
  rw [if_neg (by omega), Lib.decDigits]
  by_cases h10 : u < 10
  · rw [dif_pos h10, if_pos (by omega), show u % 10 = u by omega]; rfl
  · rw [dif_neg h10, if_neg (by omega)]
theorem digit_nat (u : Nat) : ((digit u).toNat : Int) = 48 + ((u % 10 : Nat) : Int) := by
  unfold digit
  have : (UInt8.ofNat (48 + u % 10)).toNat = 48 + u % 10 := by
    rw [UInt8.toNat_ofNat']; omega
  rw [this]; rfl
theorem decR_len : ∀ u : Nat, (decR u).length ≤ u
  | 0 => by simp [decR]
  | u + 1 => by
    rw [decR_step (by omega), List.length_append]
    have := decR_len ((u + 1) / 10)
    simp only [List.length_cons, List.length_nil]
    omega
def decText (n : Nat) : ByteArray := ⟨(Lib.decDigits n).toArray⟩
theorem decText_size (n : Nat) : (decText n).size ≤ n + 1 := by
  show (Lib.decDigits n).length ≤ n + 1
  have := decR_len n
  unfold decR at this
  split at this
  · rename_i h; subst h; rw [Lib.decDigits_one (by omega)]; simp
  · omega

set_option maxRecDepth 100000 in
set_option maxHeartbeats 3200000 in
theorem c_l01Dec (n : Nat) (w : World) (hn : n ≤ 1099511627776) :
    Calls Tryd.prog 64 #[.int .i64 (n : Int)] w fun e w' => e = .returned (.string (decText n)) ∧ IsX w w' := by
  by_cases h0 : n = 0
  · subst h0
    have H0 := hide (show decText 0 = ⟨#[48]⟩ by unfold decText; rw [Lib.decDigits_one (by omega)]; rfl)
    go_enter Tryd.func64, Tryd.ntmps64
    go_wp2
    go_ret
    exact ⟨by rw [H0.out]; rfl, IsX.refl _⟩
  have hnb : ((n : Int) == 0) = false := by rw [beq_eq_false_iff_ne]; omega
  have HI := hide (info_parts byte_info)
  have HD := hide (show decR n = Lib.decDigits n by simp [decR, h0])
  go_enter Tryd.func64, Tryd.ntmps64
  go_wp2_with fail
  clear hnb
  go_loopw [3, 4] (fun ov mv wr => ∃ (u l : Nat) (acc : List UInt8), u ≤ n ∧ mv = .int .i64 (u : Int) ∧ l + u ≤ n ∧ Hid (l = acc.length) ∧ Hid (wr.ownsRow w.heap.size 5 1 ov l (acc.flatMap byteC)) ∧ Hid (decR u ++ acc.reverse = Lib.decDigits n) ∧ IsX w wr) (fun _ mv _ => (intOf mv).toNat)
  case atStart => exact ⟨n, 0, [], Nat.le_refl _, rfl, by omega, hide rfl, hide (World.ownsRow_made w #[] 0 (Nat.le_refl _) (by simp [maxLen]) rfl), hide (by rw [HD.out]; simp), (IsX.refl w).alloc _⟩
  case round =>
    obtain ⟨u, l, acc, hu, rfl, hl, HL, HO, HE, q, rfl⟩ := hrel
    by_cases hu0 : 0 < u
    · have hub : ((u : Int) != 0) = true := by rw [bne_iff_ne]; omega
      have HS := hide (decR_step hu0)
      have HG := hide (digit_nat u)
      have hrem : Int.tmod (u : Int) 10 = ((u % 10 : Nat) : Int) := rfl
      have hquo : Int.tdiv (u : Int) 10 = ((u / 10 : Nat) : Int) := rfl
      have hm10 : u % 10 < 10 := Nat.mod_lt _ (by omega)
      have hwb : IntKind.u8.wrap (48 + ((u % 10 : Nat) : Int)) = 48 + ((u % 10 : Nat) : Int) := by
        unfold IntKind.wrap; simp [IntKind.bits, IntKind.signed]; omega
      go_wp2_with (at_builtin; obtain ⟨i0, hi0, hz0, hz1, hz2⟩ := HI.out; refine wpList_append_any _ rfl (.tmp 22) (.tmp 26) _ rfl w.heap.size 5 i0 _ 1 1 Tryd.underlying93 hi0 hz0 hz1 hz2 rfl (by omega) _ l (acc.flatMap byteC) rfl (HO.out.alloc _) _ (some ⟨(xt w q).heap.size, 0, none⟩) 1 1 [.int .u8 (48 + ((u % 10 : Nat) : Int))] rfl (byte_reads (xt w q) (48 + ((u % 10 : Nat) : Int))) (byte_one (48 + ((u % 10 : Nat) : Int))) (by simp only [maxLen]; omega) (by omega) (by have := size_xt w q; simp; omega) ?_; clear hi0 hz0 hz1 hz2; intro v1 w1 hown1 hg1 hat1; have HO1 := hide hown1; have hx1 : IsX w w1 := IsX.grown (IsX.alloc (w' := xt w q) ⟨q, rfl⟩ _) hg1 (by intro z hz; exact (HO.out.lt z hz).1); clear hown1 hg1 hat1; obtain ⟨p1, rfl⟩ := hx1)
      go_roundw
      case rel => exact ⟨u / 10, l + 1, acc ++ [digit u], by omega, by go_num, by omega, hide (by rw [HL.out]; simp), hide (by rw [List.flatMap_append]; have := HO1.out; rw [← HG.out] at this; exact this), hide (by rw [← HE.out, HS.out]; simp), ⟨p1, rfl⟩⟩
      case measure => simp [intOf]; omega
    · obtain rfl : u = 0 := by omega
      have HA := hide (show acc.reverse = Lib.decDigits n by have := HE.out; simpa [decR] using this)
      obtain ⟨A', c', hform⟩ := row_slice' HO.out
      subst hform
      have hRd : Rd byteC 1 (xt w q) A' acc := Own.rd (cells := byteC) (k := 1) (t := 5) (base := w.heap.size) (c := c') (by omega) byteC_len (show Own byteC 1 5 (xt w q) w.heap.size (.slice A' l c') acc by unfold Own; rw [← HL.out]; exact HO.out) HL.out
      have hx : IsX w (xt w q) := ⟨q, rfl⟩
      clear HO HE HD
      revert hRd hx
      generalize xt w q = W
      intro hRd hx
      have HX := hide hx
      clear hx
      rw [show (((0 : Nat) : Int)) = 0 from rfl]
      go_wp2
      try rw [show (decide ((n : Int) < 0)) = false from decide_eq_false (by omega)]
      go_loopw [6, 7] (fun ov iv wr => ∃ (k j : Nat), Hid (j + k = l) ∧ iv = .int .i64 ((k : Int) - 1) ∧ Hid (wr.ownsRow W.heap.size 5 1 ov j ((acc.drop k).reverse.flatMap byteC)) ∧ IsX W wr) (fun _ iv _ => (intOf iv + 1).toNat)
      case atStart => exact ⟨l, 0, hide (by omega), rfl, hide (by rw [List.drop_of_length_le (Nat.le_of_eq HL.out.symm)]; exact World.ownsRow_made W #[] 0 (Nat.le_refl _) (by simp [maxLen]) rfl), (IsX.refl W).alloc _⟩
      case round =>
        obtain ⟨k, j, HJ, rfl, HO, q, rfl⟩ := hrel
        have hjl : j ≤ l := by have := HJ.out; omega
        cases k with
        | succ m =>
          have hml : m < acc.length := by have := HL.out; have := HJ.out; omega
          obtain ⟨b2, off2, rfl, hb2, c0⟩ := byte_rd hRd (show acc[m]? = some acc[m] from List.getElem?_eq_getElem _)
          have hmll : m < l := by have := HJ.out; omega
          have HDR := hide (show (acc.drop m).reverse = (acc.drop (m + 1)).reverse ++ [acc[m]] by rw [List.drop_eq_getElem_cons hml, List.reverse_cons])
          clear hRd
          rw [show (((m + 1 : Nat) : Int) - 1) = (m : Int) by omega]
          go_wp2_with (at_builtin; obtain ⟨i0, hi0, hz0, hz1, hz2⟩ := HI.out; refine wpList_append_any _ rfl (.tmp 41) (.tmp 46) _ rfl W.heap.size 5 i0 _ 1 1 Tryd.underlying93 hi0 hz0 hz1 hz2 rfl (by omega) _ j ((acc.drop (m + 1)).reverse.flatMap byteC) rfl (HO.out.alloc _) _ (some ⟨(xt W q).heap.size, 0, none⟩) 1 1 [.int .u8 ((acc[m].toNat : Int))] rfl (byte_reads (xt W q) ((acc[m].toNat : Int))) (byte_one ((acc[m].toNat : Int))) (by simp only [maxLen]; omega) (by omega) (by have := size_xt W q; simp; omega) ?_; clear hi0 hz0 hz1 hz2; intro v1 w1 hown1 hg1 hat1; have HO1 := hide hown1; have hx1 : IsX W w1 := IsX.grown (IsX.alloc (w' := xt W q) ⟨q, rfl⟩ _) hg1 (by intro z hz; exact (HO.out.lt z hz).1); clear hown1 hg1 hat1; obtain ⟨p1, rfl⟩ := hx1)
          go_roundw
          case rel => exact ⟨m, j + 1, hide (by have := HJ.out; omega), by go_num, hide (by rw [HDR.out, List.flatMap_append]; exact HO1.out), ⟨p1, rfl⟩⟩
          case measure => simp [intOf]
        | zero =>
          obtain rfl : j = l := by have := HJ.out; omega
          have hdl : 0 < (Lib.decDigits n).length := by rw [Lib.decDigits_length]; exact Lib.nDigits_pos n
          have HZ := hide (show (acc.drop 0).reverse = Lib.decDigits n by rw [List.drop_zero]; exact HA.out)
          have hlen : (Lib.decDigits n).length = j := by rw [← HA.out, List.length_reverse, ← HL.out]
          have hown : Own byteC 1 5 (xt W q) W.heap.size u6 (Lib.decDigits n) := by
            have := HO.out; rw [HZ.out] at this; unfold Own; rw [hlen]; exact this
          obtain ⟨A2, c2, hform⟩ := row_slice' HO.out
          subst hform
          rw [← hlen] at hown
          obtain ⟨g, rfl, -, hgs⟩ := own_block hown hdl
          have hB : Lib.Bytes (xt W q) g 0 (decText n) := fun i hi => by
            have hi' : i < (Lib.decDigits n).length := hi
            obtain ⟨b3, off3, e3, _, c3⟩ := byte_rd (Own.rd (by omega) byteC_len hown rfl) (show (Lib.decDigits n)[i]? = some (Lib.decDigits n)[i] from List.getElem?_eq_getElem _)
            injection e3 with e3
            injection e3 with e4 e5
            subst e4 e5
            exact c3
          have hcv := Lib.run_convert_whole (P := Tryd.prog) (xt W q) 93 5 9 Tryd.underlying93 Tryd.underlying5 Tryd.underlying9 g 0 (decText n) hB c2
          rw [show (decText n).size = j from hlen] at hcv
          have HCV := hide hcv
          clear hB hown HO hcv
          have hcv := HCV.out
          rw [show (((0 : Nat) : Int) - 1) = -1 from rfl]
          go_wp2
          go_ret
          exact ⟨rfl, IsX.trans HX.out ⟨q, rfl⟩⟩

def minusOne : List UInt8 := [45, 49]
def minusText : ByteArray := ⟨minusOne.toArray⟩
set_option maxRecDepth 100000 in
set_option maxHeartbeats 3200000 in
theorem c_l01Dec_neg (w : World) :
    Calls Tryd.prog 64 #[.int .i64 (-1)] w fun e w' => e = .returned (.string minusText) ∧ IsX w w' := by
  have HI := hide (info_parts byte_info)
  go_enter Tryd.func64, Tryd.ntmps64
  go_wp2_with fail
  go_loopw [3, 4] (fun ov mv wr => ∃ one : Bool, mv = .int .i64 (if one then 0 else -1) ∧ Hid (wr.ownsRow w.heap.size 5 1 ov (if one then 1 else 0) ((if one then [(49 : UInt8)] else []).flatMap byteC)) ∧ IsX w wr) (fun _ mv _ => (intOf mv).natAbs)
  case atStart => exact ⟨false, rfl, hide (World.ownsRow_made w #[] 0 (Nat.le_refl _) (by simp [maxLen]) rfl), (IsX.refl w).alloc _⟩
  case round =>
    obtain ⟨one, rfl, HO, q, rfl⟩ := hrel
    cases one with
    | false =>
      simp only [Bool.false_eq_true, if_false] at HO ⊢
      go_wp2_with (at_builtin; obtain ⟨i0, hi0, hz0, hz1, hz2⟩ := HI.out; refine wpList_append_any _ rfl (.tmp 22) (.tmp 26) _ rfl w.heap.size 5 i0 _ 1 1 Tryd.underlying93 hi0 hz0 hz1 hz2 rfl (by omega) _ 0 (([] : List UInt8).flatMap byteC) rfl (HO.out.alloc _) _ (some ⟨(xt w q).heap.size, 0, none⟩) 1 1 [.int .u8 (49)] rfl (byte_reads (xt w q) (49)) (byte_one (49)) (by simp only [maxLen]; omega) (by omega) (by have := size_xt w q; simp; omega) ?_; clear hi0 hz0 hz1 hz2; intro v1 w1 hown1 hg1 hat1; have HO1 := hide hown1; have hx1 : IsX w w1 := IsX.grown (IsX.alloc (w' := xt w q) ⟨q, rfl⟩ _) hg1 (by intro z hz; exact (HO.out.lt z hz).1); clear hown1 hg1 hat1; obtain ⟨p1, rfl⟩ := hx1)
      go_roundw
      case rel => exact ⟨true, by go_num, HO1, ⟨p1, rfl⟩⟩
      case measure => simp [intOf]
    | true =>
      simp only [if_true] at HO ⊢
      go_wp2_with ((at_builtin; obtain ⟨i0, hi0, hz0, hz1, hz2⟩ := HI.out; refine wpList_append_any _ rfl (.tmp 30) (.tmp 31) _ rfl w.heap.size 5 i0 _ 1 1 Tryd.underlying93 hi0 hz0 hz1 hz2 rfl (by omega) _ 1 ([(49 : UInt8)].flatMap byteC) rfl (HO.out.alloc _) _ (some ⟨(xt w q).heap.size, 0, none⟩) 1 1 [.int .u8 (45)] rfl (byte_reads (xt w q) (45)) (byte_one (45)) (by simp only [maxLen]; omega) (by omega) (by have := size_xt w q; simp; omega) ?_; clear hi0 hz0 hz1 hz2; intro v1 w1 hown1 hg1 hat1; have HO1 := hide hown1; have hx1 : IsX w w1 := IsX.grown (IsX.alloc (w' := xt w q) ⟨q, rfl⟩ _) hg1 (by intro z hz; exact (HO.out.lt z hz).1); clear hown1 hg1 hat1; obtain ⟨p1, rfl⟩ := hx1); obtain ⟨l, hl2⟩ : ∃ l : Nat, l = 2 := ⟨_, rfl⟩; obtain ⟨acc, hacc⟩ : ∃ acc : List UInt8, acc = [49, 45] := ⟨_, rfl⟩; have HL := hide (show l = acc.length by rw [hl2, hacc]; rfl); have HA := hide (show acc.reverse = minusOne by rw [hacc]; rfl); obtain ⟨A', c', hform⟩ := row_slice' HO1.out; subst hform; have hRd : Rd byteC 1 (xt w p1) A' acc := Own.rd (cells := byteC) (k := 1) (t := 5) (base := w.heap.size) (c := c') (n := 1 + 1) (by omega) byteC_len (show Own byteC 1 5 (xt w p1) w.heap.size (.slice A' (1 + 1) c') acc by unfold Own; rw [hacc]; exact HO1.out) (by rw [hacc]; rfl); have hx : IsX w (xt w p1) := ⟨p1, rfl⟩; rw [show (Value.slice A' (1 + 1) c') = Value.slice A' l c' by rw [hl2]]; have hl20 : l ≤ 2 := Nat.le_of_eq hl2; clear HO HO1 hacc hl2; revert hRd hx; generalize xt w p1 = W; intro hRd hx; have HX := hide hx; clear hx)
      go_loopw [6, 7] (fun ov iv wr => ∃ (k j : Nat), Hid (j + k = l) ∧ iv = .int .i64 ((k : Int) - 1) ∧ Hid (wr.ownsRow W.heap.size 5 1 ov j ((acc.drop k).reverse.flatMap byteC)) ∧ IsX W wr) (fun _ iv _ => (intOf iv + 1).toNat)
      case atStart => exact ⟨l, 0, hide (by omega), rfl, hide (by rw [List.drop_of_length_le (Nat.le_of_eq HL.out.symm)]; exact World.ownsRow_made W #[] 0 (Nat.le_refl _) (by simp [maxLen]) rfl), (IsX.refl W).alloc _⟩
      case round =>
        obtain ⟨k, j, HJ, rfl, HO, q, rfl⟩ := hrel
        have hjl : j ≤ l := by have := HJ.out; omega
        cases k with
        | succ m =>
          have hml : m < acc.length := by have := HL.out; have := HJ.out; omega
          obtain ⟨b2, off2, rfl, hb2, c0⟩ := byte_rd hRd (show acc[m]? = some acc[m] from List.getElem?_eq_getElem _)
          have hmll : m < l := by have := HJ.out; omega
          have HDR := hide (show (acc.drop m).reverse = (acc.drop (m + 1)).reverse ++ [acc[m]] by rw [List.drop_eq_getElem_cons hml, List.reverse_cons])
          clear hRd
          rw [show (((m + 1 : Nat) : Int) - 1) = (m : Int) by omega]
          go_wp2_with (at_builtin; obtain ⟨i0, hi0, hz0, hz1, hz2⟩ := HI.out; refine wpList_append_any _ rfl (.tmp 41) (.tmp 46) _ rfl W.heap.size 5 i0 _ 1 1 Tryd.underlying93 hi0 hz0 hz1 hz2 rfl (by omega) _ j ((acc.drop (m + 1)).reverse.flatMap byteC) rfl (HO.out.alloc _) _ (some ⟨(xt W q).heap.size, 0, none⟩) 1 1 [.int .u8 ((acc[m].toNat : Int))] rfl (byte_reads (xt W q) ((acc[m].toNat : Int))) (byte_one ((acc[m].toNat : Int))) (by simp only [maxLen]; omega) (by omega) (by have := size_xt W q; simp; omega) ?_; clear hi0 hz0 hz1 hz2; intro v1 w1 hown1 hg1 hat1; have HO1 := hide hown1; have hx1 : IsX W w1 := IsX.grown (IsX.alloc (w' := xt W q) ⟨q, rfl⟩ _) hg1 (by intro z hz; exact (HO.out.lt z hz).1); clear hown1 hg1 hat1; obtain ⟨p1, rfl⟩ := hx1)
          go_roundw
          case rel => exact ⟨m, j + 1, hide (by have := HJ.out; omega), by go_num, hide (by rw [HDR.out, List.flatMap_append]; exact HO1.out), ⟨p1, rfl⟩⟩
          case measure => simp [intOf]
        | zero =>
          obtain rfl : j = l := by have := HJ.out; omega
          have hdl : 0 < (minusOne).length := by show 0 < 2; omega
          have HZ := hide (show (acc.drop 0).reverse = minusOne by rw [List.drop_zero]; exact HA.out)
          have hlen : (minusOne).length = j := by rw [← HA.out, List.length_reverse, ← HL.out]
          have hown : Own byteC 1 5 (xt W q) W.heap.size u6 (minusOne) := by
            have := HO.out; rw [HZ.out] at this; unfold Own; rw [hlen]; exact this
          obtain ⟨A2, c2, hform⟩ := row_slice' HO.out
          subst hform
          rw [← hlen] at hown
          obtain ⟨g, rfl, -, hgs⟩ := own_block hown hdl
          have hB : Lib.Bytes (xt W q) g 0 (minusText) := fun i hi => by
            have hi' : i < (minusOne).length := hi
            obtain ⟨b3, off3, e3, _, c3⟩ := byte_rd (Own.rd (by omega) byteC_len hown rfl) (show (minusOne)[i]? = some (minusOne)[i] from List.getElem?_eq_getElem _)
            injection e3 with e3
            injection e3 with e4 e5
            subst e4 e5
            exact c3
          have hcv := Lib.run_convert_whole (P := Tryd.prog) (xt W q) 93 5 9 Tryd.underlying93 Tryd.underlying5 Tryd.underlying9 g 0 (minusText) hB c2
          rw [show (minusText).size = j from hlen] at hcv
          have HCV := hide hcv
          clear hB hown HO hcv
          have hcv := HCV.out
          rw [show (((0 : Nat) : Int) - 1) = -1 from rfl]
          go_wp2
          go_ret
          exact ⟨rfl, IsX.trans HX.out ⟨q, rfl⟩⟩

end Go.Proofs.YtkepoedicgognaaDoor
