/- FewestDays of the program. Conditions: those of the row alone. -/
import Derived.Test.YtfkhhioadklomaaFewGo
import Derived.Test.YtfkhhioadklomaaNumsOwn
import Derived.Test.YtfkhhioadklomaaMarks
namespace Go.Proofs.Ytfkhhioadklomaa
set_option linter.unusedVariables false
open Go.RowKit

theorem U64_info : (Try.prog.info? 71).map (fun i => (i.zero, i.size, i.bytes)) = some (some (.int .u64 0), 1, 8) := by kernel_rfl
/-- the masks of the first k days, and zeros behind them -/
def maskL (D : Int → Nat) (F : List Int) (k : Nat) : List Nat := (F.take k).map D ++ List.replicate (F.length - k) 0
theorem maskL_len (D : Int → Nat) (F : List Int) {k : Nat} (hk : k ≤ F.length) : (maskL D F k).length = F.length := by simp [maskL]; omega
theorem maskL_set {D : Int → Nat} {F : List Int} {k : Nat} (hk : k < F.length) (v : Nat) : (maskL D F k).set k v = (F.take k).map D ++ v :: List.replicate (F.length - (k + 1)) 0 := by
  have hl : ((F.take k).map D).length = k := by simp; omega
  rw [maskL, List.set_append_right _ _ (by omega), hl, Nat.sub_self, show F.length - k = (F.length - (k + 1)) + 1 by omega, List.replicate_succ, List.set_cons_zero]
theorem maskL_zero {D : Int → Nat} {F : List Int} {k : Nat} (hk : k < F.length) : (maskL D F k).set k 0 = maskL D F k := by
  rw [maskL_set hk, maskL, show F.length - k = (F.length - (k + 1)) + 1 by omega, List.replicate_succ]
theorem maskL_step {D : Int → Nat} {F : List Int} {k : Nat} (hk : k < F.length) : (maskL D F k).set k (D F[k]) = maskL D F (k + 1) := by
  rw [maskL_set hk, maskL, List.take_succ_eq_append_getElem hk, List.map_append, List.append_assoc]
  rfl
theorem maskL_all (D : Int → Nat) (F : List Int) : maskL D F F.length = F.map D := by simp [maskL]
theorem flat_u64_set (L : List Nat) (k v : Nat) : (L.set k v).flatMap u64C = (L.flatMap u64C).set k (.int .u64 (v : Int)) := by
  have e : ∀ K : List Nat, K.flatMap u64C = K.map (fun n : Nat => Value.int .u64 (n : Int)) := fun K => by
    induction K with
    | nil => rfl
    | cons a K ih => simp [u64C, List.flatMap_cons, ih]
  rw [e, e, List.map_set]
theorem flat_u64_len (L : List Nat) : (L.flatMap u64C).length = L.length := by rw [flat_len u64C_len]; omega
theorem made_u64 (n : Nat) : (madeCells #[Value.int .u64 0] n).toList = (List.replicate n 0).flatMap u64C := by
  have e : ∀ k : Nat, (List.replicate k 0).flatMap u64C = List.replicate k (Value.int .u64 0) := fun k => by
    induction k with
    | zero => rfl
    | succ k ih => simp only [List.replicate_succ, List.flatMap_cons, ih]; rfl
  rw [e]
  exact toList_madeCells_one _ _
theorem on_one {ps : List PersonD} {ns : List ByteArray} {nm : ByteArray} (d : Int) (hv : peopleB ps = true) (hne : needB ps ns = true) (hm : nm ∈ ns) : onTo ps [nm] d ps.length = if freeN ps nm d = true then 1 else 0 := by
  have hh : hasP ps nm = true := by
    simp only [needB, Bool.and_eq_true] at hne
    exact allGood_ok hne.2 nm hm
  have h1 : needB ps [nm] = true := by
    simp only [needB, Bool.and_eq_true, decide_eq_true_eq]
    exact ⟨by simp, all_good (fun i hi => by
      have e : i = 0 := by simp at hi; omega
      subst e
      exact good_zero (h := by simp) hh)⟩
  have h2 := count_same d hv h1
  rw [← h2]
  simp only [cntTo, List.length_singleton]
  cases h : freeN ps nm d <;> simp [h]
end Go.Proofs.Ytfkhhioadklomaa
