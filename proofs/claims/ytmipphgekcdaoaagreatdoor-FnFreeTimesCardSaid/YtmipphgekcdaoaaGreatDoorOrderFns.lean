/- Offers by their starts: the order that the reference finds. Conditions: lists no longer than 2^20. -/
import Derived.Test.YtmipphgekcdaoaaGreatDoorStartLaw
import Derived.Test.YtmipphgekcdaoaaGreatDoorOpenSeatsFns
import Derived.Test.YtmipphgekcdaoaaGreatDoorOffers
namespace Go.Proofs.YtmipphgekcdaoaaGreatDoor
set_option linter.unusedVariables false
open Go.RowKit

def startAt (xs : List OfferD) (p : Int) : Int := match xs[p.toNat]? with | some x => x.Start | none => 0
def ltS (xs : List OfferD) (a b : Int) : Bool := decide (startAt xs a < startAt xs b)
def idx (n : Nat) : List Int := (List.range n).map fun (i : Nat) => (i : Int)
theorem idx_succ (n : Nat) : idx (n + 1) = idx n ++ [(n : Int)] := by simp [idx, List.range_succ]
theorem idx_mem {n : Nat} {o : Int} : o ∈ idx n ↔ ∃ j : Nat, j < n ∧ o = (j : Int) := by
  simp only [idx, List.mem_map, List.mem_range]
  exact ⟨fun ⟨j, h, e⟩ => ⟨j, h, e.symm⟩, fun ⟨j, h, e⟩ => ⟨j, h, e.symm⟩⟩
theorem order_app {α : Type} (lt : α → α → Bool) (xs : List α) (x : α) : orderR lt (xs ++ [x]) = insR lt (orderR lt xs) x := by
  unfold orderR
  rw [List.foldl_append]; rfl
theorem order_idx_len (lt : Int → Int → Bool) (n : Nat) : (orderR lt (idx n)).length = n := by rw [orderR_len]; simp [idx]
theorem row_form {w : World} {base e size n : Nat} {v : Value} {L : List Value} (h : w.ownsRow base e size v (n + 1) L) : ∃ g c, v = .slice (some ⟨g, 0, none⟩) (n + 1) c ∧ n + 1 ≤ c := by
  rcases h.2 with ⟨_, h0⟩ | ⟨g, cap, cur, hv, _, _, h1, _⟩
  · omega
  · exact ⟨g, cap, hv, h1⟩
theorem row_cap {w : World} {base e size n m c : Nat} {A : Option Addr} {L : List Value} (h : w.ownsRow base e size (.slice A n c) m L) : m ≤ c := by
  rcases h.2 with ⟨_, h0⟩ | ⟨g, cap, cur, hv, _, _, h1, _⟩
  · omega
  · injection hv with _ _ hc; subst hc; exact h1
/-- a part of a slice, as a list -/
theorem Rd.part {w : World} {g n a m : Nat} {xs : List Int} (h : Rd intC 1 w (some ⟨g, 0, none⟩) xs) (_ : n = xs.length) : Rd intC 1 w (some ⟨g, a, none⟩) ((xs.drop a).take m) := fun i z hi => by
  rw [List.getElem?_take] at hi
  split at hi
  · rw [List.getElem?_drop] at hi
    obtain ⟨b, off, e1, hb, hcc⟩ := h _ z hi
    injection e1 with e1
    injection e1 with e1 e2
    subst e1 e2
    refine ⟨g, a, rfl, hb, fun j u hu => ?_⟩
    have := hcc j u hu
    rw [show 0 + (a + i) * 1 + j = a + i * 1 + j by omega] at this
    exact this
  · cases hi

end Go.Proofs.YtmipphgekcdaoaaGreatDoor
