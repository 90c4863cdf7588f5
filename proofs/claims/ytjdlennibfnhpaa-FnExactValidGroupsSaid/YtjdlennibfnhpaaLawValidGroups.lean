/- The law FnExactValidGroups: the walk through the law's own text. Conditions: those of the row's arguments alone. -/
import Derived.Test.YtjdlennibfnhpaaFlatGroup
import Derived.Test.YtjdlennibfnhpaaGroups
namespace Go.Proofs.Ytjdlennibfnhpaa
open Go.RowKit

set_option maxHeartbeats 800000 in
theorem law_FnExactValidGroups (A : Option Addr) (c : Nat) (xs : List GroupD) (w : World) (hn : xs.length ≤ maxLen) (hw : ∀ x ∈ xs, x.wf) (hA : Rd GroupD.cells 3 w A xs) :
    Calls Try.prog 7 #[.slice A xs.length c] w fun e w' => e = .returned (.bool true) ∧ IsX w w' := by
  go_enter Try.func7, Try.ntmps7
  go_wp2_with fail
  refine (c_szGroupS A c xs 1048576 w hn hw (by omega) (by omega) hA).mono ?_
  rintro e w1 ⟨m, rfl, e1, e2, e3, hx1⟩
  by_cases hm : m < 0
  · go_wp2_with fail
    go_ret
    exact ⟨rfl, hx1⟩
  have hn' : xs.length ≤ 1099511627776 := by omega
  go_wp2_with fail
  refine (c_toGroupS A c xs w1 hn' (hA.x hx1)).mono ?_
  rintro e w2 ⟨g2, rfl, hg2, hB2, hx2⟩
  go_wp2_with fail
  refine (c_specValidGroups (some ⟨g2, 0, none⟩) xs.length xs w2 hn' hw (hB2.rd GroupD.cells_len)).mono ?_
  rintro e w3 ⟨rfl, hx3⟩
  go_wp2_with fail
  refine (c_toGroupS A c xs w3 hn' (hA.x ((hx1.trans hx2).trans hx3))).mono ?_
  rintro e w4 ⟨g4, rfl, hg4, hB4, hx4⟩
  go_wp2_with fail
  refine (c_ValidGroups (some ⟨g4, 0, none⟩) xs.length xs w4 hn' hw (hB4.rd GroupD.cells_len)).mono ?_
  rintro e w5 ⟨rfl, hx5⟩
  go_wp2_with fail
  have hx15 := (((hx1.trans hx2).trans hx3).trans hx4).trans hx5
  refine (c_toGroupS A c xs w5 hn' (hA.x hx15)).mono ?_
  rintro e w6 ⟨g6, rfl, hg6, hB6, hx6⟩
  go_wp2_with fail
  refine (c_eqGroupS (some ⟨g4, 0, none⟩) (some ⟨g6, 0, none⟩) xs.length xs.length xs w6 hn' ((hB4.x (hx5.trans hx6)).rd GroupD.cells_len) (hB6.rd GroupD.cells_len)).mono ?_
  rintro e w7 ⟨rfl, hx7⟩
  go_wp2_with fail
  go_ret
  exact ⟨rfl, (hx15.trans hx6).trans hx7⟩

end Go.Proofs.Ytjdlennibfnhpaa
