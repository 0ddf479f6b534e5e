/- Parts of the proof of a law of layer 11 (file): LfC108. The conditions stand in each theorem. -/
import Derived.Test.YtadkpjgpefcphaaGreatDoorProg
import Derived.WalkMore
import Derived.Test.YtadkpjgpefcphaaGreatDoorAfac
import Derived.Test.YtadkpjgpefcphaaGreatDoorAfad
import Derived.Test.YtadkpjgpefcphaaGreatDoorAfae
import Derived.Test.YtadkpjgpefcphaaGreatDoorAfaf
import Derived.Test.YtadkpjgpefcphaaGreatDoorAfag
import Derived.Test.YtadkpjgpefcphaaGreatDoorAfaj
import Derived.Test.YtadkpjgpefcphaaGreatDoorAfak
import Derived.Test.YtadkpjgpefcphaaGreatDoorAfal
import Derived.Test.YtadkpjgpefcphaaGreatDoorAfao
import Derived.Test.YtadkpjgpefcphaaGreatDoorAfar
import Derived.Test.YtadkpjgpefcphaaGreatDoorAfav
import Derived.Test.YtadkpjgpefcphaaGreatDoorAfax
import Derived.Test.YtadkpjgpefcphaaGreatDoorAfay
import Derived.Test.YtadkpjgpefcphaaGreatDoorAfaz
import Derived.Test.YtadkpjgpefcphaaGreatDoorAfba
import Derived.Test.YtadkpjgpefcphaaGreatDoorAfbc
import Derived.Test.YtadkpjgpefcphaaGreatDoorAfbd
import Derived.Test.YtadkpjgpefcphaaGreatDoorAfbf
import Derived.Test.YtadkpjgpefcphaaGreatDoorAfbh
set_option linter.all false
set_option linter.unusedVariables false
set_option linter.unusedSimpArgs false
namespace Go.Proofs.LF
open Go.RowKit Go.Sort
theorem unch_c (y : List Ch) (ay az : Option Addr) (cy cz : Nat) (W : World) (hy : ChIn W (.slice ay y.length cy) y) (hz : ChIn W (.slice az y.length cz) y) (ly : y.length ≤ 1000) (sy : SmCh y) :
 Calls Tryz.prog 74 #[.slice ay y.length cy, .slice az y.length cz] W fun e w' => e = .returned (.bool true) ∧ Below W.heap.size W w' := by
 have h := unch_any y y ay az cy cz _ W hy hz (fun _ h => h) ly ly (fun x hx => ⟨(sy x hx).1, (sy x hx).2.2.1, (sy x hx).2.2.2⟩) (fun x hx => ⟨(sy x hx).1, (sy x hx).2.2.1, (sy x hx).2.2.2⟩)
 rwa [decide_eq_true rfl] at h
end Go.Proofs.LF
