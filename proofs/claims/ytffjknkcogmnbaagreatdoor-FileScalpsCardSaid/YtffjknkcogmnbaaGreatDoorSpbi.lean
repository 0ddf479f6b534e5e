/- Parts of the proof of a law of layer 11 (file): LbT2. The conditions stand in each theorem. -/
import Derived.Test.YtffjknkcogmnbaaGreatDoorProg
import Derived.Test.YtffjknkcogmnbaaGreatDoorSpaa
import Derived.Test.YtffjknkcogmnbaaGreatDoorSpac
import Derived.Test.YtffjknkcogmnbaaGreatDoorSpae
import Derived.Test.YtffjknkcogmnbaaGreatDoorSpag
import Derived.Test.YtffjknkcogmnbaaGreatDoorSpah
import Derived.Test.YtffjknkcogmnbaaGreatDoorSpai
import Derived.Test.YtffjknkcogmnbaaGreatDoorSpaj
import Derived.Test.YtffjknkcogmnbaaGreatDoorSpak
import Derived.Test.YtffjknkcogmnbaaGreatDoorSpal
import Derived.Test.YtffjknkcogmnbaaGreatDoorSpan
import Derived.Test.YtffjknkcogmnbaaGreatDoorSpao
import Derived.Test.YtffjknkcogmnbaaGreatDoorSpap
import Derived.Test.YtffjknkcogmnbaaGreatDoorSpaq
import Derived.Test.YtffjknkcogmnbaaGreatDoorSpar
import Derived.Test.YtffjknkcogmnbaaGreatDoorSpas
import Derived.Test.YtffjknkcogmnbaaGreatDoorSpat
import Derived.Test.YtffjknkcogmnbaaGreatDoorSpau
import Derived.Test.YtffjknkcogmnbaaGreatDoorSpav
import Derived.Test.YtffjknkcogmnbaaGreatDoorSpaw
import Derived.Test.YtffjknkcogmnbaaGreatDoorSpax
import Derived.Test.YtffjknkcogmnbaaGreatDoorSpay
import Derived.Test.YtffjknkcogmnbaaGreatDoorSpaz
import Derived.Test.YtffjknkcogmnbaaGreatDoorSpbb
import Derived.Test.YtffjknkcogmnbaaGreatDoorSpbf
set_option linter.all false
set_option linter.unusedVariables false
set_option linter.unusedSimpArgs false
namespace Go.Proofs.LB
open Go.RowKit Go.Sort Go.Proofs.LF Go.Proofs.LS
set_option maxHeartbeats 4000000
set_option maxRecDepth 100000
attribute [local go_sem] q1_ q2_ q6_
theorem jZ_ (b:Nat) (S:Nat→Prop) (w:World) (lo hi:Int) (h1:lo ≤ hi) (h2:hi ≤ lo + 1000) (h3 : -100000 ≤ lo∧lo ≤ 100000) (h:Hp b S w):Calls Tryz.prog 25 #[.pointer (some ⟨b,0,none⟩), .int .i64 lo, .int .i64 hi] w fun e w'=>∃ r:Int,e = .returned (.int .i64 r)∧(lo ≤ r∧r ≤ hi)∧Hp b S w'∧Keep (· = b) w w':=by
 obtain ⟨n,hn⟩:∃ n:Nat,hi - lo = (n:Int):=⟨(hi - lo).toNat,by omega⟩
 have hw1:IntKind.i64.wrap (hi - lo) = (n:Int):=by rw [IntWalk.i64_in _ (by omega),hn]
 have UP:=hid (zi_ b S w n (by omega) h)
 have HN:=hid hn
 clear h hn
 go_enter Tryz.func25,Tryz.ntmps25
 go_wp2_with fail
 refine UP.out.mono ?_
 rintro e w1 ⟨r,rfl,hr,hp,hk⟩
 have hnn:=HN.out
 have hw2:IntKind.i64.wrap (lo + (r:Int)) = lo + (r:Int):=IntWalk.i64_in _ (by omega)
 go_wp2_with fail
 go_ret
 exact ⟨lo + r,rfl,by omega,hp,hk⟩
end Go.Proofs.LB