/- Plain: what becomes of a board whose value goes beyond its limit. No condition. -/
import Derived.Test.YtoccapmoehdohaaBdPerfLaw
import Derived.Test.YtoccapmoehdohaaBdNew
import Derived.Test.YtoccapmoehdohaaBdAcc
namespace Go.Proofs.Ytoccapmoehdohaa
open Go.RowKit _root_.Go.Proofs.Try
set_option linter.unusedSimpArgs false
set_option linter.unusedVariables false
def sf0 : Am:=(bdNew 400 [⟨2,10,20⟩]).1
def sf1 (v : Int) : Am:=(Dk sf0 0 0 2 (21 + v)).1
def sf2 (v : Int) : Am:=(Dk (sf1 v) 1 1 3 0).1
def sf3 (v : Int) : Am:=(Dk (sf2 v) 3 1 3 0).1
def sf4 (v : Int) : Am:=bdRun (sf3 v) 2
def sf5 (v : Int) : Am:=(Dk (sf4 v) 2 0 0 0).1
def sf6 (v : Int) : Am:=(Dk (sf5 v) 1 0 3 0).1
def sf7 (v : Int) : Am:=Cf (sf6 v)
def sf8 (v : Int) : Am:=Cd (sf7 v) ⟨0,3,0,5,0⟩
def sfOk (v : Int) : Bool:=(bdNew 400 [⟨2,10,20⟩]).2 && (sf4 v).safe && decide ((sf4 v).made = 0) && decide ((sf4 v).qs.length = 0) && !(sf7 v).safe && decide ((sf7 v).made = 1) && decide ((sf7 v).rs.map (·.f2) = [3]) && decide ((sf8 v).qs = [5])
theorem sf_all : (List.range 256).all (fun k=>sfOk (k : Nat)) = true:=by kernel_rfl
end Go.Proofs.Ytoccapmoehdohaa
