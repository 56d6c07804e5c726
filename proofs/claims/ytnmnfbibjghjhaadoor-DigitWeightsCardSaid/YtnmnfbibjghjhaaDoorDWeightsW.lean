/-
  The walk of DigitWeights: both kinds of sums.
-/
import Derived.Test.YtnmnfbibjghjhaaDoorDWeightsF
import Derived.Test.YtnmnfbibjghjhaaDoorDWeightsT
namespace Go.Proofs.YtnmnfbibjghjhaaDoor
open Go.RowKit Dig
theorem digitweights_any (eb : Bool) (wl pl : List Nat) (wv pv : Value) (w : World) (hw : ByteSrc w wv wl) (hp : ByteSrc w pv pl) (ht : Tabs w) :
    Calls Tryd.prog 10 #[.bool eb, wv, pv] w fun e w' => e = .returned (.bool true) ∧ Below w.heap.size w w' := by
  cases eb
  · exact digitweights_false wl pl wv pv w hw hp ht
  · exact digitweights_true wl pl wv pv w hw hp ht
end Go.Proofs.YtnmnfbibjghjhaaDoor
