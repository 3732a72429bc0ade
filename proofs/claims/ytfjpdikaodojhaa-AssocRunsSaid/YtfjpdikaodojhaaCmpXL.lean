/- Plain law of the document's Compare: the sign of cmpX. Conditions: none. -/
import Derived.Test.YtfjpdikaodojhaaOrd
namespace Go.Proofs.Ytfjpdikaodojhaa
theorem cmpX_f {xf yf : Int} {xg xb yg yb : ByteArray} (h : xf ≠ yf) : cmpX (xf, xg, xb) (yf, yg, yb) = cmpI xf yf := by
  have : cmpI xf yf ≠ 0 := fun e => h ((cmpI_ok.eq _ _).1 e)
  unfold cmpX lexC thenC; simp [this]
theorem cmpX_g {xf : Int} {xg xb yg yb : ByteArray} (h : xg ≠ yg) : cmpX (xf, xg, xb) (xf, yg, yb) = cmpB xg yg := by
  have h0 : cmpI xf xf = 0 := (cmpI_ok.eq _ _).2 rfl
  have : cmpB xg yg ≠ 0 := fun e => h ((cmpB_ok.eq _ _).1 e)
  unfold cmpX lexC thenC; simp [this, h0, lexC, thenC]
theorem cmpX_b {xf : Int} {xg xb yb : ByteArray} : cmpX (xf, xg, xb) (xf, xg, yb) = cmpB xb yb := by
  have h0 : cmpI xf xf = 0 := (cmpI_ok.eq _ _).2 rfl
  have h1 : cmpB xg xg = 0 := (cmpB_ok.eq _ _).2 rfl
  unfold cmpX lexC thenC; simp [h0, h1, lexC, thenC]
end Go.Proofs.Ytfjpdikaodojhaa
