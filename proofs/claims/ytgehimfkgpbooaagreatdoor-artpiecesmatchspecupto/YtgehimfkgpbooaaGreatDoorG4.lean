/-
  Printed texts: Go functions as plain functions, and that they are. No statement of the seed is proved here.
-/
import Derived.Test.YtgehimfkgpbooaaGreatDoorG1
import Derived.Test.YtgehimfkgpbooaaGreatDoorG2
import Derived.Test.YtgehimfkgpbooaaGreatDoorG3
import Derived.Test.YtgehimfkgpbooaaGreatDoorA2
set_option linter.unusedVariables false
set_option linter.unusedSimpArgs false
set_option linter.unusedSectionVars false
set_option maxRecDepth 100000
set_option maxHeartbeats 4000000
namespace Go.Gk
open Go Go.Proofs
variable (N:Nat) {E w:World} {b0 i0 i1:Nat} {p0 p1 p2 res:Int} {v0 v0_0 v0_1 v0_10 v0_11 v0_2 v0_3 v0_4 v0_5 v0_6 v0_7 v0_8 v0_9 v1:Value} {Γ:List HP}
theorem xO {p0 p1:aI} {res:Bool} (hw:Holds E w Γ) (h0:Γ[i0]? =some (rd v0 p0)) (h1:Γ[i1]? =some (rd v1 p1)) (hb:q8 N p0 p1=some res):
    Calls bM 51 [v0,v1].toArray w (gL (aV E Γ res)):=by
 unfold q8 at hb
 refine enter Tryz.func51 zr zr ?_
 have hw:=(hw.dup (i0+0) h0).dup (i1+1) h1
 refine RC.sr (RL.dJ 1 v0 hw zr fun j w hw=>?_)
 refine RL.dJ 1 v1 hw zr fun o w hw=>?_
 refine aQ (vb false) (RL.ns (RL.aX zr g9 (RL.aM 1 hw zr dL cJ (RL.aX zr iZ (RL.aM 0 hw zr eC cJ (ic p0.X0 p1.X1 (mv (vb (decide (p0.X0<p1.X1))) (RL.gs true (decide (p0.X0<p1.X1)) (vp o 0) zr zr zr (dY g9) ?_))))))))
 refine RL.gs true (decide (p0.X0<p1.X1)) (vi p1.X0) rfl rfl rfl (bZ 0 rfl hw (fun h=>by exact(cI h:cv (true&&((decide (p0.X0<p1.X1))==true)) (vp o 0)= (vp o 0))) rfl dL cJ) (RL.gs true (decide (p0.X0<p1.X1)) (vp j 2) rfl rfl rfl (dY iZ) (RL.gs true (decide (p0.X0<p1.X1)) (vi p0.X1) rfl rfl rfl (bZ 1 rfl hw (fun h=>by exact(cI h:cv (true&&((decide (p0.X0<p1.X1))==true)) (vp j 2)= (vp j 2))) rfl eC cJ) (RL.gs true (decide (p0.X0<p1.X1)) (vb (decide (p1.X0<p0.X1))) rfl rfl rfl (dI .lss .i64 p1.X0 p0.X1 rfl (fun h=>by exact(cI h:cv (true&&((decide (p0.X0<p1.X1))==true)) (vi p1.X0)= (vi p1.X0))) (fun h=>by exact(cI h:cv (true&&((decide (p0.X0<p1.X1))==true)) (vi p0.X1)= (vi p0.X1))) rfl) (RL.pick (decide (p0.X0<p1.X1)) (vb ((decide (p0.X0<p1.X1))&&(decide (p1.X0<p0.X1)))) (fZ true rfl) (aQ (vb ((decide (p0.X0<p1.X1))&&(decide (p1.X0<p0.X1)))) (RL.ns (RL.aX rfl gR (RL.aM 1 hw rfl dG cJ ?_))))))))
 refine RL.aX rfl ka (RL.aM 0 hw rfl fo cJ (ic p0.Y0 p1.Y1 (mv (vb (decide (p0.Y0<p1.Y1))) (RL.gs true (decide (p0.Y0<p1.Y1)) (vp o 1) rfl rfl rfl (dY gR) (RL.gs true (decide (p0.Y0<p1.Y1)) (vi p1.Y0) rfl rfl rfl (bZ 0 rfl hw (fun h=>by exact(cI h:cv (true&&((decide (p0.Y0<p1.Y1))==true)) (vp o 1)= (vp o 1))) rfl dG cJ) (RL.gs true (decide (p0.Y0<p1.Y1)) (vp j 3) rfl rfl rfl (dY ka) (RL.gs true (decide (p0.Y0<p1.Y1)) (vi p0.Y1) rfl rfl rfl (bZ 1 rfl hw (fun h=>by exact(cI h:cv (true&&((decide (p0.Y0<p1.Y1))==true)) (vp j 3)= (vp j 3))) rfl fo cJ) (RL.gs true (decide (p0.Y0<p1.Y1)) (vb (decide (p1.Y0<p0.Y1))) rfl rfl rfl (dI .lss .i64 p1.Y0 p0.Y1 rfl (fun h=>by exact(cI h:cv (true&&((decide (p0.Y0<p1.Y1))==true)) (vi p1.Y0)= (vi p1.Y0))) (fun h=>by exact(cI h:cv (true&&((decide (p0.Y0<p1.Y1))==true)) (vi p0.Y1)= (vi p0.Y1))) rfl) ?_))))))))
 refine RL.pick (decide (p0.Y0<p1.Y1)) (vb ((decide (p0.Y0<p1.Y1))&&(decide (p1.Y0<p0.Y1)))) (fZ true rfl) (aQ (vb ((decide (p0.Y0<p1.Y1))&&(decide (p1.Y0<p0.Y1)))) (RL.ns (mv (vb ((decide (p0.X0<p1.X1))&&(decide (p1.X0<p0.X1)))) (mv (vb ((decide (p0.X0<p1.X1))&&(decide (p1.X0<p0.X1)))) (RL.gs true ((decide (p0.X0<p1.X1))&&(decide (p1.X0<p0.X1))) (vp j 3) rfl rfl rfl (dY ka) (RL.gs true ((decide (p0.X0<p1.X1))&&(decide (p1.X0<p0.X1))) (vi p0.Y1) rfl rfl rfl (bZ 1 rfl hw (fun h=>by exact(cI h:cv (true&&(((decide (p0.X0<p1.X1))&&(decide (p1.X0<p0.X1)))==true)) (vp j 3)= (vp j 3))) rfl fo cJ) (RL.gs true ((decide (p0.X0<p1.X1))&&(decide (p1.X0<p0.X1))) (vp o 1) rfl rfl rfl (dY gR) (RL.gs true ((decide (p0.X0<p1.X1))&&(decide (p1.X0<p0.X1))) (vi p1.Y0) rfl rfl rfl (bZ 0 rfl hw (fun h=>by exact(cI h:cv (true&&(((decide (p0.X0<p1.X1))&&(decide (p1.X0<p0.X1)))==true)) (vp o 1)= (vp o 1))) rfl dG cJ) ?_))))))))
 refine RL.gs true ((decide (p0.X0<p1.X1))&&(decide (p1.X0<p0.X1))) (vb (p0.Y1==p1.Y0)) rfl rfl rfl (dI .eql .i64 p0.Y1 p1.Y0 rfl (fun h=>by exact(cI h:cv (true&&(((decide (p0.X0<p1.X1))&&(decide (p1.X0<p0.X1)))==true)) (vi p0.Y1)= (vi p0.Y1))) (fun h=>by exact(cI h:cv (true&&(((decide (p0.X0<p1.X1))&&(decide (p1.X0<p0.X1)))==true)) (vi p1.Y0)= (vi p1.Y0))) rfl) (RL.gs true ((decide (p0.X0<p1.X1))&&(decide (p1.X0<p0.X1))) (vb (p0.Y1==p1.Y0)) rfl rfl rfl (cF (hx:=fun h=>by exact(cI h:cv (true&&(((decide (p0.X0<p1.X1))&&(decide (p1.X0<p0.X1)))==true)) (vb (p0.Y1==p1.Y0))= (vb (p0.Y1==p1.Y0))))) (RL.gs (true&&(((decide (p0.X0<p1.X1))&&(decide (p1.X0<p0.X1)))==true)) (p0.Y1==p1.Y0) (vp o 3) rfl rfl rfl (dY ka) (RL.gs (true&&(((decide (p0.X0<p1.X1))&&(decide (p1.X0<p0.X1)))==true)) (p0.Y1==p1.Y0) (vi p1.Y1) rfl rfl rfl (bZ 0 rfl hw (fun h=>by exact(cI h:cv ((true&&(((decide (p0.X0<p1.X1))&&(decide (p1.X0<p0.X1)))==true))&&((p0.Y1==p1.Y0)==false)) (vp o 3)= (vp o 3))) rfl fo cJ) (RL.gs (true&&(((decide (p0.X0<p1.X1))&&(decide (p1.X0<p0.X1)))==true)) (p0.Y1==p1.Y0) (vp j 1) rfl rfl rfl (dY gR) (RL.gs (true&&(((decide (p0.X0<p1.X1))&&(decide (p1.X0<p0.X1)))==true)) (p0.Y1==p1.Y0) (vi p0.Y0) rfl rfl rfl (bZ 1 rfl hw (fun h=>by exact(cI h:cv ((true&&(((decide (p0.X0<p1.X1))&&(decide (p1.X0<p0.X1)))==true))&&((p0.Y1==p1.Y0)==false)) (vp j 1)= (vp j 1))) rfl dG cJ) (RL.gs (true&&(((decide (p0.X0<p1.X1))&&(decide (p1.X0<p0.X1)))==true)) (p0.Y1==p1.Y0) (vb (p1.Y1==p0.Y0)) rfl rfl rfl (dI .eql .i64 p1.Y1 p0.Y0 rfl (fun h=>by exact(cI h:cv ((true&&(((decide (p0.X0<p1.X1))&&(decide (p1.X0<p0.X1)))==true))&&((p0.Y1==p1.Y0)==false)) (vi p1.Y1)= (vi p1.Y1))) (fun h=>by exact(cI h:cv ((true&&(((decide (p0.X0<p1.X1))&&(decide (p1.X0<p0.X1)))==true))&&((p0.Y1==p1.Y0)==false)) (vi p0.Y0)= (vi p0.Y0))) rfl) (RL.gs true ((decide (p0.X0<p1.X1))&&(decide (p1.X0<p0.X1))) (vb ((p0.Y1==p1.Y0)||(p1.Y1==p0.Y0))) rfl rfl rfl (kj (p0.Y1==p1.Y0) rfl (fun h=>by exact(cI h:cv (true&&(((decide (p0.X0<p1.X1))&&(decide (p1.X0<p0.X1)))==true)) (vb (p0.Y1==p1.Y0))= (vb (p0.Y1==p1.Y0)))) (fun h=>by exact nD (h:=h) (true&&(((decide (p0.X0<p1.X1))&&(decide (p1.X0<p0.X1)))==true)))) (RL.pick ((decide (p0.X0<p1.X1))&&(decide (p1.X0<p0.X1))) (vb (((decide (p0.X0<p1.X1))&&(decide (p1.X0<p0.X1)))&&((p0.Y1==p1.Y0)||(p1.Y1==p0.Y0)))) (fZ true rfl) ?_))))))))
 refine mv (vb (((decide (p0.X0<p1.X1))&&(decide (p1.X0<p0.X1)))&&((p0.Y1==p1.Y0)||(p1.Y1==p0.Y0)))) (RL.gs true (((decide (p0.X0<p1.X1))&&(decide (p1.X0<p0.X1)))&&((p0.Y1==p1.Y0)||(p1.Y1==p0.Y0))) (vb ((decide (p0.Y0<p1.Y1))&&(decide (p1.Y0<p0.Y1)))) rfl rfl rfl cF (RL.gs true (((decide (p0.X0<p1.X1))&&(decide (p1.X0<p0.X1)))&&((p0.Y1==p1.Y0)||(p1.Y1==p0.Y0))) (vb ((decide (p0.Y0<p1.Y1))&&(decide (p1.Y0<p0.Y1)))) rfl rfl rfl (cF (hx:=fun h=>by exact(cI h:cv (true&&((((decide (p0.X0<p1.X1))&&(decide (p1.X0<p0.X1)))&&((p0.Y1==p1.Y0)||(p1.Y1==p0.Y0)))==false)) (vb ((decide (p0.Y0<p1.Y1))&&(decide (p1.Y0<p0.Y1))))= (vb ((decide (p0.Y0<p1.Y1))&&(decide (p1.Y0<p0.Y1))))))) (RL.gs (true&&((((decide (p0.X0<p1.X1))&&(decide (p1.X0<p0.X1)))&&((p0.Y1==p1.Y0)||(p1.Y1==p0.Y0)))==false)) ((decide (p0.Y0<p1.Y1))&&(decide (p1.Y0<p0.Y1))) (vp j 2) rfl rfl rfl (dY iZ) (RL.gs (true&&((((decide (p0.X0<p1.X1))&&(decide (p1.X0<p0.X1)))&&((p0.Y1==p1.Y0)||(p1.Y1==p0.Y0)))==false)) ((decide (p0.Y0<p1.Y1))&&(decide (p1.Y0<p0.Y1))) (vi p0.X1) rfl rfl rfl (bZ 1 rfl hw (fun h=>by exact(cI h:cv ((true&&((((decide (p0.X0<p1.X1))&&(decide (p1.X0<p0.X1)))&&((p0.Y1==p1.Y0)||(p1.Y1==p0.Y0)))==false))&&(((decide (p0.Y0<p1.Y1))&&(decide (p1.Y0<p0.Y1)))==true)) (vp j 2)= (vp j 2))) rfl eC cJ) (RL.gs (true&&((((decide (p0.X0<p1.X1))&&(decide (p1.X0<p0.X1)))&&((p0.Y1==p1.Y0)||(p1.Y1==p0.Y0)))==false)) ((decide (p0.Y0<p1.Y1))&&(decide (p1.Y0<p0.Y1))) (vp o 0) rfl rfl rfl (dY g9) (RL.gs (true&&((((decide (p0.X0<p1.X1))&&(decide (p1.X0<p0.X1)))&&((p0.Y1==p1.Y0)||(p1.Y1==p0.Y0)))==false)) ((decide (p0.Y0<p1.Y1))&&(decide (p1.Y0<p0.Y1))) (vi p1.X0) rfl rfl rfl (bZ 0 rfl hw (fun h=>by exact(cI h:cv ((true&&((((decide (p0.X0<p1.X1))&&(decide (p1.X0<p0.X1)))&&((p0.Y1==p1.Y0)||(p1.Y1==p0.Y0)))==false))&&(((decide (p0.Y0<p1.Y1))&&(decide (p1.Y0<p0.Y1)))==true)) (vp o 0)= (vp o 0))) rfl dL cJ) (RL.gs (true&&((((decide (p0.X0<p1.X1))&&(decide (p1.X0<p0.X1)))&&((p0.Y1==p1.Y0)||(p1.Y1==p0.Y0)))==false)) ((decide (p0.Y0<p1.Y1))&&(decide (p1.Y0<p0.Y1))) (vb (p0.X1==p1.X0)) rfl rfl rfl (dI .eql .i64 p0.X1 p1.X0 rfl (fun h=>by exact(cI h:cv ((true&&((((decide (p0.X0<p1.X1))&&(decide (p1.X0<p0.X1)))&&((p0.Y1==p1.Y0)||(p1.Y1==p0.Y0)))==false))&&(((decide (p0.Y0<p1.Y1))&&(decide (p1.Y0<p0.Y1)))==true)) (vi p0.X1)= (vi p0.X1))) (fun h=>by exact(cI h:cv ((true&&((((decide (p0.X0<p1.X1))&&(decide (p1.X0<p0.X1)))&&((p0.Y1==p1.Y0)||(p1.Y1==p0.Y0)))==false))&&(((decide (p0.Y0<p1.Y1))&&(decide (p1.Y0<p0.Y1)))==true)) (vi p1.X0)= (vi p1.X0))) rfl) (RL.gs (true&&((((decide (p0.X0<p1.X1))&&(decide (p1.X0<p0.X1)))&&((p0.Y1==p1.Y0)||(p1.Y1==p0.Y0)))==false)) ((decide (p0.Y0<p1.Y1))&&(decide (p1.Y0<p0.Y1))) (vb (p0.X1==p1.X0)) rfl rfl rfl (cF (hx:=fun h=>by exact(cI h:cv ((true&&((((decide (p0.X0<p1.X1))&&(decide (p1.X0<p0.X1)))&&((p0.Y1==p1.Y0)||(p1.Y1==p0.Y0)))==false))&&(((decide (p0.Y0<p1.Y1))&&(decide (p1.Y0<p0.Y1)))==true)) (vb (p0.X1==p1.X0))= (vb (p0.X1==p1.X0))))) ?_))))))))
 refine RL.gs ((true&&((((decide (p0.X0<p1.X1))&&(decide (p1.X0<p0.X1)))&&((p0.Y1==p1.Y0)||(p1.Y1==p0.Y0)))==false))&&(((decide (p0.Y0<p1.Y1))&&(decide (p1.Y0<p0.Y1)))==true)) (p0.X1==p1.X0) (vp o 2) rfl rfl rfl (dY iZ) (RL.gs ((true&&((((decide (p0.X0<p1.X1))&&(decide (p1.X0<p0.X1)))&&((p0.Y1==p1.Y0)||(p1.Y1==p0.Y0)))==false))&&(((decide (p0.Y0<p1.Y1))&&(decide (p1.Y0<p0.Y1)))==true)) (p0.X1==p1.X0) (vi p1.X1) rfl rfl rfl (bZ 0 rfl hw (fun h=>by exact(cI h:cv (((true&&((((decide (p0.X0<p1.X1))&&(decide (p1.X0<p0.X1)))&&((p0.Y1==p1.Y0)||(p1.Y1==p0.Y0)))==false))&&(((decide (p0.Y0<p1.Y1))&&(decide (p1.Y0<p0.Y1)))==true))&&((p0.X1==p1.X0)==false)) (vp o 2)= (vp o 2))) rfl eC cJ) (RL.gs ((true&&((((decide (p0.X0<p1.X1))&&(decide (p1.X0<p0.X1)))&&((p0.Y1==p1.Y0)||(p1.Y1==p0.Y0)))==false))&&(((decide (p0.Y0<p1.Y1))&&(decide (p1.Y0<p0.Y1)))==true)) (p0.X1==p1.X0) (vp j 0) rfl rfl rfl (dY g9) (RL.gs ((true&&((((decide (p0.X0<p1.X1))&&(decide (p1.X0<p0.X1)))&&((p0.Y1==p1.Y0)||(p1.Y1==p0.Y0)))==false))&&(((decide (p0.Y0<p1.Y1))&&(decide (p1.Y0<p0.Y1)))==true)) (p0.X1==p1.X0) (vi p0.X0) rfl rfl rfl (bZ 1 rfl hw (fun h=>by exact(cI h:cv (((true&&((((decide (p0.X0<p1.X1))&&(decide (p1.X0<p0.X1)))&&((p0.Y1==p1.Y0)||(p1.Y1==p0.Y0)))==false))&&(((decide (p0.Y0<p1.Y1))&&(decide (p1.Y0<p0.Y1)))==true))&&((p0.X1==p1.X0)==false)) (vp j 0)= (vp j 0))) rfl dL cJ) (RL.gs ((true&&((((decide (p0.X0<p1.X1))&&(decide (p1.X0<p0.X1)))&&((p0.Y1==p1.Y0)||(p1.Y1==p0.Y0)))==false))&&(((decide (p0.Y0<p1.Y1))&&(decide (p1.Y0<p0.Y1)))==true)) (p0.X1==p1.X0) (vb (p1.X1==p0.X0)) rfl rfl rfl (dI .eql .i64 p1.X1 p0.X0 rfl (fun h=>by exact(cI h:cv (((true&&((((decide (p0.X0<p1.X1))&&(decide (p1.X0<p0.X1)))&&((p0.Y1==p1.Y0)||(p1.Y1==p0.Y0)))==false))&&(((decide (p0.Y0<p1.Y1))&&(decide (p1.Y0<p0.Y1)))==true))&&((p0.X1==p1.X0)==false)) (vi p1.X1)= (vi p1.X1))) (fun h=>by exact(cI h:cv (((true&&((((decide (p0.X0<p1.X1))&&(decide (p1.X0<p0.X1)))&&((p0.Y1==p1.Y0)||(p1.Y1==p0.Y0)))==false))&&(((decide (p0.Y0<p1.Y1))&&(decide (p1.Y0<p0.Y1)))==true))&&((p0.X1==p1.X0)==false)) (vi p0.X0)= (vi p0.X0))) rfl) (RL.gs (true&&((((decide (p0.X0<p1.X1))&&(decide (p1.X0<p0.X1)))&&((p0.Y1==p1.Y0)||(p1.Y1==p0.Y0)))==false)) ((decide (p0.Y0<p1.Y1))&&(decide (p1.Y0<p0.Y1))) (vb ((p0.X1==p1.X0)||(p1.X1==p0.X0))) rfl rfl rfl (kj (p0.X1==p1.X0) rfl (fun h=>by exact(cI h:cv ((true&&((((decide (p0.X0<p1.X1))&&(decide (p1.X0<p0.X1)))&&((p0.Y1==p1.Y0)||(p1.Y1==p0.Y0)))==false))&&(((decide (p0.Y0<p1.Y1))&&(decide (p1.Y0<p0.Y1)))==true)) (vb (p0.X1==p1.X0))= (vb (p0.X1==p1.X0)))) (fun h=>by exact nD (h:=h) ((true&&((((decide (p0.X0<p1.X1))&&(decide (p1.X0<p0.X1)))&&((p0.Y1==p1.Y0)||(p1.Y1==p0.Y0)))==false))&&(((decide (p0.Y0<p1.Y1))&&(decide (p1.Y0<p0.Y1)))==true)))) (RL.gs true (((decide (p0.X0<p1.X1))&&(decide (p1.X0<p0.X1)))&&((p0.Y1==p1.Y0)||(p1.Y1==p0.Y0))) (vb (((decide (p0.Y0<p1.Y1))&&(decide (p1.Y0<p0.Y1)))&&((p0.X1==p1.X0)||(p1.X1==p0.X0)))) rfl rfl rfl (kj ((decide (p0.Y0<p1.Y1))&&(decide (p1.Y0<p0.Y1))) rfl (fun h=>by exact(cI h:cv (true&&((((decide (p0.X0<p1.X1))&&(decide (p1.X0<p0.X1)))&&((p0.Y1==p1.Y0)||(p1.Y1==p0.Y0)))==false)) (vb ((decide (p0.Y0<p1.Y1))&&(decide (p1.Y0<p0.Y1))))= (vb ((decide (p0.Y0<p1.Y1))&&(decide (p1.Y0<p0.Y1)))))) (fun h=>by exact fZ (true&&((((decide (p0.X0<p1.X1))&&(decide (p1.X0<p0.X1)))&&((p0.Y1==p1.Y0)||(p1.Y1==p0.Y0)))==false)) h)) (RL.pick (((decide (p0.X0<p1.X1))&&(decide (p1.X0<p0.X1)))&&((p0.Y1==p1.Y0)||(p1.Y1==p0.Y0))) (vb ((((decide (p0.X0<p1.X1))&&(decide (p1.X0<p0.X1)))&&((p0.Y1==p1.Y0)||(p1.Y1==p0.Y0)))||(((decide (p0.Y0<p1.Y1))&&(decide (p1.Y0<p0.Y1)))&&((p0.X1==p1.X0)||(p1.X1==p0.X0))))) (nD true) (aQ (vb ((((decide (p0.X0<p1.X1))&&(decide (p1.X0<p0.X1)))&&((p0.Y1==p1.Y0)||(p1.Y1==p0.Y0)))||(((decide (p0.Y0<p1.Y1))&&(decide (p1.Y0<p0.Y1)))&&((p0.X1==p1.X0)||(p1.X1==p0.X0))))) ?_))))))))
 refine RL.nt (RC.ret ?_)
 obtain rfl:=oi hb
 exact bX ⟨rfl,hw.drop 4⟩
theorem rn {p0:aI} {p1:cD} {res:Bool} (hw:Holds E w Γ) (h0:Γ[i0]? =some (rd v0 p0)) (h1:Γ[i1]? =some (pt v1 p1)) (hb:j4 N p0 p1=some res):
    Calls bM 50 [v0,v1].toArray w (gL (aV E Γ res)):=by
 unfold j4 at hb
 refine enter Tryz.func50 zr zr ?_
 have hw:=(hw.dup (i0+0) h0).Bz (i:=i1+1) h1
 refine RC.sr (RL.dJ 1 v0 hw zr fun af w hw=>?_)
 have hw:=hw.lE (i:=0) rfl
 refine aQ (vb false) (RL.nq (RC.vH mixed [1,0,2,2,0] [0,1,2,3,4] ?_))
 have hw:=hw.drew
 refine DP.yJ p0 0 zr zt hw iw fun j a33 ag hw=>(DP.e0 zr (RL.bL 3 p1 hw lP fun o hw=>(pz zr ?_)))
 obtain⟨ah,aa,hb⟩:=bd hb
 refine RL.call zt zr Ft [o] zr (aD (i6 N (i0:=0) hw zr aa) ?_)
 rintro ab w hw
 refine DP.d2 (⟨zt,hw.g8 2⟩) (DP.e2 zr ?_)
 obtain⟨ad,ae,hb⟩:=bd hb
 refine RL.call zt zr LW [j,ab] zr (aD (xO N (i0:=3) (i1:=0) hw zr zr ae) ?_)
 rintro _ w ⟨rfl,hw⟩
 refine DP.d2 (⟨zt,hw.g8 2⟩) (DP.e0 zr (aQ (vb ad) (DP.d0 ?_)))
 have hw:=hw.pl 7 [0,1,3,4,5,6]
 refine DP.z (aH (RC.ret ?_))
 obtain rfl:=oi hb
 exact bX ⟨rfl,hw.drop 6⟩
theorem lV {p0: (List aI)} {p1:aI->Option Bool} {res:Bool} (hw:Holds E w Γ) (h0:Γ[i0]? =some (rd v0 p0)) (h1:Hs bM E Γ v1 p1 (fun(r:Bool)=>Value.bool r)) (hb:gN N p0 p1=some res):
    Calls bM 49 [v0,v1].toArray w (gL (aV E Γ res)):=by
 unfold gN at hb
 refine enter Tryz.func49 zr zr ?_
 have hw:=hw.dup (i0+0) h0
 refine RC.sr (aQ (vb false) (RL.ns (mv v0 (mv v1 ?_))))
 obtain⟨j,o,hb⟩:=bd hb
 refine RL.call zt zr JX [v0,v1] zr (aD (rl N (i0:=0) hw zr (h1.lift 1 zr) o) ?_)
 rintro _ w ⟨rfl,hw⟩
 refine ic j 0 (aQ (vb (decide (j>=0))) (RL.nt (RC.ret ?_)))
 obtain rfl:=oi hb
 exact bX ⟨rfl,hw.drop 1⟩
def uk (E:World) (Γ:List HP) (b0:Nat) (v0_0 v0_1:Value) (v0_2 v0_3:Value) (v0_4 v0_5:Value) (v0_7 v0_8:Value) (v0_9 v0_10 v0_11:Value) (res: (List (List Int))) (v:Value) (w:World):Prop:=∃u0_6:Value,v = .tuple #[]/\Holds E w ([bc 48 b0 [v0_0,v0_1,v0_2,v0_3,v0_4,v0_5,u0_6,v0_7,v0_8,v0_9,v0_10,v0_11],own 31 u0_6 res]++Γ)
theorem tD {p0_2: (List cD)} {p0_5: (List aK)} {p0_6: (List (List Int))} {res: (List (List Int))} (hw:Holds E w (bc 48 b0 [v0_0,v0_1,v0_2,v0_3,v0_4,v0_5,v0_6,v0_7,v0_8,v0_9,v0_10,v0_11]::rd v0_2 p0_2::rd v0_5 p0_5::own 31 v0_6 p0_6::Γ)) (hb:jS N p0_2 p0_5 p0_6=some res):
    Calls bM 23 [(vp b0 0)].toArray w (gL (uk E Γ b0 v0_0 v0_1 v0_2 v0_3 v0_4 v0_5 v0_7 v0_8 v0_9 v0_10 v0_11 res)):=by
 unfold jS at hb
 refine enter Tryz.func23 zr zr (RC.sr (mv (vp b0 0) (RL.nilCheck zr (RL.aX zr sL (RL.aX zr gC (RL.bH 0 v0_2 hw mT (RL.bC 1 p0_2 hw t3 (mv (vi 0) ?_))))))))
 refine RL.nt ?_
 obtain⟨ab,hN,hb⟩:=bd hb
 refine RC.fold (fun(af:Nat) (ab: (List (List Int))) σ w=>∃ar:Value,SH E Γ [(0,vp b0 0),(11,v0_2),(12,vi p0_2.length),(13,vi af)] [bc 48 b0 [v0_0,v0_1,v0_2,v0_3,v0_4,v0_5,ar,v0_7,v0_8,v0_9,v0_10,v0_11],own 31 ar ab,rd v0_2 p0_2,rd v0_5 p0_5] σ w) (fun(ab: (List (List Int))) σ w=>∃aj:Value,SH E Γ [(0,vp b0 0)] [bc 48 b0 [v0_0,v0_1,v0_2,v0_3,v0_4,v0_5,aj,v0_7,v0_8,v0_9,v0_10,v0_11],own 31 aj ab,rd v0_2 p0_2,rd v0_5 p0_5] σ w) hN ?_ ?_ ?_ ?_
 ·exact⟨v0_6,hw.sp 4 [0,3,1,2]⟩
 ·rintro hm ab _ w ⟨ay,τ,rfl,hw⟩
  refine RC.sr (ic ((p0_2.length:Int)) ((p0_2.length:Int)) (RL.nq (RC.fV tN (RC.ex ?_))))
  exact⟨rfl,ay,hw.sp 4 [0,1,2,3]⟩
 ·rintro hm af ab s' _ w hk ⟨ae,τ,rfl,hw⟩ hb
  refine RC.sr (ic ((af:Int)) ((p0_2.length:Int)) (RL.nq (RC.fU (tM hk) (RC.ss (RC.bs ?_)))))
  obtain⟨ag,az,hb⟩:=bd hb
  refine RL.bN 2 hw qc az fun a9 hw=>(RL.bL 0 ag hw lP fun ba hw=>(RL.alloc hw D6.z fun ad w hw=>?_))
  refine RL.cB 0 hw 1 zr lP fun w hw=>?_
  refine RL.ns (aQ (.slice none 0 0) (RL.nq (RC.sr (mv (vp b0 0) (RL.nilCheck zr (RL.aX zr t5 (RL.bH 3 v0_5 hw C2 (RL.bC 6 p0_5 hw GG ?_))))))))
  refine mv (vi 0) (RL.nt ?_)
  have hw:=hw.lE (i:=0) rfl
  obtain⟨ah,hN,hb⟩:=bd hb
  refine RC.fold (fun(j:Nat) (ah: (List Int)) σ w=>∃au:Value,SH E Γ [(0,vp b0 0),(3,vp ad 0),(4,au),(11,v0_2),(12,vi p0_2.length),(13,vi af),(20,v0_5),(21,vi p0_5.length),(22,vi j)] [bc 48 b0 [v0_0,v0_1,v0_2,v0_3,v0_4,v0_5,ae,v0_7,v0_8,v0_9,v0_10,v0_11],rd v0_2 p0_2,rd v0_5 p0_5,own 31 ae ab,pt (vp ad 0) ag,own 3 au ah] σ w) (fun(ah: (List Int)) σ w=>∃ai:Value,SH E Γ [(0,vp b0 0),(4,ai),(11,v0_2),(12,vi p0_2.length),(13,vi af)] [bc 48 b0 [v0_0,v0_1,v0_2,v0_3,v0_4,v0_5,ae,v0_7,v0_8,v0_9,v0_10,v0_11],rd v0_2 p0_2,rd v0_5 p0_5,own 31 ae ab,pt (vp ad 0) ag,own 3 ai ah] σ w) hN ?_ ?_ ?_ ?_
  ·have hw:=hw.cX Int 3
   exact⟨(.slice none 0 0),hw.sp 8 [4,6,7,5,1,0]⟩
  ·rintro hm ah _ w ⟨a0,τ,rfl,hw⟩
   refine RC.sr (ic ((p0_5.length:Int)) ((p0_5.length:Int)) (RL.nq (RC.fV tN (RC.ex ?_))))
   exact⟨rfl,a0,hw.sp 6 [0,1,2,3,4,5]⟩
  ·rintro hm j ah s' _ w hk ⟨ak,τ,rfl,hw⟩ hb
   refine RC.sr (ic ((j:Int)) ((p0_5.length:Int)) (RL.nq (RC.fU (tM hk) (RC.ss (RC.bs (mv (vi j) ?_))))))
   obtain⟨an,a1,hb⟩:=bd hb
   refine RL.bN 2 hw HN a1 fun bb hw=>(RL.bL 0 an hw HO fun bf hw=>(RL.alloc hw Jd.z fun bg w hw=>?_))
   refine aQ (vi j) (RL.cB 0 hw 1 zr HO fun w hw=>?_)
   refine RL.nq ?_
   obtain⟨ao,hj,hb⟩:=bd hb
   refine RC.jn (fun(ao:Bool)=>SH E Γ [(0,vp b0 0),(3,vp ad 0),(4,ak),(5,vi j),(11,v0_2),(12,vi p0_2.length),(13,vi af),(20,v0_5),(21,vi p0_5.length),(22,vi j),(40,vb ao)] [bc 48 b0 [v0_0,v0_1,v0_2,v0_3,v0_4,v0_5,ae,v0_7,v0_8,v0_9,v0_10,v0_11],rd v0_2 p0_2,rd v0_5 p0_5,own 31 ae ab,pt (vp ad 0) ag,own 3 ak ah]) ao ?_ ?_
   ·refine RC.region (RL.dV 7 hw zr xG pX fun bh hw=>(RL.bF ag.fJ 0 hw A2 (mv (vb ag.fJ) (fB hj (fun o hj=>?_) fun o hj=>?_))))
    rotate_left
    ·refine bJ o (bJ o (bJ o (bJ o (fG o (vb false) (mv (vb false) (j7 (j7 (j7 ?_))))))))
     refine j7 (RL.pick false (vb false) zr (RL.nil ?_))
     obtain rfl:=oi hj
     exact⟨rfl,hw.sp 10 [4,5,6,7,8,9]⟩
    refine RL.bL (hg:=(cg o)) 8 ag hw lP fun a2 hw=>(RL.aX (hg:=(cg o)) zr GH (RL.aM (hg:=(cg o)) 2 hw zr qS cJ ?_))
    obtain⟨av,a3,hj⟩:=bd hj
    refine RL.call (cg o) zr I9 [a2,(vi an.cU)] zr (aD (oj N (p1:=an.cU) (i0:=0) hw zr a3) ?_)
    rintro _ w ⟨rfl,hw⟩
    refine fG o (vb av) (mv (vb av) (fB hj (fun aa hj=>?_) fun aa hj=>?_))
    rotate_left
    ·refine bJ aa (bJ aa (bJ aa (bJ aa (fG aa (vb false) (RL.nil ?_)))))
     obtain rfl:=oi hj
     exact⟨rfl,hw.sp 11 [5,6,7,8,9,10]⟩
    refine RL.aX (hg:=(cg aa)) zr D7 (RL.bE (hg:=(cg aa)) 2 hw zr n8 rH fun a4 hw=>(RL.makeFunc (cg aa) zr [(vp ad 0)] zr ?_))
    obtain⟨a5,a6,hj⟩:=bd hj
    refine RL.call (cg aa) rfl Kn [a4,(.func (.func 50) #[] #[(vp ad 0)])] rfl (aD (lV N (i0:=0) hw rfl ⟨50,[(vp ad 0)],rfl,LX,fun w Γl v y0 r i hw hi hr=>by exact aD (rn N (i0:=i) (i1:=Γl.length+10) hw hi (Bw rfl) hr) fun _ _ h=>h⟩ a6) ?_)
    rintro _ w ⟨rfl,hw⟩
    refine fG aa (vb a5) (RL.nil ?_)
    obtain rfl:=oi hj
    exact⟨rfl,hw.sp 12 [6,7,8,9,10,11]⟩
   rintro _ w ⟨τ,rfl,hw⟩
   refine aH ?_
   obtain⟨aq,hj,hb⟩:=bd hb
   refine RC.jn (fun(aq: (List Int)) σ w=>∃al:Value,SH E Γ [(0,vp b0 0),(3,vp ad 0),(4,al),(11,v0_2),(12,vi p0_2.length),(13,vi af),(20,v0_5),(21,vi p0_5.length),(22,vi j)] [bc 48 b0 [v0_0,v0_1,v0_2,v0_3,v0_4,v0_5,ae,v0_7,v0_8,v0_9,v0_10,v0_11],rd v0_2 p0_2,rd v0_5 p0_5,own 31 ae ab,pt (vp ad 0) ag,own 3 al aq] σ w) aq ?_ ?_
   ·refine dT hj (fun hc hj=>?_) fun hc hj=>?_
    rotate_left
    ·refine RC.skip ?_
     obtain rfl:=oi hj
     exact⟨rfl,ak,hw.sp 6 [0,1,2,3,4,5]⟩
    refine RC.region (mv ak (mv (vi j) ?_))
    have hw:=hw.sc Int (j:Int)
    refine RL.dW ([(j:Int)]: (List Int)) hw [(vi j)] eB Ch (fun M hs g=>⟨(g.sat 0 _ zr).1,zt⟩) fun bj w hw=>?_
    have hw:=hw.freeze 0
    obtain⟨bk,a7,hj⟩:=bd hj
    refine RL.app 7 0 hw qF a7 fun aw w hw=>?_
    refine aQ aw (RL.nil ?_)
    obtain rfl:=oi hj
    exact⟨rfl,aw,hw.sp 8 [2,3,4,5,6,7]⟩
   rintro _ w ⟨al,τ,rfl,hw⟩
   refine bO (aH (RC.region (RL.inc hk hm (mv (vi ((j+1:Nat):Int)) (RL.nil ?_)))))
   obtain rfl:=oi hb
   exact⟨rfl,al,hw.sp 6 [0,1,2,3,4,5]⟩
  rintro _ w ⟨ai,τ,rfl,hw⟩
  refine aH (RC.region (mv (vp b0 0) (mv (vp b0 0) (RL.nilCheck zr (RL.aX zr BM (RL.bH 0 ae hw wM (mv ai ?_)))))))
  have hw:=hw.freeze 5
  refine RL.dW ([ah]: (List (List Int))) hw [ai] xH Je (fun M hs g=>⟨(g.sat 5 _ zr).1,zt⟩) fun bl w hw=>?_
  have hw:=hw.freeze 0
  obtain⟨bm,a8,hb⟩:=bd hb
  refine RL.app 4 0 hw Jf a8 fun ax w hw=>?_
  refine RL.nilCheck zr (RL.aX zr BM (RL.ig 1 ax hw zr zr (iD 4 hw) wM fun w hw=>?_))
  refine RL.nil (bO (aH (RC.region (RL.inc hk hm (mv (vi ((af+1:Nat):Int)) (RL.nil ?_))))))
  obtain rfl:=oi hb
  exact⟨rfl,ax,hw.sp 7 [1,4,2,3]⟩
 rintro _ w ⟨aj,τ,rfl,hw⟩
 obtain rfl:=oi hb
 refine Cj ?_
 exact Hv zr ⟨aj,zr,hw.pk 4 [0,1]⟩
def vT (E:World) (Γ:List HP) (res: ((List Int))) (v:Value) (w:World):Prop:=∃(ub0:Nat) (u0_0:Value),v=vp ub0 0/\Holds E w ([bc 133 ub0 [u0_0],own 3 u0_0 res]++Γ)
theorem vh {res: ((List Int))} (hw:Holds E w Γ) (hb:kS N p0=some res):
    Calls bM 52 [(vi p0)].toArray w (gL (vT E Γ res)):=by
 unfold kS at hb
 refine enter Tryz.func52 zr zr (RC.sr (aQ (.pointer none) (RL.ns (mv (vi p0) ?_))))
 obtain⟨ad,af,hb⟩:=bd hb
 refine RL.mk p0 hw qF JW af fun j w hw=>?_
 refine RL.DV [(.slice none 0 0)] [j] zr [(0,j)] zr Ko ⟨(iD 0 hw),zt⟩ zr (RL.BB [j] zr hw zr (wu.all (⟨(iD 0 hw),zt⟩:wu [j])) fun o w hw=>?_)
 refine aQ (vp o 0) (RL.nq (RC.sr (mv (vp o 0) (RL.nilCheck zr (RL.aX zr pG (RL.bH 0 j hw fA (RL.fR 1 ad hw l4 (mv (vi 0) ?_))))))))
 refine RL.nt ?_
 obtain⟨ab,hN,hb⟩:=bd hb
 refine RC.fold (fun(aa:Nat) (ab: (List Int))=>SH E Γ [(3,vp o 0),(13,vi ad.length),(14,vi aa)] [bc 133 o [j],own 3 j ab]) (fun(ab: (List Int))=>SH E Γ [(3,vp o 0)] [bc 133 o [j],own 3 j ab]) hN ?_ ?_ ?_ ?_
 ·exact hw.sp 2 [0,1]
 ·rintro hm ab _ w ⟨τ,rfl,hw⟩
  refine RC.sr (ic ((ad.length:Int)) ((ad.length:Int)) (RL.nq (RC.fV tN (RC.ex ?_))))
  exact⟨rfl,hw.sp 2 [0,1]⟩
 ·rintro hm aa ab s' _ w hk ⟨τ,rfl,hw⟩ hb
  refine RC.sr (ic ((aa:Int)) ((ad.length:Int)) (RL.nq (RC.fU (tM hk) (RC.ss (RC.bs (mv (vi aa) (aQ (vi aa) (RL.nt ?_))))))))
  refine RC.region (mv (vp o 0) (RL.nilCheck zr (RL.aX zr pG (RL.bH 0 j hw fA (mv (vi aa) (mv (vi aa) ?_))))))
  obtain⟨ag,ae,hb⟩:=bd hb
  refine RL.bU 1 hw zr zr eB ae ?_
  have hw:=hw.sc Int (aa:Int)
  refine RL.gx (f:=(fun _ y=>y)) 2 0 hw (jA 2 hw ae 0) (bI ae).2.1 zr Fs.self cJ fun w hw=>?_
  refine RL.nil (bO (aH (RC.region (RL.inc hk hm (mv (vi ((aa+1:Nat):Int)) (RL.nil ?_))))))
  obtain rfl:=oi hb
  exact⟨rfl,hw.sp 3 [1,2]⟩
 rintro _ w ⟨τ,rfl,hw⟩
 refine aH (RC.sr (mv (vp o 0) (aQ (vp o 0) (RL.nt (RC.ret ?_)))))
 obtain rfl:=oi hb
 exact bX ⟨o,j,zr,hw.pk 2 [0,1]⟩
def vj (E:World) (Γ:List HP) (b0:Nat) (res:Int×(List Int)) (v:Value) (w:World):Prop:=∃u0_0:Value,v= (vi res.1)/\Holds E w ([bc 133 b0 [u0_0],own 3 u0_0 res.2]++Γ)
theorem mi {p0_0: (List Int)} {res:Int×(List Int)} (hw:Holds E w (bc 133 b0 [v0_0]::own 3 v0_0 p0_0::Γ)) (hb:gG N p0_0 p1=some res):
    Calls bM 87 [(vp b0 0),(vi p1)].toArray w (gL (vj E Γ b0 res)):=by
 unfold gG at hb
 refine enter Tryz.func87 zr zr (RC.sr (aQ (vi 0) (RL.nq ?_)))
 obtain⟨ai,hN,hb⟩:=bd hb
 refine RC.iter (fun(j: (List Int)×Int)=>SH E Γ [(0,vp b0 0),(1,vi j.2)] [bc 133 b0 [v0_0],own 3 v0_0 j.1]) (fun(j: (List Int)×Int)=>SH E Γ [(0,vp b0 0),(1,vi j.2)] [bc 133 b0 [v0_0],own 3 v0_0 j.1]) (fun(r:Empty) _ _=>r.elim) hN ?_ ?_ ?_ ?_
 ·exact hw.sp 2 [0,1]
 ·rintro j fl _ w ⟨τ,rfl,hw⟩ hb
  refine RC.seq (RC.sr (mv (vp b0 0) (RL.nilCheck zr (RL.aX zr pG (RL.bH 0 v0_0 hw fA (mv (vi j.2) ?_))))))
  obtain⟨af,o,hb⟩:=bd hb
  refine RL.bU 1 hw zr zr eB o (RL.dO (f:=(fun x=>x)) 1 hw (jA 1 hw o 0) (bI o).2.1 Fd.self cJ (mv (vi j.2) (ic af j.2 (RL.nt (dT hb (fun hc hb=>?_) fun hc hb=>?_)))))
  rotate_left
  ·refine RC.ex ?_
   obtain rfl:=oi hb
   exact⟨rfl,hw.sp 2 [0,1]⟩
  refine RC.sn (RC.block (RC.seq (RC.vH mixed [0,0,0,0,0,0,0,0,0,0,0,0,0,0,0,0,0,0,0,2] [0,1,2,3,4,5,6,7,8,9,10,11,12,13,14,15,16,17,18,19] ?_)))
  have hw:=hw.drew
  refine DP.e0 zr (mv (vp b0 0) (aZ zr (RL.nilCheck zr (aZ zr (RL.aX zr pG (aZ zr (RL.bH 0 v0_0 hw fA (aZ zr ?_))))))))
  refine mv (vi j.2) (aZ zr (mv (vp b0 0) (aZ zr (RL.nilCheck zr (aZ zr (RL.aX zr pG (aZ zr (RL.bH 0 v0_0 hw fA ?_))))))))
  refine aZ zr (mv (vp b0 0) (aZ zr (RL.nilCheck zr (aZ zr (RL.aX zr pG (aZ zr (RL.bH 0 v0_0 hw fA (aZ zr ?_))))))))
  refine mv (vi j.2) (aZ zr ?_)
  obtain⟨aj,aa,hb⟩:=bd hb
  refine RL.bU 1 hw zr zr eB aa (aZ zr (RL.dO (f:=(fun x=>x)) 1 hw (jA 1 hw aa 0) (bI aa).2.1 Fd.self cJ (aZ zr ?_)))
  obtain⟨ag,ab,hb⟩:=bd hb
  refine RL.bU 1 hw zr zr eB ab (aZ zr (RL.dO (f:=(fun x=>x)) 1 hw (jA 1 hw ab 0) (bI ab).2.1 Fd.self cJ (aZ zr ?_)))
  obtain⟨ak,ad,hb⟩:=bd hb
  refine RL.bU 1 hw zr zr eB ad (pz zr ?_)
  have hw:=hw.sc Int ag
  refine RL.gx (f:=(fun _ y=>y)) 2 0 hw (jA 2 hw ad 0) (bI ad).2.1 zr Fs.self cJ fun w hw=>?_
  refine DP.d2 zt (DP.z (aH (RC.region (mv (vp b0 0) (RL.nilCheck zr (RL.aX zr pG (RL.bH 1 v0_0 hw fA (mv (vi j.2) ?_))))))))
  obtain⟨ah,ae,hb⟩:=bd hb
  refine RL.bU 2 hw zr zr eB ae (RL.dO (f:=(fun x=>x)) 2 hw (jA 2 hw ae 0) (bI ae).2.1 Fd.self cJ (aQ (vi ah) (RL.nil (bO ?_))))
  obtain rfl:=oi hb
  exact⟨rfl,hw.sp 3 [1,2]⟩
 ·intro r _ _ _ _
  exact r.elim
 rintro j _ w rfl ⟨τ,rfl,hw⟩
 rw [Fo.dF] at hb
 refine aH (RC.sr (mv (vi j.2) (aQ (vi j.2) (RL.nt (RC.ret ?_)))))
 obtain rfl:=oi hb
 exact bX ⟨v0_0,zr,hw.pk 2 [0,1]⟩
def um (E:World) (Γ:List HP) (b0:Nat) (res: (List Int)) (v:Value) (w:World):Prop:=∃u0_0:Value,v = .tuple #[]/\Holds E w ([bc 133 b0 [u0_0],own 3 u0_0 res]++Γ)
theorem tE {p0_0: (List Int)} {res: (List Int)} (hw:Holds E w (bc 133 b0 [v0_0]::own 3 v0_0 p0_0::Γ)) (hb:gY N p0_0 p1 p2=some res):
    Calls bM 53 [(vp b0 0),(vi p1),(vi p2)].toArray w (gL (um E Γ b0 res)):=by
 unfold gY at hb
 refine enter Tryz.func53 zr zr (RC.sr (mv (vp b0 0) (mv (vi p1) ?_)))
 have hw:=(hw.pull 1).pull 1
 obtain⟨j,ad,hb⟩:=bd hb
 refine RL.call zt zr Jg [(vp b0 0),(vi p1)] zr (aD (mi N (p1:=p1) hw ad) ?_)
 rintro _ w ⟨af,rfl,hw⟩
 refine mv (vp b0 0) (mv (vi p2) ?_)
 have hw:=(hw.pull 1).pull 1
 obtain⟨o,ae,hb⟩:=bd hb
 refine RL.call zt zr Jg [(vp b0 0),(vi p2)] zr (aD (mi N (p1:=p2) hw ae) ?_)
 rintro _ w ⟨ab,rfl,hw⟩
 refine aQ (vi j.1) (aQ (vi o.1) (RL.nt (RC.region (mv (vp b0 0) (RL.nilCheck zr (RL.aX zr pG (RL.bH 0 ab hw fA (mv (vi j.1) ?_))))))))
 refine mv (vi o.1) (RL.max j.1 o.1 (mv (vi j.1) (mv (vi o.1) (RL.min j.1 o.1 ?_))))
 obtain⟨ag,aa,hb⟩:=bd hb
 refine RL.bU 1 hw zr zr eB aa ?_
 have hw:=hw.sc Int (if o.1<j.1 then o.1 else j.1)
 refine RL.gx (f:=(fun _ y=>y)) 2 0 hw (jA 2 hw aa 0) (bI aa).2.1 zr Fs.self cJ fun w hw=>?_
 refine RL.nil ?_
 obtain rfl:=oi hb
 refine Cj ?_
 exact Hv zr ⟨ab,zr,hw.pk 7 [1,2]⟩
def uo (E:World) (Γ:List HP) (b0:Nat) (res: (List (List Int))×(List Int)) (v:Value) (w:World):Prop:=∃u0 u0_0:Value,v=u0/\Holds E w ([own 31 u0 res.1,bc 133 b0 [u0_0],own 3 u0_0 res.2]++Γ)
theorem tF {p0_0: (List Int)} {res: (List (List Int))×(List Int)} (hw:Holds E w (bc 133 b0 [v0_0]::own 3 v0_0 p0_0::Γ)) (hb:jT N p0_0=some res):
    Calls bM 54 [(vp b0 0)].toArray w (gL (uo E Γ b0 res)):=by
 unfold jT at hb
 refine enter Tryz.func54 zr zr (RC.sr (aQ (.slice none 0 0) (RL.ns (aQ (.slice none 0 0) (RL.ns (RL.makeMap (κ:=Int) (ν:=Int) zt zr hw fun ah w hw=>(aQ ah (RL.nq ?_))))))))
 refine RC.sr (mv (vp b0 0) (RL.nilCheck zr (RL.aX zr pG (RL.bH 1 v0_0 hw fA (RL.fR 2 p0_0 hw l4 (mv (vi 0) (RL.nt ?_)))))))
 obtain⟨ag,hN,hb⟩:=bd hb
 refine RC.fold (fun(ad:Nat) (ag: (List Int)×(List (List Int))×(List (Int×Int))) σ w=>∃(au av:Value) (us110:List RV),SH E Γ [(0,vp b0 0),(3,av),(4,ah),(12,vi p0_0.length),(13,vi ad)] [bc 133 b0 [au],own 3 au ag.1,mp ah ag.2.2,own 31 av us110,hU (XS 3 Int) us110 ag.2.1 none] σ w) (fun(ag: (List Int)×(List (List Int))×(List (Int×Int))) σ w=>∃(al aj:Value) (us113:List RV),SH E Γ [(0,vp b0 0),(3,aj)] [bc 133 b0 [al],own 3 al ag.1,mp ah ag.2.2,own 31 aj us113,hU (XS 3 Int) us113 ag.2.1 none] σ w) hN ?_ ?_ ?_ ?_
 ·have hw:=(hw.yT (XS 3 Int)).cX RV 31
  exact⟨v0_0,(.slice none 0 0),([]:List RV),hw.sp 5 [3,4,2,0,1]⟩
 ·rintro hm ag _ w ⟨ay,a0,us153,τ,rfl,hw⟩
  refine RC.sr (ic ((p0_0.length:Int)) ((p0_0.length:Int)) (RL.nq (RC.fV tN (RC.ex ?_))))
  exact⟨rfl,ay,a0,us153,hw.sp 5 [0,1,2,3,4]⟩
 ·rintro hm ad ag s' _ w hk ⟨a4,ao,us116,τ,rfl,hw⟩ hb
  refine RC.sr (ic ((ad:Int)) ((p0_0.length:Int)) (RL.nq (RC.fU (tM hk) (RC.ss (RC.bs (mv (vi ad) (aQ (vi ad) (RL.ns ?_))))))))
  refine mv (vp b0 0) (mv (vi ad) ?_)
  have hw:=(hw.pull 1).pull 1
  obtain⟨aa,a1,hb⟩:=bd hb
  refine RL.call zt zr Jg [(vp b0 0),(vi ad)] zr (aD (mi N (p1:=(ad:Int)) hw a1) ?_)
  rintro _ w ⟨ak,rfl,hw⟩
  refine aQ (vi aa.1) (RL.nq (RC.sr (mv (vi aa.1) (mv (vi ad) (ic aa.1 ((ad:Int)) (RL.nt ?_))))))
  obtain⟨o,hj,hb⟩:=bd hb
  refine RC.jn (fun(o: (List (List Int))×(List (Int×Int))) σ w=>∃(af:Value) (us124:List RV),SH E Γ [(0,vp b0 0),(3,af),(4,ah),(5,vi ad),(6,vi aa.1),(12,vi p0_0.length),(13,vi ad)] [bc 133 b0 [ak],own 3 ak aa.2,mp ah o.2,own 31 af us124,hU (XS 3 Int) us124 o.1 none] σ w) o ?_ ?_
  ·refine dT hj (fun hc hj=>?_) fun hc hj=>?_
   rotate_left
   ·refine RC.skip ?_
    obtain rfl:=oi hj
    exact⟨rfl,ao,us116,hw.sp 7 [0,1,4,5,6]⟩
   refine RC.sr (mv ah (mv (vi ad) (mv ao (RL.rC 5 6 ag.2.1 hw Fw ?_))))
   have hw:=hw.sc Int (ag.2.1.length:Int)
   refine RL.mapUpdate 5 0 (ad:Int) zt hw zr zr zr zr zr C1 fun w hw=>(RL.nt (RC.region (mv ao ?_)))
   have hw:=(hw.cX Int 3).AV (i:=0) rfl
   refine RL.dW ([rv (.slice none 0 0)]:List RV) hw [(.slice none 0 0)] xH Je (fun M hs g=>⟨(g.sat 0 _ zr).1,zt⟩) fun a5 w hw=>?_
   obtain⟨a6,a2,hj⟩:=bd hj
   have hw:=hw.freeze 0
   refine RL.CF 9 0 10 2 zt zr hw zr zr zr zr zr zr Jf a2 fun aw w hw=>?_
   refine aQ aw (RL.nil ?_)
   obtain rfl:=oi hj
   exact⟨rfl,aw,(us116++[rv (.slice none 0 0)]),hw.sp 11 [4,5,8,9,10]⟩
  rintro _ w ⟨af,us124,τ,rfl,hw⟩
  refine aH ?_
  obtain⟨a7,an,hb⟩:=bd hb
  obtain⟨ai,a3,hb⟩:=bd hb
  obtain⟨a8,aq,hb⟩:=bd hb
  refine RC.Fi E Γ mixed [1,1,1,0,1,1,1,0,0,0,1,0,0,0,0] [11,12,14] (fun(x:Value×Value)=>(fun ae ab=>[(0,29,af),(1,30,ah),(2,31,(vi aa.1)),(3,32,(vi (jg o.2 aa.1 (0:Int)))),(4,33,af),(5,34,ah),(6,35,(vi aa.1)),(7,36,(vi (jg o.2 aa.1 (0:Int)))),(8,37,(yF af (Int.toNat (jg o.2 aa.1 (0:Int))) 1 0)),(9,38,(us124.getD (Int.toNat (jg o.2 aa.1 (0:Int))) Ce).v),(10,39,(vi ad)),(11,40,ae),(12,41,ab),(13,42,(yF af (Int.toNat (jg o.2 aa.1 (0:Int))) 1 0))]) x.1 x.2) [(0,vp b0 0),(3,af),(4,ah),(5,vi ad),(6,vi aa.1),(12,vi p0_0.length),(13,vi ad)] [] (fun(D:Nat->Bool) (x:Value×Value)=>(fun ae ab=>[bif D 1 then (rd ae ([(ad:Int)]: (List Int))) else (bif D 0 then (own 3 ae ([(ad:Int)]: (List Int))) else bB),bif D 2 then bB else (bif D 1 then (own 3 ab ai) else bB),bc 133 b0 [ak],own 3 ak aa.2,mp ah o.2,bif D 2 then (own 31 af (us124.set (Int.toNat (jg o.2 aa.1 (0:Int))) (rv ab))) else (own 31 af us124),bif D 2 then (hU (XS 3 Int) (us124.set (Int.toNat (jg o.2 aa.1 (0:Int))) (rv ab)) (o.1.set (Int.toNat (jg o.2 aa.1 (0:Int))) ai) none) else (bif D 1 then (hU (XS 3 Int) us124 o.1 (some (Int.toNat (jg o.2 aa.1 (0:Int))))) else (hU (XS 3 Int) us124 o.1 none))]) x.1 x.2) (fun x=>by kernel_rfl) ?_ ⟨fun _=>jq gn,fun _=>jq gn,fun _=>jq gn,?_,fun _=>jq gn,fun _=>jq gn,fun _=>jq gn,?_,?_,?_,fun _=>jq gn,?_,?_,?_,?_,trivial⟩ ?_
  ·have hw:=((hw.drew).bB).bB
   exact⟨(undef,undef),gw.none,(D5 zr),zt,hw⟩
  ·rintro D σ w hD hdep hcl ⟨⟨ae,ab⟩,hv,ha,_,hw⟩
   obtain⟨τ,rfl⟩:=(ac (hv.at 1 rfl (hdep.1 rfl)) (ac (hv.at 2 rfl (hdep.2.1 rfl)) az)).fq
   refine RL.Cx 4 aa.1 zt zr hw zr zr zr C1 ?_
   exact RL.nil ⟨rfl,(ae,ab),hv.put 3 zr zr,ha.up zr,zt,hw⟩
  ·rintro D σ w hD hdep hcl ⟨⟨ae,ab⟩,hv,ha,_,hw⟩
   obtain⟨τ,rfl⟩:=(ac (hv.at 5 rfl (hdep.1 rfl)) (ac (hv.at 6 rfl (hdep.2.1 rfl)) az)).fq
   refine RL.Cx 4 aa.1 zt zr hw zr zr zr C1 ?_
   exact RL.nil ⟨rfl,(ae,ab),hv.put 7 zr zr,ha.up zr,zt,hw⟩
  ·rintro D σ w hD hdep hcl ⟨⟨ae,ab⟩,hv,ha,_,hw⟩
   obtain⟨τ,rfl⟩:=(ac (hv.at 4 rfl (hdep.1 rfl)) (ac (hv.at 7 rfl (hdep.2.1 rfl)) az)).fq
   have hw:=((hw.cA 5 (nf (fun h=>ft hD ((hcl 14 _ rfl h).2.2.2.2.2.2.2.2.2.2.2.1 rfl)))).cA 6 (nf (fun h=>ft hD ((hcl 14 _ rfl h).2.2.2.2.2.2.2.2.2.2.2.1 rfl)))).cA 6 (nf (fun h=>ft hD ((hcl 9 _ rfl ((hcl 12 _ rfl h).1 rfl)).1 rfl)))
   have hl141:=hw.eA 6
   have hr142:=fE Ce hl141 an
   refine RL.bU 5 hw zr zr xH hr142 ?_
   have hw:=(hw.eV 5 (D 14) (nf (fun h=>ft hD ((hcl 14 _ rfl h).2.2.2.2.2.2.2.2.2.2.2.1 rfl))) (own 31 af (us124.set (Int.toNat (jg o.2 aa.1 (0:Int))) (rv ab)))).eV 6 (D 12) (nf (fun h=>ft hD ((hcl 9 _ rfl ((hcl 12 _ rfl h).1 rfl)).1 rfl))) (hU (XS 3 Int) us124 o.1 (some (Int.toNat (jg o.2 aa.1 (0:Int)))))
   have hw:=hw.eV 6 (D 14) (nf (fun h=>ft hD ((hcl 14 _ rfl h).2.2.2.2.2.2.2.2.2.2.2.1 rfl))) (hU (XS 3 Int) (us124.set (Int.toNat (jg o.2 aa.1 (0:Int))) (rv ab)) (o.1.set (Int.toNat (jg o.2 aa.1 (0:Int))) ai) none)
   exact RL.nil ⟨rfl,(ae,ab),hv.put 8 zr zr,ha.up zr,zt,hw⟩
  ·rintro D σ w hD hdep hcl ⟨⟨ae,ab⟩,hv,ha,_,hw⟩
   obtain⟨τ,rfl⟩:=(ac (hv.at 8 rfl (hdep.1 rfl)) az).fq
   have hw:=((hw.cA 5 (nf (fun h=>ft hD ((hcl 14 _ rfl h).2.2.2.2.2.2.2.2.2.2.2.2.1 rfl)))).cA 6 (nf (fun h=>ft hD ((hcl 14 _ rfl h).2.2.2.2.2.2.2.2.2.2.2.2.1 rfl)))).cA 6 (nf (fun h=>ft hD ((hcl 12 _ rfl h).1 rfl)))
   have hl143:=hw.eA 6
   have hr144:=fE Ce hl143 an
   refine RL.uJ 5 6 (jg o.2 aa.1 (0:Int)) (AU 3 Int) Ce zr hw zr (jA 5 hw hr144 0) zr zr an fA ?_
   have hw:=(hw.eV 5 (D 14) (nf (fun h=>ft hD ((hcl 14 _ rfl h).2.2.2.2.2.2.2.2.2.2.2.2.1 rfl))) (own 31 af (us124.set (Int.toNat (jg o.2 aa.1 (0:Int))) (rv ab)))).eV 6 (D 12) (nf (fun h=>ft hD ((hcl 12 _ rfl h).1 rfl))) (hU (XS 3 Int) us124 o.1 (some (Int.toNat (jg o.2 aa.1 (0:Int)))))
   have hw:=hw.eV 6 (D 14) (nf (fun h=>ft hD ((hcl 14 _ rfl h).2.2.2.2.2.2.2.2.2.2.2.2.1 rfl))) (hU (XS 3 Int) (us124.set (Int.toNat (jg o.2 aa.1 (0:Int))) (rv ab)) (o.1.set (Int.toNat (jg o.2 aa.1 (0:Int))) ai) none)
   exact RL.nil ⟨rfl,(ae,ab),hv.put 9 zr zr,ha.up zr,zt,hw⟩
  ·rintro D σ w hD hdep hcl ⟨⟨ae,ab⟩,hv,ha,_,hw⟩
   obtain⟨τ,rfl⟩:=(ac (hv.at 10 rfl (hdep.1 rfl)) az).fq
   have hw:=((hw.cA 0 (nf (fun h=>ft hD ((hcl 12 _ rfl h).2.1 rfl)))).cA 0 hD).sc Int (ad:Int)
   refine RL.dW ([(ad:Int)]: (List Int)) hw [(vi ad)] eB Ch (fun M hs g=>⟨(g.sat 0 _ zr).1,zt⟩) fun ax w hw=>?_
   have hw:=((hw.pl 9 [0,3,4,5,6,7,8]).cQ 0 true rfl bB).eV 0 (D 12) (nf (fun h=>ft hD ((hcl 12 _ rfl h).2.1 rfl))) (rd ax ([(ad:Int)]: (List Int)))
   exact RL.nil ⟨rfl,(ax,ab),hv.put 11 zr zr,ha.up zr,zt,hw⟩
  ·rintro D σ w hD hdep hcl ⟨⟨ae,ab⟩,hv,ha,_,hw⟩
   obtain⟨τ,rfl⟩:=(ac (hv.at 9 rfl (hdep.1 rfl)) (ac (hv.at 11 rfl (hdep.2.1 rfl)) az)).fq
   have hw:=((((hw.cA 0 hD).cP 0 (hdep.2.1 rfl)).cA 1 (nf (fun h=>ft hD ((hcl 14 _ rfl h).2.1 rfl)))).cA 1 hD).cA 5 (nf (fun h=>ft hD ((hcl 14 _ rfl h).2.1 rfl)))
   have hw:=(((hw.cA 6 (nf (fun h=>ft hD ((hcl 14 _ rfl h).2.1 rfl)))).cA 6 hD).zb (j:=6) (jj:=(jg o.2 aa.1 (0:Int))) (AU 3 Int) Ce rfl an).freeze 1
   refine RL.app 0 1 hw qF a3 fun ar w hw=>?_
   have hw:=(((hw.pl 8 [1,0,3,4,5,6,7]).cQ 0 true rfl (bif D 11 then (own 3 ae ([(ad:Int)]: (List Int))) else bB)).cQ 1 true rfl bB).eV 1 (D 14) (nf (fun h=>ft hD ((hcl 14 _ rfl h).2.1 rfl))) bB
   have hw:=(hw.eV 5 (D 14) (nf (fun h=>ft hD ((hcl 14 _ rfl h).2.1 rfl))) (own 31 af (us124.set (Int.toNat (jg o.2 aa.1 (0:Int))) (rv ar)))).cQ 6 true rfl (hU (XS 3 Int) us124 o.1 none)
   have hw:=hw.eV 6 (D 14) (nf (fun h=>ft hD ((hcl 14 _ rfl h).2.1 rfl))) (hU (XS 3 Int) (us124.set (Int.toNat (jg o.2 aa.1 (0:Int))) (rv ar)) (o.1.set (Int.toNat (jg o.2 aa.1 (0:Int))) ai) none)
   exact RL.nil ⟨rfl,(ae,ar),hv.put 12 zr zr,ha.up zr,zt,hw⟩
  ·rintro D σ w hD hdep hcl ⟨⟨ae,ab⟩,hv,ha,_,hw⟩
   obtain⟨τ,rfl⟩:=(ac (hv.at 0 rfl (hdep.1 rfl)) (ac (hv.at 3 rfl (hdep.2.1 rfl)) az)).fq
   have hw:=((hw.cA 5 (nf (fun h=>ft hD ((hcl 14 _ rfl h).1 rfl)))).cA 6 (nf (fun h=>ft hD ((hcl 14 _ rfl h).1 rfl)))).cP 6 (hdep.2.2.2.2.2.2.2.2.2.2.2.2.2.2.1 rfl)
   have hl147:=hw.eA 6
   have hr148:=fE Ce hl147 aq
   refine RL.bU 5 hw zr zr xH hr148 ?_
   have hw:=(hw.eV 5 (D 14) (nf (fun h=>ft hD ((hcl 14 _ rfl h).1 rfl))) (own 31 af (us124.set (Int.toNat (jg o.2 aa.1 (0:Int))) (rv ab)))).cQ 6 (D 12) (hdep.2.2.2.2.2.2.2.2.2.2.2.2.2.2.1 rfl) (hU (XS 3 Int) us124 o.1 none)
   have hw:=hw.eV 6 (D 14) (nf (fun h=>ft hD ((hcl 14 _ rfl h).1 rfl))) (hU (XS 3 Int) (us124.set (Int.toNat (jg o.2 aa.1 (0:Int))) (rv ab)) (o.1.set (Int.toNat (jg o.2 aa.1 (0:Int))) ai) none)
   exact RL.nil ⟨rfl,(ae,ab),hv.put 13 zr zr,ha.up zr,zt,hw⟩
  ·rintro D σ w hD hdep hcl ⟨⟨ae,ab⟩,hv,ha,_,hw⟩
   obtain⟨τ,rfl⟩:=(ac (hv.at 12 rfl (hdep.2.1 rfl)) (ac (hv.at 13 rfl (hdep.1 rfl)) az)).fq
   have hw:=((((hw.cA 1 hD).cP 1 (hdep.2.1 rfl)).cA 5 hD).cA 6 hD).cP 6 (hdep.2.1 rfl)
   have hl149:=hw.eA 6
   have hr150:=fE Ce hl149 aq
   refine RL.sF 5 6 1 (jg o.2 aa.1 (0:Int)) (AU 3 Int) Ce hw zr zr (jA 5 hw hr150 0) zr zr zr aq fA fun w hw=>?_
   have hw:=((hw.cQ 1 true rfl (bif D 12 then (own 3 ab ai) else bB)).cQ 5 true rfl (own 31 af us124)).cQ 6 true rfl (bif D 12 then (hU (XS 3 Int) us124 o.1 (some (Int.toNat (jg o.2 aa.1 (0:Int))))) else (hU (XS 3 Int) us124 o.1 none))
   exact RL.nil ⟨rfl,(ae,ab),hv.no zr,ha,zt,hw⟩
  rintro D σ w hall ⟨⟨ae,ab⟩,hv,ha,_,hw⟩
  have hw:=hw.cP 0 (hall 12 (by decide))
  have hw:=hw.cP 1 (hall 14 (by decide))
  have hw:=hw.cP 5 (hall 14 (by decide))
  have hw:=hw.cP 6 (hall 14 (by decide))
  obtain⟨τ,rfl⟩:=(ac (ha.at 0 rfl) (ac (ha.at 1 rfl) (ac (ha.at 2 rfl) (ac (ha.at 3 rfl) (ac (ha.at 4 rfl) (ac (ha.at 5 rfl) (ac (ha.at 6 rfl) az))))))).fq
  refine bO (aH (RC.region (RL.inc hk hm (mv (vi ((ad+1:Nat):Int)) (RL.nil ?_)))))
  obtain rfl:=oi hb
  exact⟨rfl,ak,af,(us124.set (Int.toNat (jg o.2 aa.1 (0:Int))) (rv ab)),hw.sp 7 [2,3,4,5,6]⟩
 rintro _ w ⟨al,aj,us113,τ,rfl,hw⟩
 refine aH (RC.sr (mv aj (aQ aj (RL.nt (RC.ret ?_)))))
 obtain rfl:=oi hb
 have hw:=hw.yU (X:=(XS 3 Int)) (b:=4) (j:=3) rfl (fun M h u x cs=>(Ik 3) M h u x cs) rfl rfl (by decide)
 exact bX ⟨aj,al,zr,hw.pk 5 [3,0,1]⟩
theorem tG {p0:aI} {p1:jc} {res:Bool} (hw:Holds E w Γ) (h0:Γ[i0]? =some (rd v0 p0)) (h1:Γ[i1]? =some (pt v1 p1)) (hb:ll N p0 p1=some res):
    Calls bM 115 [v0,v1].toArray w (gL (aV E Γ res)):=by
 unfold ll at hb
 refine enter Tryz.func115 zr zr ?_
 have hw:=(hw.dup (i0+0) h0).Bz (i:=i1+1) h1
 refine RC.sr (RL.dJ 1 v0 hw zr fun ad w hw=>?_)
 refine aQ (vb false) (RL.nq ?_)
 obtain⟨ab,hj,hb⟩:=bd hb
 refine RC.jn (fun(ab:Bool)=>SH E Γ [(3,vb ab)] []) ab ?_ ?_
 ·refine RC.region (RL.dV 1 hw zr vJ nv fun ae hw=>(RL.bF p1.X 0 hw cJ (RL.aX zr g9 (RL.aM 1 hw zr dL cJ (ic p1.X p0.X0 (mv (vb (decide (p1.X>=p0.X0))) (fB hj (fun j hj=>?_) fun j hj=>?_)))))))
  rotate_left
  ·refine bJ j (bJ j (bJ j (bJ j (bJ j (fG j (vb false) (mv (vb false) (j7 (j7 ?_))))))))
   refine j7 (j7 (j7 (RL.pick false (vb false) zr (mv (vb false) (j7 (j7 (j7 (j7 ?_))))))))
   refine j7 (RL.pick false (vb false) zr (aQ (vb false) (RL.nil ?_)))
   obtain rfl:=oi hj
   exact⟨rfl,hw.sp 4 []⟩
  refine RL.dV (hg:=(cg j)) 2 hw zr vJ nv fun af hw=>(RL.bF (hg:=(cg j)) p1.X 0 hw cJ (RL.aX (hg:=(cg j)) zr iZ (RL.aM (hg:=(cg j)) 2 hw zr eC cJ (RL.kL p1.X p0.X1 (cg j) (fG j (vb (decide (p1.X<p0.X1))) (mv (vb (decide (p1.X<p0.X1))) (fB hj (fun o hj=>?_) fun o hj=>?_)))))))
  rotate_left
  ·refine bJ o (bJ o (bJ o (bJ o (bJ o (fG o (vb false) (mv (vb false) (j7 (j7 ?_))))))))
   refine j7 (j7 (j7 (RL.pick false (vb false) zr (aQ (vb false) (RL.nil ?_)))))
   obtain rfl:=oi hj
   exact⟨rfl,hw.sp 5 []⟩
  refine RL.dV (hg:=(cg o)) 3 hw zr vK ny fun ag hw=>(RL.bF (hg:=(cg o)) p1.Y 0 hw cJ (RL.aX (hg:=(cg o)) zr gR (RL.aM (hg:=(cg o)) 3 hw zr dG cJ (RL.kL p1.Y p0.Y0 (cg o) (fG o (vb (decide (p1.Y>=p0.Y0))) (mv (vb (decide (p1.Y>=p0.Y0))) (fB hj (fun aa hj=>?_) fun aa hj=>?_)))))))
  ·refine RL.dV (hg:=(cg aa)) 4 hw zr vK ny fun ah hw=>(RL.bF (hg:=(cg aa)) p1.Y 0 hw cJ (RL.aX (hg:=(cg aa)) zr ka (RL.aM (hg:=(cg aa)) 4 hw zr fo cJ (RL.kL p1.Y p0.Y1 (cg aa) (fG aa (vb (decide (p1.Y<p0.Y1))) (aQ (vb (decide (p1.Y<p0.Y1))) (RL.nil ?_)))))))
   obtain rfl:=oi hj
   exact⟨rfl,hw.sp 7 []⟩
  refine bJ aa (bJ aa (bJ aa (bJ aa (bJ aa (fG aa (vb false) (aQ (vb false) (RL.nil ?_)))))))
  obtain rfl:=oi hj
  exact⟨rfl,hw.sp 6 []⟩
 rintro _ w ⟨τ,rfl,hw⟩
 refine aH (RC.ret ?_)
 obtain rfl:=oi hb
 exact bX ⟨rfl,hw.drop 0⟩
theorem ql {p0: (List aI)} {p1:jc} {res:Bool} (hw:Holds E w Γ) (h0:Γ[i0]? =some (rd v0 p0)) (h1:Γ[i1]? =some (rd v1 p1)) (hb:ke N p0 p1=some res):
    Calls bM 88 [v0,v1].toArray w (gL (aV E Γ res)):=by
 unfold ke at hb
 refine enter Tryz.func88 zr zr ?_
 have hw:=(hw.dup (i0+0) h0).dup (i1+1) h1
 refine RC.sr (RL.dJ 0 v1 hw zr fun j w hw=>?_)
 have hw:=hw.lE (i:=0) rfl
 refine aQ (vb false) (RL.ns (mv v0 (RL.makeFunc zt zr [(vp j 0)] zr ?_)))
 obtain⟨o,aa,hb⟩:=bd hb
 refine RL.call trivial rfl Kn [v0,(.func (.func 115) #[] #[(vp j 0)])] rfl (aD (lV N (i0:=2) hw rfl ⟨115,[(vp j 0)],rfl,Kp,fun w Γl v y0 r i hw hi hr=>by exact aD (tG N (i0:=i) (i1:=Γl.length+0) hw hi (Bw rfl) hr) fun _ _ h=>h⟩ aa) ?_)
 rintro _ w ⟨rfl,hw⟩
 refine aQ (vb o) (RL.nt (RC.ret ?_))
 obtain rfl:=oi hb
 exact bX ⟨rfl,hw.drop 3⟩
def oV (E:World) (Γ:List HP) (b0:Nat) (v0_0 v0_1:Value) (v0_2 v0_3:Value) (v0_4 v0_5:Value) (v0_6 v0_7:Value) (v0_8 v0_9:Value) (v0_10 v0_11:Value) (res:j9×Bool) (v:Value) (w:World):Prop:=∃u0:Value,v = .tuple #[u0,(vb res.2)]/\Holds E w ([rd u0 res.1,bc 48 b0 [v0_0,v0_1,v0_2,v0_3,v0_4,v0_5,v0_6,v0_7,v0_8,v0_9,v0_10,v0_11]]++Γ)
def oW (E:World) (Γ:List HP) (b0:Nat) (v0_0 v0_1:Value) (v0_2 v0_3:Value) (v0_4 v0_5:Value) (v0_6 v0_7:Value) (v0_8 v0_9:Value) (v0_10 v0_11:Value) (r:j9×Bool) (σ:Nat->Value) (w:World):Prop:=lZ bM 66 Tryz.f55 (oV E Γ b0 v0_0 v0_1 v0_2 v0_3 v0_4 v0_5 v0_6 v0_7 v0_8 v0_9 v0_10 v0_11 r) .ret σ w
theorem tH {p0_2: (List cD)} {p0_5: (List aK)} {p1:fK} {res:j9×Bool} (hw:Holds E w (bc 48 b0 [v0_0,v0_1,v0_2,v0_3,v0_4,v0_5,v0_6,v0_7,v0_8,v0_9,v0_10,v0_11]::rd v0_2 p0_2::rd v0_5 p0_5::Γ)) (h1:Γ[i1]? =some (rd v1 p1)) (hb:jU N p0_2 p0_5 p1=some res):
    Calls bM 55 [(vp b0 0),v1].toArray w (gL (oV E Γ b0 v0_0 v0_1 v0_2 v0_3 v0_4 v0_5 v0_6 v0_7 v0_8 v0_9 v0_10 v0_11 res)):=by
 unfold jU at hb
 refine enter Tryz.func55 zr zr ?_
 have hw:=hw.dup (i1+3) h1
 refine RC.sr (RL.dJ 0 v1 hw zr fun ae w hw=>?_)
 have hw:=hw.lE (i:=0) rfl
 refine RL.alloc hw GJ.z fun aa w hw=>?_
 refine aQ (vb false) (RL.nq (RC.sr (mv (vp b0 0) (RL.nilCheck zr (RL.aX zr sL (RL.aX zr gC (RL.bH 3 v0_2 hw mT (RL.bC 4 p0_2 hw t3 ?_))))))))
 refine mv (vi 0) (RL.nt ?_)
 obtain⟨ba,hN,hb⟩:=bd hb
 refine RC.range (fun(ab:Nat) (ag:Unit)=>SH E Γ [(0,vp b0 0),(3,vp ae 0),(4,vp aa 0),(14,v0_2),(15,vi p0_2.length),(16,vi ab)] [bc 48 b0 [v0_0,v0_1,v0_2,v0_3,v0_4,v0_5,v0_6,v0_7,v0_8,v0_9,v0_10,v0_11],rd v0_2 p0_2,rd v0_5 p0_5,pt (vp ae 0) p1,raw 99 aa 2]) (fun(ag:Unit)=>SH E Γ [(0,vp b0 0),(3,vp ae 0),(4,vp aa 0)] [bc 48 b0 [v0_0,v0_1,v0_2,v0_3,v0_4,v0_5,v0_6,v0_7,v0_8,v0_9,v0_10,v0_11],rd v0_2 p0_2,rd v0_5 p0_5,pt (vp ae 0) p1,raw 99 aa 2]) (oW E Γ b0 v0_0 v0_1 v0_2 v0_3 v0_4 v0_5 v0_6 v0_7 v0_8 v0_9 v0_10 v0_11) hN ?_ ?_ ?_ ?_ ?_
 ·exact hw.sp 6 [3,4,5,1,0]
 ·rintro hm ag _ w ⟨τ,rfl,hw⟩
  refine RC.sr (ic ((p0_2.length:Int)) ((p0_2.length:Int)) (RL.nq (RC.fV tN (RC.ex ?_))))
  exact⟨rfl,hw.sp 5 [0,1,2,3,4]⟩
 ·rintro hm ab ag fl _ w hk ⟨τ,rfl,hw⟩ hb
  refine RC.sr (ic ((ab:Int)) ((p0_2.length:Int)) (RL.nq (RC.fU (tM hk) (RC.ss (RC.bs (mv (vi ab) ?_))))))
  obtain⟨al,ao,hb⟩:=bd hb
  refine RL.bN 1 hw qc ao fun bb hw=>(RL.bL 0 al hw lP fun bf hw=>(RL.alloc hw D6.z fun bg w hw=>?_))
  refine aQ (vi ab) (RL.cB 0 hw 1 zr lP fun w hw=>?_)
  refine RL.nq ?_
  obtain⟨ai,hj,hb⟩:=bd hb
  refine RC.jn (fun(ai:Bool)=>SH E Γ [(0,vp b0 0),(3,vp ae 0),(4,vp aa 0),(6,vi ab),(14,v0_2),(15,vi p0_2.length),(16,vi ab),(36,vb ai)] [bc 48 b0 [v0_0,v0_1,v0_2,v0_3,v0_4,v0_5,v0_6,v0_7,v0_8,v0_9,v0_10,v0_11],rd v0_2 p0_2,rd v0_5 p0_5,pt (vp ae 0) p1,raw 99 aa 2]) ai ?_ ?_
  ·refine RC.vH mixed [0,0,0,0,0,0,2,0,0,0,2,2,1,1,2,0] [0,1,2,3,4,5,6,7,8,9,12,13,10,11,14,15] ?_
   have hw:=hw.drew
   refine DP.e0 zr (RL.aX zr xG (aZ zr (RL.aM 0 hw zr pX A2 (aZ zr (mv (vb al.fJ) (DP.d0 (fB hj (fun af hj=>?_) fun af hj=>?_)))))))
   rotate_left
   ·refine DP.e0 zr (bJ af (aZ zr (bJ af (aZ zr (bJ af (pz zr (bJ af (tw zr ?_))))))))
    refine fG af (vb false) (aZ zr (mv (vb false) (aZ zr (j7 (DP.d0 (DP.e1 undef zr (fun w=>j7 DP.d1) (DP.e1 undef zr (fun w=>j7 DP.d1) (DP.e2 zr ?_))))))))
    refine j7 (EM zr (j7 (EM zr (j7 (tw zr (RL.pick false (vb false) zr (DP.d0 (DP.z ?_))))))))
    obtain rfl:=oi hj
    exact⟨rfl,hw.sp 8 [3,4,5,6,7]⟩
   refine DP.e0 zr (RL.bE (hg:=(cg af)) (f:=(fun x=>x)) 0 hw zr Fd.self lP fun aq hw=>(aZ zr (RL.dV (hg:=(cg af)) 7 hw zr xE pZ fun bh hw=>(aZ zr (RL.bF (hg:=(cg af)) p1.cU 0 hw cJ (pz zr ?_))))))
   obtain⟨an,ar,hj⟩:=bd hj
   refine RL.call (cg af) zr I9 [aq,(vi p1.cU)] zr (aD (oj N (p1:=p1.cU) (i0:=1) hw zr ar) ?_)
   rintro _ w ⟨rfl,hw⟩
   refine tw zr (fG af (vb an) (aZ zr (mv (vb an) (DP.d0 (fB hj (fun j hj=>?_) fun j hj=>?_)))))
   rotate_left
   ·refine DP.e0 zr (bJ j (DP.d0 (DP.e1 undef zr (fun w=>bJ j DP.d1) (DP.e1 undef zr (fun w=>bJ j DP.d1) (DP.e2 zr (bJ j (EM zr (bJ j ?_))))))))
    refine EM zr (bJ j (tw zr (fG j (vb false) (DP.d0 (DP.z ?_)))))
    obtain rfl:=oi hj
    exact⟨rfl,hw.sp 10 [5,6,7,8,9]⟩
   refine DP.e0 zr (RL.bE (hg:=(cg j)) (f:=(fun x=>x)) 2 hw zr Fd.self lP fun au hw=>(DP.d0 (DP.BK 9 zr (cg j) hw zr xF p4 fun bj hw=>(DP.yJ p1.At 0 zr (cg j) hw CZ fun av a105 bk hw=>(DP.e2 zr ?_)))))
   obtain⟨aw,ax,hj⟩:=bd hj
   refine RL.call (cg j) zr Ft [au] zr (aD (i6 N (i0:=3) hw zr ax) ?_)
   rintro ay w hw
   refine DP.d2 (⟨zt,hw.g8 1⟩) (DP.e2 zr (RL.dW (hg:=(cg j)) ([aw]: (List aI)) hw [ay] iY oc (fun M hs g=>⟨(g.sat 0 _ zr).1,zt⟩) fun az w hw=>(DP.d2 (⟨zt,hw.g8 2⟩) (DP.e2 zr ?_))))
   have hw:=hw.freeze 0
   obtain⟨a0,a1,hj⟩:=bd hj
   refine RL.call (cg j) zr Kq [az,av] zr (aD (ql N (i0:=0) (i1:=3) hw zr zr a1) ?_)
   rintro _ w ⟨rfl,hw⟩
   refine DP.d2 (⟨zt,hw.g8 2⟩) (DP.e0 zr (fG j (vb a0) (DP.d0 ?_)))
   have hw:=hw.pl 16 [0,1,3,4,5,6,7,8,9,10,11,12,13,14,15]
   refine DP.z ?_
   obtain rfl:=oi hj
   exact⟨rfl,hw.sp 15 [10,11,12,13,14]⟩
  rintro _ w ⟨τ,rfl,hw⟩
  refine aH (dT hb (fun hc hb=>?_) fun hc hb=>?_)
  rotate_left
  ·refine RC.skip (bO (aH (RC.region (RL.inc hk hm (mv (vi ((ab+1:Nat):Int)) (RL.nil ?_))))))
   obtain rfl:=oi hb
   exact⟨rfl,hw.sp 5 [0,1,2,3,4]⟩
  refine RC.sr (mv (vi ab) ?_)
  have hw:=(hw.sc Bool true).sc Int (ab:Int)
  refine RL.build (⟨true,(ab:Int)⟩:j9) trivial rfl hw [(0,vb true),(1,vi ab)] rfl Fx rfl (fun M hs g=>by have h:=A1 M;exact cT.cons (f:=fun(x:j9) y=>{x with cD:=y}) h CW (g.sat 1 _ rfl).1 fun _ h=>cT.cons (f:=fun(x:j9) y=>{x with Number:=y}) h wI (g.sat 0 _ rfl).1 fun _ h=>cT.nil h) fun bl hw=>?_
  refine RL.cB 7 hw 0 zr t6 fun w hw=>?_
  refine aQ (vb true) (RL.nt (RC.rb (bS ?_)))
  obtain rfl:=oi hb
  exact⟨rfl,wm 7 hw t6 fun a2 hw=>⟨a2,zr,hw.pk 9 [0,4]⟩⟩
 ·intro r σ w e hK
  subst e
  refine bS ?_
  obtain rfl:=oi hb
  exact hK
 rintro ag _ w rfl ⟨τ,rfl,hw⟩
 rw [Fo.dF] at hb
 refine aH (RC.seq (RC.sr (mv (vp b0 0) (RL.nilCheck zr (RL.aX zr t5 (RL.bH 0 v0_5 hw C2 (RL.bC 2 p0_5 hw GG (mv (vi 0) ?_))))))))
 refine RL.nt ?_
 obtain⟨bm,hN,hb⟩:=bd hb
 refine RC.range (fun(ad:Nat) (ah:Unit)=>SH E Γ [(0,vp b0 0),(3,vp ae 0),(4,vp aa 0),(43,v0_5),(44,vi p0_5.length),(45,vi ad)] [bc 48 b0 [v0_0,v0_1,v0_2,v0_3,v0_4,v0_5,v0_6,v0_7,v0_8,v0_9,v0_10,v0_11],rd v0_2 p0_2,rd v0_5 p0_5,pt (vp ae 0) p1,raw 99 aa 2]) (fun(ah:Unit)=>SH E Γ [(0,vp b0 0),(4,vp aa 0)] [bc 48 b0 [v0_0,v0_1,v0_2,v0_3,v0_4,v0_5,v0_6,v0_7,v0_8,v0_9,v0_10,v0_11],rd v0_2 p0_2,rd v0_5 p0_5,pt (vp ae 0) p1,raw 99 aa 2]) (oW E Γ b0 v0_0 v0_1 v0_2 v0_3 v0_4 v0_5 v0_6 v0_7 v0_8 v0_9 v0_10 v0_11) hN ?_ ?_ ?_ ?_ ?_
 ·exact hw.sp 5 [0,1,2,3,4]
 ·rintro hm ah _ w ⟨τ,rfl,hw⟩
  refine RC.sr (ic ((p0_5.length:Int)) ((p0_5.length:Int)) (RL.nq (RC.fV tN (RC.ex ?_))))
  exact⟨rfl,hw.sp 5 [0,1,2,3,4]⟩
 ·rintro hm ad ah fl _ w hk ⟨τ,rfl,hw⟩ hb
  refine RC.sr (ic ((ad:Int)) ((p0_5.length:Int)) (RL.nq (RC.fU (tM hk) (RC.ss (RC.bs (mv (vi ad) ?_))))))
  obtain⟨aj,a3,hb⟩:=bd hb
  refine RL.bN 2 hw HN a3 fun bn hw=>(RL.bL 0 aj hw HO fun bo hw=>(RL.alloc hw Jd.z fun bp w hw=>?_))
  refine aQ (vi ad) (RL.cB 0 hw 1 zr HO fun w hw=>?_)
  refine RL.nq ?_
  obtain⟨ak,hj,hb⟩:=bd hb
  refine RC.jn (fun(ak:Bool)=>SH E Γ [(0,vp b0 0),(3,vp ae 0),(4,vp aa 0),(8,vi ad),(43,v0_5),(44,vi p0_5.length),(45,vi ad),(61,vb ak)] [bc 48 b0 [v0_0,v0_1,v0_2,v0_3,v0_4,v0_5,v0_6,v0_7,v0_8,v0_9,v0_10,v0_11],rd v0_2 p0_2,rd v0_5 p0_5,pt (vp ae 0) p1,raw 99 aa 2]) ak ?_ ?_
  ·refine RC.region (RL.aX zr GH (RL.aM 0 hw zr qS cJ (RL.dV 6 hw zr xE pZ fun bq hw=>(RL.bF p1.cU 0 hw cJ (ic aj.cU p1.cU (mv (vb (aj.cU==p1.cU)) (fB hj (fun o hj=>?_) fun o hj=>?_)))))))
   rotate_left
   ·refine bJ o (bJ o (bJ o (bJ o (bJ o (fG o (vb false) (RL.nil ?_))))))
    obtain rfl:=oi hj
    exact⟨rfl,hw.sp 9 [4,5,6,7,8]⟩
   refine RL.aX (hg:=(cg o)) zr D7 (RL.bE (hg:=(cg o)) 1 hw zr n8 rH fun a4 hw=>(RL.dV (hg:=(cg o)) 8 hw zr xF p4 fun br hw=>(RL.bL (hg:=(cg o)) 0 p1.At hw CZ fun a5 hw=>?_)))
   obtain⟨a6,a7,hj⟩:=bd hj
   refine RL.call (cg o) zr Kq [a4,a5] zr (aD (ql N (i0:=2) (i1:=0) hw zr zr a7) ?_)
   rintro _ w ⟨rfl,hw⟩
   refine fG o (vb a6) (RL.nil ?_)
   obtain rfl:=oi hj
   exact⟨rfl,hw.sp 12 [7,8,9,10,11]⟩
  rintro _ w ⟨τ,rfl,hw⟩
  refine aH (dT hb (fun hc hb=>?_) fun hc hb=>?_)
  rotate_left
  ·refine RC.skip (bO (aH (RC.region (RL.inc hk hm (mv (vi ((ad+1:Nat):Int)) (RL.nil ?_))))))
   obtain rfl:=oi hb
   exact⟨rfl,hw.sp 5 [0,1,2,3,4]⟩
  refine RC.sr (mv (vi ad) ?_)
  have hw:=hw.sc Int (ad:Int)
  refine RL.build (⟨false,(ad:Int)⟩:j9) trivial rfl hw [(1,vi ad)] rfl Fx rfl (fun M hs g=>by have h:=A1 M;exact cT.cons (f:=fun(x:j9) y=>{x with Number:=y}) h wI (g.sat 0 _ rfl).1 fun _ h=>cT.nil h) fun bt hw=>?_
  refine RL.cB 6 hw 0 zr t6 fun w hw=>?_
  refine aQ (vb true) (RL.nt (RC.rb (bS ?_)))
  obtain rfl:=oi hb
  exact⟨rfl,wm 6 hw t6 fun a8 hw=>⟨a8,zr,hw.pk 8 [0,3]⟩⟩
 ·intro r σ w e hK
  subst e
  refine bS ?_
  obtain rfl:=oi hb
  exact hK
 rintro ah _ w rfl ⟨τ,rfl,hw⟩
 rw [Fo.dF] at hb
 refine aH (RC.sr (RL.build (⟨false,0⟩:j9) trivial rfl hw [] rfl Fx rfl (fun M hs g=>by have h:=A1 M;exact cT.nil h) fun bu hw=>?_))
 refine RL.cB 5 hw 0 zr t6 fun w hw=>?_
 refine aQ (vb false) (RL.nt (RC.ret ?_))
 obtain rfl:=oi hb
 exact wm 5 hw t6 fun a9 hw=>⟨a9,zr,hw.pk 7 [0,2]⟩
def qI (E:World) (Γ:List HP) (b0:Nat) (v0_0 v0_1:Value) (v0_2 v0_3:Value) (v0_4 v0_5:Value) (v0_6 v0_7:Value) (v0_8 v0_9:Value) (v0_10 v0_11:Value) (res:Int) (v:Value) (w:World):Prop:=v= (vi res)/\Holds E w ([bc 48 b0 [v0_0,v0_1,v0_2,v0_3,v0_4,v0_5,v0_6,v0_7,v0_8,v0_9,v0_10,v0_11]]++Γ)
theorem qm {p0_8: (List Int)} {p0_9: (List Int)} {p1:j9} (hw:Holds E w (bc 48 b0 [v0_0,v0_1,v0_2,v0_3,v0_4,v0_5,v0_6,v0_7,v0_8,v0_9,v0_10,v0_11]::rd v0_8 p0_8::rd v0_9 p0_9::Γ)) (h1:Γ[i1]? =some (rd v1 p1)) (hb:ik N p0_8 p0_9 p1=some res):
    Calls bM 56 [(vp b0 0),v1].toArray w (gL (qI E Γ b0 v0_0 v0_1 v0_2 v0_3 v0_4 v0_5 v0_6 v0_7 v0_8 v0_9 v0_10 v0_11 res)):=by
 unfold ik at hb
 refine enter Tryz.func56 zr zr ?_
 have hw:=hw.dup (i1+3) h1
 refine RC.sr (RL.dJ 0 v1 hw zr fun ad w hw=>?_)
 refine aQ (vi 0) (RL.nq (RC.sr (RL.aX zr BO (RL.aM 0 hw zr wH A2 (RL.nt (dT hb (fun hc hb=>?_) fun hc hb=>?_))))))
 ·refine RC.seq (RC.yI mixed ?_)
  have hw:=hw.drew
  refine RO.go (mv (vp b0 0) (RO.nx (RL.nilCheck zr (RO.nx (RL.aX zr BN (RO.nx (RL.bH 2 v0_9 hw fA (RO.nx ?_))))))))
  refine RL.aX zr zj (RO.nx (RL.aM 0 hw zr tZ cJ (RO.nx ?_)))
  obtain⟨j,aa,hb⟩:=bd hb
  refine RL.bN 4 hw eB aa fun ae hw=>(RO.nx (RL.bF j 0 hw cJ (RO.nx (aQ (vi j) (RO.last (aH (RC.rt ?_)))))))
  obtain rfl:=oi hb
  exact bX ⟨rfl,hw.pk 6 [3]⟩
 refine RC.ss (RC.yI mixed ?_)
 have hw:=hw.drew
 refine RO.go (mv (vp b0 0) (RO.nx (RL.nilCheck zr (RO.nx (RL.aX zr D8 (RO.nx (RL.bH 2 v0_8 hw fA (RO.nx ?_))))))))
 refine RL.aX zr zj (RO.nx (RL.aM 0 hw zr tZ cJ (RO.nx ?_)))
 obtain⟨o,ab,hb⟩:=bd hb
 refine RL.bN 3 hw eB ab fun af hw=>(RO.nx (RL.bF o 0 hw cJ (RO.nx (aQ (vi o) (RO.last (aH (RC.ret ?_)))))))
 obtain rfl:=oi hb
 exact bX ⟨rfl,hw.pk 6 [3]⟩
end Go.Gk
