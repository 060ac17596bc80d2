/-
  Printed texts: Go functions as plain functions, and that they are. No statement of the seed is proved here.
-/
import Derived.Test.YtmmiladckdcjeacGreatDoorG1
import Derived.Test.YtmmiladckdcjeacGreatDoorG2
import Derived.Test.YtmmiladckdcjeacGreatDoorG3
import Derived.Test.YtmmiladckdcjeacGreatDoorA2
set_option linter.unusedVariables false
set_option linter.unusedSimpArgs false
set_option linter.unusedSectionVars false
set_option maxRecDepth 100000
set_option maxHeartbeats 4000000
namespace Go.Gk
open Go Go.Proofs
variable (N:Nat) {E w:World} {b0 i0 i1:Nat} {p0 p1 p2 res:Int} {v0 v0_0 v0_1 v0_10 v0_11 v0_2 v0_3 v0_4 v0_5 v0_6 v0_7 v0_8 v0_9 v1:Value} {V:List HP}
theorem yn {p0 p1:aI} {res:Bool} (j:Holds E w V) (h0:V[i0]? =some (rd v0 p0)) (h1:V[i1]? =some (rd v1 p1)) (hb:rI N p0 p1=some res):
    Calls bN 53 [v0,v1].toArray w (gL (aX E V res)):=by
 unfold rI at hb
 refine enter Tryz.func53 zr zr ?_
 have j:=(j.dup (i0+0) h0).dup (i1+1) h1
 refine RC.sr (RL.cS 1 v0 j zr fun o w j=>?_)
 refine RL.cS 1 v1 j zr fun aa w j=>?_
 refine aQ (vb false) (RL.ns (RL.aY zr ij (RL.aM 1 j zr dM cI (RL.aY zr ji (RL.aM 0 j zr eF cI (ic p0.X0 p1.X1 (mv (vb (decide (p0.X0<p1.X1))) (RL.gs true (decide (p0.X0<p1.X1)) (vp aa 0) zr zr zr (eA ij) ?_))))))))
 refine RL.gs true (decide (p0.X0<p1.X1)) (vi p1.X0) rfl rfl rfl (cB 0 rfl j (fun h=>by exact(cM h:cv (true&&((decide (p0.X0<p1.X1))==true)) (vp aa 0)= (vp aa 0))) rfl dM cI) (RL.gs true (decide (p0.X0<p1.X1)) (vp o 2) rfl rfl rfl (eA ji) (RL.gs true (decide (p0.X0<p1.X1)) (vi p0.X1) rfl rfl rfl (cB 1 rfl j (fun h=>by exact(cM h:cv (true&&((decide (p0.X0<p1.X1))==true)) (vp o 2)= (vp o 2))) rfl eF cI) (RL.gs true (decide (p0.X0<p1.X1)) (vb (decide (p1.X0<p0.X1))) rfl rfl rfl (dK .lss .i64 p1.X0 p0.X1 rfl (fun h=>by exact(cM h:cv (true&&((decide (p0.X0<p1.X1))==true)) (vi p1.X0)= (vi p1.X0))) (fun h=>by exact(cM h:cv (true&&((decide (p0.X0<p1.X1))==true)) (vi p0.X1)= (vi p0.X1))) rfl) (RL.pick (decide (p0.X0<p1.X1)) (vb ((decide (p0.X0<p1.X1))&&(decide (p1.X0<p0.X1)))) (gD true rfl) (aQ (vb ((decide (p0.X0<p1.X1))&&(decide (p1.X0<p0.X1)))) (RL.ns (RL.aY rfl gW (RL.aM 1 j rfl dF cI ?_))))))))
 refine RL.aY rfl kr (RL.aM 0 j rfl fG cI (ic p0.Y0 p1.Y1 (mv (vb (decide (p0.Y0<p1.Y1))) (RL.gs true (decide (p0.Y0<p1.Y1)) (vp aa 1) rfl rfl rfl (eA gW) (RL.gs true (decide (p0.Y0<p1.Y1)) (vi p1.Y0) rfl rfl rfl (cB 0 rfl j (fun h=>by exact(cM h:cv (true&&((decide (p0.Y0<p1.Y1))==true)) (vp aa 1)= (vp aa 1))) rfl dF cI) (RL.gs true (decide (p0.Y0<p1.Y1)) (vp o 3) rfl rfl rfl (eA kr) (RL.gs true (decide (p0.Y0<p1.Y1)) (vi p0.Y1) rfl rfl rfl (cB 1 rfl j (fun h=>by exact(cM h:cv (true&&((decide (p0.Y0<p1.Y1))==true)) (vp o 3)= (vp o 3))) rfl fG cI) (RL.gs true (decide (p0.Y0<p1.Y1)) (vb (decide (p1.Y0<p0.Y1))) rfl rfl rfl (dK .lss .i64 p1.Y0 p0.Y1 rfl (fun h=>by exact(cM h:cv (true&&((decide (p0.Y0<p1.Y1))==true)) (vi p1.Y0)= (vi p1.Y0))) (fun h=>by exact(cM h:cv (true&&((decide (p0.Y0<p1.Y1))==true)) (vi p0.Y1)= (vi p0.Y1))) rfl) ?_))))))))
 refine RL.pick (decide (p0.Y0<p1.Y1)) (vb ((decide (p0.Y0<p1.Y1))&&(decide (p1.Y0<p0.Y1)))) (gD true rfl) (aQ (vb ((decide (p0.Y0<p1.Y1))&&(decide (p1.Y0<p0.Y1)))) (RL.ns (mv (vb ((decide (p0.X0<p1.X1))&&(decide (p1.X0<p0.X1)))) (mv (vb ((decide (p0.X0<p1.X1))&&(decide (p1.X0<p0.X1)))) (RL.gs true ((decide (p0.X0<p1.X1))&&(decide (p1.X0<p0.X1))) (vp o 3) rfl rfl rfl (eA kr) (RL.gs true ((decide (p0.X0<p1.X1))&&(decide (p1.X0<p0.X1))) (vi p0.Y1) rfl rfl rfl (cB 1 rfl j (fun h=>by exact(cM h:cv (true&&(((decide (p0.X0<p1.X1))&&(decide (p1.X0<p0.X1)))==true)) (vp o 3)= (vp o 3))) rfl fG cI) (RL.gs true ((decide (p0.X0<p1.X1))&&(decide (p1.X0<p0.X1))) (vp aa 1) rfl rfl rfl (eA gW) (RL.gs true ((decide (p0.X0<p1.X1))&&(decide (p1.X0<p0.X1))) (vi p1.Y0) rfl rfl rfl (cB 0 rfl j (fun h=>by exact(cM h:cv (true&&(((decide (p0.X0<p1.X1))&&(decide (p1.X0<p0.X1)))==true)) (vp aa 1)= (vp aa 1))) rfl dF cI) ?_))))))))
 refine RL.gs true ((decide (p0.X0<p1.X1))&&(decide (p1.X0<p0.X1))) (vb (p0.Y1==p1.Y0)) rfl rfl rfl (dK .eql .i64 p0.Y1 p1.Y0 rfl (fun h=>by exact(cM h:cv (true&&(((decide (p0.X0<p1.X1))&&(decide (p1.X0<p0.X1)))==true)) (vi p0.Y1)= (vi p0.Y1))) (fun h=>by exact(cM h:cv (true&&(((decide (p0.X0<p1.X1))&&(decide (p1.X0<p0.X1)))==true)) (vi p1.Y0)= (vi p1.Y0))) rfl) (RL.gs true ((decide (p0.X0<p1.X1))&&(decide (p1.X0<p0.X1))) (vb (p0.Y1==p1.Y0)) rfl rfl rfl (cK (hx:=fun h=>by exact(cM h:cv (true&&(((decide (p0.X0<p1.X1))&&(decide (p1.X0<p0.X1)))==true)) (vb (p0.Y1==p1.Y0))= (vb (p0.Y1==p1.Y0))))) (RL.gs (true&&(((decide (p0.X0<p1.X1))&&(decide (p1.X0<p0.X1)))==true)) (p0.Y1==p1.Y0) (vp aa 3) rfl rfl rfl (eA kr) (RL.gs (true&&(((decide (p0.X0<p1.X1))&&(decide (p1.X0<p0.X1)))==true)) (p0.Y1==p1.Y0) (vi p1.Y1) rfl rfl rfl (cB 0 rfl j (fun h=>by exact(cM h:cv ((true&&(((decide (p0.X0<p1.X1))&&(decide (p1.X0<p0.X1)))==true))&&((p0.Y1==p1.Y0)==false)) (vp aa 3)= (vp aa 3))) rfl fG cI) (RL.gs (true&&(((decide (p0.X0<p1.X1))&&(decide (p1.X0<p0.X1)))==true)) (p0.Y1==p1.Y0) (vp o 1) rfl rfl rfl (eA gW) (RL.gs (true&&(((decide (p0.X0<p1.X1))&&(decide (p1.X0<p0.X1)))==true)) (p0.Y1==p1.Y0) (vi p0.Y0) rfl rfl rfl (cB 1 rfl j (fun h=>by exact(cM h:cv ((true&&(((decide (p0.X0<p1.X1))&&(decide (p1.X0<p0.X1)))==true))&&((p0.Y1==p1.Y0)==false)) (vp o 1)= (vp o 1))) rfl dF cI) (RL.gs (true&&(((decide (p0.X0<p1.X1))&&(decide (p1.X0<p0.X1)))==true)) (p0.Y1==p1.Y0) (vb (p1.Y1==p0.Y0)) rfl rfl rfl (dK .eql .i64 p1.Y1 p0.Y0 rfl (fun h=>by exact(cM h:cv ((true&&(((decide (p0.X0<p1.X1))&&(decide (p1.X0<p0.X1)))==true))&&((p0.Y1==p1.Y0)==false)) (vi p1.Y1)= (vi p1.Y1))) (fun h=>by exact(cM h:cv ((true&&(((decide (p0.X0<p1.X1))&&(decide (p1.X0<p0.X1)))==true))&&((p0.Y1==p1.Y0)==false)) (vi p0.Y0)= (vi p0.Y0))) rfl) (RL.gs true ((decide (p0.X0<p1.X1))&&(decide (p1.X0<p0.X1))) (vb ((p0.Y1==p1.Y0)||(p1.Y1==p0.Y0))) rfl rfl rfl (kE (p0.Y1==p1.Y0) rfl (fun h=>by exact(cM h:cv (true&&(((decide (p0.X0<p1.X1))&&(decide (p1.X0<p0.X1)))==true)) (vb (p0.Y1==p1.Y0))= (vb (p0.Y1==p1.Y0)))) (fun h=>by exact nX (h:=h) (true&&(((decide (p0.X0<p1.X1))&&(decide (p1.X0<p0.X1)))==true)))) (RL.pick ((decide (p0.X0<p1.X1))&&(decide (p1.X0<p0.X1))) (vb (((decide (p0.X0<p1.X1))&&(decide (p1.X0<p0.X1)))&&((p0.Y1==p1.Y0)||(p1.Y1==p0.Y0)))) (gD true rfl) ?_))))))))
 refine mv (vb (((decide (p0.X0<p1.X1))&&(decide (p1.X0<p0.X1)))&&((p0.Y1==p1.Y0)||(p1.Y1==p0.Y0)))) (RL.gs true (((decide (p0.X0<p1.X1))&&(decide (p1.X0<p0.X1)))&&((p0.Y1==p1.Y0)||(p1.Y1==p0.Y0))) (vb ((decide (p0.Y0<p1.Y1))&&(decide (p1.Y0<p0.Y1)))) rfl rfl rfl cK (RL.gs true (((decide (p0.X0<p1.X1))&&(decide (p1.X0<p0.X1)))&&((p0.Y1==p1.Y0)||(p1.Y1==p0.Y0))) (vb ((decide (p0.Y0<p1.Y1))&&(decide (p1.Y0<p0.Y1)))) rfl rfl rfl (cK (hx:=fun h=>by exact(cM h:cv (true&&((((decide (p0.X0<p1.X1))&&(decide (p1.X0<p0.X1)))&&((p0.Y1==p1.Y0)||(p1.Y1==p0.Y0)))==false)) (vb ((decide (p0.Y0<p1.Y1))&&(decide (p1.Y0<p0.Y1))))= (vb ((decide (p0.Y0<p1.Y1))&&(decide (p1.Y0<p0.Y1))))))) (RL.gs (true&&((((decide (p0.X0<p1.X1))&&(decide (p1.X0<p0.X1)))&&((p0.Y1==p1.Y0)||(p1.Y1==p0.Y0)))==false)) ((decide (p0.Y0<p1.Y1))&&(decide (p1.Y0<p0.Y1))) (vp o 2) rfl rfl rfl (eA ji) (RL.gs (true&&((((decide (p0.X0<p1.X1))&&(decide (p1.X0<p0.X1)))&&((p0.Y1==p1.Y0)||(p1.Y1==p0.Y0)))==false)) ((decide (p0.Y0<p1.Y1))&&(decide (p1.Y0<p0.Y1))) (vi p0.X1) rfl rfl rfl (cB 1 rfl j (fun h=>by exact(cM h:cv ((true&&((((decide (p0.X0<p1.X1))&&(decide (p1.X0<p0.X1)))&&((p0.Y1==p1.Y0)||(p1.Y1==p0.Y0)))==false))&&(((decide (p0.Y0<p1.Y1))&&(decide (p1.Y0<p0.Y1)))==true)) (vp o 2)= (vp o 2))) rfl eF cI) (RL.gs (true&&((((decide (p0.X0<p1.X1))&&(decide (p1.X0<p0.X1)))&&((p0.Y1==p1.Y0)||(p1.Y1==p0.Y0)))==false)) ((decide (p0.Y0<p1.Y1))&&(decide (p1.Y0<p0.Y1))) (vp aa 0) rfl rfl rfl (eA ij) (RL.gs (true&&((((decide (p0.X0<p1.X1))&&(decide (p1.X0<p0.X1)))&&((p0.Y1==p1.Y0)||(p1.Y1==p0.Y0)))==false)) ((decide (p0.Y0<p1.Y1))&&(decide (p1.Y0<p0.Y1))) (vi p1.X0) rfl rfl rfl (cB 0 rfl j (fun h=>by exact(cM h:cv ((true&&((((decide (p0.X0<p1.X1))&&(decide (p1.X0<p0.X1)))&&((p0.Y1==p1.Y0)||(p1.Y1==p0.Y0)))==false))&&(((decide (p0.Y0<p1.Y1))&&(decide (p1.Y0<p0.Y1)))==true)) (vp aa 0)= (vp aa 0))) rfl dM cI) (RL.gs (true&&((((decide (p0.X0<p1.X1))&&(decide (p1.X0<p0.X1)))&&((p0.Y1==p1.Y0)||(p1.Y1==p0.Y0)))==false)) ((decide (p0.Y0<p1.Y1))&&(decide (p1.Y0<p0.Y1))) (vb (p0.X1==p1.X0)) rfl rfl rfl (dK .eql .i64 p0.X1 p1.X0 rfl (fun h=>by exact(cM h:cv ((true&&((((decide (p0.X0<p1.X1))&&(decide (p1.X0<p0.X1)))&&((p0.Y1==p1.Y0)||(p1.Y1==p0.Y0)))==false))&&(((decide (p0.Y0<p1.Y1))&&(decide (p1.Y0<p0.Y1)))==true)) (vi p0.X1)= (vi p0.X1))) (fun h=>by exact(cM h:cv ((true&&((((decide (p0.X0<p1.X1))&&(decide (p1.X0<p0.X1)))&&((p0.Y1==p1.Y0)||(p1.Y1==p0.Y0)))==false))&&(((decide (p0.Y0<p1.Y1))&&(decide (p1.Y0<p0.Y1)))==true)) (vi p1.X0)= (vi p1.X0))) rfl) (RL.gs (true&&((((decide (p0.X0<p1.X1))&&(decide (p1.X0<p0.X1)))&&((p0.Y1==p1.Y0)||(p1.Y1==p0.Y0)))==false)) ((decide (p0.Y0<p1.Y1))&&(decide (p1.Y0<p0.Y1))) (vb (p0.X1==p1.X0)) rfl rfl rfl (cK (hx:=fun h=>by exact(cM h:cv ((true&&((((decide (p0.X0<p1.X1))&&(decide (p1.X0<p0.X1)))&&((p0.Y1==p1.Y0)||(p1.Y1==p0.Y0)))==false))&&(((decide (p0.Y0<p1.Y1))&&(decide (p1.Y0<p0.Y1)))==true)) (vb (p0.X1==p1.X0))= (vb (p0.X1==p1.X0))))) ?_))))))))
 refine RL.gs ((true&&((((decide (p0.X0<p1.X1))&&(decide (p1.X0<p0.X1)))&&((p0.Y1==p1.Y0)||(p1.Y1==p0.Y0)))==false))&&(((decide (p0.Y0<p1.Y1))&&(decide (p1.Y0<p0.Y1)))==true)) (p0.X1==p1.X0) (vp aa 2) rfl rfl rfl (eA ji) (RL.gs ((true&&((((decide (p0.X0<p1.X1))&&(decide (p1.X0<p0.X1)))&&((p0.Y1==p1.Y0)||(p1.Y1==p0.Y0)))==false))&&(((decide (p0.Y0<p1.Y1))&&(decide (p1.Y0<p0.Y1)))==true)) (p0.X1==p1.X0) (vi p1.X1) rfl rfl rfl (cB 0 rfl j (fun h=>by exact(cM h:cv (((true&&((((decide (p0.X0<p1.X1))&&(decide (p1.X0<p0.X1)))&&((p0.Y1==p1.Y0)||(p1.Y1==p0.Y0)))==false))&&(((decide (p0.Y0<p1.Y1))&&(decide (p1.Y0<p0.Y1)))==true))&&((p0.X1==p1.X0)==false)) (vp aa 2)= (vp aa 2))) rfl eF cI) (RL.gs ((true&&((((decide (p0.X0<p1.X1))&&(decide (p1.X0<p0.X1)))&&((p0.Y1==p1.Y0)||(p1.Y1==p0.Y0)))==false))&&(((decide (p0.Y0<p1.Y1))&&(decide (p1.Y0<p0.Y1)))==true)) (p0.X1==p1.X0) (vp o 0) rfl rfl rfl (eA ij) (RL.gs ((true&&((((decide (p0.X0<p1.X1))&&(decide (p1.X0<p0.X1)))&&((p0.Y1==p1.Y0)||(p1.Y1==p0.Y0)))==false))&&(((decide (p0.Y0<p1.Y1))&&(decide (p1.Y0<p0.Y1)))==true)) (p0.X1==p1.X0) (vi p0.X0) rfl rfl rfl (cB 1 rfl j (fun h=>by exact(cM h:cv (((true&&((((decide (p0.X0<p1.X1))&&(decide (p1.X0<p0.X1)))&&((p0.Y1==p1.Y0)||(p1.Y1==p0.Y0)))==false))&&(((decide (p0.Y0<p1.Y1))&&(decide (p1.Y0<p0.Y1)))==true))&&((p0.X1==p1.X0)==false)) (vp o 0)= (vp o 0))) rfl dM cI) (RL.gs ((true&&((((decide (p0.X0<p1.X1))&&(decide (p1.X0<p0.X1)))&&((p0.Y1==p1.Y0)||(p1.Y1==p0.Y0)))==false))&&(((decide (p0.Y0<p1.Y1))&&(decide (p1.Y0<p0.Y1)))==true)) (p0.X1==p1.X0) (vb (p1.X1==p0.X0)) rfl rfl rfl (dK .eql .i64 p1.X1 p0.X0 rfl (fun h=>by exact(cM h:cv (((true&&((((decide (p0.X0<p1.X1))&&(decide (p1.X0<p0.X1)))&&((p0.Y1==p1.Y0)||(p1.Y1==p0.Y0)))==false))&&(((decide (p0.Y0<p1.Y1))&&(decide (p1.Y0<p0.Y1)))==true))&&((p0.X1==p1.X0)==false)) (vi p1.X1)= (vi p1.X1))) (fun h=>by exact(cM h:cv (((true&&((((decide (p0.X0<p1.X1))&&(decide (p1.X0<p0.X1)))&&((p0.Y1==p1.Y0)||(p1.Y1==p0.Y0)))==false))&&(((decide (p0.Y0<p1.Y1))&&(decide (p1.Y0<p0.Y1)))==true))&&((p0.X1==p1.X0)==false)) (vi p0.X0)= (vi p0.X0))) rfl) (RL.gs (true&&((((decide (p0.X0<p1.X1))&&(decide (p1.X0<p0.X1)))&&((p0.Y1==p1.Y0)||(p1.Y1==p0.Y0)))==false)) ((decide (p0.Y0<p1.Y1))&&(decide (p1.Y0<p0.Y1))) (vb ((p0.X1==p1.X0)||(p1.X1==p0.X0))) rfl rfl rfl (kE (p0.X1==p1.X0) rfl (fun h=>by exact(cM h:cv ((true&&((((decide (p0.X0<p1.X1))&&(decide (p1.X0<p0.X1)))&&((p0.Y1==p1.Y0)||(p1.Y1==p0.Y0)))==false))&&(((decide (p0.Y0<p1.Y1))&&(decide (p1.Y0<p0.Y1)))==true)) (vb (p0.X1==p1.X0))= (vb (p0.X1==p1.X0)))) (fun h=>by exact nX (h:=h) ((true&&((((decide (p0.X0<p1.X1))&&(decide (p1.X0<p0.X1)))&&((p0.Y1==p1.Y0)||(p1.Y1==p0.Y0)))==false))&&(((decide (p0.Y0<p1.Y1))&&(decide (p1.Y0<p0.Y1)))==true)))) (RL.gs true (((decide (p0.X0<p1.X1))&&(decide (p1.X0<p0.X1)))&&((p0.Y1==p1.Y0)||(p1.Y1==p0.Y0))) (vb (((decide (p0.Y0<p1.Y1))&&(decide (p1.Y0<p0.Y1)))&&((p0.X1==p1.X0)||(p1.X1==p0.X0)))) rfl rfl rfl (kE ((decide (p0.Y0<p1.Y1))&&(decide (p1.Y0<p0.Y1))) rfl (fun h=>by exact(cM h:cv (true&&((((decide (p0.X0<p1.X1))&&(decide (p1.X0<p0.X1)))&&((p0.Y1==p1.Y0)||(p1.Y1==p0.Y0)))==false)) (vb ((decide (p0.Y0<p1.Y1))&&(decide (p1.Y0<p0.Y1))))= (vb ((decide (p0.Y0<p1.Y1))&&(decide (p1.Y0<p0.Y1)))))) (fun h=>by exact gD (true&&((((decide (p0.X0<p1.X1))&&(decide (p1.X0<p0.X1)))&&((p0.Y1==p1.Y0)||(p1.Y1==p0.Y0)))==false)) h)) (RL.pick (((decide (p0.X0<p1.X1))&&(decide (p1.X0<p0.X1)))&&((p0.Y1==p1.Y0)||(p1.Y1==p0.Y0))) (vb ((((decide (p0.X0<p1.X1))&&(decide (p1.X0<p0.X1)))&&((p0.Y1==p1.Y0)||(p1.Y1==p0.Y0)))||(((decide (p0.Y0<p1.Y1))&&(decide (p1.Y0<p0.Y1)))&&((p0.X1==p1.X0)||(p1.X1==p0.X0))))) (nX true) (aQ (vb ((((decide (p0.X0<p1.X1))&&(decide (p1.X0<p0.X1)))&&((p0.Y1==p1.Y0)||(p1.Y1==p0.Y0)))||(((decide (p0.Y0<p1.Y1))&&(decide (p1.Y0<p0.Y1)))&&((p0.X1==p1.X0)||(p1.X1==p0.X0))))) ?_))))))))
 refine RL.nt (RC.ret ?_)
 obtain rfl:=oi hb
 exact bX ⟨rfl,j.drop 4⟩
theorem rP {p0:aI} {p1:bZ} {res:Bool} (j:Holds E w V) (h0:V[i0]? =some (rd v0 p0)) (h1:V[i1]? =some (pt v1 p1)) (o:km N p0 p1=some res):
    Calls bN 52 [v0,v1].toArray w (gL (aX E V res)):=by
 unfold km at o
 refine enter Tryz.func52 zr zr ?_
 have j:=(j.dup (i0+0) h0).B7 (i:=i1+1) h1
 refine RC.sr (RL.cS 1 v0 j zr fun ah w j=>?_)
 have j:=j.jI (i:=0) rfl
 refine aQ (vb false) (RL.nq (RC.ug mixed [1,0,2,2,0] [0,1,2,3,4] ?_))
 have j:=j.drew
 refine DP.wi p0 0 zr zt j iE fun aa a33 ai j=>(DP.e0 zr (RL.bJ 3 p1 j ma fun ab j=>(ou zr ?_)))
 obtain⟨aj,ad,o⟩:=bd o
 refine RL.call zt zr F6 [ab] zr (aD (jl N (i0:=0) j zr ad) ?_)
 rintro ae w j
 refine DP.d2 (⟨zt,j.gF 2⟩) (DP.e2 zr ?_)
 obtain⟨af,ag,o⟩:=bd o
 refine RL.call zt zr MB [aa,ae] zr (aD (yn N (i0:=3) (i1:=0) j zr zr ag) ?_)
 rintro _ w ⟨rfl,j⟩
 refine DP.d2 (⟨zt,j.gF 2⟩) (DP.e0 zr (aQ (vb af) (DP.d0 ?_)))
 have j:=j.pl 7 [0,1,3,4,5,6]
 refine DP.z (aH (RC.ret ?_))
 obtain rfl:=oi o
 exact bX ⟨rfl,j.drop 6⟩
theorem mh {p0: (List aI)} {p1:aI->Option Bool} {res:Bool} (j:Holds E w V) (h0:V[i0]? =some (rd v0 p0)) (h1:Ib bN E V v1 p1 (fun(r:Bool)=>Value.bool r)) (o:gT N p0 p1=some res):
    Calls bN 51 [v0,v1].toArray w (gL (aX E V res)):=by
 unfold gT at o
 refine enter Tryz.func51 zr zr ?_
 have j:=j.dup (i0+0) h0
 refine RC.sr (aQ (vb false) (RL.ns (mv v0 (mv v1 ?_))))
 obtain⟨aa,ab,o⟩:=bd o
 refine RL.call zt zr KK [v0,v1] zr (aD (rN N (i0:=0) j zr (h1.lift 1 zr) ab) ?_)
 rintro _ w ⟨rfl,j⟩
 refine ic aa 0 (aQ (vb (decide (aa>=0))) (RL.nt (RC.ret ?_)))
 obtain rfl:=oi o
 exact bX ⟨rfl,j.drop 1⟩
def uM (E:World) (V:List HP) (b0:Nat) (v0_0 v0_1:Value) (v0_2 v0_3:Value) (v0_4 v0_5:Value) (v0_7 v0_8:Value) (v0_9 v0_10 v0_11:Value) (res: (List (List Int))) (v:Value) (w:World):Prop:=∃u0_6:Value,v = .tuple #[]/\Holds E w ([bc 46 b0 [v0_0,v0_1,v0_2,v0_3,v0_4,v0_5,u0_6,v0_7,v0_8,v0_9,v0_10,v0_11],own 43 u0_6 res]++V)
theorem t3 {p0_2: (List bZ)} {p0_5: (List aK)} {p0_6: (List (List Int))} {res: (List (List Int))} (j:Holds E w (bc 46 b0 [v0_0,v0_1,v0_2,v0_3,v0_4,v0_5,v0_6,v0_7,v0_8,v0_9,v0_10,v0_11]::rd v0_2 p0_2::rd v0_5 p0_5::own 43 v0_6 p0_6::V)) (hb:kb N p0_2 p0_5 p0_6=some res):
    Calls bN 20 [(vp b0 0)].toArray w (gL (uM E V b0 v0_0 v0_1 v0_2 v0_3 v0_4 v0_5 v0_7 v0_8 v0_9 v0_10 v0_11 res)):=by
 unfold kb at hb
 refine enter Tryz.func20 zr zr (RC.sr (mv (vp b0 0) (RL.nilCheck zr (RL.aY zr uz (RL.aY zr ik (RL.bK 0 v0_2 j nQ (RL.bF 1 p0_2 j wj (mv (vi 0) ?_))))))))
 refine RL.nt ?_
 obtain⟨af,hN,hb⟩:=bd hb
 refine RC.fold (fun(ai:Nat) (af: (List (List Int))) U w=>∃az:Value,SH E V [(0,vp b0 0),(11,v0_2),(12,vi p0_2.length),(13,vi ai)] [bc 46 b0 [v0_0,v0_1,v0_2,v0_3,v0_4,v0_5,az,v0_7,v0_8,v0_9,v0_10,v0_11],own 43 az af,rd v0_2 p0_2,rd v0_5 p0_5] U w) (fun(af: (List (List Int))) U w=>∃aq:Value,SH E V [(0,vp b0 0)] [bc 46 b0 [v0_0,v0_1,v0_2,v0_3,v0_4,v0_5,aq,v0_7,v0_8,v0_9,v0_10,v0_11],own 43 aq af,rd v0_2 p0_2,rd v0_5 p0_5] U w) hN ?_ ?_ ?_ ?_
 ·exact⟨v0_6,j.sp 4 [0,3,1,2]⟩
 ·rintro hm af _ w ⟨a4,O,rfl,j⟩
  refine RC.sr (ic ((p0_2.length:Int)) ((p0_2.length:Int)) (RL.nq (RC.gk ue (RC.ex ?_))))
  exact⟨rfl,a4,j.sp 4 [0,1,2,3]⟩
 ·rintro hm ai af s' _ w hk ⟨ah,O,rfl,j⟩ hb
  refine RC.sr (ic ((ai:Int)) ((p0_2.length:Int)) (RL.nq (RC.gj (ud hk) (RC.ss (RC.bs ?_)))))
  obtain⟨aj,a5,hb⟩:=bd hb
  refine RL.bP 2 j qD a5 fun bk j=>(RL.bJ 0 aj j ma fun bl j=>(RL.alloc j EE.z fun ag w j=>?_))
  refine RL.cC 0 j 1 zr ma fun w j=>?_
  refine RL.ns (aQ (.slice none 0 0) (RL.nq (RC.sr (mv (vp b0 0) (RL.nilCheck zr (RL.aY zr yg (RL.bK 3 v0_5 j F7 (RL.bF 6 p0_5 j ID ?_))))))))
  refine mv (vi 0) (RL.nt ?_)
  have j:=j.jI (i:=0) rfl
  obtain⟨ak,hN,hb⟩:=bd hb
  refine RC.fold (fun(ab:Nat) (ak: (List Int)) U w=>∃a0:Value,SH E V [(0,vp b0 0),(3,vp ag 0),(4,a0),(11,v0_2),(12,vi p0_2.length),(13,vi ai),(20,v0_5),(21,vi p0_5.length),(22,vi ab)] [bc 46 b0 [v0_0,v0_1,v0_2,v0_3,v0_4,v0_5,ah,v0_7,v0_8,v0_9,v0_10,v0_11],rd v0_2 p0_2,rd v0_5 p0_5,own 43 ah af,pt (vp ag 0) aj,own 3 a0 ak] U w) (fun(ak: (List Int)) U w=>∃ao:Value,SH E V [(0,vp b0 0),(4,ao),(11,v0_2),(12,vi p0_2.length),(13,vi ai)] [bc 46 b0 [v0_0,v0_1,v0_2,v0_3,v0_4,v0_5,ah,v0_7,v0_8,v0_9,v0_10,v0_11],rd v0_2 p0_2,rd v0_5 p0_5,own 43 ah af,pt (vp ag 0) aj,own 3 ao ak] U w) hN ?_ ?_ ?_ ?_
  ·have j:=j.cW Int 3
   exact⟨(.slice none 0 0),j.sp 8 [4,6,7,5,1,0]⟩
  ·rintro hm ak _ w ⟨a6,O,rfl,j⟩
   refine RC.sr (ic ((p0_5.length:Int)) ((p0_5.length:Int)) (RL.nq (RC.gk ue (RC.ex ?_))))
   exact⟨rfl,a6,j.sp 6 [0,1,2,3,4,5]⟩
  ·rintro hm ab ak s' _ w hk ⟨ar,O,rfl,j⟩ hb
   refine RC.sr (ic ((ab:Int)) ((p0_5.length:Int)) (RL.nq (RC.gj (ud hk) (RC.ss (RC.bs (mv (vi ab) ?_))))))
   obtain⟨aw,a7,hb⟩:=bd hb
   refine RL.bP 2 j J0 a7 fun bm j=>(RL.bJ 0 aw j IE fun bn j=>(RL.alloc j J3.z fun bo w j=>?_))
   refine aQ (vi ab) (RL.cC 0 j 1 zr IE fun w j=>?_)
   refine RL.nq ?_
   obtain⟨ax,o,hb⟩:=bd hb
   refine RC.jn (fun(ax:Bool)=>SH E V [(0,vp b0 0),(3,vp ag 0),(4,ar),(5,vi ab),(11,v0_2),(12,vi p0_2.length),(13,vi ai),(20,v0_5),(21,vi p0_5.length),(22,vi ab),(40,vb ax)] [bc 46 b0 [v0_0,v0_1,v0_2,v0_3,v0_4,v0_5,ah,v0_7,v0_8,v0_9,v0_10,v0_11],rd v0_2 p0_2,rd v0_5 p0_5,own 43 ah af,pt (vp ag 0) aj,own 3 ar ak]) ax ?_ ?_
   ·refine RC.region (RL.dP 7 j zr yh qo fun bp j=>(RL.bE aj.fS 0 j zZ (mv (vb aj.fS) (eZ o (fun ad o=>?_) fun ad o=>?_))))
    rotate_left
    ·refine bC ad (bC ad (bC ad (bC ad (fq ad (vb false) (mv (vb false) (kp (kp (kp ?_))))))))
     refine kp (RL.pick false (vb false) zr (RL.nil ?_))
     obtain rfl:=oi o
     exact⟨rfl,j.sp 10 [4,5,6,7,8,9]⟩
    refine RL.bJ (hg:=(cg ad)) 8 aj j ma fun a8 j=>(RL.aY (hg:=(cg ad)) zr Hl (RL.aM (hg:=(cg ad)) 2 j zr ru cI ?_))
    obtain⟨a1,a9,o⟩:=bd o
    refine RL.call (cg ad) zr JW [a8,(vi aw.cT)] zr (aD (oL N (p1:=aw.cT) (i0:=0) j zr a9) ?_)
    rintro _ w ⟨rfl,j⟩
    refine fq ad (vb a1) (mv (vb a1) (eZ o (fun ae o=>?_) fun ae o=>?_))
    rotate_left
    ·refine bC ae (bC ae (bC ae (bC ae (fq ae (vb false) (RL.nil ?_)))))
     obtain rfl:=oi o
     exact⟨rfl,j.sp 11 [5,6,7,8,9,10]⟩
    refine RL.aY (hg:=(cg ae)) zr Hm (RL.bB (hg:=(cg ae)) 2 j zr ry tW fun ba j=>(RL.makeFunc (cg ae) zr [(vp ag 0)] zr ?_))
    obtain⟨bb,bf,o⟩:=bd o
    refine RL.call (cg ae) rfl K9 [ba,(.func (.func 52) #[] #[(vp ag 0)])] rfl (aD (mh N (i0:=0) j rfl ⟨52,[(vp ag 0)],rfl,MC,fun w Γl v y0 r i j hi hr=>by exact aD (rP N (i0:=i) (i1:=Γl.length+10) j hi (B5 rfl) hr) fun _ _ h=>h⟩ bf) ?_)
    rintro _ w ⟨rfl,j⟩
    refine fq ae (vb bb) (RL.nil ?_)
    obtain rfl:=oi o
    exact⟨rfl,j.sp 12 [6,7,8,9,10,11]⟩
   rintro _ w ⟨O,rfl,j⟩
   refine aH ?_
   obtain⟨ay,o,hb⟩:=bd hb
   refine RC.jn (fun(ay: (List Int)) U w=>∃au:Value,SH E V [(0,vp b0 0),(3,vp ag 0),(4,au),(11,v0_2),(12,vi p0_2.length),(13,vi ai),(20,v0_5),(21,vi p0_5.length),(22,vi ab)] [bc 46 b0 [v0_0,v0_1,v0_2,v0_3,v0_4,v0_5,ah,v0_7,v0_8,v0_9,v0_10,v0_11],rd v0_2 p0_2,rd v0_5 p0_5,own 43 ah af,pt (vp ag 0) aj,own 3 au ay] U w) ay ?_ ?_
   ·refine dQ o (fun hc o=>?_) fun hc o=>?_
    rotate_left
    ·refine RC.skip ?_
     obtain rfl:=oi o
     exact⟨rfl,ar,j.sp 6 [0,1,2,3,4,5]⟩
    refine RC.region (mv ar (mv (vi ab) ?_))
    have j:=j.sc Int (ab:Int)
    refine RL.dY ([(ab:Int)]: (List Int)) j [(vi ab)] eC CI (fun M hs g=>⟨(g.sat 0 _ zr).1,zt⟩) fun bq w j=>?_
    have j:=j.freeze 0
    obtain⟨br,bh,o⟩:=bd o
    refine RL.app 7 0 j q7 bh fun a2 w j=>?_
    refine aQ a2 (RL.nil ?_)
    obtain rfl:=oi o
    exact⟨rfl,a2,j.sp 8 [2,3,4,5,6,7]⟩
   rintro _ w ⟨au,O,rfl,j⟩
   refine bQ (aH (RC.region (RL.inc hk hm (mv (vi ((ab+1:Nat):Int)) (RL.nil ?_)))))
   obtain rfl:=oi hb
   exact⟨rfl,au,j.sp 6 [0,1,2,3,4,5]⟩
  rintro _ w ⟨ao,O,rfl,j⟩
  refine aH (RC.region (mv (vp b0 0) (mv (vp b0 0) (RL.nilCheck zr (RL.aY zr EH (RL.bK 0 ah j zj (mv ao ?_)))))))
  have j:=j.freeze 5
  refine RL.dY ([ak]: (List (List Int))) j [ao] z5 J4 (fun M hs g=>⟨(g.sat 5 _ zr).1,zt⟩) fun bt w j=>?_
  have j:=j.freeze 0
  obtain⟨bu,bj,hb⟩:=bd hb
  refine RL.app 4 0 j J5 bj fun a3 w j=>?_
  refine RL.nilCheck zr (RL.aY zr EH (RL.iu 1 a3 j zr zr (iO 4 j) zj fun w j=>?_))
  refine RL.nil (bQ (aH (RC.region (RL.inc hk hm (mv (vi ((ai+1:Nat):Int)) (RL.nil ?_))))))
  obtain rfl:=oi hb
  exact⟨rfl,a3,j.sp 7 [1,4,2,3]⟩
 rintro _ w ⟨aq,O,rfl,j⟩
 obtain rfl:=oi hb
 refine CK ?_
 exact Ih zr ⟨aq,zr,j.pk 4 [0,1]⟩
def wD (E:World) (V:List HP) (res: ((List Int))) (v:Value) (w:World):Prop:=∃(ub0:Nat) (u0_0:Value),v=vp ub0 0/\Holds E w ([bc 136 ub0 [u0_0],own 3 u0_0 res]++V)
theorem vK {res: ((List Int))} (j:Holds E w V) (hb:lh N p0=some res):
    Calls bN 54 [(vi p0)].toArray w (gL (wD E V res)):=by
 unfold lh at hb
 refine enter Tryz.func54 zr zr (RC.sr (aQ (.pointer none) (RL.ns (mv (vi p0) ?_))))
 obtain⟨af,aj,hb⟩:=bd hb
 refine RL.mk p0 j q7 KJ aj fun o w j=>?_
 refine RL.Es [(.slice none 0 0)] [o] zr [(0,o)] zr Lb ⟨(iO 0 j),zt⟩ zr (RL.B9 [o] zr j zr (wY.all (⟨(iO 0 j),zt⟩:wY [o])) fun ab w j=>?_)
 refine aQ (vp ab 0) (RL.nq (RC.sr (mv (vp ab 0) (RL.nilCheck zr (RL.aY zr pX (RL.bK 0 o j fu (RL.fZ 1 af j mn (mv (vi 0) ?_))))))))
 refine RL.nt ?_
 obtain⟨ae,hN,hb⟩:=bd hb
 refine RC.fold (fun(ad:Nat) (ae: (List Int))=>SH E V [(3,vp ab 0),(13,vi af.length),(14,vi ad)] [bc 136 ab [o],own 3 o ae]) (fun(ae: (List Int))=>SH E V [(3,vp ab 0)] [bc 136 ab [o],own 3 o ae]) hN ?_ ?_ ?_ ?_
 ·exact j.sp 2 [0,1]
 ·rintro hm ae _ w ⟨O,rfl,j⟩
  refine RC.sr (ic ((af.length:Int)) ((af.length:Int)) (RL.nq (RC.gk ue (RC.ex ?_))))
  exact⟨rfl,j.sp 2 [0,1]⟩
 ·rintro hm ad ae s' _ w hk ⟨O,rfl,j⟩ hb
  refine RC.sr (ic ((ad:Int)) ((af.length:Int)) (RL.nq (RC.gj (ud hk) (RC.ss (RC.bs (mv (vi ad) (aQ (vi ad) (RL.nt ?_))))))))
  refine RC.region (mv (vp ab 0) (RL.nilCheck zr (RL.aY zr pX (RL.bK 0 o j fu (mv (vi ad) (mv (vi ad) ?_))))))
  obtain⟨al,ag,hb⟩:=bd hb
  refine RL.bV 1 j zr zr eC ag ?_
  have j:=j.sc Int (ad:Int)
  refine RL.gI (f:=(fun _ y=>y)) 2 0 j (jF 2 j ag 0) (bH ag).2.1 zr Fs.self cI fun w j=>?_
  refine RL.nil (bQ (aH (RC.region (RL.inc hk hm (mv (vi ((ad+1:Nat):Int)) (RL.nil ?_))))))
  obtain rfl:=oi hb
  exact⟨rfl,j.sp 3 [1,2]⟩
 rintro _ w ⟨O,rfl,j⟩
 refine aH (RC.sr (mv (vp ab 0) (aQ (vp ab 0) (RL.nt (RC.ret ?_)))))
 obtain rfl:=oi hb
 exact bX ⟨ab,o,zr,j.pk 2 [0,1]⟩
def vL (E:World) (V:List HP) (b0:Nat) (res:Int×(List Int)) (v:Value) (w:World):Prop:=∃u0_0:Value,v= (vi res.1)/\Holds E w ([bc 136 b0 [u0_0],own 3 u0_0 res.2]++V)
theorem mG {p0_0: (List Int)} {res:Int×(List Int)} (j:Holds E w (bc 136 b0 [v0_0]::own 3 v0_0 p0_0::V)) (o:gQ N p0_0 p1=some res):
    Calls bN 91 [(vp b0 0),(vi p1)].toArray w (gL (vL E V b0 res)):=by
 unfold gQ at o
 refine enter Tryz.func91 zr zr (RC.sr (aQ (vi 0) (RL.nq ?_)))
 obtain⟨an,hN,o⟩:=bd o
 refine RC.iter (fun(aa: (List Int)×Int)=>SH E V [(0,vp b0 0),(1,vi aa.2)] [bc 136 b0 [v0_0],own 3 v0_0 aa.1]) (fun(aa: (List Int)×Int)=>SH E V [(0,vp b0 0),(1,vi aa.2)] [bc 136 b0 [v0_0],own 3 v0_0 aa.1]) (fun(r:Empty) _ _=>r.elim) hN ?_ ?_ ?_ ?_
 ·exact j.sp 2 [0,1]
 ·rintro aa fl _ w ⟨O,rfl,j⟩ o
  refine RC.seq (RC.sr (mv (vp b0 0) (RL.nilCheck zr (RL.aY zr pX (RL.bK 0 v0_0 j fu (mv (vi aa.2) ?_))))))
  obtain⟨ai,ab,o⟩:=bd o
  refine RL.bV 1 j zr zr eC ab (RL.dH (f:=(fun x=>x)) 1 j (jF 1 j ab 0) (bH ab).2.1 Fd.self cI (mv (vi aa.2) (ic ai aa.2 (RL.nt (dQ o (fun hc o=>?_) fun hc o=>?_)))))
  rotate_left
  ·refine RC.ex ?_
   obtain rfl:=oi o
   exact⟨rfl,j.sp 2 [0,1]⟩
  refine RC.sn (RC.block (RC.seq (RC.ug mixed [0,0,0,0,0,0,0,0,0,0,0,0,0,0,0,0,0,0,0,2] [0,1,2,3,4,5,6,7,8,9,10,11,12,13,14,15,16,17,18,19] ?_)))
  have j:=j.drew
  refine DP.e0 zr (mv (vp b0 0) (aW zr (RL.nilCheck zr (aW zr (RL.aY zr pX (aW zr (RL.bK 0 v0_0 j fu (aW zr ?_))))))))
  refine mv (vi aa.2) (aW zr (mv (vp b0 0) (aW zr (RL.nilCheck zr (aW zr (RL.aY zr pX (aW zr (RL.bK 0 v0_0 j fu ?_))))))))
  refine aW zr (mv (vp b0 0) (aW zr (RL.nilCheck zr (aW zr (RL.aY zr pX (aW zr (RL.bK 0 v0_0 j fu (aW zr ?_))))))))
  refine mv (vi aa.2) (aW zr ?_)
  obtain⟨aq,ad,o⟩:=bd o
  refine RL.bV 1 j zr zr eC ad (aW zr (RL.dH (f:=(fun x=>x)) 1 j (jF 1 j ad 0) (bH ad).2.1 Fd.self cI (aW zr ?_)))
  obtain⟨ak,ae,o⟩:=bd o
  refine RL.bV 1 j zr zr eC ae (aW zr (RL.dH (f:=(fun x=>x)) 1 j (jF 1 j ae 0) (bH ae).2.1 Fd.self cI (aW zr ?_)))
  obtain⟨ar,af,o⟩:=bd o
  refine RL.bV 1 j zr zr eC af (ou zr ?_)
  have j:=j.sc Int ak
  refine RL.gI (f:=(fun _ y=>y)) 2 0 j (jF 2 j af 0) (bH af).2.1 zr Fs.self cI fun w j=>?_
  refine DP.d2 zt (DP.z (aH (RC.region (mv (vp b0 0) (RL.nilCheck zr (RL.aY zr pX (RL.bK 1 v0_0 j fu (mv (vi aa.2) ?_))))))))
  obtain⟨al,ag,o⟩:=bd o
  refine RL.bV 2 j zr zr eC ag (RL.dH (f:=(fun x=>x)) 2 j (jF 2 j ag 0) (bH ag).2.1 Fd.self cI (aQ (vi al) (RL.nil (bQ ?_))))
  obtain rfl:=oi o
  exact⟨rfl,j.sp 3 [1,2]⟩
 ·intro r _ _ _ _
  exact r.elim
 rintro aa _ w rfl ⟨O,rfl,j⟩
 rw [Fo.dB] at o
 refine aH (RC.sr (mv (vi aa.2) (aQ (vi aa.2) (RL.nt (RC.ret ?_)))))
 obtain rfl:=oi o
 exact bX ⟨v0_0,zr,j.pk 2 [0,1]⟩
def uN (E:World) (V:List HP) (b0:Nat) (res: (List Int)) (v:Value) (w:World):Prop:=∃u0_0:Value,v = .tuple #[]/\Holds E w ([bc 136 b0 [u0_0],own 3 u0_0 res]++V)
theorem t4 {p0_0: (List Int)} {res: (List Int)} (j:Holds E w (bc 136 b0 [v0_0]::own 3 v0_0 p0_0::V)) (o:ig N p0_0 p1 p2=some res):
    Calls bN 55 [(vp b0 0),(vi p1),(vi p2)].toArray w (gL (uN E V b0 res)):=by
 unfold ig at o
 refine enter Tryz.func55 zr zr (RC.sr (mv (vp b0 0) (mv (vi p1) ?_)))
 have j:=(j.pull 1).pull 1
 obtain⟨aa,af,o⟩:=bd o
 refine RL.call zt zr J6 [(vp b0 0),(vi p1)] zr (aD (mG N (p1:=p1) j af) ?_)
 rintro _ w ⟨ah,rfl,j⟩
 refine mv (vp b0 0) (mv (vi p2) ?_)
 have j:=(j.pull 1).pull 1
 obtain⟨ab,ag,o⟩:=bd o
 refine RL.call zt zr J6 [(vp b0 0),(vi p2)] zr (aD (mG N (p1:=p2) j ag) ?_)
 rintro _ w ⟨ae,rfl,j⟩
 refine aQ (vi aa.1) (aQ (vi ab.1) (RL.nt (RC.region (mv (vp b0 0) (RL.nilCheck zr (RL.aY zr pX (RL.bK 0 ae j fu (mv (vi aa.1) ?_))))))))
 refine mv (vi ab.1) (RL.max aa.1 ab.1 (mv (vi aa.1) (mv (vi ab.1) (RL.min aa.1 ab.1 ?_))))
 obtain⟨ai,ad,o⟩:=bd o
 refine RL.bV 1 j zr zr eC ad ?_
 have j:=j.sc Int (if ab.1<aa.1 then ab.1 else aa.1)
 refine RL.gI (f:=(fun _ y=>y)) 2 0 j (jF 2 j ad 0) (bH ad).2.1 zr Fs.self cI fun w j=>?_
 refine RL.nil ?_
 obtain rfl:=oi o
 refine CK ?_
 exact Ih zr ⟨ae,zr,j.pk 7 [1,2]⟩
def uO (E:World) (V:List HP) (b0:Nat) (res: (List (List Int))×(List Int)) (v:Value) (w:World):Prop:=∃u0 u0_0:Value,v=u0/\Holds E w ([own 43 u0 res.1,bc 136 b0 [u0_0],own 3 u0_0 res.2]++V)
theorem t5 {p0_0: (List Int)} {res: (List (List Int))×(List Int)} (o:Holds E w (bc 136 b0 [v0_0]::own 3 v0_0 p0_0::V)) (hb:kc N p0_0=some res):
    Calls bN 56 [(vp b0 0)].toArray w (gL (uO E V b0 res)):=by
 unfold kc at hb
 refine enter Tryz.func56 zr zr (RC.sr (aQ (.slice none 0 0) (RL.ns (aQ (.slice none 0 0) (RL.ns (RL.makeMap (κ:=Int) (ν:=Int) zt zr o fun aq w o=>(aQ aq (RL.nq ?_))))))))
 refine RC.sr (mv (vp b0 0) (RL.nilCheck zr (RL.aY zr pX (RL.bK 1 v0_0 o fu (RL.fZ 2 p0_0 o mn (mv (vi 0) (RL.nt ?_)))))))
 obtain⟨ao,hN,hb⟩:=bd hb
 refine RC.fold (fun(ai:Nat) (ao: (List Int)×(List (List Int))×(List (Int×Int))) U w=>∃(a4 a5:Value) (us110:List RV),SH E V [(0,vp b0 0),(3,a5),(4,aq),(12,vi p0_0.length),(13,vi ai)] [bc 136 b0 [a4],own 3 a4 ao.1,mp aq ao.2.2,own 43 a5 us110,ir (XS 3 Int) us110 ao.2.1 none] U w) (fun(ao: (List Int)×(List (List Int))×(List (Int×Int))) U w=>∃(ax av:Value) (us113:List RV),SH E V [(0,vp b0 0),(3,av)] [bc 136 b0 [ax],own 3 ax ao.1,mp aq ao.2.2,own 43 av us113,ir (XS 3 Int) us113 ao.2.1 none] U w) hN ?_ ?_ ?_ ?_
 ·have o:=(o.zw (XS 3 Int)).cW RV 43
  exact⟨v0_0,(.slice none 0 0),([]:List RV),o.sp 5 [3,4,2,0,1]⟩
 ·rintro hm ao _ w ⟨bb,bf,us153,O,rfl,o⟩
  refine RC.sr (ic ((p0_0.length:Int)) ((p0_0.length:Int)) (RL.nq (RC.gk ue (RC.ex ?_))))
  exact⟨rfl,bb,bf,us153,o.sp 5 [0,1,2,3,4]⟩
 ·rintro hm ai ao s' _ w hk ⟨bl,a1,us116,O,rfl,o⟩ hb
  refine RC.sr (ic ((ai:Int)) ((p0_0.length:Int)) (RL.nq (RC.gj (ud hk) (RC.ss (RC.bs (mv (vi ai) (aQ (vi ai) (RL.ns ?_))))))))
  refine mv (vp b0 0) (mv (vi ai) ?_)
  have o:=(o.pull 1).pull 1
  obtain⟨ab,bg,hb⟩:=bd hb
  refine RL.call zt zr J6 [(vp b0 0),(vi ai)] zr (aD (mG N (p1:=(ai:Int)) o bg) ?_)
  rintro _ w ⟨aw,rfl,o⟩
  refine aQ (vi ab.1) (RL.nq (RC.sr (mv (vi ab.1) (mv (vi ai) (ic ab.1 ((ai:Int)) (RL.nt ?_))))))
  obtain⟨aa,hj,hb⟩:=bd hb
  refine RC.jn (fun(aa: (List (List Int))×(List (Int×Int))) U w=>∃(an:Value) (us124:List RV),SH E V [(0,vp b0 0),(3,an),(4,aq),(5,vi ai),(6,vi ab.1),(12,vi p0_0.length),(13,vi ai)] [bc 136 b0 [aw],own 3 aw ab.2,mp aq aa.2,own 43 an us124,ir (XS 3 Int) us124 aa.1 none] U w) aa ?_ ?_
  ·refine dQ hj (fun hc hj=>?_) fun hc hj=>?_
   rotate_left
   ·refine RC.skip ?_
    obtain rfl:=oi hj
    exact⟨rfl,a1,us116,o.sp 7 [0,1,4,5,6]⟩
   refine RC.sr (mv aq (mv (vi ai) (mv a1 (RL.rZ 5 6 ao.2.1 o F8 ?_))))
   have o:=o.sc Int (ao.2.1.length:Int)
   refine RL.mapUpdate 5 0 (ai:Int) zt o zr zr zr zr zr Dr fun w o=>(RL.nt (RC.region (mv a1 ?_)))
   have o:=(o.cW Int 3).Bx (i:=0) rfl
   refine RL.dY ([rv (.slice none 0 0)]:List RV) o [(.slice none 0 0)] z5 J4 (fun M hs g=>⟨(g.sat 0 _ zr).1,zt⟩) fun bm w o=>?_
   obtain⟨bn,bj,hj⟩:=bd hj
   have o:=o.freeze 0
   refine RL.C5 9 0 10 2 zt zr o zr zr zr zr zr zr J5 bj fun a8 w o=>?_
   refine aQ a8 (RL.nil ?_)
   obtain rfl:=oi hj
   exact⟨rfl,a8,(us116++[rv (.slice none 0 0)]),o.sp 11 [4,5,8,9,10]⟩
  rintro _ w ⟨an,us124,O,rfl,o⟩
  refine aH ?_
  obtain⟨bo,ay,hb⟩:=bd hb
  obtain⟨au,bk,hb⟩:=bd hb
  obtain⟨bp,a2,hb⟩:=bd hb
  refine RC.F2 E V mixed [1,1,1,0,1,1,1,0,0,0,1,0,0,0,0] [11,12,14] (fun(x:Value×Value)=>(fun ak ag=>[(0,29,an),(1,30,aq),(2,31,(vi ab.1)),(3,32,(vi (jy aa.2 ab.1 (0:Int)))),(4,33,an),(5,34,aq),(6,35,(vi ab.1)),(7,36,(vi (jy aa.2 ab.1 (0:Int)))),(8,37,(zg an (Int.toNat (jy aa.2 ab.1 (0:Int))) 1 0)),(9,38,(us124.getD (Int.toNat (jy aa.2 ab.1 (0:Int))) CG).v),(10,39,(vi ai)),(11,40,ak),(12,41,ag),(13,42,(zg an (Int.toNat (jy aa.2 ab.1 (0:Int))) 1 0))]) x.1 x.2) [(0,vp b0 0),(3,an),(4,aq),(5,vi ai),(6,vi ab.1),(12,vi p0_0.length),(13,vi ai)] [] (fun(D:Nat->Bool) (x:Value×Value)=>(fun ak ag=>[bif D 1 then (rd ak ([(ai:Int)]: (List Int))) else (bif D 0 then (own 3 ak ([(ai:Int)]: (List Int))) else bD),bif D 2 then bD else (bif D 1 then (own 3 ag au) else bD),bc 136 b0 [aw],own 3 aw ab.2,mp aq aa.2,bif D 2 then (own 43 an (us124.set (Int.toNat (jy aa.2 ab.1 (0:Int))) (rv ag))) else (own 43 an us124),bif D 2 then (ir (XS 3 Int) (us124.set (Int.toNat (jy aa.2 ab.1 (0:Int))) (rv ag)) (aa.1.set (Int.toNat (jy aa.2 ab.1 (0:Int))) au) none) else (bif D 1 then (ir (XS 3 Int) us124 aa.1 (some (Int.toNat (jy aa.2 ab.1 (0:Int))))) else (ir (XS 3 Int) us124 aa.1 none))]) x.1 x.2) (fun x=>by kernel_rfl) ?_ ⟨fun _=>jG gn,fun _=>jG gn,fun _=>jG gn,?_,fun _=>jG gn,fun _=>jG gn,fun _=>jG gn,?_,?_,?_,fun _=>jG gn,?_,?_,?_,?_,trivial⟩ ?_
  ·have o:=((o.drew).bD).bD
   exact⟨(undef,undef),gH.none,(EC zr),zt,o⟩
  ·rintro D U w hD ah ae ⟨⟨ak,ag⟩,hv,ha,_,o⟩
   obtain⟨O,rfl⟩:=(ac (hv.at 1 rfl (ah.1 rfl)) (ac (hv.at 2 rfl (ah.2.1 rfl)) az)).fI
   refine RL.CX 4 ab.1 zt zr o zr zr zr Dr ?_
   exact RL.nil ⟨rfl,(ak,ag),hv.put 3 zr zr,ha.up zr,zt,o⟩
  ·rintro D U w hD ah ae ⟨⟨ak,ag⟩,hv,ha,_,o⟩
   obtain⟨O,rfl⟩:=(ac (hv.at 5 rfl (ah.1 rfl)) (ac (hv.at 6 rfl (ah.2.1 rfl)) az)).fI
   refine RL.CX 4 ab.1 zt zr o zr zr zr Dr ?_
   exact RL.nil ⟨rfl,(ak,ag),hv.put 7 zr zr,ha.up zr,zt,o⟩
  ·rintro D U w hD ah ae ⟨⟨ak,ag⟩,hv,ha,_,o⟩
   obtain⟨O,rfl⟩:=(ac (hv.at 4 rfl (ah.1 rfl)) (ac (hv.at 7 rfl (ah.2.1 rfl)) az)).fI
   have o:=((o.cD 5 (nf (fun h=>ft hD ((ae 14 _ rfl h).2.2.2.2.2.2.2.2.2.2.2.1 rfl)))).cD 6 (nf (fun h=>ft hD ((ae 14 _ rfl h).2.2.2.2.2.2.2.2.2.2.2.1 rfl)))).cD 6 (nf (fun h=>ft hD ((ae 9 _ rfl ((ae 12 _ rfl h).1 rfl)).1 rfl)))
   have hl141:=o.eE 6
   have hr142:=fO CG hl141 ay
   refine RL.bV 5 o zr zr z5 hr142 ?_
   have o:=(o.eX 5 (D 14) (nf (fun h=>ft hD ((ae 14 _ rfl h).2.2.2.2.2.2.2.2.2.2.2.1 rfl))) (own 43 an (us124.set (Int.toNat (jy aa.2 ab.1 (0:Int))) (rv ag)))).eX 6 (D 12) (nf (fun h=>ft hD ((ae 9 _ rfl ((ae 12 _ rfl h).1 rfl)).1 rfl))) (ir (XS 3 Int) us124 aa.1 (some (Int.toNat (jy aa.2 ab.1 (0:Int)))))
   have o:=o.eX 6 (D 14) (nf (fun h=>ft hD ((ae 14 _ rfl h).2.2.2.2.2.2.2.2.2.2.2.1 rfl))) (ir (XS 3 Int) (us124.set (Int.toNat (jy aa.2 ab.1 (0:Int))) (rv ag)) (aa.1.set (Int.toNat (jy aa.2 ab.1 (0:Int))) au) none)
   exact RL.nil ⟨rfl,(ak,ag),hv.put 8 zr zr,ha.up zr,zt,o⟩
  ·rintro D U w hD ah ae ⟨⟨ak,ag⟩,hv,ha,_,o⟩
   obtain⟨O,rfl⟩:=(ac (hv.at 8 rfl (ah.1 rfl)) az).fI
   have o:=((o.cD 5 (nf (fun h=>ft hD ((ae 14 _ rfl h).2.2.2.2.2.2.2.2.2.2.2.2.1 rfl)))).cD 6 (nf (fun h=>ft hD ((ae 14 _ rfl h).2.2.2.2.2.2.2.2.2.2.2.2.1 rfl)))).cD 6 (nf (fun h=>ft hD ((ae 12 _ rfl h).1 rfl)))
   have hl143:=o.eE 6
   have hr144:=fO CG hl143 ay
   refine RL.u9 5 6 (jy aa.2 ab.1 (0:Int)) (Bw 3 Int) CG zr o zr (jF 5 o hr144 0) zr zr ay fu ?_
   have o:=(o.eX 5 (D 14) (nf (fun h=>ft hD ((ae 14 _ rfl h).2.2.2.2.2.2.2.2.2.2.2.2.1 rfl))) (own 43 an (us124.set (Int.toNat (jy aa.2 ab.1 (0:Int))) (rv ag)))).eX 6 (D 12) (nf (fun h=>ft hD ((ae 12 _ rfl h).1 rfl))) (ir (XS 3 Int) us124 aa.1 (some (Int.toNat (jy aa.2 ab.1 (0:Int)))))
   have o:=o.eX 6 (D 14) (nf (fun h=>ft hD ((ae 14 _ rfl h).2.2.2.2.2.2.2.2.2.2.2.2.1 rfl))) (ir (XS 3 Int) (us124.set (Int.toNat (jy aa.2 ab.1 (0:Int))) (rv ag)) (aa.1.set (Int.toNat (jy aa.2 ab.1 (0:Int))) au) none)
   exact RL.nil ⟨rfl,(ak,ag),hv.put 9 zr zr,ha.up zr,zt,o⟩
  ·rintro D U w hD ah ae ⟨⟨ak,ag⟩,hv,ha,_,o⟩
   obtain⟨O,rfl⟩:=(ac (hv.at 10 rfl (ah.1 rfl)) az).fI
   have o:=((o.cD 0 (nf (fun h=>ft hD ((ae 12 _ rfl h).2.1 rfl)))).cD 0 hD).sc Int (ai:Int)
   refine RL.dY ([(ai:Int)]: (List Int)) o [(vi ai)] eC CI (fun M hs g=>⟨(g.sat 0 _ zr).1,zt⟩) fun a9 w o=>?_
   have o:=((o.pl 9 [0,3,4,5,6,7,8]).cQ 0 true rfl bD).eX 0 (D 12) (nf (fun h=>ft hD ((ae 12 _ rfl h).2.1 rfl))) (rd a9 ([(ai:Int)]: (List Int)))
   exact RL.nil ⟨rfl,(a9,ag),hv.put 11 zr zr,ha.up zr,zt,o⟩
  ·rintro D U w hD ah ae ⟨⟨ak,ag⟩,hv,ha,_,o⟩
   obtain⟨O,rfl⟩:=(ac (hv.at 9 rfl (ah.1 rfl)) (ac (hv.at 11 rfl (ah.2.1 rfl)) az)).fI
   have o:=((((o.cD 0 hD).cP 0 (ah.2.1 rfl)).cD 1 (nf (fun h=>ft hD ((ae 14 _ rfl h).2.1 rfl)))).cD 1 hD).cD 5 (nf (fun h=>ft hD ((ae 14 _ rfl h).2.1 rfl)))
   have o:=(((o.cD 6 (nf (fun h=>ft hD ((ae 14 _ rfl h).2.1 rfl)))).cD 6 hD).zM (j:=6) (jj:=(jy aa.2 ab.1 (0:Int))) (Bw 3 Int) CG rfl ay).freeze 1
   refine RL.app 0 1 o q7 bk fun a3 w o=>?_
   have o:=(((o.pl 8 [1,0,3,4,5,6,7]).cQ 0 true rfl (bif D 11 then (own 3 ak ([(ai:Int)]: (List Int))) else bD)).cQ 1 true rfl bD).eX 1 (D 14) (nf (fun h=>ft hD ((ae 14 _ rfl h).2.1 rfl))) bD
   have o:=(o.eX 5 (D 14) (nf (fun h=>ft hD ((ae 14 _ rfl h).2.1 rfl))) (own 43 an (us124.set (Int.toNat (jy aa.2 ab.1 (0:Int))) (rv a3)))).cQ 6 true rfl (ir (XS 3 Int) us124 aa.1 none)
   have o:=o.eX 6 (D 14) (nf (fun h=>ft hD ((ae 14 _ rfl h).2.1 rfl))) (ir (XS 3 Int) (us124.set (Int.toNat (jy aa.2 ab.1 (0:Int))) (rv a3)) (aa.1.set (Int.toNat (jy aa.2 ab.1 (0:Int))) au) none)
   exact RL.nil ⟨rfl,(ak,a3),hv.put 12 zr zr,ha.up zr,zt,o⟩
  ·rintro D U w hD ah ae ⟨⟨ak,ag⟩,hv,ha,_,o⟩
   obtain⟨O,rfl⟩:=(ac (hv.at 0 rfl (ah.1 rfl)) (ac (hv.at 3 rfl (ah.2.1 rfl)) az)).fI
   have o:=((o.cD 5 (nf (fun h=>ft hD ((ae 14 _ rfl h).1 rfl)))).cD 6 (nf (fun h=>ft hD ((ae 14 _ rfl h).1 rfl)))).cP 6 (ah.2.2.2.2.2.2.2.2.2.2.2.2.2.2.1 rfl)
   have hl147:=o.eE 6
   have hr148:=fO CG hl147 a2
   refine RL.bV 5 o zr zr z5 hr148 ?_
   have o:=(o.eX 5 (D 14) (nf (fun h=>ft hD ((ae 14 _ rfl h).1 rfl))) (own 43 an (us124.set (Int.toNat (jy aa.2 ab.1 (0:Int))) (rv ag)))).cQ 6 (D 12) (ah.2.2.2.2.2.2.2.2.2.2.2.2.2.2.1 rfl) (ir (XS 3 Int) us124 aa.1 none)
   have o:=o.eX 6 (D 14) (nf (fun h=>ft hD ((ae 14 _ rfl h).1 rfl))) (ir (XS 3 Int) (us124.set (Int.toNat (jy aa.2 ab.1 (0:Int))) (rv ag)) (aa.1.set (Int.toNat (jy aa.2 ab.1 (0:Int))) au) none)
   exact RL.nil ⟨rfl,(ak,ag),hv.put 13 zr zr,ha.up zr,zt,o⟩
  ·rintro D U w hD ah ae ⟨⟨ak,ag⟩,hv,ha,_,o⟩
   obtain⟨O,rfl⟩:=(ac (hv.at 12 rfl (ah.2.1 rfl)) (ac (hv.at 13 rfl (ah.1 rfl)) az)).fI
   have o:=((((o.cD 1 hD).cP 1 (ah.2.1 rfl)).cD 5 hD).cD 6 hD).cP 6 (ah.2.1 rfl)
   have hl149:=o.eE 6
   have hr150:=fO CG hl149 a2
   refine RL.te 5 6 1 (jy aa.2 ab.1 (0:Int)) (Bw 3 Int) CG o zr zr (jF 5 o hr150 0) zr zr zr a2 fu fun w o=>?_
   have o:=((o.cQ 1 true rfl (bif D 12 then (own 3 ag au) else bD)).cQ 5 true rfl (own 43 an us124)).cQ 6 true rfl (bif D 12 then (ir (XS 3 Int) us124 aa.1 (some (Int.toNat (jy aa.2 ab.1 (0:Int))))) else (ir (XS 3 Int) us124 aa.1 none))
   exact RL.nil ⟨rfl,(ak,ag),hv.no zr,ha,zt,o⟩
  rintro D U w a0 ⟨⟨ak,ag⟩,hv,ha,_,o⟩
  have o:=o.cP 0 (a0 12 (by decide))
  have o:=o.cP 1 (a0 14 (by decide))
  have o:=o.cP 5 (a0 14 (by decide))
  have o:=o.cP 6 (a0 14 (by decide))
  obtain⟨O,rfl⟩:=(ac (ha.at 0 rfl) (ac (ha.at 1 rfl) (ac (ha.at 2 rfl) (ac (ha.at 3 rfl) (ac (ha.at 4 rfl) (ac (ha.at 5 rfl) (ac (ha.at 6 rfl) az))))))).fI
  refine bQ (aH (RC.region (RL.inc hk hm (mv (vi ((ai+1:Nat):Int)) (RL.nil ?_)))))
  obtain rfl:=oi hb
  exact⟨rfl,aw,an,(us124.set (Int.toNat (jy aa.2 ab.1 (0:Int))) (rv ag)),o.sp 7 [2,3,4,5,6]⟩
 rintro _ w ⟨ax,av,us113,O,rfl,o⟩
 refine aH (RC.sr (mv av (aQ av (RL.nt (RC.ret ?_)))))
 obtain rfl:=oi hb
 have o:=o.zx (X:=(XS 3 Int)) (b:=4) (j:=3) rfl (fun M h u x cs=>(I8 3) M h u x cs) rfl rfl (by decide)
 exact bX ⟨av,ax,zr,o.pk 5 [3,0,1]⟩
theorem t6 {p0:aI} {p1:jr} {res:Bool} (j:Holds E w V) (h0:V[i0]? =some (rd v0 p0)) (h1:V[i1]? =some (pt v1 p1)) (hb:lI N p0 p1=some res):
    Calls bN 119 [v0,v1].toArray w (gL (aX E V res)):=by
 unfold lI at hb
 refine enter Tryz.func119 zr zr ?_
 have j:=(j.dup (i0+0) h0).B7 (i:=i1+1) h1
 refine RC.sr (RL.cS 1 v0 j zr fun ag w j=>?_)
 refine aQ (vb false) (RL.nq ?_)
 obtain⟨af,o,hb⟩:=bd hb
 refine RC.jn (fun(af:Bool)=>SH E V [(3,vb af)] []) af ?_ ?_
 ·refine RC.region (RL.dP 1 j zr wk nO fun ah j=>(RL.bE p1.X 0 j cI (RL.aY zr ij (RL.aM 1 j zr dM cI (ic p1.X p0.X0 (mv (vb (decide (p1.X>=p0.X0))) (eZ o (fun aa o=>?_) fun aa o=>?_)))))))
  rotate_left
  ·refine bC aa (bC aa (bC aa (bC aa (bC aa (fq aa (vb false) (mv (vb false) (kp (kp ?_))))))))
   refine kp (kp (kp (RL.pick false (vb false) zr (mv (vb false) (kp (kp (kp (kp ?_))))))))
   refine kp (RL.pick false (vb false) zr (aQ (vb false) (RL.nil ?_)))
   obtain rfl:=oi o
   exact⟨rfl,j.sp 4 []⟩
  refine RL.dP (hg:=(cg aa)) 2 j zr wk nO fun ai j=>(RL.bE (hg:=(cg aa)) p1.X 0 j cI (RL.aY (hg:=(cg aa)) zr ji (RL.aM (hg:=(cg aa)) 2 j zr eF cI (RL.kX p1.X p0.X1 (cg aa) (fq aa (vb (decide (p1.X<p0.X1))) (mv (vb (decide (p1.X<p0.X1))) (eZ o (fun ab o=>?_) fun ab o=>?_)))))))
  rotate_left
  ·refine bC ab (bC ab (bC ab (bC ab (bC ab (fq ab (vb false) (mv (vb false) (kp (kp ?_))))))))
   refine kp (kp (kp (RL.pick false (vb false) zr (aQ (vb false) (RL.nil ?_)))))
   obtain rfl:=oi o
   exact⟨rfl,j.sp 5 []⟩
  refine RL.dP (hg:=(cg ab)) 3 j zr wm nP fun aj j=>(RL.bE (hg:=(cg ab)) p1.Y 0 j cI (RL.aY (hg:=(cg ab)) zr gW (RL.aM (hg:=(cg ab)) 3 j zr dF cI (RL.kX p1.Y p0.Y0 (cg ab) (fq ab (vb (decide (p1.Y>=p0.Y0))) (mv (vb (decide (p1.Y>=p0.Y0))) (eZ o (fun ad o=>?_) fun ad o=>?_)))))))
  ·refine RL.dP (hg:=(cg ad)) 4 j zr wm nP fun ak j=>(RL.bE (hg:=(cg ad)) p1.Y 0 j cI (RL.aY (hg:=(cg ad)) zr kr (RL.aM (hg:=(cg ad)) 4 j zr fG cI (RL.kX p1.Y p0.Y1 (cg ad) (fq ad (vb (decide (p1.Y<p0.Y1))) (aQ (vb (decide (p1.Y<p0.Y1))) (RL.nil ?_)))))))
   obtain rfl:=oi o
   exact⟨rfl,j.sp 7 []⟩
  refine bC ad (bC ad (bC ad (bC ad (bC ad (fq ad (vb false) (aQ (vb false) (RL.nil ?_)))))))
  obtain rfl:=oi o
  exact⟨rfl,j.sp 6 []⟩
 rintro _ w ⟨O,rfl,j⟩
 refine aH (RC.ret ?_)
 obtain rfl:=oi hb
 exact bX ⟨rfl,j.drop 0⟩
theorem qJ {p0: (List aI)} {p1:jr} {res:Bool} (j:Holds E w V) (h0:V[i0]? =some (rd v0 p0)) (h1:V[i1]? =some (rd v1 p1)) (o:kz N p0 p1=some res):
    Calls bN 92 [v0,v1].toArray w (gL (aX E V res)):=by
 unfold kz at o
 refine enter Tryz.func92 zr zr ?_
 have j:=(j.dup (i0+0) h0).dup (i1+1) h1
 refine RC.sr (RL.cS 0 v1 j zr fun aa w j=>?_)
 have j:=j.jI (i:=0) rfl
 refine aQ (vb false) (RL.ns (mv v0 (RL.makeFunc zt zr [(vp aa 0)] zr ?_)))
 obtain⟨ab,ad,o⟩:=bd o
 refine RL.call trivial rfl K9 [v0,(.func (.func 119) #[] #[(vp aa 0)])] rfl (aD (mh N (i0:=2) j rfl ⟨119,[(vp aa 0)],rfl,Lc,fun w Γl v y0 r i j hi hr=>by exact aD (t6 N (i0:=i) (i1:=Γl.length+0) j hi (B5 rfl) hr) fun _ _ h=>h⟩ ad) ?_)
 rintro _ w ⟨rfl,j⟩
 refine aQ (vb ab) (RL.nt (RC.ret ?_))
 obtain rfl:=oi o
 exact bX ⟨rfl,j.drop 3⟩
def py (E:World) (V:List HP) (b0:Nat) (v0_0 v0_1:Value) (v0_2 v0_3:Value) (v0_4 v0_5:Value) (v0_6 v0_7:Value) (v0_8 v0_9:Value) (v0_10 v0_11:Value) (res:j8×Bool) (v:Value) (w:World):Prop:=∃u0:Value,v = .tuple #[u0,(vb res.2)]/\Holds E w ([rd u0 res.1,bc 46 b0 [v0_0,v0_1,v0_2,v0_3,v0_4,v0_5,v0_6,v0_7,v0_8,v0_9,v0_10,v0_11]]++V)
def pz (E:World) (V:List HP) (b0:Nat) (v0_0 v0_1:Value) (v0_2 v0_3:Value) (v0_4 v0_5:Value) (v0_6 v0_7:Value) (v0_8 v0_9:Value) (v0_10 v0_11:Value) (r:j8×Bool) (U:Nat->Value) (w:World):Prop:=lF bN 66 Tryz.f57 (py E V b0 v0_0 v0_1 v0_2 v0_3 v0_4 v0_5 v0_6 v0_7 v0_8 v0_9 v0_10 v0_11 r) .ret U w
theorem t7 {p0_2: (List bZ)} {p0_5: (List aK)} {p1:eM} {res:j8×Bool} (j:Holds E w (bc 46 b0 [v0_0,v0_1,v0_2,v0_3,v0_4,v0_5,v0_6,v0_7,v0_8,v0_9,v0_10,v0_11]::rd v0_2 p0_2::rd v0_5 p0_5::V)) (h1:V[i1]? =some (rd v1 p1)) (o:kd N p0_2 p0_5 p1=some res):
    Calls bN 57 [(vp b0 0),v1].toArray w (gL (py E V b0 v0_0 v0_1 v0_2 v0_3 v0_4 v0_5 v0_6 v0_7 v0_8 v0_9 v0_10 v0_11 res)):=by
 unfold kd at o
 refine enter Tryz.func57 zr zr ?_
 have j:=j.dup (i1+3) h1
 refine RC.sr (RL.cS 0 v1 j zr fun ah w j=>?_)
 have j:=j.jI (i:=0) rfl
 refine RL.alloc j F9.z fun ae w j=>?_
 refine aQ (vb false) (RL.nq (RC.sr (mv (vp b0 0) (RL.nilCheck zr (RL.aY zr uz (RL.aY zr ik (RL.bK 3 v0_2 j nQ (RL.bF 4 p0_2 j wj ?_))))))))
 refine mv (vi 0) (RL.nt ?_)
 obtain⟨bn,hN,o⟩:=bd o
 refine RC.range (fun(af:Nat) (al:Unit)=>SH E V [(0,vp b0 0),(3,vp ah 0),(4,vp ae 0),(14,v0_2),(15,vi p0_2.length),(16,vi af)] [bc 46 b0 [v0_0,v0_1,v0_2,v0_3,v0_4,v0_5,v0_6,v0_7,v0_8,v0_9,v0_10,v0_11],rd v0_2 p0_2,rd v0_5 p0_5,pt (vp ah 0) p1,raw 78 ae 2]) (fun(al:Unit)=>SH E V [(0,vp b0 0),(3,vp ah 0),(4,vp ae 0)] [bc 46 b0 [v0_0,v0_1,v0_2,v0_3,v0_4,v0_5,v0_6,v0_7,v0_8,v0_9,v0_10,v0_11],rd v0_2 p0_2,rd v0_5 p0_5,pt (vp ah 0) p1,raw 78 ae 2]) (pz E V b0 v0_0 v0_1 v0_2 v0_3 v0_4 v0_5 v0_6 v0_7 v0_8 v0_9 v0_10 v0_11) hN ?_ ?_ ?_ ?_ ?_
 ·exact j.sp 6 [3,4,5,1,0]
 ·rintro hm al _ w ⟨O,rfl,j⟩
  refine RC.sr (ic ((p0_2.length:Int)) ((p0_2.length:Int)) (RL.nq (RC.gk ue (RC.ex ?_))))
  exact⟨rfl,j.sp 5 [0,1,2,3,4]⟩
 ·rintro hm af al fl _ w hk ⟨O,rfl,j⟩ o
  refine RC.sr (ic ((af:Int)) ((p0_2.length:Int)) (RL.nq (RC.gj (ud hk) (RC.ss (RC.bs (mv (vi af) ?_))))))
  obtain⟨ax,a0,o⟩:=bd o
  refine RL.bP 1 j qD a0 fun bo j=>(RL.bJ 0 ax j ma fun bp j=>(RL.alloc j EE.z fun bq w j=>?_))
  refine aQ (vi af) (RL.cC 0 j 1 zr ma fun w j=>?_)
  refine RL.nq ?_
  obtain⟨aq,hj,o⟩:=bd o
  refine RC.jn (fun(aq:Bool)=>SH E V [(0,vp b0 0),(3,vp ah 0),(4,vp ae 0),(6,vi af),(14,v0_2),(15,vi p0_2.length),(16,vi af),(36,vb aq)] [bc 46 b0 [v0_0,v0_1,v0_2,v0_3,v0_4,v0_5,v0_6,v0_7,v0_8,v0_9,v0_10,v0_11],rd v0_2 p0_2,rd v0_5 p0_5,pt (vp ah 0) p1,raw 78 ae 2]) aq ?_ ?_
  ·refine RC.ug mixed [0,0,0,0,0,0,2,0,0,0,2,2,1,1,2,0] [0,1,2,3,4,5,6,7,8,9,12,13,10,11,14,15] ?_
   have j:=j.drew
   refine DP.e0 zr (RL.aY zr yh (aW zr (RL.aM 0 j zr qo zZ (aW zr (mv (vb ax.fS) (DP.d0 (eZ hj (fun ai hj=>?_) fun ai hj=>?_)))))))
   rotate_left
   ·refine DP.e0 zr (bC ai (aW zr (bC ai (aW zr (bC ai (ou zr (bC ai (qz zr ?_))))))))
    refine fq ai (vb false) (aW zr (mv (vb false) (aW zr (kp (DP.d0 (DP.e1 undef zr (fun w=>kp DP.d1) (DP.e1 undef zr (fun w=>kp DP.d1) (DP.e2 zr ?_))))))))
    refine kp (Fq zr (kp (Fq zr (kp (qz zr (RL.pick false (vb false) zr (DP.d0 (DP.z ?_))))))))
    obtain rfl:=oi hj
    exact⟨rfl,j.sp 8 [3,4,5,6,7]⟩
   refine DP.e0 zr (RL.bB (hg:=(cg ai)) (f:=(fun x=>x)) 0 j zr Fd.self ma fun a1 j=>(aW zr (RL.dP (hg:=(cg ai)) 7 j zr ye qp fun br j=>(aW zr (RL.bE (hg:=(cg ai)) p1.cT 0 j cI (ou zr ?_))))))
   obtain⟨ay,a2,hj⟩:=bd hj
   refine RL.call (cg ai) zr JW [a1,(vi p1.cT)] zr (aD (oL N (p1:=p1.cT) (i0:=1) j zr a2) ?_)
   rintro _ w ⟨rfl,j⟩
   refine qz zr (fq ai (vb ay) (aW zr (mv (vb ay) (DP.d0 (eZ hj (fun ab hj=>?_) fun ab hj=>?_)))))
   rotate_left
   ·refine DP.e0 zr (bC ab (DP.d0 (DP.e1 undef zr (fun w=>bC ab DP.d1) (DP.e1 undef zr (fun w=>bC ab DP.d1) (DP.e2 zr (bC ab (Fq zr (bC ab ?_))))))))
    refine Fq zr (bC ab (qz zr (fq ab (vb false) (DP.d0 (DP.z ?_)))))
    obtain rfl:=oi hj
    exact⟨rfl,j.sp 10 [5,6,7,8,9]⟩
   refine DP.e0 zr (RL.bB (hg:=(cg ab)) (f:=(fun x=>x)) 2 j zr Fd.self ma fun a3 j=>(DP.d0 (DP.Bc 9 zr (cg ab) j zr yf qq fun bt j=>(DP.wi p1.At 0 zr (cg ab) j Dn fun a4 a105 bu j=>(DP.e2 zr ?_)))))
   obtain⟨a5,a6,hj⟩:=bd hj
   refine RL.call (cg ab) zr F6 [a3] zr (aD (jl N (i0:=3) j zr a6) ?_)
   rintro a7 w j
   refine DP.d2 (⟨zt,j.gF 1⟩) (DP.e2 zr (RL.dY (hg:=(cg ab)) ([a5]: (List aI)) j [a7] jh oG (fun M hs g=>⟨(g.sat 0 _ zr).1,zt⟩) fun a8 w j=>(DP.d2 (⟨zt,j.gF 2⟩) (DP.e2 zr ?_))))
   have j:=j.freeze 0
   obtain⟨a9,ba,hj⟩:=bd hj
   refine RL.call (cg ab) zr Ld [a8,a4] zr (aD (qJ N (i0:=0) (i1:=3) j zr zr ba) ?_)
   rintro _ w ⟨rfl,j⟩
   refine DP.d2 (⟨zt,j.gF 2⟩) (DP.e0 zr (fq ab (vb a9) (DP.d0 ?_)))
   have j:=j.pl 16 [0,1,3,4,5,6,7,8,9,10,11,12,13,14,15]
   refine DP.z ?_
   obtain rfl:=oi hj
   exact⟨rfl,j.sp 15 [10,11,12,13,14]⟩
  rintro _ w ⟨O,rfl,j⟩
  refine aH (dQ o (fun hc o=>?_) fun hc o=>?_)
  rotate_left
  ·refine RC.skip (bQ (aH (RC.region (RL.inc hk hm (mv (vi ((af+1:Nat):Int)) (RL.nil ?_))))))
   obtain rfl:=oi o
   exact⟨rfl,j.sp 5 [0,1,2,3,4]⟩
  refine RC.sr (mv (vi af) ?_)
  have j:=(j.sc Bool true).sc Int (af:Int)
  refine RL.build (⟨true,(af:Int)⟩:j8) trivial rfl j [(0,vb true),(1,vi af)] rfl Ga rfl (fun M hs g=>by have h:=BE M;exact cU.cons (f:=fun(x:j8) y=>{x with bZ:=y}) h Dk (g.sat 1 _ rfl).1 fun _ h=>cU.cons (f:=fun(x:j8) y=>{x with Number:=y}) h xg (g.sat 0 _ rfl).1 fun _ h=>cU.nil h) fun bw j=>?_
  refine RL.cC 7 j 0 zr tn fun w j=>?_
  refine aQ (vb true) (RL.nt (RC.rb (bS ?_)))
  obtain rfl:=oi o
  exact⟨rfl,wV 7 j tn fun bb j=>⟨bb,zr,j.pk 9 [0,4]⟩⟩
 ·intro r U w e hK
  subst e
  refine bS ?_
  obtain rfl:=oi o
  exact hK
 rintro al _ w rfl ⟨O,rfl,j⟩
 rw [Fo.dB] at o
 refine aH (RC.seq (RC.sr (mv (vp b0 0) (RL.nilCheck zr (RL.aY zr yg (RL.bK 0 v0_5 j F7 (RL.bF 2 p0_5 j ID (mv (vi 0) ?_))))))))
 refine RL.nt ?_
 obtain⟨bx,hN,o⟩:=bd o
 refine RC.range (fun(ag:Nat) (an:Unit)=>SH E V [(0,vp b0 0),(3,vp ah 0),(4,vp ae 0),(43,v0_5),(44,vi p0_5.length),(45,vi ag)] [bc 46 b0 [v0_0,v0_1,v0_2,v0_3,v0_4,v0_5,v0_6,v0_7,v0_8,v0_9,v0_10,v0_11],rd v0_2 p0_2,rd v0_5 p0_5,pt (vp ah 0) p1,raw 78 ae 2]) (fun(an:Unit)=>SH E V [(0,vp b0 0),(4,vp ae 0)] [bc 46 b0 [v0_0,v0_1,v0_2,v0_3,v0_4,v0_5,v0_6,v0_7,v0_8,v0_9,v0_10,v0_11],rd v0_2 p0_2,rd v0_5 p0_5,pt (vp ah 0) p1,raw 78 ae 2]) (pz E V b0 v0_0 v0_1 v0_2 v0_3 v0_4 v0_5 v0_6 v0_7 v0_8 v0_9 v0_10 v0_11) hN ?_ ?_ ?_ ?_ ?_
 ·exact j.sp 5 [0,1,2,3,4]
 ·rintro hm an _ w ⟨O,rfl,j⟩
  refine RC.sr (ic ((p0_5.length:Int)) ((p0_5.length:Int)) (RL.nq (RC.gk ue (RC.ex ?_))))
  exact⟨rfl,j.sp 5 [0,1,2,3,4]⟩
 ·rintro hm ag an fl _ w hk ⟨O,rfl,j⟩ o
  refine RC.sr (ic ((ag:Int)) ((p0_5.length:Int)) (RL.nq (RC.gj (ud hk) (RC.ss (RC.bs (mv (vi ag) ?_))))))
  obtain⟨av,bf,o⟩:=bd o
  refine RL.bP 2 j J0 bf fun bz j=>(RL.bJ 0 av j IE fun b1 j=>(RL.alloc j J3.z fun b2 w j=>?_))
  refine aQ (vi ag) (RL.cC 0 j 1 zr IE fun w j=>?_)
  refine RL.nq ?_
  obtain⟨aw,hj,o⟩:=bd o
  refine RC.jn (fun(aw:Bool)=>SH E V [(0,vp b0 0),(3,vp ah 0),(4,vp ae 0),(8,vi ag),(43,v0_5),(44,vi p0_5.length),(45,vi ag),(61,vb aw)] [bc 46 b0 [v0_0,v0_1,v0_2,v0_3,v0_4,v0_5,v0_6,v0_7,v0_8,v0_9,v0_10,v0_11],rd v0_2 p0_2,rd v0_5 p0_5,pt (vp ah 0) p1,raw 78 ae 2]) aw ?_ ?_
  ·refine RC.region (RL.aY zr Hl (RL.aM 0 j zr ru cI (RL.dP 6 j zr ye qp fun b3 j=>(RL.bE p1.cT 0 j cI (ic av.cT p1.cT (mv (vb (av.cT==p1.cT)) (eZ hj (fun ad hj=>?_) fun ad hj=>?_)))))))
   rotate_left
   ·refine bC ad (bC ad (bC ad (bC ad (bC ad (fq ad (vb false) (RL.nil ?_))))))
    obtain rfl:=oi hj
    exact⟨rfl,j.sp 9 [4,5,6,7,8]⟩
   refine RL.aY (hg:=(cg ad)) zr Hm (RL.bB (hg:=(cg ad)) 1 j zr ry tW fun bg j=>(RL.dP (hg:=(cg ad)) 8 j zr yf qq fun b4 j=>(RL.bJ (hg:=(cg ad)) 0 p1.At j Dn fun bh j=>?_)))
   obtain⟨bj,bk,hj⟩:=bd hj
   refine RL.call (cg ad) zr Ld [bg,bh] zr (aD (qJ N (i0:=2) (i1:=0) j zr zr bk) ?_)
   rintro _ w ⟨rfl,j⟩
   refine fq ad (vb bj) (RL.nil ?_)
   obtain rfl:=oi hj
   exact⟨rfl,j.sp 12 [7,8,9,10,11]⟩
  rintro _ w ⟨O,rfl,j⟩
  refine aH (dQ o (fun hc o=>?_) fun hc o=>?_)
  rotate_left
  ·refine RC.skip (bQ (aH (RC.region (RL.inc hk hm (mv (vi ((ag+1:Nat):Int)) (RL.nil ?_))))))
   obtain rfl:=oi o
   exact⟨rfl,j.sp 5 [0,1,2,3,4]⟩
  refine RC.sr (mv (vi ag) ?_)
  have j:=j.sc Int (ag:Int)
  refine RL.build (⟨false,(ag:Int)⟩:j8) trivial rfl j [(1,vi ag)] rfl Ga rfl (fun M hs g=>by have h:=BE M;exact cU.cons (f:=fun(x:j8) y=>{x with Number:=y}) h xg (g.sat 0 _ rfl).1 fun _ h=>cU.nil h) fun b5 j=>?_
  refine RL.cC 6 j 0 zr tn fun w j=>?_
  refine aQ (vb true) (RL.nt (RC.rb (bS ?_)))
  obtain rfl:=oi o
  exact⟨rfl,wV 6 j tn fun bl j=>⟨bl,zr,j.pk 8 [0,3]⟩⟩
 ·intro r U w e hK
  subst e
  refine bS ?_
  obtain rfl:=oi o
  exact hK
 rintro an _ w rfl ⟨O,rfl,j⟩
 rw [Fo.dB] at o
 refine aH (RC.sr (RL.build (⟨false,0⟩:j8) trivial rfl j [] rfl Ga rfl (fun M hs g=>by have h:=BE M;exact cU.nil h) fun b6 j=>?_))
 refine RL.cC 5 j 0 zr tn fun w j=>?_
 refine aQ (vb false) (RL.nt (RC.ret ?_))
 obtain rfl:=oi o
 exact wV 5 j tn fun bm j=>⟨bm,zr,j.pk 7 [0,2]⟩
def re (E:World) (V:List HP) (b0:Nat) (v0_0 v0_1:Value) (v0_2 v0_3:Value) (v0_4 v0_5:Value) (v0_6 v0_7:Value) (v0_8 v0_9:Value) (v0_10 v0_11:Value) (res:Int) (v:Value) (w:World):Prop:=v= (vi res)/\Holds E w ([bc 46 b0 [v0_0,v0_1,v0_2,v0_3,v0_4,v0_5,v0_6,v0_7,v0_8,v0_9,v0_10,v0_11]]++V)
theorem qK {p0_8: (List Int)} {p0_9: (List Int)} {p1:j8} (j:Holds E w (bc 46 b0 [v0_0,v0_1,v0_2,v0_3,v0_4,v0_5,v0_6,v0_7,v0_8,v0_9,v0_10,v0_11]::rd v0_8 p0_8::rd v0_9 p0_9::V)) (h1:V[i1]? =some (rd v1 p1)) (o:iw N p0_8 p0_9 p1=some res):
    Calls bN 58 [(vp b0 0),v1].toArray w (gL (re E V b0 v0_0 v0_1 v0_2 v0_3 v0_4 v0_5 v0_6 v0_7 v0_8 v0_9 v0_10 v0_11 res)):=by
 unfold iw at o
 refine enter Tryz.func58 zr zr ?_
 have j:=j.dup (i1+3) h1
 refine RC.sr (RL.cS 0 v1 j zr fun ag w j=>?_)
 refine aQ (vi 0) (RL.nq (RC.sr (RL.aY zr wu (RL.aM 0 j zr qB zZ (RL.nt (dQ o (fun hc o=>?_) fun hc o=>?_))))))
 ·refine RC.seq (RC.yN mixed ?_)
  have j:=j.drew
  refine RO.go (mv (vp b0 0) (RO.nx (RL.nilCheck zr (RO.nx (RL.aY zr Ci (RO.nx (RL.bK 2 v0_9 j fu (RO.nx ?_))))))))
  refine RL.aY zr uA (RO.nx (RL.aM 0 j zr ph cI (RO.nx ?_)))
  obtain⟨aa,ae,o⟩:=bd o
  refine RL.bP 4 j eC ae fun ah j=>(RO.nx (RL.bE aa 0 j cI (RO.nx (aQ (vi aa) (RO.last (aH (RC.rt ?_)))))))
  obtain rfl:=oi o
  exact bX ⟨rfl,j.pk 6 [3]⟩
 refine RC.ss (RC.yN mixed ?_)
 have j:=j.drew
 refine RO.go (mv (vp b0 0) (RO.nx (RL.nilCheck zr (RO.nx (RL.aY zr EI (RO.nx (RL.bK 2 v0_8 j fu (RO.nx ?_))))))))
 refine RL.aY zr uA (RO.nx (RL.aM 0 j zr ph cI (RO.nx ?_)))
 obtain⟨ab,af,o⟩:=bd o
 refine RL.bP 3 j eC af fun ai j=>(RO.nx (RL.bE ab 0 j cI (RO.nx (aQ (vi ab) (RO.last (aH (RC.ret ?_)))))))
 obtain rfl:=oi o
 exact bX ⟨rfl,j.pk 6 [3]⟩
end Go.Gk
