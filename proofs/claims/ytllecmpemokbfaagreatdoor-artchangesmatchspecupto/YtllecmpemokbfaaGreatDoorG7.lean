/-
  Printed texts: Go functions as plain functions, and that they are. No statement of the seed is proved here.
-/
import Derived.Test.YtllecmpemokbfaaGreatDoorG1
import Derived.Test.YtllecmpemokbfaaGreatDoorG2
import Derived.Test.YtllecmpemokbfaaGreatDoorG3
import Derived.Test.YtllecmpemokbfaaGreatDoorG4
import Derived.Test.YtllecmpemokbfaaGreatDoorG5
import Derived.Test.YtllecmpemokbfaaGreatDoorG6
import Derived.Test.YtllecmpemokbfaaGreatDoorA2
set_option linter.unusedVariables false
set_option linter.unusedSimpArgs false
set_option linter.unusedSectionVars false
set_option maxRecDepth 100000
set_option maxHeartbeats 4000000
namespace Go.Gk
open Go Go.Proofs
variable (N:Nat) {E w:World} {i0 i1 i2:Nat} {p1 res:Int} {v0 v1 v2:Value} {V:List HP}
theorem sG {p0 p1:aG} {res:Bool} (j:Holds E w V) (h0:V[i0]? =some (rd v0 p0)) (h1:V[i1]? =some (rd v1 p1)) (o:iH N p0 p1=some res):
    Calls bD 83 [v0,v1].toArray w (gm (aS E V res)):=by
 unfold iH at o
 refine enter Tryz.func83 zr zr ?_
 have j:=(j.dup (i0+0) h0).dup (i1+1) h1
 refine RC.sr (RL.dA 1 v0 j zr fun aa w j=>?_)
 refine RL.dA 1 v1 j zr fun ab w j=>?_
 refine aP (vb false) (RL.ns (RL.aX zr jl (RL.aL 1 j zr eG cF (RL.aX zr jl (RL.aL 0 j zr eG cF (RL.min p0.X1 p1.X1 (RL.aX zr iD (RL.aL 1 j zr dM cF ?_))))))))
 refine RL.aX zr iD (RL.aL 0 j zr dM cF (RL.max p0.X0 p1.X0 (RL.gQ (if p1.X1<p0.X1 then p1.X1 else p0.X1) (if p0.X0<p1.X0 then p1.X0 else p0.X0) (aP (vi (IntKind.wrap .i64 ((if p1.X1<p0.X1 then p1.X1 else p0.X1) - (if p0.X0<p1.X0 then p1.X0 else p0.X0)))) (RL.ns (RL.aX zr kT (RL.aL 1 j zr fV cF (RL.aX zr kT ?_))))))))
 refine RL.aL 0 j zr fV cF (RL.min p0.Y1 p1.Y1 (RL.aX zr il (RL.aL 1 j zr dG cF (RL.aX zr il (RL.aL 0 j zr dG cF (RL.max p0.Y0 p1.Y0 (RL.gQ (if p1.Y1<p0.Y1 then p1.Y1 else p0.Y1) (if p0.Y0<p1.Y0 then p1.Y0 else p0.Y0) (aP (vi (IntKind.wrap .i64 ((if p1.Y1<p0.Y1 then p1.Y1 else p0.Y1) - (if p0.Y0<p1.Y0 then p1.Y0 else p0.Y0)))) ?_))))))))
 refine RL.ns (mv (vi (IntKind.wrap .i64 ((if p1.X1<p0.X1 then p1.X1 else p0.X1) - (if p0.X0<p1.X0 then p1.X0 else p0.X0)))) (ic ((IntKind.wrap .i64 ((if p1.X1<p0.X1 then p1.X1 else p0.X1) - (if p0.X0<p1.X0 then p1.X0 else p0.X0)))) 0 (mv (vb (decide ((IntKind.wrap .i64 ((if p1.X1<p0.X1 then p1.X1 else p0.X1) - (if p0.X0<p1.X0 then p1.X0 else p0.X0)))>0))) (RL.gs true (decide ((IntKind.wrap .i64 ((if p1.X1<p0.X1 then p1.X1 else p0.X1) - (if p0.X0<p1.X0 then p1.X0 else p0.X0)))>0)) (vi (IntKind.wrap .i64 ((if p1.Y1<p0.Y1 then p1.Y1 else p0.Y1) - (if p0.Y0<p1.Y0 then p1.Y0 else p0.Y0)))) rfl rfl rfl cE (RL.gs true (decide ((IntKind.wrap .i64 ((if p1.X1<p0.X1 then p1.X1 else p0.X1) - (if p0.X0<p1.X0 then p1.X0 else p0.X0)))>0)) (vb (decide ((IntKind.wrap .i64 ((if p1.Y1<p0.Y1 then p1.Y1 else p0.Y1) - (if p0.Y0<p1.Y0 then p1.Y0 else p0.Y0)))>=0))) rfl rfl rfl (dK .geq .i64 (IntKind.wrap .i64 ((if p1.Y1<p0.Y1 then p1.Y1 else p0.Y1) - (if p0.Y0<p1.Y0 then p1.Y0 else p0.Y0))) 0 rfl (fun h=>by exact(cG h:cv (true&&((decide ((IntKind.wrap .i64 ((if p1.X1<p0.X1 then p1.X1 else p0.X1) - (if p0.X0<p1.X0 then p1.X0 else p0.X0)))>0))==true)) (vi (IntKind.wrap .i64 ((if p1.Y1<p0.Y1 then p1.Y1 else p0.Y1) - (if p0.Y0<p1.Y0 then p1.Y0 else p0.Y0))))= (vi (IntKind.wrap .i64 ((if p1.Y1<p0.Y1 then p1.Y1 else p0.Y1) - (if p0.Y0<p1.Y0 then p1.Y0 else p0.Y0)))))) (fun _=>rfl) rfl) (RL.pick (decide ((IntKind.wrap .i64 ((if p1.X1<p0.X1 then p1.X1 else p0.X1) - (if p0.X0<p1.X0 then p1.X0 else p0.X0)))>0)) (vb ((decide ((IntKind.wrap .i64 ((if p1.X1<p0.X1 then p1.X1 else p0.X1) - (if p0.X0<p1.X0 then p1.X0 else p0.X0)))>0))&&(decide ((IntKind.wrap .i64 ((if p1.Y1<p0.Y1 then p1.Y1 else p0.Y1) - (if p0.Y0<p1.Y0 then p1.Y0 else p0.Y0)))>=0)))) (gr true) (mv (vb ((decide ((IntKind.wrap .i64 ((if p1.X1<p0.X1 then p1.X1 else p0.X1) - (if p0.X0<p1.X0 then p1.X0 else p0.X0)))>0))&&(decide ((IntKind.wrap .i64 ((if p1.Y1<p0.Y1 then p1.Y1 else p0.Y1) - (if p0.Y0<p1.Y0 then p1.Y0 else p0.Y0)))>=0)))) (RL.gs true ((decide ((IntKind.wrap .i64 ((if p1.X1<p0.X1 then p1.X1 else p0.X1) - (if p0.X0<p1.X0 then p1.X0 else p0.X0)))>0))&&(decide ((IntKind.wrap .i64 ((if p1.Y1<p0.Y1 then p1.Y1 else p0.Y1) - (if p0.Y0<p1.Y0 then p1.Y0 else p0.Y0)))>=0))) (vi (IntKind.wrap .i64 ((if p1.X1<p0.X1 then p1.X1 else p0.X1) - (if p0.X0<p1.X0 then p1.X0 else p0.X0)))) rfl rfl rfl cE ?_))))))))
 refine RL.gs true ((decide ((IntKind.wrap .i64 ((if p1.X1<p0.X1 then p1.X1 else p0.X1) - (if p0.X0<p1.X0 then p1.X0 else p0.X0)))>0))&&(decide ((IntKind.wrap .i64 ((if p1.Y1<p0.Y1 then p1.Y1 else p0.Y1) - (if p0.Y0<p1.Y0 then p1.Y0 else p0.Y0)))>=0))) (vb (decide ((IntKind.wrap .i64 ((if p1.X1<p0.X1 then p1.X1 else p0.X1) - (if p0.X0<p1.X0 then p1.X0 else p0.X0)))>=0))) rfl rfl rfl (dK .geq .i64 (IntKind.wrap .i64 ((if p1.X1<p0.X1 then p1.X1 else p0.X1) - (if p0.X0<p1.X0 then p1.X0 else p0.X0))) 0 rfl (fun h=>by exact(cG h:cv (true&&(((decide ((IntKind.wrap .i64 ((if p1.X1<p0.X1 then p1.X1 else p0.X1) - (if p0.X0<p1.X0 then p1.X0 else p0.X0)))>0))&&(decide ((IntKind.wrap .i64 ((if p1.Y1<p0.Y1 then p1.Y1 else p0.Y1) - (if p0.Y0<p1.Y0 then p1.Y0 else p0.Y0)))>=0)))==false)) (vi (IntKind.wrap .i64 ((if p1.X1<p0.X1 then p1.X1 else p0.X1) - (if p0.X0<p1.X0 then p1.X0 else p0.X0))))= (vi (IntKind.wrap .i64 ((if p1.X1<p0.X1 then p1.X1 else p0.X1) - (if p0.X0<p1.X0 then p1.X0 else p0.X0)))))) (fun _=>rfl) rfl) (RL.gs true ((decide ((IntKind.wrap .i64 ((if p1.X1<p0.X1 then p1.X1 else p0.X1) - (if p0.X0<p1.X0 then p1.X0 else p0.X0)))>0))&&(decide ((IntKind.wrap .i64 ((if p1.Y1<p0.Y1 then p1.Y1 else p0.Y1) - (if p0.Y0<p1.Y0 then p1.Y0 else p0.Y0)))>=0))) (vb (decide ((IntKind.wrap .i64 ((if p1.X1<p0.X1 then p1.X1 else p0.X1) - (if p0.X0<p1.X0 then p1.X0 else p0.X0)))>=0))) rfl rfl rfl (cE (hx:=fun h=>by exact(cG h:cv (true&&(((decide ((IntKind.wrap .i64 ((if p1.X1<p0.X1 then p1.X1 else p0.X1) - (if p0.X0<p1.X0 then p1.X0 else p0.X0)))>0))&&(decide ((IntKind.wrap .i64 ((if p1.Y1<p0.Y1 then p1.Y1 else p0.Y1) - (if p0.Y0<p1.Y0 then p1.Y0 else p0.Y0)))>=0)))==false)) (vb (decide ((IntKind.wrap .i64 ((if p1.X1<p0.X1 then p1.X1 else p0.X1) - (if p0.X0<p1.X0 then p1.X0 else p0.X0)))>=0)))= (vb (decide ((IntKind.wrap .i64 ((if p1.X1<p0.X1 then p1.X1 else p0.X1) - (if p0.X0<p1.X0 then p1.X0 else p0.X0)))>=0)))))) (RL.gs (true&&(((decide ((IntKind.wrap .i64 ((if p1.X1<p0.X1 then p1.X1 else p0.X1) - (if p0.X0<p1.X0 then p1.X0 else p0.X0)))>0))&&(decide ((IntKind.wrap .i64 ((if p1.Y1<p0.Y1 then p1.Y1 else p0.Y1) - (if p0.Y0<p1.Y0 then p1.Y0 else p0.Y0)))>=0)))==false)) (decide ((IntKind.wrap .i64 ((if p1.X1<p0.X1 then p1.X1 else p0.X1) - (if p0.X0<p1.X0 then p1.X0 else p0.X0)))>=0)) (vi (IntKind.wrap .i64 ((if p1.Y1<p0.Y1 then p1.Y1 else p0.Y1) - (if p0.Y0<p1.Y0 then p1.Y0 else p0.Y0)))) rfl rfl rfl cE (RL.gs (true&&(((decide ((IntKind.wrap .i64 ((if p1.X1<p0.X1 then p1.X1 else p0.X1) - (if p0.X0<p1.X0 then p1.X0 else p0.X0)))>0))&&(decide ((IntKind.wrap .i64 ((if p1.Y1<p0.Y1 then p1.Y1 else p0.Y1) - (if p0.Y0<p1.Y0 then p1.Y0 else p0.Y0)))>=0)))==false)) (decide ((IntKind.wrap .i64 ((if p1.X1<p0.X1 then p1.X1 else p0.X1) - (if p0.X0<p1.X0 then p1.X0 else p0.X0)))>=0)) (vb (decide ((IntKind.wrap .i64 ((if p1.Y1<p0.Y1 then p1.Y1 else p0.Y1) - (if p0.Y0<p1.Y0 then p1.Y0 else p0.Y0)))>0))) rfl rfl rfl (dK .gtr .i64 (IntKind.wrap .i64 ((if p1.Y1<p0.Y1 then p1.Y1 else p0.Y1) - (if p0.Y0<p1.Y0 then p1.Y0 else p0.Y0))) 0 rfl (fun h=>by exact(cG h:cv ((true&&(((decide ((IntKind.wrap .i64 ((if p1.X1<p0.X1 then p1.X1 else p0.X1) - (if p0.X0<p1.X0 then p1.X0 else p0.X0)))>0))&&(decide ((IntKind.wrap .i64 ((if p1.Y1<p0.Y1 then p1.Y1 else p0.Y1) - (if p0.Y0<p1.Y0 then p1.Y0 else p0.Y0)))>=0)))==false))&&((decide ((IntKind.wrap .i64 ((if p1.X1<p0.X1 then p1.X1 else p0.X1) - (if p0.X0<p1.X0 then p1.X0 else p0.X0)))>=0))==true)) (vi (IntKind.wrap .i64 ((if p1.Y1<p0.Y1 then p1.Y1 else p0.Y1) - (if p0.Y0<p1.Y0 then p1.Y0 else p0.Y0))))= (vi (IntKind.wrap .i64 ((if p1.Y1<p0.Y1 then p1.Y1 else p0.Y1) - (if p0.Y0<p1.Y0 then p1.Y0 else p0.Y0)))))) (fun _=>rfl) rfl) (RL.gs true ((decide ((IntKind.wrap .i64 ((if p1.X1<p0.X1 then p1.X1 else p0.X1) - (if p0.X0<p1.X0 then p1.X0 else p0.X0)))>0))&&(decide ((IntKind.wrap .i64 ((if p1.Y1<p0.Y1 then p1.Y1 else p0.Y1) - (if p0.Y0<p1.Y0 then p1.Y0 else p0.Y0)))>=0))) (vb ((decide ((IntKind.wrap .i64 ((if p1.X1<p0.X1 then p1.X1 else p0.X1) - (if p0.X0<p1.X0 then p1.X0 else p0.X0)))>=0))&&(decide ((IntKind.wrap .i64 ((if p1.Y1<p0.Y1 then p1.Y1 else p0.Y1) - (if p0.Y0<p1.Y0 then p1.Y0 else p0.Y0)))>0)))) rfl rfl rfl (kF (decide ((IntKind.wrap .i64 ((if p1.X1<p0.X1 then p1.X1 else p0.X1) - (if p0.X0<p1.X0 then p1.X0 else p0.X0)))>=0)) rfl (fun h=>by exact(cG h:cv (true&&(((decide ((IntKind.wrap .i64 ((if p1.X1<p0.X1 then p1.X1 else p0.X1) - (if p0.X0<p1.X0 then p1.X0 else p0.X0)))>0))&&(decide ((IntKind.wrap .i64 ((if p1.Y1<p0.Y1 then p1.Y1 else p0.Y1) - (if p0.Y0<p1.Y0 then p1.Y0 else p0.Y0)))>=0)))==false)) (vb (decide ((IntKind.wrap .i64 ((if p1.X1<p0.X1 then p1.X1 else p0.X1) - (if p0.X0<p1.X0 then p1.X0 else p0.X0)))>=0)))= (vb (decide ((IntKind.wrap .i64 ((if p1.X1<p0.X1 then p1.X1 else p0.X1) - (if p0.X0<p1.X0 then p1.X0 else p0.X0)))>=0))))) (fun h=>by exact gr (h:=h) (true&&(((decide ((IntKind.wrap .i64 ((if p1.X1<p0.X1 then p1.X1 else p0.X1) - (if p0.X0<p1.X0 then p1.X0 else p0.X0)))>0))&&(decide ((IntKind.wrap .i64 ((if p1.Y1<p0.Y1 then p1.Y1 else p0.Y1) - (if p0.Y0<p1.Y0 then p1.Y0 else p0.Y0)))>=0)))==false)))) (RL.pick ((decide ((IntKind.wrap .i64 ((if p1.X1<p0.X1 then p1.X1 else p0.X1) - (if p0.X0<p1.X0 then p1.X0 else p0.X0)))>0))&&(decide ((IntKind.wrap .i64 ((if p1.Y1<p0.Y1 then p1.Y1 else p0.Y1) - (if p0.Y0<p1.Y0 then p1.Y0 else p0.Y0)))>=0))) (vb (((decide ((IntKind.wrap .i64 ((if p1.X1<p0.X1 then p1.X1 else p0.X1) - (if p0.X0<p1.X0 then p1.X0 else p0.X0)))>0))&&(decide ((IntKind.wrap .i64 ((if p1.Y1<p0.Y1 then p1.Y1 else p0.Y1) - (if p0.Y0<p1.Y0 then p1.Y0 else p0.Y0)))>=0)))||((decide ((IntKind.wrap .i64 ((if p1.X1<p0.X1 then p1.X1 else p0.X1) - (if p0.X0<p1.X0 then p1.X0 else p0.X0)))>=0))&&(decide ((IntKind.wrap .i64 ((if p1.Y1<p0.Y1 then p1.Y1 else p0.Y1) - (if p0.Y0<p1.Y0 then p1.Y0 else p0.Y0)))>0))))) (nz true) (aP (vb (((decide ((IntKind.wrap .i64 ((if p1.X1<p0.X1 then p1.X1 else p0.X1) - (if p0.X0<p1.X0 then p1.X0 else p0.X0)))>0))&&(decide ((IntKind.wrap .i64 ((if p1.Y1<p0.Y1 then p1.Y1 else p0.Y1) - (if p0.Y0<p1.Y0 then p1.Y0 else p0.Y0)))>=0)))||((decide ((IntKind.wrap .i64 ((if p1.X1<p0.X1 then p1.X1 else p0.X1) - (if p0.X0<p1.X0 then p1.X0 else p0.X0)))>=0))&&(decide ((IntKind.wrap .i64 ((if p1.Y1<p0.Y1 then p1.Y1 else p0.Y1) - (if p0.Y0<p1.Y0 then p1.Y0 else p0.Y0)))>0))))) (RL.nt (RC.ret ?_))))))))
 obtain rfl:=oi o
 exact bM ⟨rfl,j.drop 4⟩
theorem rH {p0: (List (List aG))} {p1: (List aG)} {res: (List (List aG))} (j:Holds E w V) (h0:V[i0]? =some (rd v0 p0)) (h1:V[i1]? =some (rd v1 p1)) (hb:jc N p0 p1=some res):
    Calls bD 84 [v0,v1].toArray w (gm (ll E V res)):=by
 unfold jc at hb
 refine enter Tryz.func84 zr zr ?_
 have j:=(j.dup (i0+0) h0).dup (i1+1) h1
 refine RC.sr (aP (.slice none 0 0) (RL.ns (mv v0 (RL.bA 1 p0 j oN (aP (vi p0.length) (RL.nq ?_))))))
 obtain⟨a3,hN,hb⟩:=bd hb
 refine RC.iter (fun(ab:Int)=>SH E V [(0,v0),(1,v1),(5,vi ab)] [rd v0 p0,rd v1 p1]) (fun(ab:Int)=>SH E V [(0,v0),(1,v1),(5,vi ab)] [rd v0 p0,rd v1 p1]) (fun(r:Empty) _ _=>r.elim) hN ?_ ?_ ?_ ?_
 ·exact j.sp 2 [1,0]
 ·rintro ab fl _ w ⟨O,rfl,j⟩ hb
  refine RC.seq (RC.seq ?_)
  obtain⟨ae,hj,hb⟩:=bd hb
  refine RC.jn (fun(ae:Bool)=>SH E V [(0,v0),(1,v1),(5,vi ab),(23,vb ae)] [rd v0 p0,rd v1 p1]) ae ?_ ?_
  ·refine RC.xq mixed [0,0,0,0,0,0,0,0,0,0,0,0,0,2,0] [0,1,2,3,4,5,6,7,8,9,10,11,12,13,14] ?_
   have j:=j.drew
   refine DP.e0 zr (mv (vi ab) (bW zr (ic ab 0 (bW zr (mv (vb (decide (ab>0))) (DP.d0 (gu hj (fun o hj=>?_) fun o hj=>?_)))))))
   rotate_left
   ·refine DP.e0 zr (bN o (bW zr (bN o (bW zr (bN o (bW zr (bN o (bW zr ?_))))))))
    refine bN o (bW zr (bN o (bW zr (bN o (bW zr (bN o (bW zr (bN o ?_))))))))
    refine bW zr (bN o (r6 zr (bN o (yv zr (gD o (vb false) (DP.d0 (DP.z ?_)))))))
    obtain rfl:=oi hj
    exact⟨rfl,j.sp 2 [0,1]⟩
   refine DP.e0 zr (RL.move v1 (cg o) (bW zr ?_))
   obtain⟨ai,aj,hj⟩:=bd hj
   refine RL.bP (hg:=(cg o)) 1 j jt aj fun a5 j=>(bW zr (RL.bF (hg:=(cg o)) 0 ai j hZ fun ak j=>(bW zr (RL.move v0 (cg o) (bW zr (RL.move (vi ab) (cg o) (bW zr (RL.gQ (hg:=(cg o)) ab 1 ?_))))))))
   refine bW zr ?_
   obtain⟨al,an,hj⟩:=bd hj
   refine RL.bP (hg:=(cg o)) 2 j oz an fun a6 j=>(bW zr (RL.bF (hg:=(cg o)) 0 al j nL fun a7 j=>(bW zr ?_)))
   obtain⟨ao,aq,hj⟩:=bd hj
   refine RL.bP (hg:=(cg o)) 0 j jt aq fun a8 j=>(bW zr (RL.bF (hg:=(cg o)) 0 ao j hZ fun ar j=>(r6 zr ?_)))
   obtain⟨au,av,hj⟩:=bd hj
   refine RL.call (cg o) zr Kt [ak,ar] zr (aC (nF N (i0:=4) (i1:=0) j zr zr av) ?_)
   rintro _ w ⟨rfl,j⟩
   refine yv zr (gD o (vb au) (DP.d0 (DP.z ?_)))
   obtain rfl:=oi hj
   exact⟨rfl,j.sp 8 [6,7]⟩
  rintro _ w ⟨O,rfl,j⟩
  refine aJ (dW hb (fun hc hb=>?_) fun hc hb=>?_)
  rotate_left
  ·refine RC.ex ?_
   obtain rfl:=oi hb
   exact⟨rfl,j.sp 2 [0,1]⟩
  refine RC.sn (RC.block (RC.region (mv (vi ab) (RL.gQ ab 1 (aP (vi (IntKind.wrap .i64 (ab - 1))) (RL.nil (bQ ?_)))))))
  obtain rfl:=oi hb
  exact⟨rfl,j.sp 2 [0,1]⟩
 ·intro r _ _ _ _
  exact r.elim
 rintro ab _ w rfl ⟨O,rfl,j⟩
 rw [Fo.dQ] at hb
 refine aJ (RC.sr (aP (.slice none 0 0) (RL.ns (mv (.slice none 0 0) (mv v0 (mv (vi ab) ?_))))))
 obtain⟨a9,ax,hb⟩:=bd hb
 refine RL.cut (hl:= .inr ⟨rfl,zr⟩) 0 j oz (.inl zr) ax fun ba j=>?_
 have j:=j.cX (List aG) 23
 obtain⟨bb,ay,hb⟩:=bd hb
 refine RL.app 0 1 j Dz ay fun af w j=>?_
 refine aP af (RL.ns (mv af (mv v1 (RL.eX ([p1]: (List (List aG))) j [v1] oz Gp (fun M hs g=>⟨(g.sat 3 _ zr).1,zt⟩) fun bc w j=>?_))))
 have j:=j.freeze 0
 obtain⟨bf,az,hb⟩:=bd hb
 refine RL.app 1 0 j Dz az fun ag w j=>?_
 refine aP ag (RL.ns (mv ag (mv v0 (mv (vi ab) ?_))))
 obtain⟨bg,a0,hb⟩:=bd hb
 refine RL.cut 3 j oz (.inr ⟨rfl,zr⟩) a0 fun bh j=>?_
 obtain⟨bj,a1,hb⟩:=bd hb
 refine RL.app 2 0 j Dz a1 fun a2 w j=>?_
 refine aP a2 (RL.nt (RC.ret ?_))
 obtain rfl:=oi hb
 exact bM (j.pk 6 [2])
theorem qu {p0: (List aG)} {res: (List (List aG))} (j:Holds E w V) (h0:V[i0]? =some (rd v0 p0)) (o:gk N p0=some res):
    Calls bD 60 [v0].toArray w (gm (ll E V res)):=by
 unfold gk at o
 refine enter Tryz.func60 zr zr ?_
 have j:=j.dup (i0+0) h0
 refine RC.sr (aP (.slice none 0 0) (RL.ns (mv v0 (RL.bA 0 p0 j mS ?_))))
 obtain⟨bu,bb,o⟩:=bd o
 refine RL.mk (p0.length:Int) j KE MO bb fun af w j=>?_
 refine aP af (RL.ns (aP (.slice none 0 0) (RL.nq (RC.sr (aP (vi 0) (RL.nt ?_))))))
 obtain⟨bw,hN,o⟩:=bd o
 refine RC.iter (fun(aa: (List Bool)×(List (List aG))×Int) U w=>∃a1:Value,SH E V [(0,v0),(3,af),(4,a1),(5,vi aa.2.2)] [rd v0 p0,own 4 af aa.1,own 23 a1 aa.2.1] U w) (fun(aa: (List Bool)×(List (List aG))×Int) U w=>∃al:Value,SH E V [(4,al)] [rd v0 p0,own 4 af aa.1,own 23 al aa.2.1] U w) (fun(r:Empty) _ _=>r.elim) hN ?_ ?_ ?_ ?_
 ·have j:=j.cX (List aG) 23
  exact⟨(.slice none 0 0),j.sp 3 [2,1,0]⟩
 ·rintro aa fl _ w ⟨ah,O,rfl,j⟩ o
  refine RC.seq (RC.sr (mv (vi aa.2.2) (mv v0 (RL.bA 0 p0 j mS (ic aa.2.2 ((p0.length:Int)) (RL.nt (dW o (fun hc o=>?_) fun hc o=>?_)))))))
  rotate_left
  ·refine RC.ex ?_
   obtain rfl:=oi o
   exact⟨rfl,ah,j.sp 3 [0,1,2]⟩
  refine RC.ss (RC.block (RC.seq (RC.sr (mv af (mv (vi aa.2.2) ?_)))))
  obtain⟨bx,au,o⟩:=bd o
  refine RL.bX 1 j zr zr Ey au (RL.eH (f:=(fun x=>x)) 1 j (kJ 1 j au 0) (bE au).2.1 Fd.self Hg (RL.nt (dW o (fun hc o=>?_) fun hc o=>?_)))
  ·refine RC.ex (Iv (aJ (RC.region (mv (vi aa.2.2) (RL.gQ aa.2.2 1 (aP (vi (IntKind.wrap .i64 (aa.2.2+1))) (RL.nil ?_)))))))
   obtain rfl:=oi o
   exact⟨rfl,ah,j.sp 3 [0,1,2]⟩
  refine RC.sx (mv af (mv (vi aa.2.2) ?_))
  obtain⟨bz,av,o⟩:=bd o
  refine RL.bX 1 j zr zr Ey av ?_
  have j:=j.sc Bool true
  refine RL.gp (f:=(fun _ y=>y)) 2 0 j (kJ 2 j av 0) (bE av).2.1 zr Fs.self Hg fun w j=>?_
  refine RL.ns (mv v0 (mv (vi aa.2.2) ?_))
  obtain⟨a3,bc,o⟩:=bd o
  refine RL.bP 1 j jt bc fun b0 j=>(RL.bF 0 a3 j hZ fun bf j=>(RL.eX ([a3]: (List aG)) j [bf] jt oe (fun M hs g=>⟨(g.sat 0 _ zr).1,zt⟩) fun a4 w j=>(aP a4 (RL.nq (RC.sr (aP (vi 0) (RL.nt ?_)))))))
  obtain⟨b1,hN,o⟩:=bd o
  refine RC.iter (fun(ag: (List Bool)×(List aG)×Int) U w=>∃a5:Value,SH E V [(0,v0),(3,af),(4,ah),(5,vi aa.2.2),(6,a5),(7,vi ag.2.2)] [rd v0 p0,own 4 af ag.1,own 23 ah aa.2.1,own 51 a5 ag.2.1] U w) (fun(ag: (List Bool)×(List aG)×Int) U w=>∃an:Value,SH E V [(0,v0),(3,af),(4,ah),(5,vi aa.2.2),(6,an)] [rd v0 p0,own 4 af ag.1,own 23 ah aa.2.1,own 51 an ag.2.1] U w) (fun(r:Empty) _ _=>r.elim) hN ?_ ?_ ?_ ?_
  ·exact⟨a4,j.sp 7 [4,5,6,0]⟩
  ·rintro ag fl _ w ⟨aw,O,rfl,j⟩ o
   refine RC.seq (RC.sr (mv (vi ag.2.2) (mv aw (RL.fY 3 ag.2.1 j mS (ic ag.2.2 ((ag.2.1.length:Int)) (RL.nt (dW o (fun hc o=>?_) fun hc o=>?_)))))))
   rotate_left
   ·refine RC.ex ?_
    obtain rfl:=oi o
    exact⟨rfl,aw,j.sp 4 [0,1,2,3]⟩
   refine RC.ss (RC.bs (aP (vi 0) (RL.nt ?_)))
   obtain⟨b2,hN,o⟩:=bd o
   refine RC.iter (fun(ad: (List Bool)×(List aG)×Int) U w=>∃a6:Value,SH E V [(0,v0),(3,af),(4,ah),(5,vi aa.2.2),(6,a6),(7,vi ag.2.2),(8,vi ad.2.2)] [rd v0 p0,own 4 af ad.1,own 23 ah aa.2.1,own 51 a6 ad.2.1] U w) (fun(ad: (List Bool)×(List aG)×Int) U w=>∃ao:Value,SH E V [(0,v0),(3,af),(4,ah),(5,vi aa.2.2),(6,ao),(7,vi ag.2.2)] [rd v0 p0,own 4 af ad.1,own 23 ah aa.2.1,own 51 ao ad.2.1] U w) (fun(r:Empty) _ _=>r.elim) hN ?_ ?_ ?_ ?_
   ·exact⟨aw,j.sp 4 [0,1,2,3]⟩
   ·rintro ad fl _ w ⟨aj,O,rfl,j⟩ o
    refine RC.seq (RC.sr (mv (vi ad.2.2) (mv v0 (RL.bA 0 p0 j mS (ic ad.2.2 ((p0.length:Int)) (RL.nt (dW o (fun hc o=>?_) fun hc o=>?_)))))))
    rotate_left
    ·refine RC.ex ?_
     obtain rfl:=oi o
     exact⟨rfl,aj,j.sp 4 [0,1,2,3]⟩
    refine RC.ss (RC.block (RC.seq ?_))
    obtain⟨ax,hj,o⟩:=bd o
    refine RC.jn (fun(ax:Bool)=>SH E V [(0,v0),(3,af),(4,ah),(5,vi aa.2.2),(6,aj),(7,vi ag.2.2),(8,vi ad.2.2),(57,vb ax)] [rd v0 p0,own 4 af ad.1,own 23 ah aa.2.1,own 51 aj ad.2.1]) ax ?_ ?_
    ·refine RC.xq mixed [0,0,0,0,0,0,0,0,0,0,0,0,0,0,2,0] [0,1,2,3,4,5,6,7,8,9,10,11,12,13,14,15] ?_
     have j:=j.drew
     refine DP.e0 zr (mv af (bW zr (mv (vi ad.2.2) (bW zr ?_))))
     obtain⟨a7,ay,hj⟩:=bd hj
     refine RL.bX 1 j zr zr Ey ay (bW zr (RL.eH (f:=(fun x=>x)) 1 j (kJ 1 j ay 0) (bE ay).2.1 Fd.self Hg (bW zr (RL.not a7 (bW zr (mv (vb (!a7)) (DP.d0 (gu hj (fun ae hj=>?_) fun ae hj=>?_))))))))
     rotate_left
     ·refine DP.e0 zr (bN ae (bW zr (bN ae (bW zr (bN ae (bW zr (bN ae (bW zr ?_))))))))
      refine bN ae (bW zr (bN ae (bW zr (bN ae (bW zr (bN ae (r6 zr (bN ae ?_))))))))
      refine yv zr (gD ae (vb false) (DP.d0 (DP.z ?_)))
      obtain rfl:=oi hj
      exact⟨rfl,j.sp 4 [0,1,2,3]⟩
     refine DP.e0 zr (RL.move aj (cg ae) (bW zr (RL.move (vi ag.2.2) (cg ae) (bW zr ?_))))
     obtain⟨b3,az,hj⟩:=bd hj
     refine RL.bX (hg:=(cg ae)) 3 j zr zr jt az (bW zr (RL.ld (hg:=(cg ae)) (f:=(fun x=>x)) 3 j (kJ 3 j az 0) (bE az).2.1 Fd.self hZ fun bg j=>?_))
     refine bW zr (RL.move v0 (cg ae) (bW zr (RL.move (vi ad.2.2) (cg ae) (bW zr ?_))))
     obtain⟨bh,bj,hj⟩:=bd hj
     refine RL.bP (hg:=(cg ae)) 1 j jt bj fun b4 j=>(bW zr (RL.bF (hg:=(cg ae)) 0 bh j hZ fun bk j=>(r6 zr ?_)))
     obtain⟨bl,bm,hj⟩:=bd hj
     refine RL.call (cg ae) zr Mf [bg,bk] zr (aC (sG N (i0:=2) (i1:=0) j zr zr bm) ?_)
     rintro _ w ⟨rfl,j⟩
     refine yv zr (gD ae (vb bl) (DP.d0 (DP.z ?_)))
     obtain rfl:=oi hj
     exact⟨rfl,j.sp 7 [3,4,5,6]⟩
    rintro _ w ⟨O,rfl,j⟩
    refine aJ ?_
    obtain⟨aq,hj,o⟩:=bd o
    refine RC.jn (fun(aq: (List Bool)×(List aG)) U w=>∃ar:Value,SH E V [(0,v0),(3,af),(4,ah),(5,vi aa.2.2),(6,ar),(7,vi ag.2.2),(8,vi ad.2.2)] [rd v0 p0,own 4 af aq.1,own 23 ah aa.2.1,own 51 ar aq.2] U w) aq ?_ ?_
    ·refine dW hj (fun hc hj=>?_) fun hc hj=>?_
     rotate_left
     ·refine RC.skip ?_
      obtain rfl:=oi hj
      exact⟨rfl,aj,j.sp 4 [0,1,2,3]⟩
     refine RC.sr (mv af (mv (vi ad.2.2) ?_))
     obtain⟨b5,a0,hj⟩:=bd hj
     refine RL.bX 1 j zr zr Ey a0 ?_
     have j:=j.sc Bool true
     refine RL.gp (f:=(fun _ y=>y)) 2 0 j (kJ 2 j a0 0) (bE a0).2.1 zr Fs.self Hg fun w j=>?_
     refine RL.nt (RC.region (mv aj (mv v0 (mv (vi ad.2.2) ?_))))
     obtain⟨a8,bn,hj⟩:=bd hj
     refine RL.bP 1 j jt bn fun b6 j=>(RL.bF 0 a8 j hZ fun bo j=>(RL.eX ([a8]: (List aG)) j [bo] jt oe (fun M hs g=>⟨(g.sat 0 _ zr).1,zt⟩) fun b7 w j=>?_))
     have j:=j.freeze 0
     obtain⟨b8,bp,hj⟩:=bd hj
     refine RL.app 7 0 j yQ bp fun a9 w j=>?_
     refine aP a9 (RL.nil ?_)
     obtain rfl:=oi hj
     exact⟨rfl,a9,j.sp 8 [4,5,6,7]⟩
    rintro _ w ⟨ar,O,rfl,j⟩
    refine bQ (aJ (RC.region (mv (vi ad.2.2) (RL.gQ ad.2.2 1 (aP (vi (IntKind.wrap .i64 (ad.2.2+1))) (RL.nil ?_))))))
    obtain rfl:=oi o
    exact⟨rfl,ar,j.sp 4 [0,1,2,3]⟩
   ·intro r _ _ _ _
    exact r.elim
   rintro ad _ w rfl ⟨ao,O,rfl,j⟩
   rw [Fo.dQ] at o
   refine bQ (aJ (RC.region (mv (vi ag.2.2) (RL.gQ ag.2.2 1 (aP (vi (IntKind.wrap .i64 (ag.2.2+1))) (RL.nil ?_))))))
   obtain rfl:=oi o
   exact⟨rfl,ao,j.sp 4 [0,1,2,3]⟩
  ·intro r _ _ _ _
   exact r.elim
  rintro ag _ w rfl ⟨an,O,rfl,j⟩
  rw [Fo.dQ] at o
  refine aJ (RC.region (mv ah (mv an ?_)))
  have j:=j.freeze 3
  obtain⟨b9,bq,o⟩:=bd o
  refine RL.call zt zr I3 [an] zr (aC (jO N (i0:=3) j zr bq) ?_)
  rintro br w j
  have j:=(j.freeze 3).freeze 0
  obtain⟨ca,bt,o⟩:=bd o
  refine RL.call zt zr Mg [ah,br] zr (aC (rH N (i0:=3) (i1:=0) j zr zr bt) ?_)
  rintro ba w j
  refine aP ba (RL.nil (bQ (aJ (RC.region (mv (vi aa.2.2) (RL.gQ aa.2.2 1 (aP (vi (IntKind.wrap .i64 (aa.2.2+1))) (RL.nil ?_))))))))
  obtain rfl:=oi o
  exact⟨rfl,ba,j.sp 6 [2,3,0]⟩
 ·intro r _ _ _ _
  exact r.elim
 rintro aa _ w rfl ⟨al,O,rfl,j⟩
 rw [Fo.dQ] at o
 refine aJ (RC.sr (mv al (aP al (RL.nt (RC.ret ?_)))))
 obtain rfl:=oi o
 exact bM (j.pk 3 [2])
def kA (E:World) (V:List HP) (r:Int) (U:Nat->Value) (w:World):Prop:=l6 bD 72 Tryz.f27 (aU E V r) .ret U w
theorem mP {p0:fu} (j:Holds E w V) (h0:V[i0]? =some (rd v0 p0)) (o:cW N p0=some res):
    Calls bD 27 [v0].toArray w (gm (aU E V res)):=by
 unfold cW at o
 refine enter Tryz.func27 zr zr ?_
 have j:=j.dup (i0+0) h0
 refine RC.sr (RL.dA 0 v0 j zr fun af w j=>?_)
 have j:=j.mC (i:=0) rfl
 refine aP (vi 0) (RL.nq (RC.sr (RL.bF 0 p0 j eJ fun au j=>?_)))
 obtain⟨ai,av,o⟩:=bd o
 refine RL.call zt zr L9 [au] zr (aC (pG N (i0:=0) j zr av) ?_)
 rintro _ w ⟨rfl,j⟩
 refine aP (vi ai) (RL.ns (mv (vi ai) (ic ai 0 (RL.nt (dW o (fun hc o=>?_) fun hc o=>?_)))))
 ·refine RC.sr (mv (vi ai) (aP (vi ai) (RL.nt (RC.rt ?_))))
  obtain rfl:=oi o
  exact bM ⟨rfl,j.drop 3⟩
 refine RC.ss (RC.sr (aP (vi 0) (RL.nt ?_)))
 obtain⟨bm,hN,o⟩:=bd o
 refine RC.iter (fun(ae:Int)=>SH E V [(1,vp af 0),(4,vi ae)] [pt (vp af 0) p0]) (fun(ae:Int)=>SH E V [(1,vp af 0)] [pt (vp af 0) p0]) (kA E V) hN ?_ ?_ ?_ ?_
 ·exact j.sp 3 [1]
 ·rintro ae fl _ w ⟨O,rfl,j⟩ o
  refine RC.seq (RC.sr (mv (vi ae) (RL.eT 0 j zr jm hU fun bn j=>(RL.bF 0 p0.aR j o4 fun bo j=>(RL.bA 0 p0.aR j tF (ic ae ((p0.aR.length:Int)) (RL.nt (dW o (fun hc o=>?_) fun hc o=>?_))))))))
  rotate_left
  ·refine RC.ex ?_
   obtain rfl:=oi o
   exact⟨rfl,j.sp 3 [2]⟩
  refine RC.ss (RC.bs (aP (vi 0) (RL.nt ?_)))
  obtain⟨bp,hN,o⟩:=bd o
  refine RC.iter (fun(ah:Int)=>SH E V [(1,vp af 0),(4,vi ae),(5,vi ah)] [pt (vp af 0) p0]) (fun(ah:Int)=>SH E V [(1,vp af 0),(4,vi ae)] [pt (vp af 0) p0]) (kA E V) hN ?_ ?_ ?_ ?_
  ·exact j.sp 3 [2]
  ·rintro ah fl _ w ⟨O,rfl,j⟩ o
   refine RC.seq (RC.sr (mv (vi ah) (mv (vi ae) (ic ah ae (RL.nt (dW o (fun hc o=>?_) fun hc o=>?_))))))
   rotate_left
   ·refine RC.ex ?_
    obtain rfl:=oi o
    exact⟨rfl,j.sp 1 [0]⟩
   refine RC.ss (RC.block (RC.seq ?_))
   obtain⟨an,hj,o⟩:=bd o
   refine RC.jn (fun(an:Bool)=>SH E V [(1,vp af 0),(4,vi ae),(5,vi ah),(51,vb an)] [pt (vp af 0) p0]) an ?_ ?_
   ·refine RC.xq mixed [0,0,0,0,0,0,0,0,0,0,2,0,0,0,0,0,0,2,1,1,1,1,1,2,2,0] [0,1,2,3,4,5,6,7,8,9,10,11,12,13,14,15,16,18,19,20,21,22,17,23,24,25] ?_
    have j:=j.drew
    refine DP.e0 zr (RL.eT 0 j zr jm hU fun bq j=>(bW zr (RL.bF 0 p0.aR j o4 fun br j=>(bW zr (mv (vi ae) (bW zr ?_))))))
    obtain⟨aw,ax,hj⟩:=bd hj
    refine RL.bP 0 j tg ax fun bt j=>(bW zr (RL.bF 0 aw j mJ fun ay j=>(bW zr (RL.eT 4 j zr jm hU fun bu j=>(bW zr (RL.bF 0 p0.aR j o4 fun bw j=>(bW zr (mv (vi ah) ?_))))))))
    refine bW zr ?_
    obtain⟨az,a0,hj⟩:=bd hj
    refine RL.bP 0 j tg a0 fun bx j=>(bW zr (RL.bF 0 az j mJ fun a1 j=>(r6 zr ?_)))
    obtain⟨a2,a3,hj⟩:=bd hj
    refine RL.call zt zr Ma [ay,a1] zr (aC (rG N (i0:=4) (i1:=0) j zr zr a3) ?_)
    rintro _ w ⟨rfl,j⟩
    refine yv zr (mv (vb a2) (DP.d0 (gu hj (fun aa hj=>?_) fun aa hj=>?_)))
    rotate_left
    ·refine DP.e0 zr (bN aa (bW zr (bN aa (bW zr (bN aa (bW zr (bN aa (bW zr ?_))))))))
     refine bN aa (DP.d0 (DP.e1 undef zr (fun w=>bN aa DP.d1) (DP.e1 undef zr (fun w=>bN aa DP.d1) (DP.e1 undef zr (fun w=>bN aa DP.d1) (DP.e1 undef zr (fun w=>bN aa DP.d1) (DP.e1 undef zr (fun w=>bN aa DP.d1) (DP.e2 zr (bN aa ?_))))))))
     refine Hf zr (bN aa (Hf zr (bN aa (yv zr (gD aa (vb false) (DP.d0 (DP.z ?_)))))))
     obtain rfl:=oi hj
     exact⟨rfl,j.sp 9 [8]⟩
    refine DP.e0 zr (RL.eT (hg:=(cg aa)) 8 j zr jm hU fun bz j=>(bW zr (RL.bF (hg:=(cg aa)) 0 p0.aR j o4 fun b0 j=>(bW zr (RL.move (vi ae) (cg aa) (bW zr ?_))))))
    obtain⟨a4,a5,hj⟩:=bd hj
    refine RL.bP (hg:=(cg aa)) 0 j tg a5 fun b1 j=>(bW zr (RL.bF (hg:=(cg aa)) 0 a4 j mJ fun a6 j=>(DP.d0 (DP.Cr 12 zr (cg aa) j zr jm hU fun b2 j=>(DP.yN p0.aR 0 zr (cg aa) j o4 fun b3 a704 b4 j=>(DP.e1 (vi ah) zr (fun w=>RL.move (vi ah) (cg aa) DP.d1) ?_))))))
    obtain⟨a7,a8,hj⟩:=bd hj
    refine DP.vv (hg:=(cg aa)) 1 zr j tg a8 fun b5 j=>(DP.yN a7 0 zr (cg aa) j mJ fun a9 a709 b6 j=>(DP.e2 zr ?_))
    obtain⟨b7,ba,hj⟩:=bd hj
    refine RL.call (cg aa) zr HG [a6] zr (aC (iO N (i0:=6) j zr ba) ?_)
    rintro bb w j
    refine DP.d2 (⟨⟨zt,j.iu 4⟩,j.iu 1⟩) (DP.e2 zr ?_)
    obtain⟨b8,bc,hj⟩:=bd hj
    refine RL.call (cg aa) zr HG [a9] zr (aC (iO N (i0:=2) j zr bc) ?_)
    rintro bf w j
    refine DP.d2 (⟨⟨zt,j.iu 5⟩,j.iu 2⟩) (DP.e2 zr ?_)
    obtain⟨bg,bh,hj⟩:=bd hj
    refine RL.call (cg aa) zr Mb [bb,bf] zr (aC (qW N (i0:=1) (i1:=0) j zr zr bh) ?_)
    rintro _ w ⟨rfl,j⟩
    refine DP.d2 (⟨⟨zt,j.iu 5⟩,j.iu 2⟩) (DP.e0 zr (gD aa (vb bg) (DP.d0 ?_)))
    have j:=j.pl 21 [0,1,3,4,6,7,8,9,10,11,12,13,14,15,16,17,18,19,20]
    refine DP.z ?_
    obtain rfl:=oi hj
    exact⟨rfl,j.sp 19 [18]⟩
   rintro _ w ⟨O,rfl,j⟩
   refine aJ (dW o (fun hc o=>?_) fun hc o=>?_)
   ·refine RC.sr (aP (vi 12) (RL.nt (RC.rb (bL ?_))))
    obtain rfl:=oi o
    exact⟨rfl,bM ⟨rfl,j.drop 1⟩⟩
   refine RC.skip (bQ (aJ (RC.region (mv (vi ah) (RL.gQ ah 1 (aP (vi (IntKind.wrap .i64 (ah+1))) (RL.nil ?_)))))))
   obtain rfl:=oi o
   exact⟨rfl,j.sp 1 [0]⟩
  ·intro r U w e hK
   subst e
   refine nS (bL ?_)
   obtain rfl:=oi o
   exact⟨rfl,hK⟩
  rintro ah _ w rfl ⟨O,rfl,j⟩
  rw [Fo.dQ] at o
  refine bQ (aJ (RC.region (mv (vi ae) (RL.gQ ae 1 (aP (vi (IntKind.wrap .i64 (ae+1))) (RL.nil ?_))))))
  obtain rfl:=oi o
  exact⟨rfl,j.sp 1 [0]⟩
 ·intro r U w e hK
  subst e
  refine bL ?_
  obtain rfl:=oi o
  exact hK
 rintro ae _ w rfl ⟨O,rfl,j⟩
 rw [Fo.dQ] at o
 refine aJ (RC.sr (aP (vi 0) (RL.nq (RC.sr (aP (vi 0) (RL.nt ?_))))))
 obtain⟨b9,hN,o⟩:=bd o
 refine RC.iter (fun(ad:Int×Int)=>SH E V [(1,vp af 0),(6,vi ad.1),(7,vi ad.2)] [pt (vp af 0) p0]) (fun(ad:Int×Int)=>SH E V [(6,vi ad.1)] [pt (vp af 0) p0]) (kA E V) hN ?_ ?_ ?_ ?_
 ·exact j.sp 1 [0]
 ·rintro ad fl _ w ⟨O,rfl,j⟩ o
  refine RC.seq (RC.sr (mv (vi ad.2) (RL.eT 0 j zr fB dX fun ca j=>(RL.bF 0 p0.aI j lk fun cb j=>(RL.bA 0 p0.aI j oN (ic ad.2 ((p0.aI.length:Int)) (RL.nt (dW o (fun hc o=>?_) fun hc o=>?_))))))))
  rotate_left
  ·refine RC.ex ?_
   obtain rfl:=oi o
   exact⟨rfl,j.sp 3 [2]⟩
  refine RC.ss (RC.bs (RL.bF 2 p0 j eJ fun bj j=>(mv (vi ad.2) ?_)))
  obtain⟨ar,bk,o⟩:=bd o
  refine RL.call zt zr Me [bj,(vi ad.2)] zr (aC (p6 N (p1:=ad.2) (i0:=0) j zr bk) ?_)
  rintro al w j
  refine aP al (RL.nq (RC.sr (mv al (RL.fY 0 ar j mS (ic ((ar.length:Int)) 2000 (RL.nt (dW o (fun hc o=>?_) fun hc o=>?_)))))))
  ·refine RC.sr (aP (vi 2) (RL.nt (RC.rt (nS (bL ?_)))))
   obtain rfl:=oi o
   exact⟨rfl,bM ⟨rfl,j.drop 5⟩⟩
  refine RC.sn (RC.region (mv (vi ad.1) (mv al ?_)))
  have j:=j.freeze 0
  obtain⟨ao,bl,o⟩:=bd o
  refine RL.call zt zr Mh [al] zr (aC (qu N (i0:=0) j zr bl) ?_)
  rintro cc w j
  refine RL.fY 0 ao j oN (RL.gQ ad.1 (ao.length:Int) (aP (vi (IntKind.wrap .i64 (ad.1+ (ao.length:Int)))) (RL.nil (bQ (aJ (RC.region (mv (vi ad.2) (RL.gQ ad.2 1 ?_))))))))
  refine aP (vi (IntKind.wrap .i64 (ad.2+1))) (RL.nil ?_)
  obtain rfl:=oi o
  exact⟨rfl,j.sp 6 [5]⟩
 ·intro r U w e hK
  subst e
  refine bL ?_
  obtain rfl:=oi o
  exact hK
 rintro ad _ w rfl ⟨O,rfl,j⟩
 rw [Fo.dQ] at o
 refine aJ (RC.seq (RC.sr (mv (vi ad.1) (ic ad.1 2000 (RL.nt (dW o (fun hc o=>?_) fun hc o=>?_))))))
 ·refine RC.sr (aP (vi 2) (RL.nt (RC.rt ?_)))
  obtain rfl:=oi o
  exact bM ⟨rfl,j.drop 1⟩
 refine RC.sx (aP (vi 0) (RL.nt (RC.ret ?_)))
 obtain rfl:=oi o
 exact bM ⟨rfl,j.drop 1⟩
theorem qY {p0: (List aG)} {p1: (List aG)} {res: (List aG)} (j:Holds E w V) (h0:V[i0]? =some (rd v0 p0)) (h1:V[i1]? =some (rd v1 p1)) (o:iQ N p0 p1=some res):
    Calls bD 31 [v0,v1].toArray w (gm (eN E V res)):=by
 unfold iQ at o
 refine enter Tryz.func31 zr zr ?_
 have j:=(j.dup (i0+0) h0).dup (i1+1) h1
 refine RC.sr (aP (.slice none 0 0) (RL.ns (mv v0 (mv v1 ?_))))
 obtain⟨ad,aa,o⟩:=bd o
 refine RL.call zt zr KC [v0,v1,(vi 1)] zr (aC (mO N (p2:=1) (i0:=1) (i1:=0) j zr zr aa) ?_)
 rintro ab w j
 refine aP ab (RL.nt (RC.ret ?_))
 obtain rfl:=oi o
 exact bM (j.pk 3 [0])
theorem m8 {p0:fu} {p2: (List aG)} {p3:Bool} {res:fu×Int} (o:Holds E w V) (h0:V[i0]? =some (rd v0 p0)) (h2:V[i2]? =some (rd v2 p2)) (hb:gF N p0 p1 p2 p3=some res):
    Calls bD 12 [v0,(vi p1),v2,(vb p3)].toArray w (gm (fC E V res)):=by
 unfold gF at hb
 refine enter Tryz.func12 zr zr ?_
 have o:=(o.dup (i0+0) h0).dup (i2+1) h2
 refine RC.sr (RL.dA 1 v0 o zr fun ak w o=>?_)
 refine RL.alloc o yP.z fun ai w o=>?_
 refine aP (vi 0) (RL.nq (RC.sr (RL.aV (f:=(fun x=>x)) 1 o zr Fd.self eJ fun a6 o=>?_)))
 obtain⟨al,a7,hb⟩:=bd hb
 refine RL.call zt zr KF [a6] zr (aC (mP N (i0:=0) o zr a7) ?_)
 rintro _ w ⟨rfl,o⟩
 refine aP (vi al) (RL.ns (mv (vi al) (ic al 0 (RL.nt (dW hb (fun hc hb=>?_) fun hc hb=>?_)))))
 ·refine RC.sr (RL.mQ [(.slice none 0 0),(.slice none 0 0),(.slice none 0 0),(.slice none 0 0)] [(.slice none 0 0),(.slice none 0 0),(.slice none 0 0),(.slice none 0 0)] [] vz (mv (vi al) ?_))
  have o:=((((o.cO (List aG)).cO aG).cO bJ).cO cU).mR (cs:=[(.slice none 0 0),(.slice none 0 0),(.slice none 0 0),(.slice none 0 0)]) (x:=(⟨([]: (List (List aG))),([]: (List aG)),([]: (List bJ)),([]: (List cU))⟩:fu)) (fun M hs g=>⟨[(.slice none 0 0)],[(.slice none 0 0),(.slice none 0 0),(.slice none 0 0)],rfl,(cB (g.sat 3 _ rfl).1),⟨[(.slice none 0 0)],[(.slice none 0 0),(.slice none 0 0)],rfl,(cB (g.sat 2 _ rfl).1),⟨[(.slice none 0 0)],[(.slice none 0 0)],rfl,(cB (g.sat 1 _ rfl).1),(cB (g.sat 0 _ rfl).1)⟩⟩⟩) rfl
  refine RL.aY 6 o 0 zr eJ fun w o=>?_
  refine aP (vi al) (RL.nt (RC.rt ?_))
  obtain rfl:=oi hb
  exact kB 6 o eJ fun a8 o=>⟨a8,zr,o.pk 11 [0]⟩
 refine RC.ss (RC.sr (mv (vi p1) (RL.aX zr fB (RL.aV 2 o zr dX lk fun b4 o=>(RL.bA 0 p0.aI o oN (RL.gQ (p0.aI.length:Int) 1 ?_))))))
 obtain⟨a9,ba,hb⟩:=bd hb
 refine RL.call zt zr Fe [(vi p1),(vi 0),(vi (IntKind.wrap .i64 ((p0.aI.length:Int) - 1)))] zr (aC (fX N (p0:=p1) (p1:=0) (p2:=(IntKind.wrap .i64 ((p0.aI.length:Int) - 1))) o ba) ?_)
 rintro _ w ⟨rfl,o⟩
 refine RL.not a9 (RL.nt (dW hb (fun hc hb=>?_) fun hc hb=>?_))
 ·refine RC.sr (RL.mQ [(.slice none 0 0),(.slice none 0 0),(.slice none 0 0),(.slice none 0 0)] [(.slice none 0 0),(.slice none 0 0),(.slice none 0 0),(.slice none 0 0)] [] vz ?_)
  have o:=((((o.cO (List aG)).cO aG).cO bJ).cO cU).mR (cs:=[(.slice none 0 0),(.slice none 0 0),(.slice none 0 0),(.slice none 0 0)]) (x:=(⟨([]: (List (List aG))),([]: (List aG)),([]: (List bJ)),([]: (List cU))⟩:fu)) (fun M hs g=>⟨[(.slice none 0 0)],[(.slice none 0 0),(.slice none 0 0),(.slice none 0 0)],rfl,(cB (g.sat 3 _ rfl).1),⟨[(.slice none 0 0)],[(.slice none 0 0),(.slice none 0 0)],rfl,(cB (g.sat 2 _ rfl).1),⟨[(.slice none 0 0)],[(.slice none 0 0)],rfl,(cB (g.sat 1 _ rfl).1),(cB (g.sat 0 _ rfl).1)⟩⟩⟩) rfl
  refine RL.aY 7 o 0 zr eJ fun w o=>?_
  refine aP (vi 9) (RL.nt (RC.rt ?_))
  obtain rfl:=oi hb
  exact kB 7 o eJ fun bb o=>⟨bb,zr,o.pk 12 [0]⟩
 refine RC.ss (RC.sr (mv v2 ?_))
 obtain⟨an,bf,hb⟩:=bd hb
 refine RL.call zt zr I5 [v2] zr (aC (jo N (i0:=4) o zr bf) ?_)
 rintro _ w ⟨rfl,o⟩
 refine aP (vi an) (RL.ns (mv (vi an) (ic an 0 (RL.nt (dW hb (fun hc hb=>?_) fun hc hb=>?_)))))
 ·refine RC.sr (RL.mQ [(.slice none 0 0),(.slice none 0 0),(.slice none 0 0),(.slice none 0 0)] [(.slice none 0 0),(.slice none 0 0),(.slice none 0 0),(.slice none 0 0)] [] vz (mv (vi an) ?_))
  have o:=((((o.cO (List aG)).cO aG).cO bJ).cO cU).mR (cs:=[(.slice none 0 0),(.slice none 0 0),(.slice none 0 0),(.slice none 0 0)]) (x:=(⟨([]: (List (List aG))),([]: (List aG)),([]: (List bJ)),([]: (List cU))⟩:fu)) (fun M hs g=>⟨[(.slice none 0 0)],[(.slice none 0 0),(.slice none 0 0),(.slice none 0 0)],rfl,(cB (g.sat 3 _ rfl).1),⟨[(.slice none 0 0)],[(.slice none 0 0),(.slice none 0 0)],rfl,(cB (g.sat 2 _ rfl).1),⟨[(.slice none 0 0)],[(.slice none 0 0)],rfl,(cB (g.sat 1 _ rfl).1),(cB (g.sat 0 _ rfl).1)⟩⟩⟩) rfl
  refine RL.aY 7 o 0 zr eJ fun w o=>?_
  refine aP (vi an) (RL.nt (RC.rt ?_))
  obtain rfl:=oi hb
  exact kB 7 o eJ fun bg o=>⟨bg,zr,o.pk 12 [0]⟩
 refine RC.sx (RL.aX zr fB (RL.aV 3 o zr dX lk fun b5 o=>(mv (vi p1) ?_)))
 obtain⟨bh,bj,hb⟩:=bd hb
 refine RL.bP 0 o oz bj fun b6 o=>(RL.bF 0 bh o nL fun bk o=>(mv v2 ?_))
 obtain⟨b7,bl,hb⟩:=bd hb
 refine RL.call zt zr KD [bk,v2] zr (aC (m7 N (i0:=0) (i1:=7) o zr zr bl) ?_)
 rintro az w o
 refine aP az (RL.nq (RC.sr (mv (vb p3) (RL.nt ?_))))
 obtain⟨ao,hj,hb⟩:=bd hb
 refine RC.jn (fun(ao: (List aG)) U w=>∃aq:Value,SH E V [(1,vi p1),(4,vp ak 0),(8,vp ai 0),(12,aq)] [bx 27 ak p0,raw 27 ai 4,own 51 aq ao] U w) ao ?_ ?_
 ·refine dW hj (fun hc hj=>?_) fun hc hj=>?_
  rotate_left
  ·refine RC.skip ?_
   obtain rfl:=oi hj
   exact⟨rfl,az,o.sp 10 [7,6,0]⟩
  refine RC.region (RL.aX zr fB (RL.aV 7 o zr dX lk fun b8 o=>(mv (vi p1) ?_)))
  obtain⟨bm,bn,hj⟩:=bd hj
  refine RL.bP 0 o oz bn fun b9 o=>(RL.bF 0 bm o nL fun bo o=>(mv v2 ?_))
  obtain⟨ca,bp,hj⟩:=bd hj
  refine RL.call zt zr Mi [bo,v2] zr (aC (qY N (i0:=0) (i1:=11) o zr zr bp) ?_)
  rintro a0 w o
  refine aP a0 (RL.nil ?_)
  obtain rfl:=oi hj
  exact⟨rfl,a0,o.sp 14 [11,10,0]⟩
 rintro _ w ⟨aq,O,rfl,o⟩
 refine aJ (RC.seq (RC.sr (mv aq (RL.fY 2 ao o mS (ic ((ao.length:Int)) 2000 (RL.nt (dW hb (fun hc hb=>?_) fun hc hb=>?_)))))))
 ·refine RC.sr (RL.mQ [(.slice none 0 0),(.slice none 0 0),(.slice none 0 0),(.slice none 0 0)] [(.slice none 0 0),(.slice none 0 0),(.slice none 0 0),(.slice none 0 0)] [] vz ?_)
  have o:=((((o.cO (List aG)).cO aG).cO bJ).cO cU).mR (cs:=[(.slice none 0 0),(.slice none 0 0),(.slice none 0 0),(.slice none 0 0)]) (x:=(⟨([]: (List (List aG))),([]: (List aG)),([]: (List bJ)),([]: (List cU))⟩:fu)) (fun M hs g=>⟨[(.slice none 0 0)],[(.slice none 0 0),(.slice none 0 0),(.slice none 0 0)],rfl,(cB (g.sat 3 _ rfl).1),⟨[(.slice none 0 0)],[(.slice none 0 0),(.slice none 0 0)],rfl,(cB (g.sat 2 _ rfl).1),⟨[(.slice none 0 0)],[(.slice none 0 0)],rfl,(cB (g.sat 1 _ rfl).1),(cB (g.sat 0 _ rfl).1)⟩⟩⟩) rfl
  refine RL.aY 6 o 0 zr eJ fun w o=>?_
  refine aP (vi 2) (RL.nt (RC.rt ?_))
  obtain rfl:=oi hb
  exact kB 6 o eJ fun bq o=>⟨bq,zr,o.pk 9 [0]⟩
 refine RC.sx (RL.aV (f:=(fun x=>x)) 0 o zr Fd.self eJ fun cb o=>(RL.pP o HF fun aj w o=>?_))
 refine RL.E0 (i:=0) (j:=1) zt o zr zr zr zr eJ zr fun w o=>?_
 obtain⟨cs,hcs,o⟩:=o.Eb (i:=0) rfl
 obtain⟨cc,ah,af,ag,rfl⟩:=ID hcs
 have o:=(((o.mN (i:=0) (k:=0) (f:=fun x=>x.aI) rfl dX rfl rfl rfl).mN (i:=1) (k:=1) (f:=fun x=>x.bZ) rfl nV rfl rfl rfl).mN (i:=2) (k:=2) (f:=fun x=>x.aR) rfl hU rfl rfl rfl).mN (i:=3) (k:=3) (f:=fun x=>x.bI) rfl lC rfl rfl rfl
 refine RL.ns (RL.aX zr fB (RL.gW 5 (.slice none 0 0) o zr zr zr lk fun w o=>?_))
 refine RL.nq (RC.sr (aP (vi 0) (RL.nt ?_)))
 obtain⟨cd,hN,hb⟩:=bd hb
 refine RC.iter (fun(ad: (List aG)×(List (List aG))×Int) U w=>∃a1 a2:Value,SH E V [(1,vi p1),(4,vp ak 0),(8,vp ai 0),(12,a2),(13,vp aj 0),(14,vi ad.2.2)] [bx 27 ak p0,raw 27 ai 4,bc 27 aj [a1,ah,af,ag],own 23 a1 ad.2.1,rd ah p0.bZ,rd af p0.aR,rd ag p0.bI,rd a2 ad.1] U w) (fun(ad: (List aG)×(List (List aG))×Int) U w=>∃aw:Value,SH E V [(8,vp ai 0),(13,vp aj 0)] [bx 27 ak p0,raw 27 ai 4,bc 27 aj [aw,ah,af,ag],own 23 aw ad.2.1,rd ah p0.bZ,rd af p0.aR,rd ag p0.bI] U w) (fun(r:Empty) _ _=>r.elim) hN ?_ ?_ ?_ ?_
 ·have o:=(o.freeze 9).cX (List aG) 23
  exact⟨(.slice none 0 0),aq,o.sp 11 [8,9,6,0,3,2,1,10]⟩
 ·rintro ad fl _ w ⟨ar,au,O,rfl,o⟩ hb
  refine RC.seq (RC.sr (mv (vi ad.2.2) (RL.aX zr fB (RL.aV 0 o zr dX lk fun cg o=>(RL.bA 0 p0.aI o oN (ic ad.2.2 ((p0.aI.length:Int)) (RL.nt (dW hb (fun hc hb=>?_) fun hc hb=>?_))))))))
  rotate_left
  ·refine RC.ex ?_
   obtain rfl:=oi hb
   exact⟨rfl,ar,o.sp 9 [1,2,3,4,5,6,7]⟩
  refine RC.ss (RC.bs (mv (vi ad.2.2) (mv (vi p1) (ic ad.2.2 p1 (RL.nt ?_)))))
  obtain⟨ay,hj,hb⟩:=bd hb
  refine RC.jn (fun(ay: (List (List aG))) U w=>∃ax:Value,SH E V [(1,vi p1),(4,vp ak 0),(8,vp ai 0),(12,au),(13,vp aj 0),(14,vi ad.2.2)] [bx 27 ak p0,raw 27 ai 4,rd au ad.1,bc 27 aj [ax,ah,af,ag],own 23 ax ay,rd ah p0.bZ,rd af p0.aR,rd ag p0.bI] U w) ay ?_ ?_
  ·refine dW hj (fun hc hj=>?_) fun hc hj=>?_
   ·refine RC.region (RL.aX zr fB (RL.cA 3 ar o lk (mv au (RL.eX ([ad.1]: (List (List aG))) o [au] oz Gp (fun M hs g=>⟨(g.sat 8 _ zr).1,zt⟩) fun ch w o=>?_))))
    have o:=o.freeze 0
    obtain⟨cj,bt,hj⟩:=bd hj
    refine RL.app 5 0 o Dz bt fun a3 w o=>?_
    refine RL.aX zr fB (RL.gW 4 a3 o zr zr (eM 5 o) lk fun w o=>?_)
    refine RL.nil ?_
    obtain rfl:=oi hj
    exact⟨rfl,a3,o.sp 10 [2,3,9,4,5,6,7,8]⟩
   have o:=o.drew
   refine RC.Dw (fun w=>Holds E w ([bc 27 aj [ar,ah,af,ag]]++V)) mixed zr [1,1,0,0,0,0,0,2,2,0,2] [0,1,2,3,4,5,6,7,8,9,10] (o.pk 9 [3]) (DP.e1 (vp aj 0) zr (fun w=>RL.aX zr fB DP.d1) (DP.He ar zr (fun w o=>RL.cA 0 ar o lk DP.d1) (DP.e0 zr (RL.aX zr fB (bW zr (RL.aV 1 o zr dX lk fun ck o=>(bW zr (mv (vi ad.2.2) ?_))))))))
   refine bW zr ?_
   obtain⟨a4,bu,hj⟩:=bd hj
   refine RL.bP 0 o oz bu fun cl o=>(bW zr (RL.bF 0 a4 o nL fun bw o=>(r6 zr (RL.eX ([a4]: (List (List aG))) o [bw] oz Gp (fun M hs g=>⟨(g.sat 0 _ zr).1,zt⟩) fun cm w o=>(DP.d2 (o.pk 13 [7]) (DP.e2 zr ?_))))))
   have o:=o.freeze 0
   obtain⟨cn,bz,hj⟩:=bd hj
   refine RL.app 8 0 o Dz bz fun a5 w o=>?_
   refine DP.d2 (o.pk 13 [7]) (DP.e0 zr (RL.aX zr fB (DP.d0 (DP.La zr zr (RL.gW 7 a5 o zr zr (eM 8 o) lk fun w o=>?_)))))
   refine DP.d2 zt (DP.z ?_)
   obtain rfl:=oi hj
   exact⟨rfl,a5,o.sp 13 [5,6,12,7,8,9,10,11]⟩
  rintro _ w ⟨ax,O,rfl,o⟩
  refine bQ (aJ (RC.region (mv (vi ad.2.2) (RL.gQ ad.2.2 1 (aP (vi (IntKind.wrap .i64 (ad.2.2+1))) (RL.nil ?_))))))
  obtain rfl:=oi hb
  exact⟨rfl,ax,au,o.sp 8 [0,1,3,4,5,6,7,2]⟩
 ·intro r _ _ _ _
  exact r.elim
 rintro ad _ w rfl ⟨aw,O,rfl,o⟩
 rw [Fo.dQ] at hb
 refine aJ (RC.seq (RC.sr ?_))
 have o:=(o.freeze 3).v7 (i:=2) (x:=(⟨ad.2.1,p0.bZ,p0.aR,p0.bI⟩:fu)) rfl (fun M hs g=>⟨[aw],[ah,af,ag],rfl,(cB (g.sat 3 _ rfl).1),⟨[ah],[af,ag],rfl,(cB (g.sat 4 _ rfl).1),⟨[af],[ag],rfl,(cB (g.sat 5 _ rfl).1),(cB (g.sat 6 _ rfl).1)⟩⟩⟩)
 refine RL.aV (f:=(fun x=>x)) 2 o zr Fd.self eJ fun b0 o=>?_
 obtain⟨av,b1,hb⟩:=bd hb
 refine RL.call zt zr KF [b0] zr (aC (mP N (i0:=0) o zr b1) ?_)
 rintro _ w ⟨rfl,o⟩
 refine aP (vi av) (RL.ns (mv (vi av) (ic av 0 (RL.nt (dW hb (fun hc hb=>?_) fun hc hb=>?_)))))
 rotate_left
 ·refine RC.sx (RL.aV (f:=(fun x=>x)) 3 o zr Fd.self eJ fun cp o=>(RL.aY 3 o 0 zr eJ fun w o=>?_))
  refine aP (vi 0) (RL.nt (RC.ret ?_))
  obtain rfl:=oi hb
  exact kB 3 o eJ fun b2 o=>⟨b2,zr,o.pk 10 [0]⟩
 refine RC.sr (RL.mQ [(.slice none 0 0),(.slice none 0 0),(.slice none 0 0),(.slice none 0 0)] [(.slice none 0 0),(.slice none 0 0),(.slice none 0 0),(.slice none 0 0)] [] vz (mv (vi av) ?_))
 have o:=((((o.cO (List aG)).cO aG).cO bJ).cO cU).mR (cs:=[(.slice none 0 0),(.slice none 0 0),(.slice none 0 0),(.slice none 0 0)]) (x:=(⟨([]: (List (List aG))),([]: (List aG)),([]: (List bJ)),([]: (List cU))⟩:fu)) (fun M hs g=>⟨[(.slice none 0 0)],[(.slice none 0 0),(.slice none 0 0),(.slice none 0 0)],rfl,(cB (g.sat 3 _ rfl).1),⟨[(.slice none 0 0)],[(.slice none 0 0),(.slice none 0 0)],rfl,(cB (g.sat 2 _ rfl).1),⟨[(.slice none 0 0)],[(.slice none 0 0)],rfl,(cB (g.sat 1 _ rfl).1),(cB (g.sat 0 _ rfl).1)⟩⟩⟩) rfl
 refine RL.aY 7 o 0 zr eJ fun w o=>?_
 refine aP (vi av) (RL.nt (RC.rt ?_))
 obtain rfl:=oi hb
 exact kB 7 o eJ fun b3 o=>⟨b3,zr,o.pk 14 [0]⟩
theorem tr {p0:fu} {p2: (List aG)} {res:fu×Int} (j:Holds E w V) (h0:V[i0]? =some (rd v0 p0)) (h2:V[i2]? =some (rd v2 p2)) (o:jL N p0 p1 p2=some res):
    Calls bD 5 [v0,(vi p1),v2].toArray w (gm (fC E V res)):=by
 unfold jL at o
 refine enter Tryz.func5 zr zr ?_
 have j:=(j.dup (i0+0) h0).dup (i2+1) h2
 refine RC.sr (RL.dA 1 v0 j zr fun ag w j=>?_)
 refine RL.alloc j yP.z fun ah w j=>?_
 refine aP (vi 0) (RL.ns (RL.aV (f:=(fun x=>x)) 1 j zr Fd.self eJ fun ab j=>(mv (vi p1) (mv v2 ?_))))
 obtain⟨aa,ad,o⟩:=bd o
 refine RL.call zt zr KG [ab,(vi p1),v2,(vb true)] zr (aC (m8 N (p1:=p1) (p3:=true) (i0:=0) (i2:=3) j zr zr ad) ?_)
 rintro _ w ⟨ae,rfl,j⟩
 refine RL.extract ae (RL.extract (vi aa.2) (RL.aY 2 j 0 zr eJ fun w j=>?_))
 refine aP (vi aa.2) (RL.nt (RC.ret ?_))
 obtain rfl:=oi o
 exact kB 2 j eJ fun af j=>⟨af,zr,j.pk 7 [0]⟩
theorem rI {p0:fu} {p2: (List aG)} {res:fu×Int} (j:Holds E w V) (h0:V[i0]? =some (rd v0 p0)) (h2:V[i2]? =some (rd v2 p2)) (o:ki N p0 p1 p2=some res):
    Calls bD 10 [v0,(vi p1),v2,(.func (.func 13) #[] #[])].toArray w (gm (fC E V res)):=by
 unfold ki at o
 refine enter Tryz.func10 zr zr ?_
 have j:=(j.dup (i0+0) h0).dup (i2+1) h2
 refine RC.sr (RL.dA 1 v0 j zr fun bj w j=>?_)
 refine RL.alloc j yP.z fun bk w j=>?_
 refine aP (vi 0) (RL.nq (RC.sr (RL.aV (f:=(fun x=>x)) 1 j zr Fd.self eJ fun ao j=>?_)))
 obtain⟨ad,aq,o⟩:=bd o
 refine RL.call zt zr HE [ao] zr (aC (lr N (i0:=0) j zr aq) ?_)
 rintro _ w ⟨rfl,j⟩
 refine aP (vi ad) (RL.ns (mv (vi ad) (ic ad 0 (RL.nt (dW o (fun hc o=>?_) fun hc o=>?_)))))
 ·refine RC.sr (RL.mQ [(.slice none 0 0),(.slice none 0 0),(.slice none 0 0),(.slice none 0 0)] [(.slice none 0 0),(.slice none 0 0),(.slice none 0 0),(.slice none 0 0)] [] vz (mv (vi ad) ?_))
  have j:=((((j.cO (List aG)).cO aG).cO bJ).cO cU).mR (cs:=[(.slice none 0 0),(.slice none 0 0),(.slice none 0 0),(.slice none 0 0)]) (x:=(⟨([]: (List (List aG))),([]: (List aG)),([]: (List bJ)),([]: (List cU))⟩:fu)) (fun M hs g=>⟨[(.slice none 0 0)],[(.slice none 0 0),(.slice none 0 0),(.slice none 0 0)],rfl,(cB (g.sat 3 _ rfl).1),⟨[(.slice none 0 0)],[(.slice none 0 0),(.slice none 0 0)],rfl,(cB (g.sat 2 _ rfl).1),⟨[(.slice none 0 0)],[(.slice none 0 0)],rfl,(cB (g.sat 1 _ rfl).1),(cB (g.sat 0 _ rfl).1)⟩⟩⟩) rfl
  refine RL.aY 6 j 0 zr eJ fun w j=>?_
  refine aP (vi ad) (RL.nt (RC.rt ?_))
  obtain rfl:=oi o
  exact kB 6 j eJ fun ar j=>⟨ar,zr,j.pk 11 [0]⟩
 refine RC.ss (RC.sr (mv (vi p1) (RL.aX zr fB (RL.aV 2 j zr dX lk fun bl j=>(RL.bA 0 p0.aI j oN (RL.gQ (p0.aI.length:Int) 1 ?_))))))
 obtain⟨au,av,o⟩:=bd o
 refine RL.call zt zr E8 [(vi p1),(vi 0),(vi (IntKind.wrap .i64 ((p0.aI.length:Int) - 1)))] zr (aC (jD N (p0:=p1) (p1:=0) (p2:=(IntKind.wrap .i64 ((p0.aI.length:Int) - 1))) j av) ?_)
 rintro _ w ⟨rfl,j⟩
 refine RL.not au (RL.nt (dW o (fun hc o=>?_) fun hc o=>?_))
 ·refine RC.sr (RL.mQ [(.slice none 0 0),(.slice none 0 0),(.slice none 0 0),(.slice none 0 0)] [(.slice none 0 0),(.slice none 0 0),(.slice none 0 0),(.slice none 0 0)] [] vz ?_)
  have j:=((((j.cO (List aG)).cO aG).cO bJ).cO cU).mR (cs:=[(.slice none 0 0),(.slice none 0 0),(.slice none 0 0),(.slice none 0 0)]) (x:=(⟨([]: (List (List aG))),([]: (List aG)),([]: (List bJ)),([]: (List cU))⟩:fu)) (fun M hs g=>⟨[(.slice none 0 0)],[(.slice none 0 0),(.slice none 0 0),(.slice none 0 0)],rfl,(cB (g.sat 3 _ rfl).1),⟨[(.slice none 0 0)],[(.slice none 0 0),(.slice none 0 0)],rfl,(cB (g.sat 2 _ rfl).1),⟨[(.slice none 0 0)],[(.slice none 0 0)],rfl,(cB (g.sat 1 _ rfl).1),(cB (g.sat 0 _ rfl).1)⟩⟩⟩) rfl
  refine RL.aY 7 j 0 zr eJ fun w j=>?_
  refine aP (vi 9) (RL.nt (RC.rt ?_))
  obtain rfl:=oi o
  exact kB 7 j eJ fun aw j=>⟨aw,zr,j.pk 12 [0]⟩
 refine RC.ss (RC.sr (mv v2 ?_))
 obtain⟨ae,ax,o⟩:=bd o
 refine RL.call zt zr HB [v2] zr (aC (kj N (i0:=4) j zr ax) ?_)
 rintro _ w ⟨rfl,j⟩
 refine aP (vi ae) (RL.ns (mv (vi ae) (ic ae 0 (RL.nt (dW o (fun hc o=>?_) fun hc o=>?_)))))
 ·refine RC.sr (RL.mQ [(.slice none 0 0),(.slice none 0 0),(.slice none 0 0),(.slice none 0 0)] [(.slice none 0 0),(.slice none 0 0),(.slice none 0 0),(.slice none 0 0)] [] vz (mv (vi ae) ?_))
  have j:=((((j.cO (List aG)).cO aG).cO bJ).cO cU).mR (cs:=[(.slice none 0 0),(.slice none 0 0),(.slice none 0 0),(.slice none 0 0)]) (x:=(⟨([]: (List (List aG))),([]: (List aG)),([]: (List bJ)),([]: (List cU))⟩:fu)) (fun M hs g=>⟨[(.slice none 0 0)],[(.slice none 0 0),(.slice none 0 0),(.slice none 0 0)],rfl,(cB (g.sat 3 _ rfl).1),⟨[(.slice none 0 0)],[(.slice none 0 0),(.slice none 0 0)],rfl,(cB (g.sat 2 _ rfl).1),⟨[(.slice none 0 0)],[(.slice none 0 0)],rfl,(cB (g.sat 1 _ rfl).1),(cB (g.sat 0 _ rfl).1)⟩⟩⟩) rfl
  refine RL.aY 7 j 0 zr eJ fun w j=>?_
  refine aP (vi ae) (RL.nt (RC.rt ?_))
  obtain rfl:=oi o
  exact kB 7 j eJ fun ay j=>⟨ay,zr,j.pk 12 [0]⟩
 refine RC.sx (mv (.func (.func 13) #[] #[]) (RL.aX zr fB (RL.aV 3 j zr dX lk fun bm j=>(mv (vi p1) ?_))))
 obtain⟨az,a0,o⟩:=bd o
 refine RL.bP 0 j oz a0 fun bn j=>(RL.bF 0 az j nL fun a1 j=>?_)
 obtain⟨bo,a2,o⟩:=bd o
 refine RL.call zt zr Bc [a1] zr (aC (iF N (i0:=0) j zr a2) ?_)
 rintro a3 w j
 refine mv v2 ?_
 obtain⟨bp,a4,o⟩:=bd o
 refine RL.call zt zr Bc [v2] zr (aC (iF N (i0:=8) j zr a4) ?_)
 rintro a5 w j
 have j:=(j.freeze 1).freeze 0
 obtain⟨bq,a6,o⟩:=bd o
 refine RL.yD [] zr JY zr [a3,a5] zr (aC (qF N (i0:=1) (i1:=0) j zr zr a6) ?_)
 rintro a7 w j
 have j:=j.freeze 0
 obtain⟨ab,a8,o⟩:=bd o
 refine RL.call zt zr Kp [a7] zr (aC (qH N (i0:=0) j zr a8) ?_)
 rintro _ w ⟨ai,rfl,j⟩
 refine mv (.tuple #[ai,(vi ab.2)]) (RL.extract ai (RL.extract (vi ab.2) (aP ai (aP (vi ab.2) (RL.nq (RC.sr (mv (vi ab.2) (ic ab.2 0 ?_))))))))
 refine RL.nt (dW o (fun hc o=>?_) fun hc o=>?_)
 ·refine RC.sr (RL.mQ [(.slice none 0 0),(.slice none 0 0),(.slice none 0 0),(.slice none 0 0)] [(.slice none 0 0),(.slice none 0 0),(.slice none 0 0),(.slice none 0 0)] [] vz (mv (vi ab.2) ?_))
  have j:=((((j.cO (List aG)).cO aG).cO bJ).cO cU).mR (cs:=[(.slice none 0 0),(.slice none 0 0),(.slice none 0 0),(.slice none 0 0)]) (x:=(⟨([]: (List (List aG))),([]: (List aG)),([]: (List bJ)),([]: (List cU))⟩:fu)) (fun M hs g=>⟨[(.slice none 0 0)],[(.slice none 0 0),(.slice none 0 0),(.slice none 0 0)],rfl,(cB (g.sat 3 _ rfl).1),⟨[(.slice none 0 0)],[(.slice none 0 0),(.slice none 0 0)],rfl,(cB (g.sat 2 _ rfl).1),⟨[(.slice none 0 0)],[(.slice none 0 0)],rfl,(cB (g.sat 1 _ rfl).1),(cB (g.sat 0 _ rfl).1)⟩⟩⟩) rfl
  refine RL.aY 14 j 0 zr eJ fun w j=>?_
  refine aP (vi ab.2) (RL.nt (RC.rt ?_))
  obtain rfl:=oi o
  exact kB 14 j eJ fun a9 j=>⟨a9,zr,j.pk 19 [0]⟩
 refine RC.sx (RL.aV (f:=(fun x=>x)) 10 j zr Fd.self eJ fun ba j=>?_)
 obtain⟨aj,bb,o⟩:=bd o
 refine RL.call zt zr Kq [ba] zr (aC (vf N (i0:=0) j zr bb) ?_)
 rintro _ w ⟨ak,al,af,ag,rfl,j⟩
 refine RL.pP j HF fun br w j=>?_
 refine RL.xn 0 [ak,al,af,ag] j zr zr zr (v8.all (⟨(eM 1 j),(eM 2 j),(eM 3 j),(eM 4 j),zt⟩:v8 [ak,al,af,ag])) eJ zr zr fun w j=>?_
 refine RL.ns (RL.aX zr fB (RL.cA 0 ak j lk (mv (vi p1) (mv ai ?_))))
 obtain⟨bs,an,o⟩:=bd o
 refine RL.bX 1 j zr zr oz an ?_
 have j:=j.freeze 6
 refine RL.gp (f:=(fun _ y=>y)) 1 6 j (kJ 1 j an 0) (bE an).2.1 zr Fs.self nL fun w j=>?_
 refine RL.nq (RC.sr ?_)
 have j:=((((j.freeze 1).freeze 2).freeze 3).freeze 4).v7 (i:=0) (x:=(⟨(aj.1.set (Int.toNat p1) ab.1),aj.2.1,aj.2.2.1,aj.2.2.2⟩:fu)) rfl (fun M hs g=>⟨[ak],[al,af,ag],rfl,(cB (g.sat 1 _ rfl).1),⟨[al],[af,ag],rfl,(cB (g.sat 2 _ rfl).1),⟨[af],[ag],rfl,(cB (g.sat 3 _ rfl).1),(cB (g.sat 4 _ rfl).1)⟩⟩⟩)
 refine RL.aV (f:=(fun x=>x)) 0 j zr Fd.self eJ fun bc j=>?_
 obtain⟨ah,bf,o⟩:=bd o
 refine RL.call zt zr HE [bc] zr (aC (lr N (i0:=0) j zr bf) ?_)
 rintro _ w ⟨rfl,j⟩
 refine aP (vi ah) (RL.ns (mv (vi ah) (ic ah 0 (RL.nt (dW o (fun hc o=>?_) fun hc o=>?_)))))
 rotate_left
 ·refine RC.sx (RL.aV (f:=(fun x=>x)) 1 j zr Fd.self eJ fun bt j=>(RL.aY 17 j 0 zr eJ fun w j=>?_))
  refine aP (vi 0) (RL.nt (RC.ret ?_))
  obtain rfl:=oi o
  exact kB 17 j eJ fun bg j=>⟨bg,zr,j.pk 22 [0]⟩
 refine RC.sr (RL.mQ [(.slice none 0 0),(.slice none 0 0),(.slice none 0 0),(.slice none 0 0)] [(.slice none 0 0),(.slice none 0 0),(.slice none 0 0),(.slice none 0 0)] [] vz (mv (vi ah) ?_))
 have j:=((((j.cO (List aG)).cO aG).cO bJ).cO cU).mR (cs:=[(.slice none 0 0),(.slice none 0 0),(.slice none 0 0),(.slice none 0 0)]) (x:=(⟨([]: (List (List aG))),([]: (List aG)),([]: (List bJ)),([]: (List cU))⟩:fu)) (fun M hs g=>⟨[(.slice none 0 0)],[(.slice none 0 0),(.slice none 0 0),(.slice none 0 0)],rfl,(cB (g.sat 3 _ rfl).1),⟨[(.slice none 0 0)],[(.slice none 0 0),(.slice none 0 0)],rfl,(cB (g.sat 2 _ rfl).1),⟨[(.slice none 0 0)],[(.slice none 0 0)],rfl,(cB (g.sat 1 _ rfl).1),(cB (g.sat 0 _ rfl).1)⟩⟩⟩) rfl
 refine RL.aY 21 j 0 zr eJ fun w j=>?_
 refine aP (vi ah) (RL.nt (RC.rt ?_))
 obtain rfl:=oi o
 exact kB 21 j eJ fun bh j=>⟨bh,zr,j.pk 26 [0]⟩
theorem wG {p0:fu} {p2: (List aG)} {res:fu×Int} (j:Holds E w V) (h0:V[i0]? =some (rd v0 p0)) (h2:V[i2]? =some (rd v2 p2)) (o:mc N p0 p1 p2=some res):
    Calls bD 6 [v0,(vi p1),v2].toArray w (gm (fC E V res)):=by
 unfold mc at o
 refine enter Tryz.func6 zr zr ?_
 have j:=(j.dup (i0+0) h0).dup (i2+1) h2
 refine RC.sr (RL.dA 1 v0 j zr fun ag w j=>?_)
 refine RL.alloc j yP.z fun ah w j=>?_
 refine aP (vi 0) (RL.ns (RL.aV (f:=(fun x=>x)) 1 j zr Fd.self eJ fun ab j=>(mv (vi p1) (mv v2 ?_))))
 obtain⟨aa,ad,o⟩:=bd o
 refine RL.call zt zr Kr [ab,(vi p1),v2,(.func (.func 13) #[] #[])] zr (aC (rI N (p1:=p1) (i0:=0) (i2:=3) j zr zr ad) ?_)
 rintro _ w ⟨ae,rfl,j⟩
 refine RL.extract ae (RL.extract (vi aa.2) (RL.aY 2 j 0 zr eJ fun w j=>?_))
 refine aP (vi aa.2) (RL.nt (RC.ret ?_))
 obtain rfl:=oi o
 exact kB 2 j eJ fun af j=>⟨af,zr,j.pk 7 [0]⟩
theorem qZ {p0:fu} {p2: (List aG)} {res:fu×Int} (j:Holds E w V) (h0:V[i0]? =some (rd v0 p0)) (h2:V[i2]? =some (rd v2 p2)) (o:iR N p0 p1 p2=some res):
    Calls bD 7 [v0,(vi p1),v2].toArray w (gm (fC E V res)):=by
 unfold iR at o
 refine enter Tryz.func7 zr zr ?_
 have j:=(j.dup (i0+0) h0).dup (i2+1) h2
 refine RC.sr (RL.dA 1 v0 j zr fun ag w j=>?_)
 refine RL.alloc j yP.z fun ah w j=>?_
 refine aP (vi 0) (RL.ns (RL.aV (f:=(fun x=>x)) 1 j zr Fd.self eJ fun ab j=>(mv (vi p1) (mv v2 ?_))))
 obtain⟨aa,ad,o⟩:=bd o
 refine RL.call zt zr KG [ab,(vi p1),v2,(vb false)] zr (aC (m8 N (p1:=p1) (p3:=false) (i0:=0) (i2:=3) j zr zr ad) ?_)
 rintro _ w ⟨ae,rfl,j⟩
 refine RL.extract ae (RL.extract (vi aa.2) (RL.aY 2 j 0 zr eJ fun w j=>?_))
 refine aP (vi aa.2) (RL.nt (RC.ret ?_))
 obtain rfl:=oi o
 exact kB 2 j eJ fun af j=>⟨af,zr,j.pk 7 [0]⟩
def nM (E:World) (V:List HP) (r:Bool) (U:Nat->Value) (w:World):Prop:=l6 bD 32 Tryz.f14 (aS E V r) .ret U w
theorem nu {p0: (List (List aG))} {p1: (List (List aG))} {p2: (List aG)->(List aG)->Option Bool} {res:Bool} (j:Holds E w V) (h0:V[i0]? =some (rd v0 p0)) (h1:V[i1]? =some (rd v1 p1)) (h2:IB bD E V v2 p2 (fun(r:Bool)=>Value.bool r)) (o:fZ N p0 p1 p2=some res):
    Calls bD 14 [v0,v1,v2].toArray w (gm (aS E V res)):=by
 unfold fZ at o
 refine enter Tryz.func14 zr zr ?_
 have j:=(j.dup (i0+0) h0).dup (i1+1) h1
 refine RC.sr (aP (vb false) (RL.nq (RC.sr (mv v0 (RL.bA 1 p0 j oN (mv v1 (RL.bA 0 p1 j oN (ic ((p0.length:Int)) ((p1.length:Int)) ?_))))))))
 refine RL.nt (dW o (fun hc o=>?_) fun hc o=>?_)
 ·refine RC.sr (aP (vb false) (RL.nt (RC.rt ?_)))
  obtain rfl:=oi o
  exact bM ⟨rfl,j.drop 2⟩
 refine RC.ss (RC.sr (mv v0 (RL.bA 1 p0 j oN (mv (vi 0) (RL.nt ?_)))))
 obtain⟨au,hN,o⟩:=bd o
 refine RC.range (fun(aa:Nat) (ab:Unit)=>SH E V [(1,v1),(2,v2),(15,v0),(16,vi p0.length),(17,vi aa)] [rd v1 p1,rd v0 p0]) (fun(ab:Unit)=>SH E V [] [rd v1 p1,rd v0 p0]) (nM E V) hN ?_ ?_ ?_ ?_ ?_
 ·exact j.sp 2 [0,1]
 ·rintro hm ab _ w ⟨O,rfl,j⟩
  refine RC.sr (ic ((p0.length:Int)) ((p0.length:Int)) (RL.nq (RC.eZ r5 (RC.ex ?_))))
  exact⟨rfl,j.sp 2 [0,1]⟩
 ·rintro hm aa ab fl _ w hk ⟨O,rfl,j⟩ o
  refine RC.sr (ic ((aa:Int)) ((p0.length:Int)) (RL.nq (RC.eY (rZ hk) (RC.ss (RC.bs (mv (vi aa) ?_))))))
  obtain⟨aj,ak,o⟩:=bd o
  refine RL.bP 1 j oz ak fun aw j=>(RL.bF 0 aj j nL fun ag j=>(aP (vi aa) (aP ag (RL.ns (mv v1 (mv (vi aa) ?_))))))
  obtain⟨al,an,o⟩:=bd o
  refine RL.bP 2 j oz an fun ax j=>(RL.bF 0 al j nL fun ah j=>(aP ah (RL.ns (mv v2 (mv ag (mv ah ?_))))))
  obtain⟨ao,aq,o⟩:=bd o
  refine RL.FZ 2 0 zt zr j zr h2 6 zr zr zr zr zr aq fun w j=>(RL.not ao (RL.nt (dW o (fun hc o=>?_) fun hc o=>?_)))
  rotate_left
  ·refine RC.skip (bQ (aJ (RC.region (RL.inc hk hm (mv (vi ((aa+1:Nat):Int)) (RL.nil ?_))))))
   obtain rfl:=oi o
   exact⟨rfl,j.sp 6 [4,5]⟩
  refine RC.sr (aP (vb false) (RL.nt (RC.rb (bL ?_))))
  obtain rfl:=oi o
  exact⟨rfl,bM ⟨rfl,j.drop 6⟩⟩
 ·intro r U w e hK
  subst e
  refine bL ?_
  obtain rfl:=oi o
  exact hK
 rintro ab _ w rfl ⟨O,rfl,j⟩
 rw [Fo.dQ] at o
 refine aJ (RC.sr (aP (vb true) (RL.nt (RC.ret ?_))))
 obtain rfl:=oi o
 exact bM ⟨rfl,j.drop 2⟩
def u4 (E:World) (V:List HP) (r:Bool) (U:Nat->Value) (w:World):Prop:=l6 bD 26 Tryz.f16 (aS E V r) .ret U w
theorem tV {p0: (List bJ)} {p1: (List bJ)} {res:Bool} (j:Holds E w V) (h0:V[i0]? =some (rd v0 p0)) (h1:V[i1]? =some (rd v1 p1)) (o:lX N p0 p1=some res):
    Calls bD 16 [v0,v1].toArray w (gm (aS E V res)):=by
 unfold lX at o
 refine enter Tryz.func16 zr zr ?_
 have j:=(j.dup (i0+0) h0).dup (i1+1) h1
 refine RC.sr (aP (vb false) (RL.nq (RC.sr (mv v0 (RL.bA 1 p0 j tF (mv v1 (RL.bA 0 p1 j tF (ic ((p0.length:Int)) ((p1.length:Int)) ?_))))))))
 refine RL.nt (dW o (fun hc o=>?_) fun hc o=>?_)
 ·refine RC.sr (aP (vb false) (RL.nt (RC.rt ?_)))
  obtain rfl:=oi o
  exact bM ⟨rfl,j.drop 2⟩
 refine RC.ss (RC.sr (mv v0 (RL.bA 1 p0 j tF (mv (vi 0) (RL.nt ?_)))))
 obtain⟨an,hN,o⟩:=bd o
 refine RC.range (fun(aa:Nat) (ab:Unit)=>SH E V [(0,v0),(1,v1),(12,vi p0.length),(13,vi aa)] [rd v0 p0,rd v1 p1]) (fun(ab:Unit)=>SH E V [] [rd v0 p0,rd v1 p1]) (u4 E V) hN ?_ ?_ ?_ ?_ ?_
 ·exact j.sp 2 [1,0]
 ·rintro hm ab _ w ⟨O,rfl,j⟩
  refine RC.sr (ic ((p0.length:Int)) ((p0.length:Int)) (RL.nq (RC.eZ r5 (RC.ex ?_))))
  exact⟨rfl,j.sp 2 [0,1]⟩
 ·rintro hm aa ab fl _ w hk ⟨O,rfl,j⟩ o
  refine RC.sr (ic ((aa:Int)) ((p0.length:Int)) (RL.nq (RC.eY (rZ hk) (RC.ss (RC.bs (mv (vi aa) (aP (vi aa) (RL.nq ?_))))))))
  refine RC.yk mixed ?_
  have j:=j.drew
  refine RO.go (mv v0 (RO.nx (mv (vi aa) (RO.nx ?_))))
  obtain⟨ag,aj,o⟩:=bd o
  refine RL.bP 0 j tg aj fun aq j=>(RO.nx (RL.bF 0 ag j mJ fun ar j=>(RO.nx (mv v1 (RO.nx (mv (vi aa) (RO.nx ?_)))))))
  obtain⟨ah,ak,o⟩:=bd o
  refine RL.bP 3 j tg ak fun au j=>(RO.nx (RL.bF 0 ah j mJ fun av j=>(RO.nx (RL.Jl 2 0 ag ah zr j zr zr zr zr KH zr (RO.last (aJ (dW o (fun hc o=>?_) fun hc o=>?_)))))))
  rotate_left
  ·refine RC.skip (bQ (aJ (RC.region (RL.inc hk hm (mv (vi ((aa+1:Nat):Int)) (RL.nil ?_))))))
   obtain rfl:=oi o
   exact⟨rfl,j.sp 6 [4,5]⟩
  refine RC.sr (aP (vb false) (RL.nt (RC.rb (bL ?_))))
  obtain rfl:=oi o
  exact⟨rfl,bM ⟨rfl,j.drop 6⟩⟩
 ·intro r U w e hK
  subst e
  refine bL ?_
  obtain rfl:=oi o
  exact hK
 rintro ab _ w rfl ⟨O,rfl,j⟩
 rw [Fo.dQ] at o
 refine aJ (RC.sr (aP (vb true) (RL.nt (RC.ret ?_))))
 obtain rfl:=oi o
 exact bM ⟨rfl,j.drop 2⟩
def u5 (E:World) (V:List HP) (r:Bool) (U:Nat->Value) (w:World):Prop:=l6 bD 26 Tryz.f17 (aS E V r) .ret U w
theorem tW {p0: (List cU)} {p1: (List cU)} {res:Bool} (j:Holds E w V) (h0:V[i0]? =some (rd v0 p0)) (h1:V[i1]? =some (rd v1 p1)) (o:lY N p0 p1=some res):
    Calls bD 17 [v0,v1].toArray w (gm (aS E V res)):=by
 unfold lY at o
 refine enter Tryz.func17 zr zr ?_
 have j:=(j.dup (i0+0) h0).dup (i1+1) h1
 refine RC.sr (aP (vb false) (RL.nq (RC.sr (mv v0 (RL.bA 1 p0 j Be (mv v1 (RL.bA 0 p1 j Be (ic ((p0.length:Int)) ((p1.length:Int)) ?_))))))))
 refine RL.nt (dW o (fun hc o=>?_) fun hc o=>?_)
 ·refine RC.sr (aP (vb false) (RL.nt (RC.rt ?_)))
  obtain rfl:=oi o
  exact bM ⟨rfl,j.drop 2⟩
 refine RC.ss (RC.sr (mv v0 (RL.bA 1 p0 j Be (mv (vi 0) (RL.nt ?_)))))
 obtain⟨an,hN,o⟩:=bd o
 refine RC.range (fun(aa:Nat) (ab:Unit)=>SH E V [(0,v0),(1,v1),(12,vi p0.length),(13,vi aa)] [rd v0 p0,rd v1 p1]) (fun(ab:Unit)=>SH E V [] [rd v0 p0,rd v1 p1]) (u5 E V) hN ?_ ?_ ?_ ?_ ?_
 ·exact j.sp 2 [1,0]
 ·rintro hm ab _ w ⟨O,rfl,j⟩
  refine RC.sr (ic ((p0.length:Int)) ((p0.length:Int)) (RL.nq (RC.eZ r5 (RC.ex ?_))))
  exact⟨rfl,j.sp 2 [0,1]⟩
 ·rintro hm aa ab fl _ w hk ⟨O,rfl,j⟩ o
  refine RC.sr (ic ((aa:Int)) ((p0.length:Int)) (RL.nq (RC.eY (rZ hk) (RC.ss (RC.bs (mv (vi aa) (aP (vi aa) (RL.nq ?_))))))))
  refine RC.yk mixed ?_
  have j:=j.drew
  refine RO.go (mv v0 (RO.nx (mv (vi aa) (RO.nx ?_))))
  obtain⟨ag,aj,o⟩:=bd o
  refine RL.bP 0 j Cy aj fun aq j=>(RO.nx (RL.bF 0 ag j wv fun ar j=>(RO.nx (mv v1 (RO.nx (mv (vi aa) (RO.nx ?_)))))))
  obtain⟨ah,ak,o⟩:=bd o
  refine RL.bP 3 j Cy ak fun au j=>(RO.nx (RL.bF 0 ah j wv fun av j=>(RO.nx (RL.Jl 2 0 ag ah zr j zr zr zr zr KI zr (RO.last (aJ (dW o (fun hc o=>?_) fun hc o=>?_)))))))
  rotate_left
  ·refine RC.skip (bQ (aJ (RC.region (RL.inc hk hm (mv (vi ((aa+1:Nat):Int)) (RL.nil ?_))))))
   obtain rfl:=oi o
   exact⟨rfl,j.sp 6 [4,5]⟩
  refine RC.sr (aP (vb false) (RL.nt (RC.rb (bL ?_))))
  obtain rfl:=oi o
  exact⟨rfl,bM ⟨rfl,j.drop 6⟩⟩
 ·intro r U w e hK
  subst e
  refine bL ?_
  obtain rfl:=oi o
  exact hK
 rintro ab _ w rfl ⟨O,rfl,j⟩
 rw [Fo.dQ] at o
 refine aJ (RC.sr (aP (vb true) (RL.nt (RC.ret ?_))))
 obtain rfl:=oi o
 exact bM ⟨rfl,j.drop 2⟩
theorem m9 {p0 p1:fu} {res:Bool} (o:Holds E w V) (h0:V[i0]? =some (rd v0 p0)) (h1:V[i1]? =some (rd v1 p1)) (hb:gG N p0 p1=some res):
    Calls bD 8 [v0,v1].toArray w (gm (aS E V res)):=by
 unfold gG at hb
 refine enter Tryz.func8 zr zr ?_
 have o:=(o.dup (i0+0) h0).dup (i1+1) h1
 refine RC.sr (RL.dA 1 v0 o zr fun a1 w o=>?_)
 refine RL.dA 1 v1 o zr fun a2 w o=>?_
 refine aP (vb false) (RL.nq ?_)
 obtain⟨ag,hj,hb⟩:=bd hb
 refine RC.jn (fun(ag:Bool)=>SH E V [(4,vb ag)] []) ag ?_ ?_
 ·refine RC.region (RL.aX zr fB (RL.aV 1 o zr dX lk fun ak o=>(RL.aX zr fB (RL.aV 1 o zr dX lk fun al o=>?_))))
  obtain⟨an,ao,hj⟩:=bd hj
  refine RL.call trivial rfl Mj [ak,al,(.func (.func 15) #[] #[])] rfl (aC (nu N (i0:=1) (i1:=0) o rfl rfl ⟨15,[],rfl,I4,fun w Γl v v' y0 y1 r i j o hi hj hr=>by exact aC (jP N (i0:=i) (i1:=j) o hi hj hr) fun _ _ h=>h⟩ ao) ?_)
  rintro _ w ⟨rfl,o⟩
  refine mv (vb an) (gu hj (fun ab hj=>?_) fun ab hj=>?_)
  rotate_left
  ·refine bN ab (bN ab (bN ab (bN ab (bN ab (gD ab (vb false) (mv (vb false) (jX (jX ?_))))))))
   refine jX (jX (jX (RL.pick false (vb false) zr (mv (vb false) (jX (jX (jX (jX ?_))))))))
   refine jX (RL.pick false (vb false) zr (aP (vb false) (RL.nil ?_)))
   obtain rfl:=oi hj
   exact⟨rfl,o.sp 6 []⟩
  refine RL.aX (hg:=(cg ab)) zr tE (RL.aV (hg:=(cg ab)) 3 o zr nV nL fun aq o=>(RL.aX (hg:=(cg ab)) zr tE (RL.aV (hg:=(cg ab)) 3 o zr nV nL fun ar o=>?_)))
  obtain⟨ah,au,hj⟩:=bd hj
  refine RL.call (cg ab) zr I4 [aq,ar] zr (aC (jP N (i0:=1) (i1:=0) o zr zr au) ?_)
  rintro _ w ⟨rfl,o⟩
  refine gD ab (vb ah) (mv (vb ah) (gu hj (fun ad hj=>?_) fun ad hj=>?_))
  rotate_left
  ·refine bN ad (bN ad (bN ad (bN ad (bN ad (gD ad (vb false) (mv (vb false) (jX (jX ?_))))))))
   refine jX (jX (jX (RL.pick false (vb false) zr (aP (vb false) (RL.nil ?_)))))
   obtain rfl:=oi hj
   exact⟨rfl,o.sp 8 []⟩
  refine RL.aX (hg:=(cg ad)) zr jm (RL.aV (hg:=(cg ad)) 5 o zr hU o4 fun av o=>(RL.aX (hg:=(cg ad)) zr jm (RL.aV (hg:=(cg ad)) 5 o zr hU o4 fun aw o=>?_)))
  obtain⟨ai,ax,hj⟩:=bd hj
  refine RL.call (cg ad) zr Mk [av,aw] zr (aC (tV N (i0:=1) (i1:=0) o zr zr ax) ?_)
  rintro _ w ⟨rfl,o⟩
  refine gD ad (vb ai) (mv (vb ai) (gu hj (fun ae hj=>?_) fun ae hj=>?_))
  rotate_left
  ·refine bN ae (bN ae (bN ae (bN ae (bN ae (gD ae (vb false) (aP (vb false) (RL.nil ?_)))))))
   obtain rfl:=oi hj
   exact⟨rfl,o.sp 10 []⟩
  refine RL.aX (hg:=(cg ae)) zr o6 (RL.aV (hg:=(cg ae)) 7 o zr lC yl fun ay o=>(RL.aX (hg:=(cg ae)) zr o6 (RL.aV (hg:=(cg ae)) 7 o zr lC yl fun az o=>?_)))
  obtain⟨aj,a0,hj⟩:=bd hj
  refine RL.call (cg ae) zr Ml [ay,az] zr (aC (tW N (i0:=1) (i1:=0) o zr zr a0) ?_)
  rintro _ w ⟨rfl,o⟩
  refine gD ae (vb aj) (aP (vb aj) (RL.nil ?_))
  obtain rfl:=oi hj
  exact⟨rfl,o.sp 12 []⟩
 rintro _ w ⟨O,rfl,o⟩
 refine aJ (RC.ret ?_)
 obtain rfl:=oi hb
 exact bM ⟨rfl,o.drop 0⟩
theorem sH {res:Bool} (o:Holds E w V) (hb:iI N=some res):
    Calls bD 9 [].toArray w (gm (aS E V res)):=by
 unfold iI at hb
 refine enter Tryz.func9 zr zr (RC.sr (aP (vb false) (RL.ns ?_)))
 have o:=o.sc Int 2
 refine RL.build (⟨⟨0,0⟩,2,0,0,false⟩:bJ) trivial rfl o [(1,vi 2)] rfl Mm rfl (fun M hs g=>by have h:=IP M;exact dB.cons (f:=fun(x:bJ) y=>{x with cZ:=y}) h E5 (g.sat 0 _ rfl).1 fun _ h=>dB.nil h) fun ah o=>?_
 obtain⟨aa,ai,hb⟩:=bd hb
 refine RL.call zt zr JH [ah] zr (aC (ru N (i0:=0) o zr ai) ?_)
 rintro _ w ⟨ag,rfl,o⟩
 refine mv (.tuple #[ag,(vi aa.2)]) (RL.extract ag (RL.extract (vi aa.2) (RL.alloc o oe.z fun aj w o=>?_)))
 refine RL.aY 0 o 1 zr hZ fun w o=>?_
 refine aP (vi aa.2) (RL.nq ?_)
 obtain⟨af,hj,hb⟩:=bd hb
 refine RC.jn (fun(af:Bool)=>SH E V [(0,vb af)] []) af ?_ ?_
 ·refine RC.region (mv (vi aa.2) (ic aa.2 0 (mv (vb (aa.2==0)) (gu hj (fun ab hj=>?_) fun ab hj=>?_))))
  rotate_left
  ·refine bN ab (bN ab (bN ab (gD ab (vb false) (aP (vb false) (RL.nil ?_)))))
   obtain rfl:=oi hj
   exact⟨rfl,o.sp 4 []⟩
  refine RL.aV (hg:=(cg ab)) (f:=(fun x=>x)) 0 o zr Fd.self hZ fun ak o=>?_
  have o:=(((o.sc Int (-1)).sc Int (-1)).sc Int 1).sc Int 1
  refine RL.build (⟨(-1),(-1),1,1⟩:aG) (cg ab) rfl o [(0,(vi (-1))),(1,(vi (-1))),(2,vi 1),(3,vi 1)] rfl Cw rfl (fun M hs g=>by have h:=sm M;exact dB.cons (f:=fun(x:aG) y=>{x with X0:=y}) h ot (g.sat 3 _ rfl).1 fun _ h=>dB.cons (f:=fun(x:aG) y=>{x with Y0:=y}) h pK (g.sat 2 _ rfl).1 fun _ h=>dB.cons (f:=fun(x:aG) y=>{x with X1:=y}) h ou (g.sat 1 _ rfl).1 fun _ h=>dB.cons (f:=fun(x:aG) y=>{x with Y1:=y}) h pL (g.sat 0 _ rfl).1 fun _ h=>dB.nil h) fun al o=>?_
  refine RL.seq (i:=5) (j:=0) (a:=aa.1) (b:=(⟨(-1),(-1),1,1⟩:aG)) (cg ab) zr o zr zr zr zr Gj zr (gD ab (vb (decide (aa.1= (⟨(-1),(-1),1,1⟩:aG)))) (aP (vb (decide (aa.1= (⟨(-1),(-1),1,1⟩:aG)))) (RL.nil ?_)))
  obtain rfl:=oi hj
  exact⟨rfl,o.sp 10 []⟩
 rintro _ w ⟨O,rfl,o⟩
 refine aJ (RC.ret ?_)
 obtain rfl:=oi hb
 exact bM ⟨rfl,o.drop 0⟩
theorem mT {p0:fu} {p2: (List aG)} {res:Bool} (j:Holds E w V) (h0:V[i0]? =some (rd v0 p0)) (h2:V[i2]? =some (rd v2 p2)) (hb:fL N p0 p1 p2=some res):
    Calls bD 3 [v0,(vi p1),v2].toArray w (gm (aS E V res)):=by
 unfold fL at hb
 refine enter Tryz.func3 zr zr ?_
 have j:=(j.dup (i0+0) h0).dup (i2+1) h2
 refine RC.sr (RL.dA 1 v0 j zr fun a9 w j=>?_)
 refine aP (vb false) (RL.ns (RL.aV (f:=(fun x=>x)) 0 j zr Fd.self eJ fun au j=>(mv (vi p1) (mv v2 ?_))))
 obtain⟨ab,av,hb⟩:=bd hb
 refine RL.call zt zr MN [au,(vi p1),v2] zr (aC (yZ N (p1:=p1) (i0:=0) (i2:=2) j zr zr av) ?_)
 rintro _ w ⟨al,rfl,j⟩
 refine mv (.tuple #[al,(vi ab.2)]) (RL.extract al (RL.extract (vi ab.2) (RL.alloc j yP.z fun ba w j=>?_)))
 refine RL.aY 0 j 1 zr eJ fun w j=>?_
 refine aP (vi ab.2) (RL.ns (RL.aV (f:=(fun x=>x)) 3 j zr Fd.self eJ fun aw j=>(mv (vi p1) (mv v2 ?_))))
 obtain⟨ad,ax,hb⟩:=bd hb
 refine RL.call zt zr MP [aw,(vi p1),v2] zr (aC (tr N (p1:=p1) (i0:=0) (i2:=5) j zr zr ax) ?_)
 rintro _ w ⟨an,rfl,j⟩
 refine mv (.tuple #[an,(vi ad.2)]) (RL.extract an (RL.extract (vi ad.2) (RL.alloc j yP.z fun bb w j=>?_)))
 refine RL.aY 0 j 1 zr eJ fun w j=>?_
 refine aP (vi ad.2) (RL.ns (RL.aV (f:=(fun x=>x)) 6 j zr Fd.self eJ fun ay j=>(mv (vi p1) (mv v2 ?_))))
 obtain⟨ae,az,hb⟩:=bd hb
 refine RL.call zt zr MQ [ay,(vi p1),v2] zr (aC (wG N (p1:=p1) (i0:=0) (i2:=8) j zr zr az) ?_)
 rintro _ w ⟨ao,rfl,j⟩
 refine mv (.tuple #[ao,(vi ae.2)]) (RL.extract ao (RL.extract (vi ae.2) (RL.alloc j yP.z fun bc w j=>?_)))
 refine RL.aY 0 j 1 zr eJ fun w j=>?_
 refine aP (vi ae.2) (RL.ns (RL.aV (f:=(fun x=>x)) 9 j zr Fd.self eJ fun a0 j=>(mv (vi p1) (mv v2 ?_))))
 obtain⟨af,a1,hb⟩:=bd hb
 refine RL.call zt zr MR [a0,(vi p1),v2] zr (aC (qZ N (p1:=p1) (i0:=0) (i2:=11) j zr zr a1) ?_)
 rintro _ w ⟨aq,rfl,j⟩
 refine mv (.tuple #[aq,(vi af.2)]) (RL.extract aq (RL.extract (vi af.2) (RL.alloc j yP.z fun bf w j=>?_)))
 refine RL.aY 0 j 1 zr eJ fun w j=>?_
 refine aP (vi af.2) (RL.nq ?_)
 obtain⟨ak,o,hb⟩:=bd hb
 refine RC.jn (fun(ak:Bool)=>SH E V [(6,vb ak)] []) ak ?_ ?_
 ·refine RC.region (RL.aV (f:=(fun x=>x)) 9 j zr Fd.self eJ fun a2 j=>(RL.aV (f:=(fun x=>x)) 7 j zr Fd.self eJ fun a3 j=>?_))
  obtain⟨ah,a4,o⟩:=bd o
  refine RL.call zt zr MB [a2,a3] zr (aC (m9 N (i0:=1) (i1:=0) j zr zr a4) ?_)
  rintro _ w ⟨rfl,j⟩
  refine mv (vb ah) (RL.gs true ah (vi ab.2) rfl rfl rfl cE (RL.gs true ah (vi ad.2) rfl rfl rfl cE (RL.gs true ah (vb (ab.2==ad.2)) rfl rfl rfl (dK .eql .i64 ab.2 ad.2 rfl (fun h=>by exact(cG h:cv (true&&(ah==true)) (vi ab.2)= (vi ab.2))) (fun h=>by exact(cG h:cv (true&&(ah==true)) (vi ad.2)= (vi ad.2))) rfl) (RL.pick ah (vb (ah&&(ab.2==ad.2))) (gr true) (mv (vb (ah&&(ab.2==ad.2))) (gu o (fun ai o=>?_) fun ai o=>?_))))))
  rotate_left
  ·refine bN ai (bN ai (bN ai (gD ai (vb false) (mv (vb false) (jX (jX (jX (RL.pick false (vb false) zr ?_))))))))
   refine mv (vb false) (jX (RL.pick false (vb false) zr (aP (vb false) (RL.nil ?_))))
   obtain rfl:=oi o
   exact⟨rfl,j.sp 17 []⟩
  refine RL.aV (hg:=(cg ai)) (f:=(fun x=>x)) 5 j zr Fd.self eJ fun a5 j=>(RL.aV (hg:=(cg ai)) (f:=(fun x=>x)) 3 j zr Fd.self eJ fun a6 j=>?_)
  obtain⟨ag,a7,o⟩:=bd o
  refine RL.call (cg ai) zr MB [a5,a6] zr (aC (m9 N (i0:=1) (i1:=0) j zr zr a7) ?_)
  rintro _ w ⟨rfl,j⟩
  refine gD ai (vb ag) (mv (vb ag) (RL.gs true ag (vi ae.2) rfl rfl rfl cE (RL.gs true ag (vi af.2) rfl rfl rfl cE (RL.gs true ag (vb (ae.2==af.2)) rfl rfl rfl (dK .eql .i64 ae.2 af.2 rfl (fun h=>by exact(cG h:cv (true&&(ag==true)) (vi ae.2)= (vi ae.2))) (fun h=>by exact(cG h:cv (true&&(ag==true)) (vi af.2)= (vi af.2))) rfl) (RL.pick ag (vb (ag&&(ae.2==af.2))) (gr true) (mv (vb (ag&&(ae.2==af.2))) (gu o (fun aj o=>?_) fun aj o=>?_)))))))
  rotate_left
  ·refine bN aj (gD aj (vb false) (aP (vb false) (RL.nil ?_)))
   obtain rfl:=oi o
   exact⟨rfl,j.sp 19 []⟩
  obtain⟨ar,a8,o⟩:=bd o
  refine RL.call (cg aj) zr MS [] zr (aC (sH N j a8) ?_)
  rintro _ w ⟨rfl,j⟩
  refine gD aj (vb ar) (aP (vb ar) (RL.nil ?_))
  obtain rfl:=oi o
  exact⟨rfl,j.sp 19 []⟩
 rintro _ w ⟨O,rfl,j⟩
 refine aJ (RC.ret ?_)
 obtain rfl:=oi hb
 exact bM ⟨rfl,j.drop 0⟩
end Go.Gk
