/-
  Printed texts: Go functions as plain functions, and that they are. No statement of the seed is proved here.
-/
import Derived.Test.YtgehimfkgpbooaaGreatDoorG1
import Derived.Test.YtgehimfkgpbooaaGreatDoorG2
import Derived.Test.YtgehimfkgpbooaaGreatDoorG5
import Derived.Test.YtgehimfkgpbooaaGreatDoorA2
set_option linter.unusedVariables false
set_option linter.unusedSimpArgs false
set_option linter.unusedSectionVars false
set_option maxRecDepth 100000
set_option maxHeartbeats 4000000
namespace Go.Gk
open Go Go.Proofs
variable (N:Nat) {E w:World} {i0 i1:Nat} {p0 p1 p2 res:Int} {v0 v1:Value} {Γ:List HP}
def qo (E:World) (Γ:List HP) (r:Int) (σ:Nat->Value) (w:World):Prop:=lZ bM 52 Tryz.f89 (aW E Γ r) .ret σ w
theorem pK {p0: (List aI)} (hw:Holds E w Γ) (h0:Γ[i0]? =some (rd v0 p0)) (hb:gO N p0=some res):
    Calls bM 89 [v0].toArray w (gL (aW E Γ res)):=by
 unfold gO at hb
 refine enter Tryz.func89 zr zr ?_
 have hw:=hw.dup (i0+0) h0
 refine RC.sr (aQ (vi 0) (RL.nq (RC.sr (mv v0 (RL.bC 0 p0 hw mS (ic ((p0.length:Int)) 2000 (RL.nt (dT hb (fun hc hb=>?_) fun hc hb=>?_))))))))
 ·refine RC.sr (aQ (vi 2) (RL.nt (RC.rt ?_)))
  obtain rfl:=oi hb
  exact bX ⟨rfl,hw.drop 1⟩
 refine RC.ss (RC.sr (aQ (vi 0) (RL.nt ?_)))
 obtain⟨ar,hN,hb⟩:=bd hb
 refine RC.iter (fun(o:Int)=>SH E Γ [(0,v0),(3,vi o)] [rd v0 p0]) (fun(o:Int)=>SH E Γ [] [rd v0 p0]) (qo E Γ) hN ?_ ?_ ?_ ?_
 ·exact hw.sp 1 [0]
 ·rintro o fl _ w ⟨τ,rfl,hw⟩ hb
  refine RC.seq (RC.sr (mv (vi o) (mv v0 (RL.bC 0 p0 hw mS (ic o ((p0.length:Int)) (RL.nt (dT hb (fun hc hb=>?_) fun hc hb=>?_)))))))
  rotate_left
  ·refine RC.ex ?_
   obtain rfl:=oi hb
   exact⟨rfl,hw.sp 1 [0]⟩
  refine RC.ss (RC.bs (mv v0 (mv (vi o) ?_)))
  obtain⟨j,ak,hb⟩:=bd hb
  refine RL.bN 0 hw iY ak fun au hw=>(RL.bL 0 j hw iw fun av hw=>(RL.alloc hw oc.z fun ae w hw=>?_))
  refine RL.cB 0 hw 1 zr iw fun w hw=>?_
  refine RL.nq (RC.seq ?_)
  obtain⟨af,hj,hb⟩:=bd hb
  refine RC.jn (fun(af:Bool)=>SH E Γ [(0,v0),(3,vi o),(4,vp ae 0),(39,vb af)] [rd v0 p0,bx 59 ae j]) af ?_ ?_
  ·refine RC.region (RL.aX zr g9 (RL.aM 0 hw zr dL cJ ?_))
   obtain⟨ai,al,hj⟩:=bd hj
   refine RL.call zt zr AD [(vi j.X0)] zr (aD (eH N (p0:=j.X0) hw al) ?_)
   rintro _ w ⟨rfl,hw⟩
   refine RL.not ai (mv (vb (!ai)) (fB hj (fun aa hj=>?_) fun aa hj=>?_))
   ·refine bJ aa (bJ aa (bJ aa (bJ aa (fG aa (vb true) (mv (vb true) (j7 (j7 (j7 ?_))))))))
    refine j7 (RL.pick true (vb true) zr (mv (vb true) (j7 (j7 (j7 (j7 (RL.pick true (vb true) zr (RL.nil ?_))))))))
    obtain rfl:=oi hj
    exact⟨rfl,hw.sp 4 [3,0]⟩
   refine RL.aX (hg:=(cg aa)) zr gR (RL.aM (hg:=(cg aa)) 0 hw zr dG cJ ?_)
   obtain⟨ag,an,hj⟩:=bd hj
   refine RL.call (cg aa) zr AD [(vi j.Y0)] zr (aD (eH N (p0:=j.Y0) hw an) ?_)
   rintro _ w ⟨rfl,hw⟩
   refine RL.not (hg:=(cg aa)) ag (fG aa (vb (!ag)) (mv (vb (!ag)) (fB hj (fun ab hj=>?_) fun ab hj=>?_)))
   ·refine bJ ab (bJ ab (bJ ab (bJ ab (fG ab (vb true) (mv (vb true) (j7 (j7 (j7 ?_))))))))
    refine j7 (RL.pick true (vb true) zr (RL.nil ?_))
    obtain rfl:=oi hj
    exact⟨rfl,hw.sp 4 [3,0]⟩
   refine RL.aX (hg:=(cg ab)) zr iZ (RL.aM (hg:=(cg ab)) 0 hw zr eC cJ ?_)
   obtain⟨ah,ao,hj⟩:=bd hj
   refine RL.call (cg ab) zr AD [(vi j.X1)] zr (aD (eH N (p0:=j.X1) hw ao) ?_)
   rintro _ w ⟨rfl,hw⟩
   refine RL.not (hg:=(cg ab)) ah (fG ab (vb (!ah)) (mv (vb (!ah)) (fB hj (fun ad hj=>?_) fun ad hj=>?_)))
   ·refine bJ ad (bJ ad (bJ ad (bJ ad (fG ad (vb true) (RL.nil ?_)))))
    obtain rfl:=oi hj
    exact⟨rfl,hw.sp 4 [3,0]⟩
   refine RL.aX (hg:=(cg ad)) zr ka (RL.aM (hg:=(cg ad)) 0 hw zr fo cJ ?_)
   obtain⟨aj,aq,hj⟩:=bd hj
   refine RL.call (cg ad) zr AD [(vi j.Y1)] zr (aD (eH N (p0:=j.Y1) hw aq) ?_)
   rintro _ w ⟨rfl,hw⟩
   refine RL.not (hg:=(cg ad)) aj (fG ad (vb (!aj)) (RL.nil ?_))
   obtain rfl:=oi hj
   exact⟨rfl,hw.sp 4 [3,0]⟩
  rintro _ w ⟨τ,rfl,hw⟩
  refine aH (dT hb (fun hc hb=>?_) fun hc hb=>?_)
  ·refine RC.sr (aQ (vi 1) (RL.nt (RC.rt (nX (bS ?_)))))
   obtain rfl:=oi hb
   exact⟨rfl,bX ⟨rfl,hw.drop 2⟩⟩
  refine RC.sx (RL.aX rfl iZ (RL.aM 1 hw rfl eC cJ (RL.aX rfl g9 (RL.aM 1 hw rfl dL cJ (ic j.X1 j.X0 (mv (vb (decide (j.X1<=j.X0))) (RL.gs true (decide (j.X1<=j.X0)) (vp ae 3) rfl rfl rfl (dY ka) (RL.gs true (decide (j.X1<=j.X0)) (vi j.Y1) rfl rfl rfl (bZ 1 rfl hw (fun h=>by exact(cI h:cv (true&&((decide (j.X1<=j.X0))==false)) (vp ae 3)= (vp ae 3))) rfl fo cJ) ?_))))))))
  refine RL.gs true (decide (j.X1<=j.X0)) (vp ae 1) rfl rfl rfl (dY gR) (RL.gs true (decide (j.X1<=j.X0)) (vi j.Y0) rfl rfl rfl (bZ 1 rfl hw (fun h=>by exact(cI h:cv (true&&((decide (j.X1<=j.X0))==false)) (vp ae 1)= (vp ae 1))) rfl dG cJ) (RL.gs true (decide (j.X1<=j.X0)) (vb (decide (j.Y1<=j.Y0))) rfl rfl rfl (dI .leq .i64 j.Y1 j.Y0 rfl (fun h=>by exact(cI h:cv (true&&((decide (j.X1<=j.X0))==false)) (vi j.Y1)= (vi j.Y1))) (fun h=>by exact(cI h:cv (true&&((decide (j.X1<=j.X0))==false)) (vi j.Y0)= (vi j.Y0))) rfl) (RL.pick (decide (j.X1<=j.X0)) (vb ((decide (j.X1<=j.X0))||(decide (j.Y1<=j.Y0)))) (nD true) (RL.nt (dT hb (fun hc hb=>?_) fun hc hb=>?_)))))
  ·refine RC.sr (aQ (vi 13) (RL.nt (RC.rb (bS ?_))))
   obtain rfl:=oi hb
   exact⟨rfl,bX ⟨rfl,hw.drop 2⟩⟩
  refine RC.skip (bO (aH (RC.region (mv (vi o) (RL.fQ o 1 (aQ (vi (IntKind.wrap .i64 (o+1))) (RL.nil ?_)))))))
  obtain rfl:=oi hb
  exact⟨rfl,hw.sp 2 [0]⟩
 ·intro r σ w e hK
  subst e
  refine bS ?_
  obtain rfl:=oi hb
  exact hK
 rintro o _ w rfl ⟨τ,rfl,hw⟩
 rw [Fo.dF] at hb
 refine aH (RC.sr (aQ (vi 0) (RL.nt (RC.ret ?_))))
 obtain rfl:=oi hb
 exact bX ⟨rfl,hw.drop 1⟩
theorem nL {p0 p1:aI} {res:Bool} (hw:Holds E w Γ) (h0:Γ[i0]? =some (rd v0 p0)) (h1:Γ[i1]? =some (rd v1 p1)) (hb:il N p0 p1=some res):
    Calls bM 90 [v0,v1].toArray w (gL (aV E Γ res)):=by
 unfold il at hb
 refine enter Tryz.func90 zr zr ?_
 have hw:=(hw.dup (i0+0) h0).dup (i1+1) h1
 refine RC.sr (RL.dJ 1 v0 hw zr fun j w hw=>?_)
 refine RL.dJ 1 v1 hw zr fun o w hw=>?_
 refine aQ (vb false) (RL.ns (RL.aX zr gR (RL.aM 1 hw zr dG cJ (RL.aX zr gR (RL.aM 0 hw zr dG cJ (ic p0.Y0 p1.Y0 (mv (vb (decide (p0.Y0<p1.Y0))) (RL.gs true (decide (p0.Y0<p1.Y0)) (vp j 1) zr zr zr (dY gR) ?_))))))))
 refine RL.gs true (decide (p0.Y0<p1.Y0)) (vi p0.Y0) rfl rfl rfl (bZ 1 rfl hw (fun h=>by exact(cI h:cv (true&&((decide (p0.Y0<p1.Y0))==false)) (vp j 1)= (vp j 1))) rfl dG cJ) (RL.gs true (decide (p0.Y0<p1.Y0)) (vp o 1) rfl rfl rfl (dY gR) (RL.gs true (decide (p0.Y0<p1.Y0)) (vi p1.Y0) rfl rfl rfl (bZ 0 rfl hw (fun h=>by exact(cI h:cv (true&&((decide (p0.Y0<p1.Y0))==false)) (vp o 1)= (vp o 1))) rfl dG cJ) (RL.gs true (decide (p0.Y0<p1.Y0)) (vb (p0.Y0==p1.Y0)) rfl rfl rfl (dI .eql .i64 p0.Y0 p1.Y0 rfl (fun h=>by exact(cI h:cv (true&&((decide (p0.Y0<p1.Y0))==false)) (vi p0.Y0)= (vi p0.Y0))) (fun h=>by exact(cI h:cv (true&&((decide (p0.Y0<p1.Y0))==false)) (vi p1.Y0)= (vi p1.Y0))) rfl) (RL.gs true (decide (p0.Y0<p1.Y0)) (vb (p0.Y0==p1.Y0)) rfl rfl rfl (cF (hx:=fun h=>by exact(cI h:cv (true&&((decide (p0.Y0<p1.Y0))==false)) (vb (p0.Y0==p1.Y0))= (vb (p0.Y0==p1.Y0))))) (RL.gs (true&&((decide (p0.Y0<p1.Y0))==false)) (p0.Y0==p1.Y0) (vp j 0) rfl rfl rfl (dY g9) (RL.gs (true&&((decide (p0.Y0<p1.Y0))==false)) (p0.Y0==p1.Y0) (vi p0.X0) rfl rfl rfl (bZ 1 rfl hw (fun h=>by exact(cI h:cv ((true&&((decide (p0.Y0<p1.Y0))==false))&&((p0.Y0==p1.Y0)==true)) (vp j 0)= (vp j 0))) rfl dL cJ) (RL.gs (true&&((decide (p0.Y0<p1.Y0))==false)) (p0.Y0==p1.Y0) (vp o 0) rfl rfl rfl (dY g9) (RL.gs (true&&((decide (p0.Y0<p1.Y0))==false)) (p0.Y0==p1.Y0) (vi p1.X0) rfl rfl rfl (bZ 0 rfl hw (fun h=>by exact(cI h:cv ((true&&((decide (p0.Y0<p1.Y0))==false))&&((p0.Y0==p1.Y0)==true)) (vp o 0)= (vp o 0))) rfl dL cJ) ?_))))))))
 refine RL.gs (true&&((decide (p0.Y0<p1.Y0))==false)) (p0.Y0==p1.Y0) (vb (decide (p0.X0<p1.X0))) rfl rfl rfl (dI .lss .i64 p0.X0 p1.X0 rfl (fun h=>by exact(cI h:cv ((true&&((decide (p0.Y0<p1.Y0))==false))&&((p0.Y0==p1.Y0)==true)) (vi p0.X0)= (vi p0.X0))) (fun h=>by exact(cI h:cv ((true&&((decide (p0.Y0<p1.Y0))==false))&&((p0.Y0==p1.Y0)==true)) (vi p1.X0)= (vi p1.X0))) rfl) (RL.gs true (decide (p0.Y0<p1.Y0)) (vb ((p0.Y0==p1.Y0)&&(decide (p0.X0<p1.X0)))) rfl rfl rfl (kj (p0.Y0==p1.Y0) rfl (fun h=>by exact(cI h:cv (true&&((decide (p0.Y0<p1.Y0))==false)) (vb (p0.Y0==p1.Y0))= (vb (p0.Y0==p1.Y0)))) (fun h=>by exact fZ (true&&((decide (p0.Y0<p1.Y0))==false)) h)) (RL.pick (decide (p0.Y0<p1.Y0)) (vb ((decide (p0.Y0<p1.Y0))||((p0.Y0==p1.Y0)&&(decide (p0.X0<p1.X0))))) (nD true) (aQ (vb ((decide (p0.Y0<p1.Y0))||((p0.Y0==p1.Y0)&&(decide (p0.X0<p1.X0))))) (RL.nt (RC.ret ?_)))))
 obtain rfl:=oi hb
 exact bX ⟨rfl,hw.drop 4⟩
theorem iz {p0: (List Int)} {res: (List Int)} (hw:Holds E w Γ) (h0:Γ[i0]? =some (rd v0 p0)) (hb:fh N p0 p1=some res):
    Calls bM 118 [v0,(vi p1)].toArray w (gL (mU E Γ res)):=by
 unfold fh at hb
 refine enter Tryz.func118 zr zr ?_
 have hw:=hw.dup (i0+0) h0
 refine RC.sr (aQ (.slice none 0 0) (RL.ns (mv v0 (RL.bC 0 p0 hw l4 (aQ (vi 0) (aQ (vi p0.length) (RL.nq ?_)))))))
 obtain⟨ar,hN,hb⟩:=bd hb
 refine RC.iter (fun(j:Int×Int)=>SH E Γ [(0,v0),(1,vi p1),(5,vi j.1),(6,vi j.2)] [rd v0 p0]) (fun(j:Int×Int)=>SH E Γ [(0,v0),(1,vi p1),(5,vi j.1)] [rd v0 p0]) (fun(r:Empty) _ _=>r.elim) hN ?_ ?_ ?_ ?_
 ·exact hw.sp 1 [0]
 ·rintro j fl _ w ⟨τ,rfl,hw⟩ hb
  refine RC.seq (RC.sr (mv (vi j.1) (mv (vi j.2) (ic j.1 j.2 (RL.nt (dT hb (fun hc hb=>?_) fun hc hb=>?_))))))
  rotate_left
  ·refine RC.ex ?_
   obtain rfl:=oi hb
   exact⟨rfl,hw.sp 1 [0]⟩
  refine RC.sn (RC.bs (mv (vi j.1) (mv (vi j.2) (RL.fQ j.1 j.2 (RL.quo (IntKind.wrap .i64 (j.1+j.2)) 2 (aQ (vi (IntKind.wrap .i64 (Int.tdiv (IntKind.wrap .i64 (j.1+j.2)) 2))) (RL.ns (mv v0 ?_))))))))
  refine mv (vi (IntKind.wrap .i64 (Int.tdiv (IntKind.wrap .i64 (j.1+j.2)) 2))) ?_
  obtain⟨ae,ah,hb⟩:=bd hb
  refine RL.bN 0 hw eB ah fun au hw=>(RL.bF ae 0 hw cJ (mv (vi p1) (ic ae p1 (RL.nt ?_))))
  obtain⟨aa,hj,hb⟩:=bd hb
  refine RC.jn (fun(aa:Int×Int)=>SH E Γ [(0,v0),(1,vi p1),(5,vi aa.1),(6,vi aa.2)] [rd v0 p0]) aa ?_ ?_
  ·refine dT hj (fun hc hj=>?_) fun hc hj=>?_
   rotate_left
   ·refine RC.region (mv (vi (IntKind.wrap .i64 (Int.tdiv (IntKind.wrap .i64 (j.1+j.2)) 2))) (aQ (vi (IntKind.wrap .i64 (Int.tdiv (IntKind.wrap .i64 (j.1+j.2)) 2))) (RL.nil ?_)))
    obtain rfl:=oi hj
    exact⟨rfl,hw.sp 2 [1]⟩
   refine RC.region (mv (vi (IntKind.wrap .i64 (Int.tdiv (IntKind.wrap .i64 (j.1+j.2)) 2))) (RL.fQ (IntKind.wrap .i64 (Int.tdiv (IntKind.wrap .i64 (j.1+j.2)) 2)) 1 (aQ (vi (IntKind.wrap .i64 ((IntKind.wrap .i64 (Int.tdiv (IntKind.wrap .i64 (j.1+j.2)) 2))+1))) (RL.nil ?_))))
   obtain rfl:=oi hj
   exact⟨rfl,hw.sp 2 [1]⟩
  rintro _ w ⟨τ,rfl,hw⟩
  refine bO ?_
  obtain rfl:=oi hb
  exact⟨rfl,hw.sp 1 [0]⟩
 ·intro r _ _ _ _
  exact r.elim
 rintro j _ w rfl ⟨τ,rfl,hw⟩
 rw [Fo.dF] at hb
 refine aH (RC.seq (RC.seq ?_))
 obtain⟨ab,hj,hb⟩:=bd hb
 refine RC.jn (fun(ab:Bool)=>SH E Γ [(0,v0),(1,vi p1),(5,vi j.1),(38,vb ab)] [rd v0 p0]) ab ?_ ?_
 ·refine RC.region (mv (vi j.1) (mv v0 (RL.bC 0 p0 hw l4 (ic j.1 ((p0.length:Int)) (mv (vb (decide (j.1< (p0.length:Int)))) (fB hj (fun o hj=>?_) fun o hj=>?_))))))
  rotate_left
  ·refine bJ o (bJ o (bJ o (bJ o (bJ o (bJ o (fG o (vb false) (RL.nil ?_)))))))
   obtain rfl:=oi hj
   exact⟨rfl,hw.sp 1 [0]⟩
  refine RL.move v0 (cg o) (RL.move (vi j.1) (cg o) ?_)
  obtain⟨ad,ai,hj⟩:=bd hj
  refine RL.bN (hg:=(cg o)) 0 hw eB ai fun av hw=>(RL.bF (hg:=(cg o)) ad 0 hw cJ (RL.move (vi p1) (cg o) (RL.kL ad p1 (cg o) (fG o (vb (ad==p1)) (RL.nil ?_)))))
  obtain rfl:=oi hj
  exact⟨rfl,hw.sp 2 [1]⟩
 rintro _ w ⟨τ,rfl,hw⟩
 refine aH (dT hb (fun hc hb=>?_) fun hc hb=>?_)
 ·refine RC.sr (mv v0 (aQ v0 (RL.nt (RC.rt ?_))))
  obtain rfl:=oi hb
  exact bX (hw.pk 1 [0])
 refine RC.sx (aQ (.slice none 0 0) (RL.ns (mv (.slice none 0 0) (mv v0 (mv (vi j.1) ?_)))))
 obtain⟨aw,aj,hb⟩:=bd hb
 refine RL.cut (hl:= .inr ⟨rfl,zr⟩) 0 hw eB (.inl zr) aj fun ax hw=>?_
 have hw:=hw.cX Int 3
 obtain⟨ay,ak,hb⟩:=bd hb
 refine RL.app 0 1 hw qF ak fun af w hw=>?_
 refine aQ af (RL.ns (mv af (mv (vi p1) ?_)))
 have hw:=hw.sc Int p1
 refine RL.dW ([p1]: (List Int)) hw [(vi p1)] eB Ch (fun M hs g=>⟨(g.sat 0 _ zr).1,zt⟩) fun az w hw=>?_
 have hw:=hw.freeze 0
 obtain⟨a0,al,hb⟩:=bd hb
 refine RL.app 2 0 hw qF al fun ag w hw=>?_
 refine aQ ag (RL.ns (mv ag (mv v0 (mv (vi j.1) ?_))))
 obtain⟨a1,an,hb⟩:=bd hb
 refine RL.cut 4 hw eB (.inr ⟨rfl,zr⟩) an fun a2 hw=>?_
 obtain⟨a3,ao,hb⟩:=bd hb
 refine RL.app 3 0 hw qF ao fun aq w hw=>?_
 refine aQ aq (RL.nt (RC.ret ?_))
 obtain rfl:=oi hb
 have hw:=hw.freeze 3
 exact bX (hw.pk 6 [3])
theorem m7 {p0: (List aI)} {res: (List Int)} (hw:Holds E w Γ) (h0:Γ[i0]? =some (rd v0 p0)) (hb:gJ N p0=some res):
    Calls bM 96 [v0].toArray w (gL (mU E Γ res)):=by
 unfold gJ at hb
 refine enter Tryz.func96 zr zr ?_
 have hw:=hw.dup (i0+0) h0
 refine RC.sr (aQ (.slice none 0 0) (RL.ns (aQ (.slice none 0 0) (RL.nq (RC.sr (aQ (vi 0) (RL.nt ?_)))))))
 obtain⟨al,hN,hb⟩:=bd hb
 refine RC.iter (fun(j: (List Int)×Int) σ w=>∃ae:Value,SH E Γ [(0,v0),(3,ae),(4,vi j.2)] [rd v0 p0,rd ae j.1] σ w) (fun(j: (List Int)×Int) σ w=>∃o:Value,SH E Γ [(3,o)] [rd v0 p0,rd o j.1] σ w) (fun(r:Empty) _ _=>r.elim) hN ?_ ?_ ?_ ?_
 ·have hw:=hw.mR Int
  exact⟨(.slice none 0 0),hw.sp 2 [1,0]⟩
 ·rintro j fl _ w ⟨aa,τ,rfl,hw⟩ hb
  refine RC.seq (RC.sr (mv (vi j.2) (mv v0 (RL.bC 0 p0 hw mS (ic j.2 ((p0.length:Int)) (RL.nt (dT hb (fun hc hb=>?_) fun hc hb=>?_)))))))
  rotate_left
  ·refine RC.ex ?_
   obtain rfl:=oi hb
   exact⟨rfl,aa,hw.sp 2 [0,1]⟩
  refine RC.ss (RC.block (RC.vH mixed [0,0,0,0,0,0,2,1,1,1,1,1,2,0] [0,1,2,3,4,5,7,8,9,10,11,6,12,13] ?_))
  have hw:=hw.drew
  refine DP.e0 zr (mv aa (aZ zr (mv v0 (aZ zr (mv (vi j.2) (aZ zr ?_))))))
  obtain⟨ab,ag,hb⟩:=bd hb
  refine RL.bN 0 hw iY ag fun an hw=>(aZ zr (RL.dV 0 hw zr gR dG fun ao hw=>(aZ zr (RL.bF ab.Y0 0 hw cJ (DP.d0 (DP.e1 v0 zr (fun w=>RL.move v0 zt DP.d1) (DP.e1 (vi j.2) zr (fun w=>RL.move (vi j.2) zt DP.d1) ?_)))))))
  obtain⟨ad,ah,hb⟩:=bd hb
  refine DP.vI 2 zr hw iY ah fun aq hw=>(DP.BK 0 zr zt hw zr ka fo fun ar hw=>(DP.qR ad.Y1 0 zr hw cJ fun a68 au hw=>(DP.e2 zr ?_)))
  obtain⟨av,ai,hb⟩:=bd hb
  refine RL.call zt zr A3 [aa,(vi ab.Y0)] zr (aD (iz N (p1:=ab.Y0) (i0:=6) hw zr ai) ?_)
  rintro aj w hw
  refine DP.d2 (⟨zt,hw.g8 1⟩) (DP.e2 zr ?_)
  obtain⟨aw,ak,hb⟩:=bd hb
  refine RL.call zt zr A3 [aj,(vi ad.Y1)] zr (aD (iz N (p1:=ad.Y1) (i0:=0) hw zr ak) ?_)
  rintro af w hw
  refine DP.d2 (⟨zt,hw.g8 2⟩) (DP.e0 zr (aQ af (DP.d0 ?_)))
  have hw:=hw.pl 9 [0,1,3,4,5,6,7,8]
  refine DP.z (bO (aH (RC.region (mv (vi j.2) (RL.fQ j.2 1 (aQ (vi (IntKind.wrap .i64 (j.2+1))) (RL.nil ?_)))))))
  obtain rfl:=oi hb
  exact⟨rfl,af,hw.sp 8 [6,0]⟩
 ·intro r _ _ _ _
  exact r.elim
 rintro j _ w rfl ⟨o,τ,rfl,hw⟩
 rw [Fo.dF] at hb
 refine aH (RC.sr (mv o (aQ o (RL.nt (RC.ret ?_)))))
 obtain rfl:=oi hb
 exact bX (hw.pk 2 [1])
theorem nM {p0: (List aF)} {p1:aF} {res: (List aF)} (hw:Holds E w Γ) (h0:Γ[i0]? =some (rd v0 p0)) (h1:Γ[i1]? =some (rd v1 p1)) (hb:iq N p0 p1=some res):
    Calls bM 120 [v0,v1].toArray w (gL (ln E Γ res)):=by
 unfold iq at hb
 refine enter Tryz.func120 zr zr ?_
 have hw:=(hw.dup (i0+0) h0).dup (i1+1) h1
 refine RC.sr (RL.dJ 0 v1 hw zr fun ad w hw=>?_)
 refine aQ (.slice none 0 0) (RL.ns (aQ (.slice none 0 0) (RL.ns (aQ (vi 0) (RL.nq ?_)))))
 obtain⟨a6,hN,hb⟩:=bd hb
 refine RC.iter (fun(o: (List aF)×Int) σ w=>∃an:Value,SH E Γ [(0,v0),(3,vp ad 0),(5,an),(6,vi o.2)] [rd v0 p0,bx 158 ad p1,own 158 an o.1] σ w) (fun(o: (List aF)×Int) σ w=>∃ae:Value,SH E Γ [(0,v0),(3,vp ad 0),(5,ae),(6,vi o.2)] [rd v0 p0,bx 158 ad p1,own 158 ae o.1] σ w) (fun(r:Empty) _ _=>r.elim) hN ?_ ?_ ?_ ?_
 ·have hw:=hw.cX aF 158
  exact⟨(.slice none 0 0),hw.sp 4 [3,1,0]⟩
 ·rintro o fl _ w ⟨ag,τ,rfl,hw⟩ hb
  refine RC.seq (RC.seq ?_)
  obtain⟨ai,hj,hb⟩:=bd hb
  refine RC.jn (fun(ai:Bool)=>SH E Γ [(0,v0),(3,vp ad 0),(5,ag),(6,vi o.2),(20,vb ai)] [rd v0 p0,bx 158 ad p1,own 158 ag o.1]) ai ?_ ?_
  ·refine RC.yI mixed ?_
   have hw:=hw.drew
   refine RO.go (mv (vi o.2) (RO.nx (mv v0 (RO.nx (RL.bC 0 p0 hw vo (RO.nx (ic o.2 ((p0.length:Int)) (RO.nx ?_))))))))
   refine mv (vb (decide (o.2< (p0.length:Int)))) (fB hj (fun aa hj=>?_) fun aa hj=>?_)
   rotate_left
   ·refine RO.nx (bJ aa (RO.nx (bJ aa (RO.nx (bJ aa (RO.nx (bJ aa (RO.nx ?_))))))))
    refine bJ aa (RO.nx (bJ aa (RO.nx (bJ aa (RO.nx (bJ aa (RO.nx (fG aa (vb false) ?_))))))))
    refine RO.last ?_
    obtain rfl:=oi hj
    exact⟨rfl,hw.sp 3 [0,1,2]⟩
   refine RO.nx (RL.move v0 (cg aa) (RO.nx (RL.move (vi o.2) (cg aa) (RO.nx ?_))))
   obtain⟨aj,au,hj⟩:=bd hj
   refine RL.bN (hg:=(cg aa)) 0 hw ou au fun a7 hw=>(RO.nx (RL.dV (hg:=(cg aa)) 0 hw zr pH eE fun a8 hw=>(RO.nx (RL.bF (hg:=(cg aa)) aj.to 0 hw cJ (RO.nx (RL.aX (hg:=(cg aa)) zr pI (RO.nx (RL.aM (hg:=(cg aa)) 3 hw zr eD cJ ?_))))))))
   refine RO.nx (RL.kL aj.to p1.from_ (cg aa) (RO.nx (fG aa (vb (decide (aj.to<p1.from_))) (RO.last ?_))))
   obtain rfl:=oi hj
   exact⟨rfl,hw.sp 5 [2,3,4]⟩
  rintro _ w ⟨τ,rfl,hw⟩
  refine aH (dT hb (fun hc hb=>?_) fun hc hb=>?_)
  rotate_left
  ·refine RC.ex ?_
   obtain rfl:=oi hb
   exact⟨rfl,ag,hw.sp 3 [0,1,2]⟩
  refine RC.sn (RC.bs (mv ag (mv v0 (mv (vi o.2) ?_))))
  obtain⟨ao,av,hb⟩:=bd hb
  refine RL.bN 0 hw ou av fun a9 hw=>(RL.bL 0 ao hw EO fun aw hw=>(RL.dW ([ao]: (List aF)) hw [aw] ou Iw (fun M hs g=>⟨(g.sat 0 _ zr).1,zt⟩) fun ba w hw=>?_))
  have hw:=hw.freeze 0
  obtain⟨bb,ax,hb⟩:=bd hb
  refine RL.app 5 0 hw GM ax fun aq w hw=>?_
  refine aQ aq (RL.nt (RC.region (mv (vi o.2) (RL.fQ o.2 1 (aQ (vi (IntKind.wrap .i64 (o.2+1))) (RL.nil (bO ?_)))))))
  obtain rfl:=oi hb
  exact⟨rfl,aq,hw.sp 6 [3,4,5]⟩
 ·intro r _ _ _ _
  exact r.elim
 rintro o _ w rfl ⟨ae,τ,rfl,hw⟩
 rw [Fo.dF] at hb
 refine aH (RC.seq ?_)
 obtain⟨bc,hN,hb⟩:=bd hb
 refine RC.iter (fun(j:aF×Int)=>SH E Γ [(0,v0),(3,vp ad 0),(5,ae),(6,vi j.2)] [rd v0 p0,bx 158 ad j.1,own 158 ae o.1]) (fun(j:aF×Int)=>SH E Γ [(0,v0),(3,vp ad 0),(5,ae),(6,vi j.2)] [rd v0 p0,bx 158 ad j.1,own 158 ae o.1]) (fun(r:Empty) _ _=>r.elim) hN ?_ ?_ ?_ ?_
 ·exact hw.sp 3 [0,1,2]
 ·rintro j fl _ w ⟨τ,rfl,hw⟩ hb
  refine RC.seq (RC.seq ?_)
  obtain⟨ak,hj,hb⟩:=bd hb
  refine RC.jn (fun(ak:Bool)=>SH E Γ [(0,v0),(3,vp ad 0),(5,ae),(6,vi j.2),(43,vb ak)] [rd v0 p0,bx 158 ad j.1,own 158 ae o.1]) ak ?_ ?_
  ·refine RC.yI mixed ?_
   have hw:=hw.drew
   refine RO.go (mv (vi j.2) (RO.nx (mv v0 (RO.nx (RL.bC 0 p0 hw vo (RO.nx (ic j.2 ((p0.length:Int)) (RO.nx ?_))))))))
   refine mv (vb (decide (j.2< (p0.length:Int)))) (fB hj (fun ab hj=>?_) fun ab hj=>?_)
   rotate_left
   ·refine RO.nx (bJ ab (RO.nx (bJ ab (RO.nx (bJ ab (RO.nx (bJ ab (RO.nx ?_))))))))
    refine bJ ab (RO.nx (bJ ab (RO.nx (bJ ab (RO.nx (bJ ab (RO.nx (fG ab (vb false) ?_))))))))
    refine RO.last ?_
    obtain rfl:=oi hj
    exact⟨rfl,hw.sp 3 [0,1,2]⟩
   refine RO.nx (RL.move v0 (cg ab) (RO.nx (RL.move (vi j.2) (cg ab) (RO.nx ?_))))
   obtain⟨al,ay,hj⟩:=bd hj
   refine RL.bN (hg:=(cg ab)) 0 hw ou ay fun bf hw=>(RO.nx (RL.dV (hg:=(cg ab)) 0 hw zr pI eD fun bg hw=>(RO.nx (RL.bF (hg:=(cg ab)) al.from_ 0 hw cJ (RO.nx (RL.aX (hg:=(cg ab)) zr pH (RO.nx (RL.aM (hg:=(cg ab)) 3 hw zr eE cJ ?_))))))))
   refine RO.nx (RL.kL al.from_ j.1.to (cg ab) (RO.nx (fG ab (vb (decide (al.from_<=j.1.to))) (RO.last ?_))))
   obtain rfl:=oi hj
   exact⟨rfl,hw.sp 5 [2,3,4]⟩
  rintro _ w ⟨τ,rfl,hw⟩
  refine aH (dT hb (fun hc hb=>?_) fun hc hb=>?_)
  rotate_left
  ·refine RC.ex ?_
   obtain rfl:=oi hb
   exact⟨rfl,hw.sp 3 [0,1,2]⟩
  refine RC.sn (RC.block (RC.seq (RC.vH mixed [0,0,0,0,0,0,0,0,0,0,1,1,1,1,1,1,0,2,0,2] [0,1,2,3,4,5,6,7,8,9,10,11,12,13,14,15,16,17,18,19] ?_)))
  have hw:=hw.drew
  refine DP.e0 zr (RL.aX zr pI (aZ zr (RL.aM 1 hw zr eD cJ (aZ zr (mv v0 (aZ zr (mv (vi j.2) (aZ zr ?_))))))))
  obtain⟨ah,az,hb⟩:=bd hb
  refine RL.bN 0 hw ou az fun bh hw=>(aZ zr (RL.dV 0 hw zr pI eD fun bj hw=>(aZ zr (RL.bF ah.from_ 0 hw cJ (aZ zr (RL.min j.1.from_ ah.from_ (aZ zr (RL.aX zr pH ?_))))))))
  refine aZ zr (RL.aM 3 hw zr eE cJ (DP.d0 (DP.e1 v0 zr (fun w=>RL.move v0 zt DP.d1) (DP.e1 (vi j.2) zr (fun w=>RL.move (vi j.2) zt DP.d1) ?_))))
  obtain⟨af,a0,hb⟩:=bd hb
  refine DP.vI 2 zr hw ou a0 fun bk hw=>(DP.BK 0 zr zt hw zr pH eE fun bl hw=>(DP.qR af.to 0 zr hw cJ fun a135 bm hw=>(DP.e1 (vi (if j.1.to<af.to then af.to else j.1.to)) zr (fun w=>RL.max j.1.to af.to DP.d1) (DP.e0 zr (RL.aX zr pI (pz zr ?_))))))
  have hw:=hw.sc Int (if ah.from_<j.1.from_ then ah.from_ else j.1.from_)
  refine RL.wh 7 hw zr zr zr 0 zr kT cJ fun w hw=>?_
  refine DP.d2 (⟨zt,hw.g8 1⟩) (DP.e0 zr (RL.aX zr pH (pz zr ?_)))
  have hw:=hw.sc Int (if j.1.to<af.to then af.to else j.1.to)
  refine RL.wh 8 hw zr zr zr 0 zr kU cJ fun w hw=>?_
  refine DP.d2 (⟨zt,hw.g8 2⟩) ?_
  have hw:=hw.pl 10 [0,1,3,4,5,6,7,8,9]
  refine DP.z (aH (RC.region (mv (vi j.2) (RL.fQ j.2 1 (aQ (vi (IntKind.wrap .i64 (j.2+1))) (RL.nil (bO ?_)))))))
  obtain rfl:=oi hb
  exact⟨rfl,hw.sp 9 [6,7,8]⟩
 ·intro r _ _ _ _
  exact r.elim
 rintro j _ w rfl ⟨τ,rfl,hw⟩
 rw [Fo.dF] at hb
 refine aH (RC.sr (mv ae (RL.bE (f:=(fun x=>x)) 1 hw zr Fd.self EO fun a1 hw=>(RL.dW ([j.1]: (List aF)) hw [a1] ou Iw (fun M hs g=>⟨(g.sat 0 _ zr).1,zt⟩) fun bn w hw=>?_))))
 have hw:=hw.freeze 0
 obtain⟨bo,a2,hb⟩:=bd hb
 refine RL.app 4 0 hw GM a2 fun ar w hw=>?_
 refine aQ ar (RL.ns (mv ar (mv v0 (mv (vi j.2) ?_))))
 obtain⟨bp,a3,hb⟩:=bd hb
 refine RL.cut 2 hw ou (.inr ⟨rfl,zr⟩) a3 fun bq hw=>?_
 obtain⟨br,a4,hb⟩:=bd hb
 refine RL.app 5 0 hw GM a4 fun a5 w hw=>?_
 refine aQ a5 (RL.nt (RC.ret ?_))
 obtain rfl:=oi hb
 exact bX (hw.pk 6 [5])
theorem kr {p0: (List aI)} {res: (List aF)} (hw:Holds E w Γ) (h0:Γ[i0]? =some (rd v0 p0)) (hb:gH N p0 p1=some res):
    Calls bM 98 [v0,(vi p1)].toArray w (gL (ln E Γ res)):=by
 unfold gH at hb
 refine enter Tryz.func98 zr zr ?_
 have hw:=hw.dup (i0+0) h0
 refine RC.sr (aQ (.slice none 0 0) (RL.ns (aQ (.slice none 0 0) (RL.nq (RC.sr (aQ (vi 0) (RL.nt ?_)))))))
 obtain⟨aw,hN,hb⟩:=bd hb
 refine RC.iter (fun(j: (List aF)×Int) σ w=>∃ak:Value,SH E Γ [(0,v0),(1,vi p1),(5,ak),(6,vi j.2)] [rd v0 p0,own 158 ak j.1] σ w) (fun(j: (List aF)×Int) σ w=>∃ab:Value,SH E Γ [(5,ab)] [rd v0 p0,own 158 ab j.1] σ w) (fun(r:Empty) _ _=>r.elim) hN ?_ ?_ ?_ ?_
 ·have hw:=hw.cX aF 158
  exact⟨(.slice none 0 0),hw.sp 2 [1,0]⟩
 ·rintro j fl _ w ⟨aa,τ,rfl,hw⟩ hb
  refine RC.seq (RC.sr (mv (vi j.2) (mv v0 (RL.bC 0 p0 hw mS (ic j.2 ((p0.length:Int)) (RL.nt (dT hb (fun hc hb=>?_) fun hc hb=>?_)))))))
  rotate_left
  ·refine RC.ex ?_
   obtain rfl:=oi hb
   exact⟨rfl,aa,hw.sp 2 [0,1]⟩
  refine RC.ss (RC.block (RC.seq ?_))
  obtain⟨ag,hj,hb⟩:=bd hb
  refine RC.jn (fun(ag:Bool)=>SH E Γ [(0,v0),(1,vi p1),(5,aa),(6,vi j.2),(28,vb ag)] [rd v0 p0,own 158 aa j.1]) ag ?_ ?_
  ·refine RC.region (mv v0 (mv (vi j.2) ?_))
   obtain⟨ah,an,hj⟩:=bd hj
   refine RL.bN 0 hw iY an fun ax hw=>(RL.dV 0 hw zr gR dG fun ay hw=>(RL.bF ah.Y0 0 hw cJ (mv (vi p1) (ic ah.Y0 p1 (mv (vb (decide (ah.Y0<=p1))) (fB hj (fun o hj=>?_) fun o hj=>?_))))))
   rotate_left
   ·refine bJ o (bJ o (bJ o (bJ o (bJ o (bJ o (bJ o (fG o (vb false) (RL.nil ?_))))))))
    obtain rfl:=oi hj
    exact⟨rfl,hw.sp 4 [2,3]⟩
   refine RL.move (vi p1) (cg o) (RL.move v0 (cg o) (RL.move (vi j.2) (cg o) ?_))
   obtain⟨ai,ao,hj⟩:=bd hj
   refine RL.bN (hg:=(cg o)) 2 hw iY ao fun az hw=>(RL.dV (hg:=(cg o)) 0 hw zr ka fo fun a0 hw=>(RL.bF (hg:=(cg o)) ai.Y1 0 hw cJ (RL.kL p1 ai.Y1 (cg o) (fG o (vb (decide (p1<ai.Y1))) (RL.nil ?_)))))
   obtain rfl:=oi hj
   exact⟨rfl,hw.sp 6 [4,5]⟩
  rintro _ w ⟨τ,rfl,hw⟩
  refine aH ?_
  obtain⟨aj,hj,hb⟩:=bd hb
  refine RC.jn (fun(aj: (List aF)) σ w=>∃ad:Value,SH E Γ [(0,v0),(1,vi p1),(5,ad),(6,vi j.2)] [rd v0 p0,own 158 ad aj] σ w) aj ?_ ?_
  ·refine dT hj (fun hc hj=>?_) fun hc hj=>?_
   rotate_left
   ·refine RC.skip ?_
    obtain rfl:=oi hj
    exact⟨rfl,aa,hw.sp 2 [0,1]⟩
   refine RC.vH mixed [0,0,0,0,0,0,0,0,0,0,0,0,2,0] [0,1,2,3,4,5,6,7,8,9,10,11,12,13] ?_
   have hw:=hw.drew
   refine DP.e0 zr (mv aa (aZ zr (mv v0 (aZ zr (mv (vi j.2) (aZ zr ?_))))))
   obtain⟨ae,aq,hj⟩:=bd hj
   refine RL.bN 0 hw iY aq fun a1 hw=>(aZ zr (RL.dV 0 hw zr g9 dL fun a2 hw=>(aZ zr (RL.bF ae.X0 0 hw cJ (aZ zr (mv v0 (aZ zr (mv (vi j.2) ?_))))))))
   refine aZ zr ?_
   obtain⟨af,ar,hj⟩:=bd hj
   refine RL.bN 2 hw iY ar fun a3 hw=>(aZ zr (RL.dV 0 hw zr iZ eC fun a4 hw=>(aZ zr (RL.bF af.X1 0 hw cJ (aZ zr ?_)))))
   have hw:=(hw.sc Int ae.X0).sc Int af.X1
   refine RL.build (⟨ae.X0,af.X1⟩:aF) trivial rfl hw [(0,vi ae.X0),(1,vi af.X1)] rfl Iv rfl (fun M hs g=>by have h:=oO M;exact cT.cons (f:=fun(x:aF) y=>{x with from_:=y}) h kT (g.sat 1 _ rfl).1 fun _ h=>cT.cons (f:=fun(x:aF) y=>{x with to:=y}) h kU (g.sat 0 _ rfl).1 fun _ h=>cT.nil h) fun au hw=>?_
   refine pz zr ?_
   have hw:=hw.freeze 8
   obtain⟨a5,av,hj⟩:=bd hj
   refine RL.call zt zr Ix [aa,au] zr (aD (nM N (i0:=8) (i1:=0) hw zr zr av) ?_)
   rintro al w hw
   refine tw zr (aQ al (DP.d0 (DP.z ?_)))
   obtain rfl:=oi hj
   exact⟨rfl,al,hw.sp 10 [8,0]⟩
  rintro _ w ⟨ad,τ,rfl,hw⟩
  refine bO (aH (RC.region (mv (vi j.2) (RL.fQ j.2 1 (aQ (vi (IntKind.wrap .i64 (j.2+1))) (RL.nil ?_))))))
  obtain rfl:=oi hb
  exact⟨rfl,ad,hw.sp 2 [0,1]⟩
 ·intro r _ _ _ _
  exact r.elim
 rintro j _ w rfl ⟨ab,τ,rfl,hw⟩
 rw [Fo.dF] at hb
 refine aH (RC.sr (mv ab (aQ ab (RL.nt (RC.ret ?_)))))
 obtain rfl:=oi hb
 exact bX (hw.pk 2 [1])
def qJ (E:World) (Γ:List HP) (r:Bool) (σ:Nat->Value) (w:World):Prop:=lZ bM 26 Tryz.f119 (aV E Γ r) .ret σ w
theorem qp {p0: (List aF)} {p1: (List aF)} {res:Bool} (hw:Holds E w Γ) (h0:Γ[i0]? =some (rd v0 p0)) (h1:Γ[i1]? =some (rd v1 p1)) (hb:jv N p0 p1=some res):
    Calls bM 119 [v0,v1].toArray w (gL (aV E Γ res)):=by
 unfold jv at hb
 refine enter Tryz.func119 zr zr ?_
 have hw:=(hw.dup (i0+0) h0).dup (i1+1) h1
 refine RC.sr (aQ (vb false) (RL.nq (RC.sr (mv v0 (RL.bC 1 p0 hw vo (mv v1 (RL.bC 0 p1 hw vo (ic ((p0.length:Int)) ((p1.length:Int)) ?_))))))))
 refine RL.nt (dT hb (fun hc hb=>?_) fun hc hb=>?_)
 ·refine RC.sr (aQ (vb false) (RL.nt (RC.rt ?_)))
  obtain rfl:=oi hb
  exact bX ⟨rfl,hw.drop 2⟩
 refine RC.ss (RC.sr (aQ (vi 0) (RL.nt ?_)))
 obtain⟨ae,hN,hb⟩:=bd hb
 refine RC.iter (fun(j:Int)=>SH E Γ [(0,v0),(1,v1),(5,vi j)] [rd v0 p0,rd v1 p1]) (fun(j:Int)=>SH E Γ [] [rd v0 p0,rd v1 p1]) (qJ E Γ) hN ?_ ?_ ?_ ?_
 ·exact hw.sp 2 [1,0]
 ·rintro j fl _ w ⟨τ,rfl,hw⟩ hb
  refine RC.seq (RC.sr (mv (vi j) (mv v0 (RL.bC 0 p0 hw vo (ic j ((p0.length:Int)) (RL.nt (dT hb (fun hc hb=>?_) fun hc hb=>?_)))))))
  rotate_left
  ·refine RC.ex ?_
   obtain rfl:=oi hb
   exact⟨rfl,hw.sp 2 [0,1]⟩
  refine RC.ss (RC.block (RC.seq (RC.yI mixed ?_)))
  have hw:=hw.drew
  refine RO.go (mv v0 (RO.nx (mv (vi j) (RO.nx ?_))))
  obtain⟨o,ab,hb⟩:=bd hb
  refine RL.bN 0 hw ou ab fun af hw=>(RO.nx (RL.bL 0 o hw EO fun ag hw=>(RO.nx (mv v1 (RO.nx (mv (vi j) (RO.nx ?_)))))))
  obtain⟨aa,ad,hb⟩:=bd hb
  refine RL.bN 3 hw ou ad fun ah hw=>(RO.nx (RL.bL 0 aa hw EO fun ai hw=>(RO.nx (RL.Li 2 0 o aa zr hw zr zr zr zr Jl zr (RO.last (aH (dT hb (fun hc hb=>?_) fun hc hb=>?_)))))))
  ·refine RC.sr (aQ (vb false) (RL.nt (RC.rb (bS ?_))))
   obtain rfl:=oi hb
   exact⟨rfl,bX ⟨rfl,hw.drop 6⟩⟩
  refine RC.skip (bO (aH (RC.region (mv (vi j) (RL.fQ j 1 (aQ (vi (IntKind.wrap .i64 (j+1))) (RL.nil ?_)))))))
  obtain rfl:=oi hb
  exact⟨rfl,hw.sp 6 [4,5]⟩
 ·intro r σ w e hK
  subst e
  refine bS ?_
  obtain rfl:=oi hb
  exact hK
 rintro j _ w rfl ⟨τ,rfl,hw⟩
 rw [Fo.dF] at hb
 refine aH (RC.sr (aQ (vb true) (RL.nt (RC.ret ?_))))
 obtain rfl:=oi hb
 exact bX ⟨rfl,hw.drop 2⟩
def rS (E:World) (Γ:List HP) (res: (List aL)) (v:Value) (w:World):Prop:=Holds E w ([own 141 v res]++Γ)
theorem m8 {p0: (List aL)} {p1:aL} {res: (List aL)} (hw:Holds E w (own 141 v0 p0::Γ)) (h1:Γ[i1]? =some (rd v1 p1)) (hb:fL N p0 p1=some res):
    Calls bM 97 [v0,v1].toArray w (gL (rS E Γ res)):=by
 unfold fL at hb
 refine enter Tryz.func97 zr zr ?_
 have hw:=hw.dup (i1+1) h1
 refine RC.sr (RL.dJ 0 v1 hw zr fun ag w hw=>?_)
 refine aQ (.slice none 0 0) (RL.nq (RC.sr (RL.aX zr uK (RL.bE 0 hw zr fY A4 fun aq hw=>(RL.bC 0 p1.iN hw vo (ic ((p1.iN.length:Int)) 0 (RL.nt (dT hb (fun hc hb=>?_) fun hc hb=>?_))))))))
 ·refine RC.sr (mv v0 (aQ v0 (RL.nt (RC.rt ?_))))
  obtain rfl:=oi hb
  exact bX (hw.pk 4 [3])
 refine RC.ss (RC.sr (mv v0 (RL.fR 3 p0 hw Iz (aQ (vi p0.length) (RL.nq ?_)))))
 obtain⟨ae,hj,hb⟩:=bd hb
 refine RC.jn (fun(ae:Bool)=>SH E Γ [(0,v0),(3,vp ag 0),(5,vi p0.length),(36,vb ae)] [own 141 v0 p0,bx 141 ag p1]) ae ?_ ?_
 ·refine RC.vH mixed [0,0,0,0,0,0,0,0,0,0,0,0,0,0,0,0,0,0,0,0,0,0,2,0] [0,1,2,3,4,5,6,7,8,9,10,11,12,13,14,15,16,17,18,19,20,21,22,23] ?_
  have hw:=hw.drew
  refine DP.e0 zr (mv (vi p0.length) (aZ zr (ic ((p0.length:Int)) 0 (aZ zr (mv (vb (decide ((p0.length:Int)>0))) (DP.d0 (fB hj (fun j hj=>?_) fun j hj=>?_)))))))
  rotate_left
  ·refine DP.e0 zr (bJ j (aZ zr (bJ j (aZ zr (bJ j (aZ zr (bJ j (aZ zr ?_))))))))
   refine bJ j (aZ zr (bJ j (aZ zr (bJ j (aZ zr (bJ j (aZ zr (bJ j ?_))))))))
   refine aZ zr (fG j (vb false) (aZ zr (mv (vb false) (aZ zr (j7 (aZ zr (j7 (aZ zr ?_))))))))
   refine j7 (aZ zr (j7 (aZ zr (j7 (aZ zr (j7 (aZ zr (j7 ?_))))))))
   refine aZ zr (j7 (pz zr (j7 (tw zr (RL.pick false (vb false) zr (DP.d0 (DP.z ?_)))))))
   obtain rfl:=oi hj
   exact⟨rfl,hw.sp 4 [3,1]⟩
  refine DP.e0 zr (RL.move v0 (cg j) (aZ zr (RL.move (vi p0.length) (cg j) (aZ zr (RL.fQ (hg:=(cg j)) (p0.length:Int) 1 (aZ zr ?_))))))
  obtain⟨af,aa,hj⟩:=bd hj
  refine RL.bU (hg:=(cg j)) 3 hw zr zr wN aa (aZ zr (RL.kM (α:=aL) (cg j) (jA 3 hw aa 0) yV (aZ zr (RL.dO (hg:=(cg j)) 3 hw (jA 3 hw aa 1) (bI aa).2.1 kV cJ (aZ zr (RL.aX (hg:=(cg j)) zr EP (aZ zr (RL.aM (hg:=(cg j)) 1 hw zr nG cJ ?_))))))))
  refine aZ zr (RL.kL af.to p1.from_ (cg j) (aZ zr (fG j (vb (af.to==p1.from_)) (aZ zr (mv (vb (af.to==p1.from_)) (DP.d0 (fB hj (fun o hj=>?_) fun o hj=>?_)))))))
  rotate_left
  ·refine DP.e0 zr (bJ o (aZ zr (bJ o (aZ zr (bJ o (aZ zr (bJ o (aZ zr ?_))))))))
   refine bJ o (aZ zr (bJ o (aZ zr (bJ o (aZ zr (bJ o (pz zr (bJ o ?_))))))))
   refine tw zr (fG o (vb false) (DP.d0 (DP.z ?_)))
   obtain rfl:=oi hj
   exact⟨rfl,hw.sp 4 [3,1]⟩
  refine DP.e0 zr (RL.move v0 (cg o) (aZ zr (RL.move (vi p0.length) (cg o) (aZ zr (RL.fQ (hg:=(cg o)) (p0.length:Int) 1 (aZ zr ?_))))))
  obtain⟨ar,ab,hj⟩:=bd hj
  refine RL.bU (hg:=(cg o)) 3 hw zr zr wN ab (aZ zr (RL.kM (α:=aL) (cg o) (jA 3 hw ab 0) uK (aZ zr (RL.kl (hg:=(cg o)) 3 hw (jA 3 hw ab 2) (bI ab).2.1 fY A4 fun ah hw=>?_))))
  refine aZ zr (RL.aX (hg:=(cg o)) zr uK (aZ zr (RL.bE (hg:=(cg o)) 2 hw zr fY A4 fun ai hw=>(pz zr ?_))))
  obtain⟨aj,ak,hj⟩:=bd hj
  refine RL.call (cg o) zr Ky [ah,ai] zr (aD (qp N (i0:=1) (i1:=0) hw zr zr ak) ?_)
  rintro _ w ⟨rfl,hw⟩
  refine tw zr (fG o (vb aj) (DP.d0 (DP.z ?_)))
  obtain rfl:=oi hj
  exact⟨rfl,hw.sp 6 [5,3]⟩
 rintro _ w ⟨τ,rfl,hw⟩
 refine aH (dT hb (fun hc hb=>?_) fun hc hb=>?_)
 rotate_left
 ·refine RC.sx (mv v0 (RL.bE (f:=(fun x=>x)) 1 hw zr Fd.self Kz fun al hw=>(RL.dW ([p1]: (List aL)) hw [al] wN KA (fun M hs g=>⟨(g.sat 0 _ zr).1,zt⟩) fun au w hw=>?_)))
  have hw:=hw.freeze 0
  obtain⟨av,an,hb⟩:=bd hb
  refine RL.app 2 0 hw KB an fun ao w hw=>?_
  refine aQ ao (RL.nt (RC.ret ?_))
  obtain rfl:=oi hb
  exact bX (hw.pk 4 [2])
 refine RC.sr (mv v0 (mv (vi p0.length) (RL.fQ (p0.length:Int) 1 (RL.aX zr yV (RL.aM 1 hw zr kV cJ ?_)))))
 obtain⟨aw,ad,hb⟩:=bd hb
 refine RL.bU 0 hw zr zr wN ad (RL.kM (α:=aL) zt (jA 0 hw ad 0) yV ?_)
 have hw:=hw.sc Int p1.to
 refine RL.gx 1 0 hw (jA 1 hw ad 1) (bI ad).2.1 zr kW cJ fun w hw=>?_
 refine RL.ns (mv v0 (aQ v0 (RL.nt (RC.rt ?_))))
 obtain rfl:=oi hb
 exact bX (hw.pk 3 [1])
theorem ov {p0: (List aL)} {res: (List aI)} (hw:Holds E w Γ) (h0:Γ[i0]? =some (rd v0 p0)) (hb:iW N p0=some res):
    Calls bM 99 [v0].toArray w (gL (fH E Γ res)):=by
 unfold iW at hb
 refine enter Tryz.func99 zr zr ?_
 have hw:=hw.dup (i0+0) h0
 refine RC.sr (aQ (.slice none 0 0) (RL.ns (aQ (.slice none 0 0) (RL.nq (RC.sr (aQ (vi 0) (RL.nt ?_)))))))
 obtain⟨a2,hN,hb⟩:=bd hb
 refine RC.iter (fun(j: (List aI)×Int) σ w=>∃aj:Value,SH E Γ [(0,v0),(3,aj),(4,vi j.2)] [rd v0 p0,own 59 aj j.1] σ w) (fun(j: (List aI)×Int) σ w=>∃aa:Value,SH E Γ [(3,aa)] [rd v0 p0,own 59 aa j.1] σ w) (fun(r:Empty) _ _=>r.elim) hN ?_ ?_ ?_ ?_
 ·have hw:=hw.cX aI 59
  exact⟨(.slice none 0 0),hw.sp 2 [1,0]⟩
 ·rintro j fl _ w ⟨ak,τ,rfl,hw⟩ hb
  refine RC.seq (RC.sr (mv (vi j.2) (mv v0 (RL.bC 0 p0 hw Iz (ic j.2 ((p0.length:Int)) (RL.nt (dT hb (fun hc hb=>?_) fun hc hb=>?_)))))))
  rotate_left
  ·refine RC.ex ?_
   obtain rfl:=oi hb
   exact⟨rfl,ak,hw.sp 2 [0,1]⟩
  refine RC.ss (RC.bs (aQ (vi 0) (RL.nt ?_)))
  obtain⟨a3,hN,hb⟩:=bd hb
  refine RC.iter (fun(o: (List aI)×Int) σ w=>∃al:Value,SH E Γ [(0,v0),(3,al),(4,vi j.2),(5,vi o.2)] [rd v0 p0,own 59 al o.1] σ w) (fun(o: (List aI)×Int) σ w=>∃ag:Value,SH E Γ [(0,v0),(3,ag),(4,vi j.2)] [rd v0 p0,own 59 ag o.1] σ w) (fun(r:Empty) _ _=>r.elim) hN ?_ ?_ ?_ ?_
  ·exact⟨ak,hw.sp 2 [0,1]⟩
  ·rintro o fl _ w ⟨ah,τ,rfl,hw⟩ hb
   refine RC.seq (RC.sr (mv (vi o.2) (mv v0 (mv (vi j.2) ?_))))
   obtain⟨ai,ao,hb⟩:=bd hb
   refine RL.bN 0 hw wN ao fun a4 hw=>(RL.dV 0 hw zr uK fY fun a5 hw=>(RL.bL 0 ai.iN hw A4 fun a6 hw=>(RL.bC 0 ai.iN hw vo (ic o.2 ((ai.iN.length:Int)) (RL.nt (dT hb (fun hc hb=>?_) fun hc hb=>?_))))))
   rotate_left
   ·refine RC.ex ?_
    obtain rfl:=oi hb
    exact⟨rfl,ah,hw.sp 5 [3,4]⟩
   refine RC.ss (RC.block (RC.vH mixed [1,0,0,0,0,0,0,0,0,0,0,0,0,0,0,0,0,0,0,0,0,0,0,0,0,0,0,0,0,0,2,2,0] [0,1,2,3,4,5,6,7,8,9,10,11,12,13,14,15,16,17,18,19,20,21,22,23,24,25,26,27,28,29,30,31,32] ?_))
   have hw:=hw.drew
   refine DP.e1 ah zr (fun w=>RL.move ah zt DP.d1) (DP.e0 zr (mv v0 (aZ zr (mv (vi j.2) (aZ zr ?_)))))
   obtain⟨aq,ar,hb⟩:=bd hb
   refine RL.bN 3 hw wN ar fun a7 hw=>(aZ zr (RL.dV 0 hw zr uK fY fun a8 hw=>(aZ zr (RL.bL 0 aq.iN hw A4 fun a9 hw=>(aZ zr (mv (vi o.2) (aZ zr ?_)))))))
   obtain⟨ab,au,hb⟩:=bd hb
   refine RL.bN 0 hw ou au fun ba hw=>(aZ zr (RL.dV 0 hw zr pI eD fun bb hw=>(aZ zr (RL.bF ab.from_ 0 hw cJ (aZ zr (mv v0 (aZ zr (mv (vi j.2) ?_))))))))
   refine aZ zr ?_
   obtain⟨ad,av,hb⟩:=bd hb
   refine RL.bN 8 hw wN av fun bc hw=>(aZ zr (RL.dV 0 hw zr EP nG fun bf hw=>(aZ zr (RL.bF ad.from_ 0 hw cJ (aZ zr (mv v0 (aZ zr (mv (vi j.2) ?_))))))))
   refine aZ zr ?_
   obtain⟨aw,ax,hb⟩:=bd hb
   refine RL.bN 10 hw wN ax fun bg hw=>(aZ zr (RL.dV 0 hw zr uK fY fun bh hw=>(aZ zr (RL.bL 0 aw.iN hw A4 fun bj hw=>(aZ zr (mv (vi o.2) (aZ zr ?_)))))))
   obtain⟨ae,ay,hb⟩:=bd hb
   refine RL.bN 0 hw ou ay fun bk hw=>(aZ zr (RL.dV 0 hw zr pH eE fun bl hw=>(aZ zr (RL.bF ae.to 0 hw cJ (aZ zr (mv v0 (aZ zr (mv (vi j.2) ?_))))))))
   refine aZ zr ?_
   obtain⟨af,az,hb⟩:=bd hb
   refine RL.bN 15 hw wN az fun bm hw=>(aZ zr (RL.dV 0 hw zr yV kV fun bn hw=>(aZ zr (RL.bF af.to 0 hw cJ (aZ zr ?_)))))
   have hw:=(((hw.sc Int ab.from_).sc Int ad.from_).sc Int ae.to).sc Int af.to
   refine RL.build (⟨ab.from_,ad.from_,ae.to,af.to⟩:aI) trivial rfl hw [(0,vi ab.from_),(1,vi ad.from_),(2,vi ae.to),(3,vi af.to)] rfl CY rfl (fun M hs g=>by have h:=sK M;exact cT.cons (f:=fun(x:aI) y=>{x with X0:=y}) h oA (g.sat 3 _ rfl).1 fun _ h=>cT.cons (f:=fun(x:aI) y=>{x with Y0:=y}) h pU (g.sat 2 _ rfl).1 fun _ h=>cT.cons (f:=fun(x:aI) y=>{x with X1:=y}) h oC (g.sat 1 _ rfl).1 fun _ h=>cT.cons (f:=fun(x:aI) y=>{x with Y1:=y}) h pV (g.sat 0 _ rfl).1 fun _ h=>cT.nil h) fun a0 hw=>?_
   refine pz zr (RL.dW ([(⟨ab.from_,ad.from_,ae.to,af.to⟩:aI)]: (List aI)) hw [a0] iY oc (fun M hs g=>⟨(g.sat 0 _ zr).1,zt⟩) fun bo w hw=>(EM zr ?_))
   have hw:=hw.freeze 0
   obtain⟨bp,a1,hb⟩:=bd hb
   refine RL.app 24 0 hw zi a1 fun an w hw=>?_
   refine tw zr (aQ an (DP.d0 (DP.z (bO (aH (RC.region (mv (vi o.2) (RL.fQ o.2 1 ?_))))))))
   refine aQ (vi (IntKind.wrap .i64 (o.2+1))) (RL.nil ?_)
   obtain rfl:=oi hb
   exact⟨rfl,an,hw.sp 25 [23,24]⟩
  ·intro r _ _ _ _
   exact r.elim
  rintro o _ w rfl ⟨ag,τ,rfl,hw⟩
  rw [Fo.dF] at hb
  refine bO (aH (RC.region (mv (vi j.2) (RL.fQ j.2 1 (aQ (vi (IntKind.wrap .i64 (j.2+1))) (RL.nil ?_))))))
  obtain rfl:=oi hb
  exact⟨rfl,ag,hw.sp 2 [0,1]⟩
 ·intro r _ _ _ _
  exact r.elim
 rintro j _ w rfl ⟨aa,τ,rfl,hw⟩
 rw [Fo.dF] at hb
 refine aH (RC.sr (mv aa (aQ aa (RL.nt (RC.ret ?_)))))
 obtain rfl:=oi hb
 exact bX (hw.pk 2 [1])
theorem jY {p0: (List aI)} {res: (List aI)} (hw:Holds E w Γ) (h0:Γ[i0]? =some (rd v0 p0)) (hb:eW N p0=some res):
    Calls bM 61 [v0].toArray w (gL (fH E Γ res)):=by
 unfold eW at hb
 refine enter Tryz.func61 zr zr ?_
 have hw:=hw.dup (i0+0) h0
 refine RC.sr (aQ (.slice none 0 0) (RL.ns (mv v0 ?_)))
 obtain⟨ab,aj,hb⟩:=bd hb
 refine RL.call zt zr Kx [v0] zr (aD (m7 N (i0:=0) hw zr aj) ?_)
 rintro o w hw
 refine aQ o (RL.ns (aQ (.slice none 0 0) (RL.nq (RC.sr (aQ (vi 1) (RL.nt ?_))))))
 obtain⟨ay,hN,hb⟩:=bd hb
 refine RC.iter (fun(j: (List aL)×Int) σ w=>∃ah:Value,SH E Γ [(0,v0),(3,o),(4,ah),(5,vi j.2)] [rd v0 p0,rd o ab,own 141 ah j.1] σ w) (fun(j: (List aL)×Int) σ w=>∃aa:Value,SH E Γ [(4,aa)] [rd v0 p0,rd o ab,own 141 aa j.1] σ w) (fun(r:Empty) _ _=>r.elim) hN ?_ ?_ ?_ ?_
 ·have hw:=hw.cX aL 141
  exact⟨(.slice none 0 0),hw.sp 3 [2,1,0]⟩
 ·rintro j fl _ w ⟨ad,τ,rfl,hw⟩ hb
  refine RC.seq (RC.sr (mv (vi j.2) (mv o (RL.bC 1 ab hw l4 (ic j.2 ((ab.length:Int)) (RL.nt (dT hb (fun hc hb=>?_) fun hc hb=>?_)))))))
  rotate_left
  ·refine RC.ex ?_
   obtain rfl:=oi hb
   exact⟨rfl,ad,hw.sp 3 [0,1,2]⟩
  refine RC.ss (RC.block (RC.vH mixed [1,1,1,1,1,1,1,1,1,1,0,0,0,0,0,0,2,0,2,0] [0,1,2,3,4,5,6,7,8,9,10,11,12,13,14,15,16,17,18,19] ?_))
  have hw:=hw.drew
  refine DP.e1 ad zr (fun w=>RL.move ad zt DP.d1) (DP.e1 o zr (fun w=>RL.move o zt DP.d1) (DP.e1 (vi j.2) zr (fun w=>RL.move (vi j.2) zt DP.d1) (DP.e1 (vi (IntKind.wrap .i64 (j.2 - 1))) zr (fun w=>RL.fQ j.2 1 DP.d1) ?_)))
  obtain⟨ae,ak,hb⟩:=bd hb
  refine DP.vI 1 zr hw eB ak fun az hw=>(DP.qR ae 0 zr hw cJ fun a72 a0 hw=>(DP.e1 o zr (fun w=>RL.move o zt DP.d1) (DP.e1 (vi j.2) zr (fun w=>RL.move (vi j.2) zt DP.d1) ?_)))
  obtain⟨af,al,hb⟩:=bd hb
  refine DP.vI 3 zr hw eB al fun a1 hw=>(DP.qR af 0 zr hw cJ fun a76 a2 hw=>(DP.e0 zr (mv v0 (aZ zr (mv o (aZ zr (mv (vi j.2) (aZ zr ?_))))))))
  refine RL.fQ j.2 1 (aZ zr ?_)
  obtain⟨ag,an,hb⟩:=bd hb
  refine RL.bN 5 hw eB an fun a3 hw=>(aZ zr (RL.bF ag 0 hw cJ (pz zr ?_)))
  obtain⟨ao,aq,hb⟩:=bd hb
  refine RL.call zt zr HR [v0,(vi ag)] zr (aD (kr N (p1:=ag) (i0:=5) hw zr aq) ?_)
  rintro ar w hw
  refine DP.d2 (⟨⟨zt,hw.g8 4⟩,hw.g8 2⟩) (DP.e0 zr ?_)
  have hw:=((hw.sc Int ae).sc Int af).freeze 2
  refine RL.build (⟨ae,af,ao⟩:aL) trivial rfl hw [(0,vi ae),(1,vi af),(2,ar)] rfl Iy rfl (fun M hs g=>by have h:=oN M;exact cT.cons (f:=fun(x:aL) y=>{x with from_:=y}) h nH (g.sat 1 _ rfl).1 fun _ h=>cT.cons (f:=fun(x:aL) y=>{x with to:=y}) h kW (g.sat 0 _ rfl).1 fun _ h=>cT.cons (f:=fun(x:aL) y=>{x with iN:=y}) h nI (g.sat 2 _ rfl).1 fun _ h=>cT.nil h) fun au hw=>?_
  refine pz zr ?_
  have hw:=hw.pull 11
  obtain⟨a4,av,hb⟩:=bd hb
  refine RL.call zt zr KC [ad,au] zr (aD (m8 N (i1:=0) hw zr av) ?_)
  rintro ai w hw
  refine DP.d2 (⟨⟨zt,hw.g8 8⟩,hw.g8 6⟩) (DP.e0 zr (aQ ai (DP.d0 ?_)))
  have hw:=hw.pl 13 [0,1,2,3,4,5,7,9,10,11,12]
  refine DP.z (bO (aH (RC.region (mv (vi j.2) (RL.fQ j.2 1 (aQ (vi (IntKind.wrap .i64 (j.2+1))) (RL.nil ?_)))))))
  obtain rfl:=oi hb
  exact⟨rfl,ai,hw.sp 11 [8,9,0]⟩
 ·intro r _ _ _ _
  exact r.elim
 rintro j _ w rfl ⟨aa,τ,rfl,hw⟩
 rw [Fo.dF] at hb
 refine aH (RC.sr (mv aa ?_))
 have hw:=hw.freeze 2
 obtain⟨a5,aw,hb⟩:=bd hb
 refine RL.call zt zr KD [aa] zr (aD (ov N (i0:=2) hw zr aw) ?_)
 rintro ax w hw
 refine aQ ax (RL.nt (RC.ret ?_))
 obtain rfl:=oi hb
 exact bX (hw.pk 4 [0])
def qK (E:World) (Γ:List HP) (r:Bool) (σ:Nat->Value) (w:World):Prop:=lZ bM 26 Tryz.f8 (aV E Γ r) .ret σ w
theorem mj {p0: (List aI)} {p1: (List aI)} {res:Bool} (hw:Holds E w Γ) (h0:Γ[i0]? =some (rd v0 p0)) (h1:Γ[i1]? =some (rd v1 p1)) (hb:eX N p0 p1=some res):
    Calls bM 8 [v0,v1].toArray w (gL (aV E Γ res)):=by
 unfold eX at hb
 refine enter Tryz.func8 zr zr ?_
 have hw:=(hw.dup (i0+0) h0).dup (i1+1) h1
 refine RC.sr (aQ (vb false) (RL.nq (RC.sr (mv v0 (RL.bC 1 p0 hw mS (mv v1 (RL.bC 0 p1 hw mS (ic ((p0.length:Int)) ((p1.length:Int)) ?_))))))))
 refine RL.nt (dT hb (fun hc hb=>?_) fun hc hb=>?_)
 ·refine RC.sr (aQ (vb false) (RL.nt (RC.rt ?_)))
  obtain rfl:=oi hb
  exact bX ⟨rfl,hw.drop 2⟩
 refine RC.ss (RC.sr (aQ (vi 0) (RL.nt ?_)))
 obtain⟨ae,hN,hb⟩:=bd hb
 refine RC.iter (fun(j:Int)=>SH E Γ [(0,v0),(1,v1),(5,vi j)] [rd v0 p0,rd v1 p1]) (fun(j:Int)=>SH E Γ [] [rd v0 p0,rd v1 p1]) (qK E Γ) hN ?_ ?_ ?_ ?_
 ·exact hw.sp 2 [1,0]
 ·rintro j fl _ w ⟨τ,rfl,hw⟩ hb
  refine RC.seq (RC.sr (mv (vi j) (mv v0 (RL.bC 0 p0 hw mS (ic j ((p0.length:Int)) (RL.nt (dT hb (fun hc hb=>?_) fun hc hb=>?_)))))))
  rotate_left
  ·refine RC.ex ?_
   obtain rfl:=oi hb
   exact⟨rfl,hw.sp 2 [0,1]⟩
  refine RC.ss (RC.block (RC.seq (RC.yI mixed ?_)))
  have hw:=hw.drew
  refine RO.go (mv v0 (RO.nx (mv (vi j) (RO.nx ?_))))
  obtain⟨o,ab,hb⟩:=bd hb
  refine RL.bN 0 hw iY ab fun af hw=>(RO.nx (RL.bL 0 o hw iw fun ag hw=>(RO.nx (mv v1 (RO.nx (mv (vi j) (RO.nx ?_)))))))
  obtain⟨aa,ad,hb⟩:=bd hb
  refine RL.bN 3 hw iY ad fun ah hw=>(RO.nx (RL.bL 0 aa hw iw fun ai hw=>(RO.nx (RL.Li 2 0 o aa zr hw zr zr zr zr Gx zr (RO.last (aH (dT hb (fun hc hb=>?_) fun hc hb=>?_)))))))
  ·refine RC.sr (aQ (vb false) (RL.nt (RC.rb (bS ?_))))
   obtain rfl:=oi hb
   exact⟨rfl,bX ⟨rfl,hw.drop 6⟩⟩
  refine RC.skip (bO (aH (RC.region (mv (vi j) (RL.fQ j 1 (aQ (vi (IntKind.wrap .i64 (j+1))) (RL.nil ?_)))))))
  obtain rfl:=oi hb
  exact⟨rfl,hw.sp 6 [4,5]⟩
 ·intro r σ w e hK
  subst e
  refine bS ?_
  obtain rfl:=oi hb
  exact hK
 rintro j _ w rfl ⟨τ,rfl,hw⟩
 rw [Fo.dF] at hb
 refine aH (RC.sr (aQ (vb true) (RL.nt (RC.ret ?_))))
 obtain rfl:=oi hb
 exact bX ⟨rfl,hw.drop 2⟩
def pL (E:World) (Γ:List HP) (r:Int) (σ:Nat->Value) (w:World):Prop:=lZ bM 32 Tryz.f57 (aW E Γ r) .ret σ w
theorem ly {p0: (List aI)} (hw:Holds E w Γ) (h0:Γ[i0]? =some (rd v0 p0)) (hb:fm N p0=some res):
    Calls bM 57 [v0].toArray w (gL (aW E Γ res)):=by
 unfold fm at hb
 refine enter Tryz.func57 zr zr ?_
 have hw:=hw.dup (i0+0) h0
 refine RC.sr (aQ (vi 0) (RL.nq (RC.sr (mv v0 ?_))))
 obtain⟨o,aa,hb⟩:=bd hb
 refine RL.call zt zr L7 [v0] zr (aD (pK N (i0:=0) hw zr aa) ?_)
 rintro _ w ⟨rfl,hw⟩
 refine aQ (vi o) (RL.ns (mv (vi o) (ic o 0 (RL.nt (dT hb (fun hc hb=>?_) fun hc hb=>?_)))))
 ·refine RC.sr (mv (vi o) (aQ (vi o) (RL.nt (RC.rt ?_))))
  obtain rfl:=oi hb
  exact bX ⟨rfl,hw.drop 1⟩
 refine RC.ss (RC.sr (aQ (vi 1) (RL.nt ?_)))
 obtain⟨aq,hN,hb⟩:=bd hb
 refine RC.iter (fun(j:Int)=>SH E Γ [(0,v0),(4,vi j)] [rd v0 p0]) (fun(j:Int)=>SH E Γ [(0,v0)] [rd v0 p0]) (pL E Γ) hN ?_ ?_ ?_ ?_
 ·exact hw.sp 1 [0]
 ·rintro j fl _ w ⟨τ,rfl,hw⟩ hb
  refine RC.seq (RC.sr (mv (vi j) (mv v0 (RL.bC 0 p0 hw mS (ic j ((p0.length:Int)) (RL.nt (dT hb (fun hc hb=>?_) fun hc hb=>?_)))))))
  rotate_left
  ·refine RC.ex ?_
   obtain rfl:=oi hb
   exact⟨rfl,hw.sp 1 [0]⟩
  refine RC.ss (RC.block (RC.seq (RC.vH mixed [0,0,0,0,0,0,0,0,0,2,0] [0,1,2,3,4,5,6,7,8,9,10] ?_)))
  have hw:=hw.drew
  refine DP.e0 zr (mv v0 (aZ zr (mv (vi j) (aZ zr (RL.fQ j 1 (aZ zr ?_))))))
  obtain⟨ab,ad,hb⟩:=bd hb
  refine RL.bN 0 hw iY ad fun ar hw=>(aZ zr (RL.bL 0 ab hw iw fun ae hw=>(aZ zr (mv v0 (aZ zr (mv (vi j) (aZ zr ?_)))))))
  obtain⟨af,ag,hb⟩:=bd hb
  refine RL.bN 2 hw iY ag fun au hw=>(aZ zr (RL.bL 0 af hw iw fun ah hw=>(pz zr ?_)))
  obtain⟨ai,aj,hb⟩:=bd hb
  refine RL.call zt zr Kw [ae,ah] zr (aD (nL N (i0:=2) (i1:=0) hw zr zr aj) ?_)
  rintro _ w ⟨rfl,hw⟩
  refine tw zr (RL.not ai (DP.d0 (DP.z (aH (dT hb (fun hc hb=>?_) fun hc hb=>?_)))))
  ·refine RC.sr (aQ (vi 8) (RL.nt (RC.rb (bS ?_))))
   obtain rfl:=oi hb
   exact⟨rfl,bX ⟨rfl,hw.drop 5⟩⟩
  refine RC.skip (bO (aH (RC.region (mv (vi j) (RL.fQ j 1 (aQ (vi (IntKind.wrap .i64 (j+1))) (RL.nil ?_)))))))
  obtain rfl:=oi hb
  exact⟨rfl,hw.sp 5 [4]⟩
 ·intro r σ w e hK
  subst e
  refine bS ?_
  obtain rfl:=oi hb
  exact hK
 rintro j _ w rfl ⟨τ,rfl,hw⟩
 rw [Fo.dF] at hb
 refine aH (RC.seq (RC.sr (mv v0 (mv v0 ?_))))
 obtain⟨av,ak,hb⟩:=bd hb
 refine RL.call zt zr Jm [v0] zr (aD (jY N (i0:=0) hw zr ak) ?_)
 rintro al w hw
 have hw:=hw.freeze 0
 obtain⟨an,ao,hb⟩:=bd hb
 refine RL.call zt zr MF [v0,al] zr (aD (mj N (i0:=1) (i1:=0) hw zr zr ao) ?_)
 rintro _ w ⟨rfl,hw⟩
 refine RL.not an (RL.nt (dT hb (fun hc hb=>?_) fun hc hb=>?_))
 ·refine RC.sr (aQ (vi 3) (RL.nt (RC.rt ?_)))
  obtain rfl:=oi hb
  exact bX ⟨rfl,hw.drop 2⟩
 refine RC.sx (aQ (vi 0) (RL.nt (RC.ret ?_)))
 obtain rfl:=oi hb
 exact bX ⟨rfl,hw.drop 2⟩
theorem eY {res:Bool} (hw:Holds E w Γ) (hb:cK N p0 p1 p2=some res):
    Calls bM 15 [(vi p0),(vi p1),(vi p2)].toArray w (gL (aV E Γ res)):=by
 unfold cK at hb
 refine enter Tryz.func15 zr zr (RC.sr (aQ (vb false) (RL.ns (mv (vi p0) (mv (vi p1) (ic p0 p1 (mv (vb (decide (p0>=p1))) (RL.gs true (decide (p0>=p1)) (vi p0) zr zr zr cF ?_))))))))
 refine RL.gs true (decide (p0>=p1)) (vi p2) rfl rfl rfl cF (RL.gs true (decide (p0>=p1)) (vb (decide (p0<=p2))) rfl rfl rfl (dI .leq .i64 p0 p2 rfl (fun h=>by exact(cI h:cv (true&&((decide (p0>=p1))==true)) (vi p0)= (vi p0))) (fun h=>by exact(cI h:cv (true&&((decide (p0>=p1))==true)) (vi p2)= (vi p2))) rfl) (RL.pick (decide (p0>=p1)) (vb ((decide (p0>=p1))&&(decide (p0<=p2)))) (fZ true rfl) (aQ (vb ((decide (p0>=p1))&&(decide (p0<=p2)))) (RL.nt (RC.ret ?_)))))
 obtain rfl:=oi hb
 exact bX ⟨rfl,hw.drop 0⟩
theorem m9 {p0:jc} {res:Bool} (hw:Holds E w Γ) (h0:Γ[i0]? =some (rd v0 p0)) (hb:fM N p0=some res):
    Calls bM 91 [v0].toArray w (gL (aV E Γ res)):=by
 unfold fM at hb
 refine enter Tryz.func91 zr zr ?_
 have hw:=hw.dup (i0+0) h0
 refine RC.sr (RL.dJ 0 v0 hw zr fun af w hw=>?_)
 refine aQ (vb false) (RL.nq ?_)
 obtain⟨o,hj,hb⟩:=bd hb
 refine RC.jn (fun(o:Bool)=>SH E Γ [(2,vb o)] []) o ?_ ?_
 ·refine RC.region (RL.aX zr vJ (RL.aM 0 hw zr nv cJ ?_))
  obtain⟨ab,ad,hj⟩:=bd hj
  refine RL.call zt zr AD [(vi p0.X)] zr (aD (eH N (p0:=p0.X) hw ad) ?_)
  rintro _ w ⟨rfl,hw⟩
  refine mv (vb ab) (fB hj (fun j hj=>?_) fun j hj=>?_)
  rotate_left
  ·refine bJ j (bJ j (bJ j (fG j (vb false) (aQ (vb false) (RL.nil ?_)))))
   obtain rfl:=oi hj
   exact⟨rfl,hw.sp 2 []⟩
  refine RL.aX (hg:=(cg j)) zr vK (RL.aM (hg:=(cg j)) 0 hw zr ny cJ ?_)
  obtain⟨aa,ae,hj⟩:=bd hj
  refine RL.call (cg j) zr AD [(vi p0.Y)] zr (aD (eH N (p0:=p0.Y) hw ae) ?_)
  rintro _ w ⟨rfl,hw⟩
  refine fG j (vb aa) (aQ (vb aa) (RL.nil ?_))
  obtain rfl:=oi hj
  exact⟨rfl,hw.sp 2 []⟩
 rintro _ w ⟨τ,rfl,hw⟩
 refine aH (RC.ret ?_)
 obtain rfl:=oi hb
 exact bX ⟨rfl,hw.drop 0⟩
theorem fp {p0:cD} {res:aI} (hw:Holds E w Γ) (h0:Γ[i0]? =some (rd v0 p0)) (hb:cG N p0=some res):
    Calls bM 28 [v0].toArray w (gL (oe E Γ res)):=by
 unfold cG at hb
 refine enter Tryz.func28 zr zr ?_
 have hw:=hw.dup (i0+0) h0
 refine RC.sr (RL.dJ 0 v0 hw zr fun j w hw=>?_)
 refine RL.alloc hw oc.z fun o w hw=>?_
 refine RL.nq (RC.yI mixed ?_)
 have hw:=hw.drew
 refine RO.go (RL.aX zr xC (RO.nx (RL.aX zr vJ (RO.nx (RL.aM (f:=(fun x=>x.At.X)) 1 hw zr (Fd.comp (f:=fun(x:cD)=>x.At) (fun(x:jc)=>x.X) pW nv) cJ (RO.nx (RL.aX zr q9 (RO.nx ?_))))))))
 refine RL.aM 1 hw zr lI cJ (RO.nx (RL.quo p0.dE 2 (RO.nx (RL.fQ p0.At.X (IntKind.wrap .i64 (Int.tdiv p0.dE 2)) (RO.nx (RL.aX zr xC (RO.nx (RL.aX zr vK ?_))))))))
 refine RO.nx (RL.aM (f:=(fun x=>x.At.Y)) 1 hw zr (Fd.comp (f:=fun(x:cD)=>x.At) (fun(x:jc)=>x.Y) pW ny) cJ (RO.nx (RL.aX zr q9 (RO.nx (RL.aM 1 hw zr lI cJ (RO.nx (RL.quo p0.dE 2 (RO.nx ?_))))))))
 refine RL.fQ p0.At.Y (IntKind.wrap .i64 (Int.tdiv p0.dE 2)) (RO.nx (aQ (vi (IntKind.wrap .i64 (p0.At.X - (IntKind.wrap .i64 (Int.tdiv p0.dE 2))))) (RO.nx (aQ (vi (IntKind.wrap .i64 (p0.At.Y - (IntKind.wrap .i64 (Int.tdiv p0.dE 2))))) (RO.last (aH (RC.sr (mv (vi (IntKind.wrap .i64 (p0.At.X - (IntKind.wrap .i64 (Int.tdiv p0.dE 2))))) ?_))))))))
 refine mv (vi (IntKind.wrap .i64 (p0.At.Y - (IntKind.wrap .i64 (Int.tdiv p0.dE 2))))) (mv (vi (IntKind.wrap .i64 (p0.At.X - (IntKind.wrap .i64 (Int.tdiv p0.dE 2))))) (RL.aX zr q9 (RL.aM 1 hw zr lI cJ (RL.fQ (IntKind.wrap .i64 (p0.At.X - (IntKind.wrap .i64 (Int.tdiv p0.dE 2)))) p0.dE (mv (vi (IntKind.wrap .i64 (p0.At.Y - (IntKind.wrap .i64 (Int.tdiv p0.dE 2))))) (RL.aX zr q9 (RL.aM 1 hw zr lI cJ (RL.fQ (IntKind.wrap .i64 (p0.At.Y - (IntKind.wrap .i64 (Int.tdiv p0.dE 2)))) p0.dE ?_))))))))
 have hw:=((hw.sc Int (IntKind.wrap .i64 (p0.At.X - (IntKind.wrap .i64 (Int.tdiv p0.dE 2))))).sc Int (IntKind.wrap .i64 (p0.At.Y - (IntKind.wrap .i64 (Int.tdiv p0.dE 2))))).sc Int (IntKind.wrap .i64 ((IntKind.wrap .i64 (p0.At.X - (IntKind.wrap .i64 (Int.tdiv p0.dE 2))))+p0.dE))
 have hw:=hw.sc Int (IntKind.wrap .i64 ((IntKind.wrap .i64 (p0.At.Y - (IntKind.wrap .i64 (Int.tdiv p0.dE 2))))+p0.dE))
 refine RL.build (⟨(IntKind.wrap .i64 (p0.At.X - (IntKind.wrap .i64 (Int.tdiv p0.dE 2)))),(IntKind.wrap .i64 (p0.At.Y - (IntKind.wrap .i64 (Int.tdiv p0.dE 2)))),(IntKind.wrap .i64 ((IntKind.wrap .i64 (p0.At.X - (IntKind.wrap .i64 (Int.tdiv p0.dE 2))))+p0.dE)),(IntKind.wrap .i64 ((IntKind.wrap .i64 (p0.At.Y - (IntKind.wrap .i64 (Int.tdiv p0.dE 2))))+p0.dE))⟩:aI) trivial rfl hw [(0,(vi (IntKind.wrap .i64 (p0.At.X - (IntKind.wrap .i64 (Int.tdiv p0.dE 2)))))),(1,(vi (IntKind.wrap .i64 (p0.At.Y - (IntKind.wrap .i64 (Int.tdiv p0.dE 2)))))),(2,(vi (IntKind.wrap .i64 ((IntKind.wrap .i64 (p0.At.X - (IntKind.wrap .i64 (Int.tdiv p0.dE 2))))+p0.dE)))),(3,(vi (IntKind.wrap .i64 ((IntKind.wrap .i64 (p0.At.Y - (IntKind.wrap .i64 (Int.tdiv p0.dE 2))))+p0.dE))))] rfl CY rfl (fun M hs g=>by have h:=sK M;exact cT.cons (f:=fun(x:aI) y=>{x with X0:=y}) h oA (g.sat 3 _ rfl).1 fun _ h=>cT.cons (f:=fun(x:aI) y=>{x with Y0:=y}) h pU (g.sat 2 _ rfl).1 fun _ h=>cT.cons (f:=fun(x:aI) y=>{x with X1:=y}) h oC (g.sat 1 _ rfl).1 fun _ h=>cT.cons (f:=fun(x:aI) y=>{x with Y1:=y}) h pV (g.sat 0 _ rfl).1 fun _ h=>cT.nil h) fun aa hw=>?_
 refine RL.cB 5 hw 0 zr iw fun w hw=>?_
 refine RL.nt (RC.ret ?_)
 obtain rfl:=oi hb
 exact HA 5 zr hw zr zr iw fun ab hw=>(hw.pk 9 [0])
theorem pg {p0:cD} (hw:Holds E w Γ) (h0:Γ[i0]? =some (rd v0 p0)) (hb:gz N p0=some res):
    Calls bM 58 [v0].toArray w (gL (aW E Γ res)):=by
 unfold gz at hb
 refine enter Tryz.func58 zr zr ?_
 have hw:=hw.dup (i0+0) h0
 refine RC.sr (RL.dJ 0 v0 hw zr fun ai w hw=>?_)
 refine aQ (vi 0) (RL.nq (RC.seq ?_))
 obtain⟨ae,hj,hb⟩:=bd hb
 refine RC.jn (fun(ae:Bool)=>SH E Γ [(1,vp ai 0),(13,vb ae)] [bx 65 ai p0]) ae ?_ ?_
 ·refine RC.region (RL.aX zr q9 (RL.aM 0 hw zr lI cJ ?_))
  obtain⟨aj,ao,hj⟩:=bd hj
  refine RL.call zt zr D9 [(vi p0.dE),(vi 1),(vi 10000)] zr (aD (eY N (p0:=p0.dE) (p1:=1) (p2:=10000) hw ao) ?_)
  rintro _ w ⟨rfl,hw⟩
  refine RL.not aj (mv (vb (!aj)) (fB hj (fun j hj=>?_) fun j hj=>?_))
  ·refine bJ j (bJ j (bJ j (bJ j (fG j (vb true) (RL.nil ?_)))))
   obtain rfl:=oi hj
   exact⟨rfl,hw.sp 2 [0]⟩
  refine RL.aX (hg:=(cg j)) zr xC (RL.bE (hg:=(cg j)) 0 hw zr pW CZ fun aq hw=>?_)
  obtain⟨ak,ar,hj⟩:=bd hj
  refine RL.call (cg j) zr KF [aq] zr (aD (m9 N (i0:=0) hw zr ar) ?_)
  rintro _ w ⟨rfl,hw⟩
  refine RL.not (hg:=(cg j)) ak (fG j (vb (!ak)) (RL.nil ?_))
  obtain rfl:=oi hj
  exact⟨rfl,hw.sp 3 [1]⟩
 rintro _ w ⟨τ,rfl,hw⟩
 refine aH (dT hb (fun hc hb=>?_) fun hc hb=>?_)
 ·refine RC.sr (aQ (vi 1) (RL.nt (RC.rt ?_)))
  obtain rfl:=oi hb
  exact bX ⟨rfl,hw.drop 1⟩
 refine RC.sx (RL.bE (f:=(fun x=>x)) 0 hw zr Fd.self lP fun au hw=>?_)
 obtain⟨ad,av,hb⟩:=bd hb
 refine RL.call zt zr Fy [au] zr (aD (fp N (i0:=0) hw zr av) ?_)
 rintro a0 w hw
 refine RL.alloc hw oc.z fun a1 w hw=>?_
 refine RL.cB 0 hw 1 zr iw fun w hw=>?_
 refine RL.nq (RC.seq ?_)
 obtain⟨af,hj,hb⟩:=bd hb
 refine RC.jn (fun(af:Bool)=>SH E Γ [(37,vb af)] []) af ?_ ?_
 ·refine RC.region (RL.aX zr g9 (RL.aM 0 hw zr dL cJ ?_))
  obtain⟨al,aw,hj⟩:=bd hj
  refine RL.call zt zr AD [(vi ad.X0)] zr (aD (eH N (p0:=ad.X0) hw aw) ?_)
  rintro _ w ⟨rfl,hw⟩
  refine RL.not al (mv (vb (!al)) (fB hj (fun o hj=>?_) fun o hj=>?_))
  ·refine bJ o (bJ o (bJ o (bJ o (fG o (vb true) (mv (vb true) (j7 (j7 (j7 ?_))))))))
   refine j7 (RL.pick true (vb true) zr (mv (vb true) (j7 (j7 (j7 (j7 (RL.pick true (vb true) zr (RL.nil ?_))))))))
   obtain rfl:=oi hj
   exact⟨rfl,hw.sp 4 []⟩
  refine RL.aX (hg:=(cg o)) zr gR (RL.aM (hg:=(cg o)) 0 hw zr dG cJ ?_)
  obtain⟨ag,ax,hj⟩:=bd hj
  refine RL.call (cg o) zr AD [(vi ad.Y0)] zr (aD (eH N (p0:=ad.Y0) hw ax) ?_)
  rintro _ w ⟨rfl,hw⟩
  refine RL.not (hg:=(cg o)) ag (fG o (vb (!ag)) (mv (vb (!ag)) (fB hj (fun aa hj=>?_) fun aa hj=>?_)))
  ·refine bJ aa (bJ aa (bJ aa (bJ aa (fG aa (vb true) (mv (vb true) (j7 (j7 (j7 ?_))))))))
   refine j7 (RL.pick true (vb true) zr (RL.nil ?_))
   obtain rfl:=oi hj
   exact⟨rfl,hw.sp 4 []⟩
  refine RL.aX (hg:=(cg aa)) zr iZ (RL.aM (hg:=(cg aa)) 0 hw zr eC cJ ?_)
  obtain⟨ah,ay,hj⟩:=bd hj
  refine RL.call (cg aa) zr AD [(vi ad.X1)] zr (aD (eH N (p0:=ad.X1) hw ay) ?_)
  rintro _ w ⟨rfl,hw⟩
  refine RL.not (hg:=(cg aa)) ah (fG aa (vb (!ah)) (mv (vb (!ah)) (fB hj (fun ab hj=>?_) fun ab hj=>?_)))
  ·refine bJ ab (bJ ab (bJ ab (bJ ab (fG ab (vb true) (RL.nil ?_)))))
   obtain rfl:=oi hj
   exact⟨rfl,hw.sp 4 []⟩
  refine RL.aX (hg:=(cg ab)) zr ka (RL.aM (hg:=(cg ab)) 0 hw zr fo cJ ?_)
  obtain⟨an,az,hj⟩:=bd hj
  refine RL.call (cg ab) zr AD [(vi ad.Y1)] zr (aD (eH N (p0:=ad.Y1) hw az) ?_)
  rintro _ w ⟨rfl,hw⟩
  refine RL.not (hg:=(cg ab)) an (fG ab (vb (!an)) (RL.nil ?_))
  obtain rfl:=oi hj
  exact⟨rfl,hw.sp 4 []⟩
 rintro _ w ⟨τ,rfl,hw⟩
 refine aH (dT hb (fun hc hb=>?_) fun hc hb=>?_)
 ·refine RC.sr (aQ (vi 1) (RL.nt (RC.rt ?_)))
  obtain rfl:=oi hb
  exact bX ⟨rfl,hw.drop 0⟩
 refine RC.sx (aQ (vi 0) (RL.nt (RC.ret ?_)))
 obtain rfl:=oi hb
 exact bX ⟨rfl,hw.drop 0⟩
def sP (E:World) (Γ:List HP) (r:Bool) (σ:Nat->Value) (w:World):Prop:=lZ bM 45 Tryz.f94 (aV E Γ r) .ret σ w
theorem nN {p0:eG} {res:Bool} (hw:Holds E w Γ) (hb:ga N p0=some res):
    Calls bM 94 [(str p0)].toArray w (gL (aV E Γ res)):=by
 unfold ga at hb
 refine enter Tryz.func94 zr zr (RC.sr (aQ (vb false) (RL.nq (RC.sr (aQ (vi 0) (RL.nt ?_))))))
 obtain⟨ai,hN,hb⟩:=bd hb
 refine RC.iter (fun(o:Int)=>SH E Γ [(0,(str p0)),(3,vi o)] []) (fun(o:Int)=>SH E Γ [(0,(str p0))] []) (sP E Γ) hN ?_ ?_ ?_ ?_
 ·exact hw.sp 0 []
 ·rintro o fl _ w ⟨τ,rfl,hw⟩ hb
  refine RC.seq (RC.sr (mv (vi o) (mv (str p0) (RL.lens p0 AA (ic o ((p0.cY.length:Int)) (RL.nt (dT hb (fun hc hb=>?_) fun hc hb=>?_)))))))
  rotate_left
  ·refine RC.ex ?_
   obtain rfl:=oi hb
   exact⟨rfl,hw.sp 0 []⟩
  refine RC.ss (RC.bs (mv (str p0) (mv (vi o) ?_)))
  obtain⟨j,ae,hb⟩:=bd hb
  refine RL.idxs p0 o j zr zr zr AA ae (aQ (.int .u8 (j.toNat:Int)) (RL.nq ?_))
  obtain⟨ab,hj,hb⟩:=bd hb
  refine RC.jn (fun(ab:Bool)=>SH E Γ [(0,(str p0)),(3,vi o),(41,vb ab)] []) ab ?_ ?_
  ·refine RC.region (mv (.int .u8 (j.toNat:Int)) (ic ((j.toNat:Int)) 97 (mv (vb (decide ((j.toNat:Int)>=97))) (RL.gs true (decide ((j.toNat:Int)>=97)) (.int .u8 (j.toNat:Int)) rfl rfl rfl cF (RL.gs true (decide ((j.toNat:Int)>=97)) (vb (decide ((j.toNat:Int)<=122))) rfl rfl rfl (dI .leq .u8 (j.toNat:Int) 122 rfl (fun h=>by exact(cI h:cv (true&&((decide ((j.toNat:Int)>=97))==true)) (.int .u8 (j.toNat:Int))= (.int .u8 (j.toNat:Int)))) (fun _=>rfl) rfl) (RL.pick (decide ((j.toNat:Int)>=97)) (vb ((decide ((j.toNat:Int)>=97))&&(decide ((j.toNat:Int)<=122)))) (fZ true rfl) (mv (vb ((decide ((j.toNat:Int)>=97))&&(decide ((j.toNat:Int)<=122)))) (RL.gs true ((decide ((j.toNat:Int)>=97))&&(decide ((j.toNat:Int)<=122))) (.int .u8 (j.toNat:Int)) rfl rfl rfl cF ?_))))))))
   refine RL.gs true ((decide ((j.toNat:Int)>=97))&&(decide ((j.toNat:Int)<=122))) (vb (decide ((j.toNat:Int)>=65))) rfl rfl rfl (dI .geq .u8 (j.toNat:Int) 65 rfl (fun h=>by exact(cI h:cv (true&&(((decide ((j.toNat:Int)>=97))&&(decide ((j.toNat:Int)<=122)))==false)) (.int .u8 (j.toNat:Int))= (.int .u8 (j.toNat:Int)))) (fun _=>rfl) rfl) (RL.gs true ((decide ((j.toNat:Int)>=97))&&(decide ((j.toNat:Int)<=122))) (vb (decide ((j.toNat:Int)>=65))) rfl rfl rfl (cF (hx:=fun h=>by exact(cI h:cv (true&&(((decide ((j.toNat:Int)>=97))&&(decide ((j.toNat:Int)<=122)))==false)) (vb (decide ((j.toNat:Int)>=65)))= (vb (decide ((j.toNat:Int)>=65)))))) (RL.gs (true&&(((decide ((j.toNat:Int)>=97))&&(decide ((j.toNat:Int)<=122)))==false)) (decide ((j.toNat:Int)>=65)) (.int .u8 (j.toNat:Int)) rfl rfl rfl cF (RL.gs (true&&(((decide ((j.toNat:Int)>=97))&&(decide ((j.toNat:Int)<=122)))==false)) (decide ((j.toNat:Int)>=65)) (vb (decide ((j.toNat:Int)<=90))) rfl rfl rfl (dI .leq .u8 (j.toNat:Int) 90 rfl (fun h=>by exact(cI h:cv ((true&&(((decide ((j.toNat:Int)>=97))&&(decide ((j.toNat:Int)<=122)))==false))&&((decide ((j.toNat:Int)>=65))==true)) (.int .u8 (j.toNat:Int))= (.int .u8 (j.toNat:Int)))) (fun _=>rfl) rfl) (RL.gs true ((decide ((j.toNat:Int)>=97))&&(decide ((j.toNat:Int)<=122))) (vb ((decide ((j.toNat:Int)>=65))&&(decide ((j.toNat:Int)<=90)))) rfl rfl rfl (kj (decide ((j.toNat:Int)>=65)) rfl (fun h=>by exact(cI h:cv (true&&(((decide ((j.toNat:Int)>=97))&&(decide ((j.toNat:Int)<=122)))==false)) (vb (decide ((j.toNat:Int)>=65)))= (vb (decide ((j.toNat:Int)>=65))))) (fun h=>by exact fZ (true&&(((decide ((j.toNat:Int)>=97))&&(decide ((j.toNat:Int)<=122)))==false)) h)) (RL.pick ((decide ((j.toNat:Int)>=97))&&(decide ((j.toNat:Int)<=122))) (vb (((decide ((j.toNat:Int)>=97))&&(decide ((j.toNat:Int)<=122)))||((decide ((j.toNat:Int)>=65))&&(decide ((j.toNat:Int)<=90))))) (nD true) (mv (vb (((decide ((j.toNat:Int)>=97))&&(decide ((j.toNat:Int)<=122)))||((decide ((j.toNat:Int)>=65))&&(decide ((j.toNat:Int)<=90))))) (RL.gs true (((decide ((j.toNat:Int)>=97))&&(decide ((j.toNat:Int)<=122)))||((decide ((j.toNat:Int)>=65))&&(decide ((j.toNat:Int)<=90)))) (.int .u8 (j.toNat:Int)) rfl rfl rfl cF (RL.gs true (((decide ((j.toNat:Int)>=97))&&(decide ((j.toNat:Int)<=122)))||((decide ((j.toNat:Int)>=65))&&(decide ((j.toNat:Int)<=90)))) (vb (decide ((j.toNat:Int)>=48))) rfl rfl rfl (dI .geq .u8 (j.toNat:Int) 48 rfl (fun h=>by exact(cI h:cv (true&&((((decide ((j.toNat:Int)>=97))&&(decide ((j.toNat:Int)<=122)))||((decide ((j.toNat:Int)>=65))&&(decide ((j.toNat:Int)<=90))))==false)) (.int .u8 (j.toNat:Int))= (.int .u8 (j.toNat:Int)))) (fun _=>rfl) rfl) ?_))))))))
   refine RL.gs true (((decide ((j.toNat:Int)>=97))&&(decide ((j.toNat:Int)<=122)))||((decide ((j.toNat:Int)>=65))&&(decide ((j.toNat:Int)<=90)))) (vb (decide ((j.toNat:Int)>=48))) rfl rfl rfl (cF (hx:=fun h=>by exact(cI h:cv (true&&((((decide ((j.toNat:Int)>=97))&&(decide ((j.toNat:Int)<=122)))||((decide ((j.toNat:Int)>=65))&&(decide ((j.toNat:Int)<=90))))==false)) (vb (decide ((j.toNat:Int)>=48)))= (vb (decide ((j.toNat:Int)>=48)))))) (RL.gs (true&&((((decide ((j.toNat:Int)>=97))&&(decide ((j.toNat:Int)<=122)))||((decide ((j.toNat:Int)>=65))&&(decide ((j.toNat:Int)<=90))))==false)) (decide ((j.toNat:Int)>=48)) (.int .u8 (j.toNat:Int)) rfl rfl rfl cF (RL.gs (true&&((((decide ((j.toNat:Int)>=97))&&(decide ((j.toNat:Int)<=122)))||((decide ((j.toNat:Int)>=65))&&(decide ((j.toNat:Int)<=90))))==false)) (decide ((j.toNat:Int)>=48)) (vb (decide ((j.toNat:Int)<=57))) rfl rfl rfl (dI .leq .u8 (j.toNat:Int) 57 rfl (fun h=>by exact(cI h:cv ((true&&((((decide ((j.toNat:Int)>=97))&&(decide ((j.toNat:Int)<=122)))||((decide ((j.toNat:Int)>=65))&&(decide ((j.toNat:Int)<=90))))==false))&&((decide ((j.toNat:Int)>=48))==true)) (.int .u8 (j.toNat:Int))= (.int .u8 (j.toNat:Int)))) (fun _=>rfl) rfl) (RL.gs true (((decide ((j.toNat:Int)>=97))&&(decide ((j.toNat:Int)<=122)))||((decide ((j.toNat:Int)>=65))&&(decide ((j.toNat:Int)<=90)))) (vb ((decide ((j.toNat:Int)>=48))&&(decide ((j.toNat:Int)<=57)))) rfl rfl rfl (kj (decide ((j.toNat:Int)>=48)) rfl (fun h=>by exact(cI h:cv (true&&((((decide ((j.toNat:Int)>=97))&&(decide ((j.toNat:Int)<=122)))||((decide ((j.toNat:Int)>=65))&&(decide ((j.toNat:Int)<=90))))==false)) (vb (decide ((j.toNat:Int)>=48)))= (vb (decide ((j.toNat:Int)>=48))))) (fun h=>by exact fZ (true&&((((decide ((j.toNat:Int)>=97))&&(decide ((j.toNat:Int)<=122)))||((decide ((j.toNat:Int)>=65))&&(decide ((j.toNat:Int)<=90))))==false)) h)) (RL.pick (((decide ((j.toNat:Int)>=97))&&(decide ((j.toNat:Int)<=122)))||((decide ((j.toNat:Int)>=65))&&(decide ((j.toNat:Int)<=90)))) (vb ((((decide ((j.toNat:Int)>=97))&&(decide ((j.toNat:Int)<=122)))||((decide ((j.toNat:Int)>=65))&&(decide ((j.toNat:Int)<=90))))||((decide ((j.toNat:Int)>=48))&&(decide ((j.toNat:Int)<=57))))) (nD true) (RL.not ((((decide ((j.toNat:Int)>=97))&&(decide ((j.toNat:Int)<=122)))||((decide ((j.toNat:Int)>=65))&&(decide ((j.toNat:Int)<=90))))||((decide ((j.toNat:Int)>=48))&&(decide ((j.toNat:Int)<=57)))) (mv (vb (!((((decide ((j.toNat:Int)>=97))&&(decide ((j.toNat:Int)<=122)))||((decide ((j.toNat:Int)>=65))&&(decide ((j.toNat:Int)<=90))))||((decide ((j.toNat:Int)>=48))&&(decide ((j.toNat:Int)<=57)))))) (fB hj (fun aa hj=>?_) fun aa hj=>?_)))))))
   rotate_left
   ·refine bJ aa (bJ aa (bJ aa (fG aa (vb false) (RL.nil ?_))))
    obtain rfl:=oi hj
    exact⟨rfl,hw.sp 0 []⟩
   refine RL.move (.int .u8 (j.toNat:Int)) (cg aa) ?_
   obtain⟨ad,af,hj⟩:=bd hj
   refine RL.call (cg aa) zr Kb [(str ⟨[95,43,45,35]⟩),(.int .u8 (j.toNat:Int))] zr (aD (oU N (p0:=⟨[95,43,45,35]⟩) (p1:=(j.toNat:Int)) hw af) ?_)
   rintro _ w ⟨rfl,hw⟩
   refine RL.kL ad 0 (cg aa) (fG aa (vb (decide (ad<0))) (RL.nil ?_))
   obtain rfl:=oi hj
   exact⟨rfl,hw.sp 0 []⟩
  rintro _ w ⟨τ,rfl,hw⟩
  refine aH (dT hb (fun hc hb=>?_) fun hc hb=>?_)
  ·refine RC.sr (aQ (vb false) (RL.nt (RC.rb (bS ?_))))
   obtain rfl:=oi hb
   exact⟨rfl,bX ⟨rfl,hw.drop 0⟩⟩
  refine RC.skip (bO (aH (RC.region (mv (vi o) (RL.fQ o 1 (aQ (vi (IntKind.wrap .i64 (o+1))) (RL.nil ?_)))))))
  obtain rfl:=oi hb
  exact⟨rfl,hw.sp 0 []⟩
 ·intro r σ w e hK
  subst e
  refine bS ?_
  obtain rfl:=oi hb
  exact hK
 rintro o _ w rfl ⟨τ,rfl,hw⟩
 rw [Fo.dF] at hb
 refine aH (RC.sr (mv (str p0) (RL.lens p0 AA ?_)))
 obtain⟨ag,ah,hb⟩:=bd hb
 refine RL.call zt zr D9 [(vi p0.cY.length),(vi 1),(vi 40)] zr (aD (eY N (p0:=(p0.cY.length:Int)) (p1:=1) (p2:=40) hw ah) ?_)
 rintro _ w ⟨rfl,hw⟩
 refine aQ (vb ag) (RL.nt (RC.ret ?_))
 obtain rfl:=oi hb
 exact bX ⟨rfl,hw.drop 0⟩
def sQ (E:World) (Γ:List HP) (r:Bool) (σ:Nat->Value) (w:World):Prop:=lZ bM 22 Tryz.f93 (aV E Γ r) .ret σ w
theorem rT {p0:eG} {res:Bool} (hw:Holds E w Γ) (hb:jk N p0=some res):
    Calls bM 93 [(str p0)].toArray w (gL (aV E Γ res)):=by
 unfold jk at hb
 refine enter Tryz.func93 zr zr (RC.sr (aQ (vb false) (RL.ns (mv (str p0) ?_))))
 obtain⟨aa,ae,hb⟩:=bd hb
 refine RL.call zt zr J9 [(str p0),(str ⟨[47]⟩)] zr (aD (rP N (p0:=p0) (p1:=⟨[47]⟩) hw ae) ?_)
 rintro o w hw
 refine aQ o (RL.nq (RC.sr (aQ (vi 0) (RL.nt ?_))))
 obtain⟨ah,hN,hb⟩:=bd hb
 refine RC.iter (fun(j:Int)=>SH E Γ [(0,(str p0)),(3,o),(4,vi j)] [own 9 o aa]) (fun(j:Int)=>SH E Γ [(0,(str p0))] [own 9 o aa]) (sQ E Γ) hN ?_ ?_ ?_ ?_
 ·exact hw.sp 1 [0]
 ·rintro j fl _ w ⟨τ,rfl,hw⟩ hb
  refine RC.seq (RC.sr (mv (vi j) (mv o (RL.fR 0 aa hw It (ic j ((aa.length:Int)) (RL.nt (dT hb (fun hc hb=>?_) fun hc hb=>?_)))))))
  rotate_left
  ·refine RC.ex ?_
   obtain rfl:=oi hb
   exact⟨rfl,hw.sp 1 [0]⟩
  refine RC.ss (RC.bs (mv o (mv (vi j) ?_)))
  obtain⟨ad,ab,hb⟩:=bd hb
  refine RL.bU 0 hw zr zr C0 ab (RL.dO (f:=(fun x=>x)) 0 hw (jA 0 hw ab 0) (bI ab).2.1 Fd.self Aq ?_)
  obtain⟨af,ag,hb⟩:=bd hb
  refine RL.call zt zr KG [(str ad)] zr (aD (nN N (p0:=ad) hw ag) ?_)
  rintro _ w ⟨rfl,hw⟩
  refine RL.not af (RL.nt (dT hb (fun hc hb=>?_) fun hc hb=>?_))
  ·refine RC.sr (aQ (vb false) (RL.nt (RC.rb (bS ?_))))
   obtain rfl:=oi hb
   exact⟨rfl,bX ⟨rfl,hw.drop 1⟩⟩
  refine RC.skip (bO (aH (RC.region (mv (vi j) (RL.fQ j 1 (aQ (vi (IntKind.wrap .i64 (j+1))) (RL.nil ?_)))))))
  obtain rfl:=oi hb
  exact⟨rfl,hw.sp 1 [0]⟩
 ·intro r σ w e hK
  subst e
  refine bS ?_
  obtain rfl:=oi hb
  exact hK
 rintro j _ w rfl ⟨τ,rfl,hw⟩
 rw [Fo.dF] at hb
 refine aH (RC.sr (mv (str p0) (RL.lens p0 AA (ic ((p0.cY.length:Int)) 200 (aQ (vb (decide ((p0.cY.length:Int)<=200))) (RL.nt (RC.ret ?_)))))))
 obtain rfl:=oi hb
 exact bX ⟨rfl,hw.drop 1⟩
end Go.Gk
