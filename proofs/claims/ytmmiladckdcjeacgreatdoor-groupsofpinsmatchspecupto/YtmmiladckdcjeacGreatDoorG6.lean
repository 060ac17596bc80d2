/-
  Printed texts: Go functions as plain functions, and that they are. No statement of the seed is proved here.
-/
import Derived.Test.YtmmiladckdcjeacGreatDoorG1
import Derived.Test.YtmmiladckdcjeacGreatDoorG5
import Derived.Test.YtmmiladckdcjeacGreatDoorA2
set_option linter.unusedVariables false
set_option linter.unusedSimpArgs false
set_option linter.unusedSectionVars false
set_option maxRecDepth 100000
set_option maxHeartbeats 4000000
namespace Go.Gk
open Go Go.Proofs
variable (N:Nat) {E w:World} {i0 i1:Nat} {p0 p1 p2 res:Int} {v0 v1:Value} {V:List HP}
theorem xy {p0:kT} {p1:dV} {res:Int×Bool×Int} (j:Holds E w V) (h0:V[i0]? =some (rd v0 p0)) (h1:V[i1]? =some (rd v1 p1)) (o:ke N p0 p1=some res):
    Calls bN 4 [v0,v1].toArray w (gL (sd E V res)):=by
 unfold ke at o
 refine enter Tryz.func4 zr zr ?_
 have j:=(j.dup (i0+0) h0).dup (i1+1) h1
 refine RC.sr (RL.cS 1 v0 j zr fun ay w j=>?_)
 refine RL.cS 1 v1 j zr fun az w j=>?_
 refine aQ (vi 0) (aQ (vb false) (aQ (vi 0) (RL.ns (RL.bB (f:=(fun x=>x)) 1 j zr Fd.self vz fun ak j=>?_))))
 obtain⟨aa,al,o⟩:=bd o
 refine RL.call zt zr NA [ak] zr (aD (Ad N (i0:=0) j zr al) ?_)
 rintro _ w hK50
 rcases af:aa.1 with _ | a0
 ·replace o:=L1 af o
  obtain⟨rfl,j⟩:=Kx af hK50
  refine mv (.tuple #[(.pointer none),(vi aa.2)]) (RL.extract (.pointer none) (RL.extract (vi aa.2) (aQ (.pointer none) (aQ (vi aa.2) (RL.nq (RC.sr (mv (vi aa.2) (ic aa.2 0 ?_))))))))
  refine RL.nt (dQ o (fun hc o=>?_) fun hc o=>?_)
  ·refine RC.sr (mv (vi aa.2) (aQ (vi 0) (aQ (vb false) (aQ (vi aa.2) (RL.nt (RC.rt ?_))))))
   obtain rfl:=oi o
   exact A9 ⟨rfl,j.drop 5⟩
  refine RC.sx (RL.bB (f:=(fun x=>x)) 2 j zr Fd.self vz fun an j=>(RL.bB (f:=(fun x=>x)) 2 j zr Fd.self zW fun ao j=>?_))
  obtain⟨ag,aq,o⟩:=bd o
  refine RL.call zt zr Nr [an,ao] zr (aD (sA N (i0:=1) (i1:=0) j zr zr aq) ?_)
  rintro _ w ⟨rfl,j⟩
  refine aQ (vi ag) (RL.nq (RC.sr (mv (vi ag) (ic ag 0 (RL.nt (dQ o (fun hc o=>?_) fun hc o=>?_))))))
  rotate_left
  ·cases o
  refine RC.sr (aQ (vi 0) (aQ (vb false) (aQ (vi 9) (RL.nt (RC.rt ?_)))))
  obtain rfl:=oi o
  exact A9 ⟨rfl,j.drop 7⟩
 replace o:=L2 af o
 obtain⟨ad,a1,a2,a3,a4,a5,a6,a7,a8,a9,ba,aj,bb,rfl,j⟩:=Ky af hK50
 refine mv (.tuple #[(vp ad 0),(vi aa.2)]) (RL.extract (vp ad 0) (RL.extract (vi aa.2) (aQ (vp ad 0) (aQ (vi aa.2) (RL.nq (RC.sr (mv (vi aa.2) (ic aa.2 0 ?_))))))))
 refine RL.nt (dQ o (fun hc o=>?_) fun hc o=>?_)
 ·refine RC.sr (mv (vi aa.2) (aQ (vi 0) (aQ (vb false) (aQ (vi aa.2) (RL.nt (RC.rt ?_))))))
  obtain rfl:=oi o
  exact A9 ⟨rfl,j.drop 18⟩
 refine RC.sx (RL.bB (f:=(fun x=>x)) 15 j zr Fd.self vz fun ar j=>(RL.bB (f:=(fun x=>x)) 15 j zr Fd.self zW fun au j=>?_))
 obtain⟨ae,av,o⟩:=bd o
 refine RL.call zt zr Nr [ar,au] zr (aD (sA N (i0:=1) (i1:=0) j zr zr av) ?_)
 rintro _ w ⟨rfl,j⟩
 refine aQ (vi ae) (RL.nq (RC.sr (mv (vi ae) (ic ae 0 (RL.nt (dQ o (fun hc o=>?_) fun hc o=>?_))))))
 ·refine RC.sr (aQ (vi 0) (aQ (vb false) (aQ (vi 9) (RL.nt (RC.rt ?_)))))
  obtain rfl:=oi o
  exact A9 ⟨rfl,j.drop 20⟩
 refine RC.ss (RC.sr (mv (vp ad 0) (RL.nilCheck zr (RL.aY zr Cj (RL.bK 2 aj j fu (mv (vi ae) ?_))))))
 obtain⟨aw,ah,o⟩:=bd o
 refine RL.bV 13 j zr zr eC ah (RL.dH (f:=(fun x=>x)) 13 j (jF 13 j ah 0) (bH ah).2.1 Fd.self cI (ic aw 0 (RL.nt (dQ o (fun hc o=>?_) fun hc o=>?_))))
 ·refine RC.sr (aQ (vi 0) (aQ (vb false) (aQ (vi 0) (RL.nt (RC.rt ?_)))))
  obtain rfl:=oi o
  exact A9 ⟨rfl,j.drop 20⟩
 refine RC.sx (mv (vp ad 0) (RL.nilCheck zr (RL.aY zr Cj (RL.bK 2 aj j fu (mv (vi ae) ?_)))))
 obtain⟨ax,ai,o⟩:=bd o
 refine RL.bV 13 j zr zr eC ai (RL.dH (f:=(fun x=>x)) 13 j (jF 13 j ai 0) (bH ai).2.1 Fd.self cI (aQ (vi ax) (aQ (vb true) (aQ (vi 0) (RL.nt (RC.ret ?_))))))
 obtain rfl:=oi o
 exact A9 ⟨rfl,j.drop 20⟩
theorem sB {res:Bool} (o:Holds E w V) (j:mB N p0 p1 p2=some res):
    Calls bN 121 [(vi p0),(vi p1),(vi p2)].toArray w (gL (aX E V res)):=by
 unfold mB at j
 refine enter Tryz.func121 zr zr (RC.sr (aQ (vb false) (RL.ns (mv (vi p0) (mv (vi p1) (ic p0 p1 (mv (vb (decide (p0>=p1))) (RL.gs true (decide (p0>=p1)) (vi p0) zr zr zr cK ?_))))))))
 refine RL.gs true (decide (p0>=p1)) (vi p2) rfl rfl rfl cK (RL.gs true (decide (p0>=p1)) (vb (decide (p0<=p2))) rfl rfl rfl (dK .leq .i64 p0 p2 rfl (fun h=>by exact(cM h:cv (true&&((decide (p0>=p1))==true)) (vi p0)= (vi p0))) (fun h=>by exact(cM h:cv (true&&((decide (p0>=p1))==true)) (vi p2)= (vi p2))) rfl) (RL.pick (decide (p0>=p1)) (vb ((decide (p0>=p1))&&(decide (p0<=p2)))) (gD true rfl) (aQ (vb ((decide (p0>=p1))&&(decide (p0<=p2)))) (RL.nt (RC.ret ?_)))))
 obtain rfl:=oi j
 exact bX ⟨rfl,o.drop 0⟩
theorem eK {res:Bool} (o:Holds E w V) (j:cR N p0=some res):
    Calls bN 98 [(vi p0)].toArray w (gL (aX E V res)):=by
 unfold cR at j
 refine enter Tryz.func98 zr zr (RC.sr (aQ (vb false) (RL.ns (mv (vi p0) ?_))))
 obtain⟨aa,ab,j⟩:=bd j
 refine RL.call zt zr Lg [(vi p0),(vi (-1000000)),(vi 1000000)] zr (aD (sB N (p0:=p0) (p1:=(-1000000)) (p2:=1000000) o ab) ?_)
 rintro _ w ⟨rfl,o⟩
 refine aQ (vb aa) (RL.nt (RC.ret ?_))
 obtain rfl:=oi j
 exact bX ⟨rfl,o.drop 0⟩
def qL (E:World) (V:List HP) (r:Int) (U:Nat->Value) (w:World):Prop:=lF bN 52 Tryz.f94 (aU E V r) .ret U w
theorem p6 {p0: (List aI)} (o:Holds E w V) (h0:V[i0]? =some (rd v0 p0)) (hb:gU N p0=some res):
    Calls bN 94 [v0].toArray w (gL (aU E V res)):=by
 unfold gU at hb
 refine enter Tryz.func94 zr zr ?_
 have o:=o.dup (i0+0) h0
 refine RC.sr (aQ (vi 0) (RL.nq (RC.sr (mv v0 (RL.bF 0 p0 o nk (ic ((p0.length:Int)) 2000 (RL.nt (dQ hb (fun hc hb=>?_) fun hc hb=>?_))))))))
 ·refine RC.sr (aQ (vi 2) (RL.nt (RC.rt ?_)))
  obtain rfl:=oi hb
  exact bX ⟨rfl,o.drop 1⟩
 refine RC.ss (RC.sr (aQ (vi 0) (RL.nt ?_)))
 obtain⟨az,hN,hb⟩:=bd hb
 refine RC.iter (fun(ad:Int)=>SH E V [(0,v0),(3,vi ad)] [rd v0 p0]) (fun(ad:Int)=>SH E V [] [rd v0 p0]) (qL E V) hN ?_ ?_ ?_ ?_
 ·exact o.sp 1 [0]
 ·rintro ad fl _ w ⟨O,rfl,o⟩ hb
  refine RC.seq (RC.sr (mv (vi ad) (mv v0 (RL.bF 0 p0 o nk (ic ad ((p0.length:Int)) (RL.nt (dQ hb (fun hc hb=>?_) fun hc hb=>?_)))))))
  rotate_left
  ·refine RC.ex ?_
   obtain rfl:=oi hb
   exact⟨rfl,o.sp 1 [0]⟩
  refine RC.ss (RC.bs (mv v0 (mv (vi ad) ?_)))
  obtain⟨j,ar,hb⟩:=bd hb
  refine RL.bP 0 o jh ar fun a1 o=>(RL.bJ 0 j o iE fun a2 o=>(RL.alloc o oG.z fun ah w o=>?_))
  refine RL.cC 0 o 1 zr iE fun w o=>?_
  refine RL.nq (RC.seq ?_)
  obtain⟨aj,hj,hb⟩:=bd hb
  refine RC.jn (fun(aj:Bool)=>SH E V [(0,v0),(3,vi ad),(4,vp ah 0),(39,vb aj)] [rd v0 p0,bx 56 ah j]) aj ?_ ?_
  ·refine RC.region (RL.aY zr ij (RL.aM 0 o zr dM cI ?_))
   obtain⟨an,au,hj⟩:=bd hj
   refine RL.call zt zr Bi [(vi j.X0)] zr (aD (eK N (p0:=j.X0) o au) ?_)
   rintro _ w ⟨rfl,o⟩
   refine RL.not an (mv (vb (!an)) (eZ hj (fun ae hj=>?_) fun ae hj=>?_))
   ·refine bC ae (bC ae (bC ae (bC ae (fq ae (vb true) (mv (vb true) (kp (kp (kp ?_))))))))
    refine kp (RL.pick true (vb true) zr (mv (vb true) (kp (kp (kp (kp (RL.pick true (vb true) zr (RL.nil ?_))))))))
    obtain rfl:=oi hj
    exact⟨rfl,o.sp 4 [3,0]⟩
   refine RL.aY (hg:=(cg ae)) zr gW (RL.aM (hg:=(cg ae)) 0 o zr dF cI ?_)
   obtain⟨ak,av,hj⟩:=bd hj
   refine RL.call (cg ae) zr Bi [(vi j.Y0)] zr (aD (eK N (p0:=j.Y0) o av) ?_)
   rintro _ w ⟨rfl,o⟩
   refine RL.not (hg:=(cg ae)) ak (fq ae (vb (!ak)) (mv (vb (!ak)) (eZ hj (fun af hj=>?_) fun af hj=>?_)))
   ·refine bC af (bC af (bC af (bC af (fq af (vb true) (mv (vb true) (kp (kp (kp ?_))))))))
    refine kp (RL.pick true (vb true) zr (RL.nil ?_))
    obtain rfl:=oi hj
    exact⟨rfl,o.sp 4 [3,0]⟩
   refine RL.aY (hg:=(cg af)) zr ji (RL.aM (hg:=(cg af)) 0 o zr eF cI ?_)
   obtain⟨al,aw,hj⟩:=bd hj
   refine RL.call (cg af) zr Bi [(vi j.X1)] zr (aD (eK N (p0:=j.X1) o aw) ?_)
   rintro _ w ⟨rfl,o⟩
   refine RL.not (hg:=(cg af)) al (fq af (vb (!al)) (mv (vb (!al)) (eZ hj (fun ag hj=>?_) fun ag hj=>?_)))
   ·refine bC ag (bC ag (bC ag (bC ag (fq ag (vb true) (RL.nil ?_)))))
    obtain rfl:=oi hj
    exact⟨rfl,o.sp 4 [3,0]⟩
   refine RL.aY (hg:=(cg ag)) zr kr (RL.aM (hg:=(cg ag)) 0 o zr fG cI ?_)
   obtain⟨ao,ax,hj⟩:=bd hj
   refine RL.call (cg ag) zr Bi [(vi j.Y1)] zr (aD (eK N (p0:=j.Y1) o ax) ?_)
   rintro _ w ⟨rfl,o⟩
   refine RL.not (hg:=(cg ag)) ao (fq ag (vb (!ao)) (RL.nil ?_))
   obtain rfl:=oi hj
   exact⟨rfl,o.sp 4 [3,0]⟩
  rintro _ w ⟨O,rfl,o⟩
  refine aH (dQ hb (fun hc hb=>?_) fun hc hb=>?_)
  ·refine RC.sr (aQ (vi 1) (RL.nt (RC.rt (oA (bS ?_)))))
   obtain rfl:=oi hb
   exact⟨rfl,bX ⟨rfl,o.drop 2⟩⟩
  refine RC.sx (RL.aY rfl ji (RL.aM 1 o rfl eF cI (RL.aY rfl ij (RL.aM 1 o rfl dM cI (ic j.X1 j.X0 (mv (vb (decide (j.X1<=j.X0))) (RL.gs true (decide (j.X1<=j.X0)) (vp ah 3) rfl rfl rfl (eA kr) (RL.gs true (decide (j.X1<=j.X0)) (vi j.Y1) rfl rfl rfl (cB 1 rfl o (fun h=>by exact(cM h:cv (true&&((decide (j.X1<=j.X0))==false)) (vp ah 3)= (vp ah 3))) rfl fG cI) ?_))))))))
  refine RL.gs true (decide (j.X1<=j.X0)) (vp ah 1) rfl rfl rfl (eA gW) (RL.gs true (decide (j.X1<=j.X0)) (vi j.Y0) rfl rfl rfl (cB 1 rfl o (fun h=>by exact(cM h:cv (true&&((decide (j.X1<=j.X0))==false)) (vp ah 1)= (vp ah 1))) rfl dF cI) (RL.gs true (decide (j.X1<=j.X0)) (vb (decide (j.Y1<=j.Y0))) rfl rfl rfl (dK .leq .i64 j.Y1 j.Y0 rfl (fun h=>by exact(cM h:cv (true&&((decide (j.X1<=j.X0))==false)) (vi j.Y1)= (vi j.Y1))) (fun h=>by exact(cM h:cv (true&&((decide (j.X1<=j.X0))==false)) (vi j.Y0)= (vi j.Y0))) rfl) (RL.pick (decide (j.X1<=j.X0)) (vb ((decide (j.X1<=j.X0))||(decide (j.Y1<=j.Y0)))) (nX true) (RL.nt (dQ hb (fun hc hb=>?_) fun hc hb=>?_)))))
  ·refine RC.sr (aQ (vi 13) (RL.nt (RC.rb (bS ?_))))
   obtain rfl:=oi hb
   exact⟨rfl,bX ⟨rfl,o.drop 2⟩⟩
  refine RC.skip (bQ (aH (RC.region (mv (vi ad) (RL.fY ad 1 (aQ (vi (IntKind.wrap .i64 (ad+1))) (RL.nil ?_)))))))
  obtain rfl:=oi hb
  exact⟨rfl,o.sp 2 [0]⟩
 ·intro r U w e hK
  subst e
  refine bS ?_
  obtain rfl:=oi hb
  exact hK
 rintro ad _ w rfl ⟨O,rfl,o⟩
 rw [Fo.dB] at hb
 refine aH (RC.sr (aQ (vi 0) (RL.nt (RC.ret ?_))))
 obtain rfl:=oi hb
 exact bX ⟨rfl,o.drop 1⟩
theorem oc {p0 p1:aI} {res:Bool} (j:Holds E w V) (h0:V[i0]? =some (rd v0 p0)) (h1:V[i1]? =some (rd v1 p1)) (hb:iz N p0 p1=some res):
    Calls bN 95 [v0,v1].toArray w (gL (aX E V res)):=by
 unfold iz at hb
 refine enter Tryz.func95 zr zr ?_
 have j:=(j.dup (i0+0) h0).dup (i1+1) h1
 refine RC.sr (RL.cS 1 v0 j zr fun o w j=>?_)
 refine RL.cS 1 v1 j zr fun aa w j=>?_
 refine aQ (vb false) (RL.ns (RL.aY zr gW (RL.aM 1 j zr dF cI (RL.aY zr gW (RL.aM 0 j zr dF cI (ic p0.Y0 p1.Y0 (mv (vb (decide (p0.Y0<p1.Y0))) (RL.gs true (decide (p0.Y0<p1.Y0)) (vp o 1) zr zr zr (eA gW) ?_))))))))
 refine RL.gs true (decide (p0.Y0<p1.Y0)) (vi p0.Y0) rfl rfl rfl (cB 1 rfl j (fun h=>by exact(cM h:cv (true&&((decide (p0.Y0<p1.Y0))==false)) (vp o 1)= (vp o 1))) rfl dF cI) (RL.gs true (decide (p0.Y0<p1.Y0)) (vp aa 1) rfl rfl rfl (eA gW) (RL.gs true (decide (p0.Y0<p1.Y0)) (vi p1.Y0) rfl rfl rfl (cB 0 rfl j (fun h=>by exact(cM h:cv (true&&((decide (p0.Y0<p1.Y0))==false)) (vp aa 1)= (vp aa 1))) rfl dF cI) (RL.gs true (decide (p0.Y0<p1.Y0)) (vb (p0.Y0==p1.Y0)) rfl rfl rfl (dK .eql .i64 p0.Y0 p1.Y0 rfl (fun h=>by exact(cM h:cv (true&&((decide (p0.Y0<p1.Y0))==false)) (vi p0.Y0)= (vi p0.Y0))) (fun h=>by exact(cM h:cv (true&&((decide (p0.Y0<p1.Y0))==false)) (vi p1.Y0)= (vi p1.Y0))) rfl) (RL.gs true (decide (p0.Y0<p1.Y0)) (vb (p0.Y0==p1.Y0)) rfl rfl rfl (cK (hx:=fun h=>by exact(cM h:cv (true&&((decide (p0.Y0<p1.Y0))==false)) (vb (p0.Y0==p1.Y0))= (vb (p0.Y0==p1.Y0))))) (RL.gs (true&&((decide (p0.Y0<p1.Y0))==false)) (p0.Y0==p1.Y0) (vp o 0) rfl rfl rfl (eA ij) (RL.gs (true&&((decide (p0.Y0<p1.Y0))==false)) (p0.Y0==p1.Y0) (vi p0.X0) rfl rfl rfl (cB 1 rfl j (fun h=>by exact(cM h:cv ((true&&((decide (p0.Y0<p1.Y0))==false))&&((p0.Y0==p1.Y0)==true)) (vp o 0)= (vp o 0))) rfl dM cI) (RL.gs (true&&((decide (p0.Y0<p1.Y0))==false)) (p0.Y0==p1.Y0) (vp aa 0) rfl rfl rfl (eA ij) (RL.gs (true&&((decide (p0.Y0<p1.Y0))==false)) (p0.Y0==p1.Y0) (vi p1.X0) rfl rfl rfl (cB 0 rfl j (fun h=>by exact(cM h:cv ((true&&((decide (p0.Y0<p1.Y0))==false))&&((p0.Y0==p1.Y0)==true)) (vp aa 0)= (vp aa 0))) rfl dM cI) ?_))))))))
 refine RL.gs (true&&((decide (p0.Y0<p1.Y0))==false)) (p0.Y0==p1.Y0) (vb (decide (p0.X0<p1.X0))) rfl rfl rfl (dK .lss .i64 p0.X0 p1.X0 rfl (fun h=>by exact(cM h:cv ((true&&((decide (p0.Y0<p1.Y0))==false))&&((p0.Y0==p1.Y0)==true)) (vi p0.X0)= (vi p0.X0))) (fun h=>by exact(cM h:cv ((true&&((decide (p0.Y0<p1.Y0))==false))&&((p0.Y0==p1.Y0)==true)) (vi p1.X0)= (vi p1.X0))) rfl) (RL.gs true (decide (p0.Y0<p1.Y0)) (vb ((p0.Y0==p1.Y0)&&(decide (p0.X0<p1.X0)))) rfl rfl rfl (kE (p0.Y0==p1.Y0) rfl (fun h=>by exact(cM h:cv (true&&((decide (p0.Y0<p1.Y0))==false)) (vb (p0.Y0==p1.Y0))= (vb (p0.Y0==p1.Y0)))) (fun h=>by exact gD (true&&((decide (p0.Y0<p1.Y0))==false)) h)) (RL.pick (decide (p0.Y0<p1.Y0)) (vb ((decide (p0.Y0<p1.Y0))||((p0.Y0==p1.Y0)&&(decide (p0.X0<p1.X0))))) (nX true) (aQ (vb ((decide (p0.Y0<p1.Y0))||((p0.Y0==p1.Y0)&&(decide (p0.X0<p1.X0))))) (RL.nt (RC.ret ?_)))))
 obtain rfl:=oi hb
 exact bX ⟨rfl,j.drop 4⟩
theorem iF {p0: (List Int)} {res: (List Int)} (j:Holds E w V) (h0:V[i0]? =some (rd v0 p0)) (hb:fA N p0 p1=some res):
    Calls bN 123 [v0,(vi p1)].toArray w (gL (nn E V res)):=by
 unfold fA at hb
 refine enter Tryz.func123 zr zr ?_
 have j:=j.dup (i0+0) h0
 refine RC.sr (aQ (.slice none 0 0) (RL.ns (mv v0 (RL.bF 0 p0 j mn (aQ (vi 0) (aQ (vi p0.length) (RL.nq ?_)))))))
 obtain⟨ay,hN,hb⟩:=bd hb
 refine RC.iter (fun(o:Int×Int)=>SH E V [(0,v0),(1,vi p1),(5,vi o.1),(6,vi o.2)] [rd v0 p0]) (fun(o:Int×Int)=>SH E V [(0,v0),(1,vi p1),(5,vi o.1)] [rd v0 p0]) (fun(r:Empty) _ _=>r.elim) hN ?_ ?_ ?_ ?_
 ·exact j.sp 1 [0]
 ·rintro o fl _ w ⟨O,rfl,j⟩ hb
  refine RC.seq (RC.sr (mv (vi o.1) (mv (vi o.2) (ic o.1 o.2 (RL.nt (dQ hb (fun hc hb=>?_) fun hc hb=>?_))))))
  rotate_left
  ·refine RC.ex ?_
   obtain rfl:=oi hb
   exact⟨rfl,j.sp 1 [0]⟩
  refine RC.sn (RC.bs (mv (vi o.1) (mv (vi o.2) (RL.fY o.1 o.2 (RL.quo (IntKind.wrap .i64 (o.1+o.2)) 2 (aQ (vi (IntKind.wrap .i64 (Int.tdiv (IntKind.wrap .i64 (o.1+o.2)) 2))) (RL.ns (mv v0 ?_))))))))
  refine mv (vi (IntKind.wrap .i64 (Int.tdiv (IntKind.wrap .i64 (o.1+o.2)) 2))) ?_
  obtain⟨ai,an,hb⟩:=bd hb
  refine RL.bP 0 j eC an fun a0 j=>(RL.bE ai 0 j cI (mv (vi p1) (ic ai p1 (RL.nt ?_))))
  obtain⟨af,hj,hb⟩:=bd hb
  refine RC.jn (fun(af:Int×Int)=>SH E V [(0,v0),(1,vi p1),(5,vi af.1),(6,vi af.2)] [rd v0 p0]) af ?_ ?_
  ·refine dQ hj (fun hc hj=>?_) fun hc hj=>?_
   rotate_left
   ·refine RC.region (mv (vi (IntKind.wrap .i64 (Int.tdiv (IntKind.wrap .i64 (o.1+o.2)) 2))) (aQ (vi (IntKind.wrap .i64 (Int.tdiv (IntKind.wrap .i64 (o.1+o.2)) 2))) (RL.nil ?_)))
    obtain rfl:=oi hj
    exact⟨rfl,j.sp 2 [1]⟩
   refine RC.region (mv (vi (IntKind.wrap .i64 (Int.tdiv (IntKind.wrap .i64 (o.1+o.2)) 2))) (RL.fY (IntKind.wrap .i64 (Int.tdiv (IntKind.wrap .i64 (o.1+o.2)) 2)) 1 (aQ (vi (IntKind.wrap .i64 ((IntKind.wrap .i64 (Int.tdiv (IntKind.wrap .i64 (o.1+o.2)) 2))+1))) (RL.nil ?_))))
   obtain rfl:=oi hj
   exact⟨rfl,j.sp 2 [1]⟩
  rintro _ w ⟨O,rfl,j⟩
  refine bQ ?_
  obtain rfl:=oi hb
  exact⟨rfl,j.sp 1 [0]⟩
 ·intro r _ _ _ _
  exact r.elim
 rintro o _ w rfl ⟨O,rfl,j⟩
 rw [Fo.dB] at hb
 refine aH (RC.seq (RC.seq ?_))
 obtain⟨ag,hj,hb⟩:=bd hb
 refine RC.jn (fun(ag:Bool)=>SH E V [(0,v0),(1,vi p1),(5,vi o.1),(38,vb ag)] [rd v0 p0]) ag ?_ ?_
 ·refine RC.region (mv (vi o.1) (mv v0 (RL.bF 0 p0 j mn (ic o.1 ((p0.length:Int)) (mv (vb (decide (o.1< (p0.length:Int)))) (eZ hj (fun ab hj=>?_) fun ab hj=>?_))))))
  rotate_left
  ·refine bC ab (bC ab (bC ab (bC ab (bC ab (bC ab (fq ab (vb false) (RL.nil ?_)))))))
   obtain rfl:=oi hj
   exact⟨rfl,j.sp 1 [0]⟩
  refine RL.move v0 (cg ab) (RL.move (vi o.1) (cg ab) ?_)
  obtain⟨ah,ao,hj⟩:=bd hj
  refine RL.bP (hg:=(cg ab)) 0 j eC ao fun a1 j=>(RL.bE (hg:=(cg ab)) ah 0 j cI (RL.move (vi p1) (cg ab) (RL.kX ah p1 (cg ab) (fq ab (vb (ah==p1)) (RL.nil ?_)))))
  obtain rfl:=oi hj
  exact⟨rfl,j.sp 2 [1]⟩
 rintro _ w ⟨O,rfl,j⟩
 refine aH (dQ hb (fun hc hb=>?_) fun hc hb=>?_)
 ·refine RC.sr (mv v0 (aQ v0 (RL.nt (RC.rt ?_))))
  obtain rfl:=oi hb
  exact bX (j.pk 1 [0])
 refine RC.sx (aQ (.slice none 0 0) (RL.ns (mv (.slice none 0 0) (mv v0 (mv (vi o.1) ?_)))))
 obtain⟨a2,aq,hb⟩:=bd hb
 refine RL.cut (hl:= .inr ⟨rfl,zr⟩) 0 j eC (.inl zr) aq fun a3 j=>?_
 have j:=j.cW Int 3
 obtain⟨a4,ar,hb⟩:=bd hb
 refine RL.app 0 1 j q7 ar fun aj w j=>?_
 refine aQ aj (RL.ns (mv aj (mv (vi p1) ?_)))
 have j:=j.sc Int p1
 refine RL.dY ([p1]: (List Int)) j [(vi p1)] eC CI (fun M hs g=>⟨(g.sat 0 _ zr).1,zt⟩) fun a5 w j=>?_
 have j:=j.freeze 0
 obtain⟨a6,au,hb⟩:=bd hb
 refine RL.app 2 0 j q7 au fun ak w j=>?_
 refine aQ ak (RL.ns (mv ak (mv v0 (mv (vi o.1) ?_))))
 obtain⟨a7,av,hb⟩:=bd hb
 refine RL.cut 4 j eC (.inr ⟨rfl,zr⟩) av fun a8 j=>?_
 obtain⟨a9,aw,hb⟩:=bd hb
 refine RL.app 3 0 j q7 aw fun ax w j=>?_
 refine aQ ax (RL.nt (RC.ret ?_))
 obtain rfl:=oi hb
 have j:=j.freeze 3
 exact bX (j.pk 6 [3])
theorem nB {p0: (List aI)} {res: (List Int)} (j:Holds E w V) (h0:V[i0]? =some (rd v0 p0)) (o:gS N p0=some res):
    Calls bN 102 [v0].toArray w (gL (nn E V res)):=by
 unfold gS at o
 refine enter Tryz.func102 zr zr ?_
 have j:=j.dup (i0+0) h0
 refine RC.sr (aQ (.slice none 0 0) (RL.ns (aQ (.slice none 0 0) (RL.nq (RC.sr (aQ (vi 0) (RL.nt ?_)))))))
 obtain⟨ar,hN,o⟩:=bd o
 refine RC.iter (fun(aa: (List Int)×Int) U w=>∃ag:Value,SH E V [(0,v0),(3,ag),(4,vi aa.2)] [rd v0 p0,rd ag aa.1] U w) (fun(aa: (List Int)×Int) U w=>∃ab:Value,SH E V [(3,ab)] [rd v0 p0,rd ab aa.1] U w) (fun(r:Empty) _ _=>r.elim) hN ?_ ?_ ?_ ?_
 ·have j:=j.x6 Int
  exact⟨(.slice none 0 0),j.sp 2 [1,0]⟩
 ·rintro aa fl _ w ⟨ad,O,rfl,j⟩ o
  refine RC.seq (RC.sr (mv (vi aa.2) (mv v0 (RL.bF 0 p0 j nk (ic aa.2 ((p0.length:Int)) (RL.nt (dQ o (fun hc o=>?_) fun hc o=>?_)))))))
  rotate_left
  ·refine RC.ex ?_
   obtain rfl:=oi o
   exact⟨rfl,ad,j.sp 2 [0,1]⟩
  refine RC.ss (RC.block (RC.ug mixed [0,0,0,0,0,0,2,1,1,1,1,1,2,0] [0,1,2,3,4,5,7,8,9,10,11,6,12,13] ?_))
  have j:=j.drew
  refine DP.e0 zr (mv ad (aW zr (mv v0 (aW zr (mv (vi aa.2) (aW zr ?_))))))
  obtain⟨ae,ak,o⟩:=bd o
  refine RL.bP 0 j jh ak fun av j=>(aW zr (RL.dP 0 j zr gW dF fun aw j=>(aW zr (RL.bE ae.Y0 0 j cI (DP.d0 (DP.e1 v0 zr (fun w=>RL.move v0 zt DP.d1) (DP.e1 (vi aa.2) zr (fun w=>RL.move (vi aa.2) zt DP.d1) ?_)))))))
  obtain⟨af,al,o⟩:=bd o
  refine DP.vx 2 zr j jh al fun ax j=>(DP.Bc 0 zr zt j zr kr fG fun ay j=>(DP.rq af.Y1 0 zr j cI fun a68 az j=>(DP.e2 zr ?_)))
  obtain⟨a0,an,o⟩:=bd o
  refine RL.call zt zr BF [ad,(vi ae.Y0)] zr (aD (iF N (p1:=ae.Y0) (i0:=6) j zr an) ?_)
  rintro ao w j
  refine DP.d2 (⟨zt,j.gF 1⟩) (DP.e2 zr ?_)
  obtain⟨a1,aq,o⟩:=bd o
  refine RL.call zt zr BF [ao,(vi af.Y1)] zr (aD (iF N (p1:=af.Y1) (i0:=0) j zr aq) ?_)
  rintro ah w j
  refine DP.d2 (⟨zt,j.gF 2⟩) (DP.e0 zr (aQ ah (DP.d0 ?_)))
  have j:=j.pl 9 [0,1,3,4,5,6,7,8]
  refine DP.z (bQ (aH (RC.region (mv (vi aa.2) (RL.fY aa.2 1 (aQ (vi (IntKind.wrap .i64 (aa.2+1))) (RL.nil ?_)))))))
  obtain rfl:=oi o
  exact⟨rfl,ah,j.sp 8 [6,0]⟩
 ·intro r _ _ _ _
  exact r.elim
 rintro aa _ w rfl ⟨ab,O,rfl,j⟩
 rw [Fo.dB] at o
 refine aH (RC.sr (mv ab (aQ ab (RL.nt (RC.ret ?_)))))
 obtain rfl:=oi o
 exact bX (j.pk 2 [1])
theorem oe {p0: (List aF)} {p1:aF} {res: (List aF)} (j:Holds E w V) (h0:V[i0]? =some (rd v0 p0)) (h1:V[i1]? =some (rd v1 p1)) (o:iA N p0 p1=some res):
    Calls bN 125 [v0,v1].toArray w (gL (lJ E V res)):=by
 unfold iA at o
 refine enter Tryz.func125 zr zr ?_
 have j:=(j.dup (i0+0) h0).dup (i1+1) h1
 refine RC.sr (RL.cS 0 v1 j zr fun ag w j=>?_)
 refine aQ (.slice none 0 0) (RL.ns (aQ (.slice none 0 0) (RL.ns (aQ (vi 0) (RL.nq ?_)))))
 obtain⟨bc,hN,o⟩:=bd o
 refine RC.iter (fun(ab: (List aF)×Int) U w=>∃av:Value,SH E V [(0,v0),(3,vp ag 0),(5,av),(6,vi ab.2)] [rd v0 p0,bx 160 ag p1,own 160 av ab.1] U w) (fun(ab: (List aF)×Int) U w=>∃ah:Value,SH E V [(0,v0),(3,vp ag 0),(5,ah),(6,vi ab.2)] [rd v0 p0,bx 160 ag p1,own 160 ah ab.1] U w) (fun(r:Empty) _ _=>r.elim) hN ?_ ?_ ?_ ?_
 ·have j:=j.cW aF 160
  exact⟨(.slice none 0 0),j.sp 4 [3,1,0]⟩
 ·rintro ab fl _ w ⟨aj,O,rfl,j⟩ o
  refine RC.seq (RC.seq ?_)
  obtain⟨an,hj,o⟩:=bd o
  refine RC.jn (fun(an:Bool)=>SH E V [(0,v0),(3,vp ag 0),(5,aj),(6,vi ab.2),(20,vb an)] [rd v0 p0,bx 160 ag p1,own 160 aj ab.1]) an ?_ ?_
  ·refine RC.yN mixed ?_
   have j:=j.drew
   refine RO.go (mv (vi ab.2) (RO.nx (mv v0 (RO.nx (RL.bF 0 p0 j vR (RO.nx (ic ab.2 ((p0.length:Int)) (RO.nx ?_))))))))
   refine mv (vb (decide (ab.2< (p0.length:Int)))) (eZ hj (fun ad hj=>?_) fun ad hj=>?_)
   rotate_left
   ·refine RO.nx (bC ad (RO.nx (bC ad (RO.nx (bC ad (RO.nx (bC ad (RO.nx ?_))))))))
    refine bC ad (RO.nx (bC ad (RO.nx (bC ad (RO.nx (bC ad (RO.nx (fq ad (vb false) ?_))))))))
    refine RO.last ?_
    obtain rfl:=oi hj
    exact⟨rfl,j.sp 3 [0,1,2]⟩
   refine RO.nx (RL.move v0 (cg ad) (RO.nx (RL.move (vi ab.2) (cg ad) (RO.nx ?_))))
   obtain⟨ao,a0,hj⟩:=bd hj
   refine RL.bP (hg:=(cg ad)) 0 j oS a0 fun bf j=>(RO.nx (RL.dP (hg:=(cg ad)) 0 j zr pZ eH fun bg j=>(RO.nx (RL.bE (hg:=(cg ad)) ao.to 0 j cI (RO.nx (RL.aY (hg:=(cg ad)) zr p4 (RO.nx (RL.aM (hg:=(cg ad)) 3 j zr eG cI ?_))))))))
   refine RO.nx (RL.kX ao.to p1.from_ (cg ad) (RO.nx (fq ad (vb (decide (ao.to<p1.from_))) (RO.last ?_))))
   obtain rfl:=oi hj
   exact⟨rfl,j.sp 5 [2,3,4]⟩
  rintro _ w ⟨O,rfl,j⟩
  refine aH (dQ o (fun hc o=>?_) fun hc o=>?_)
  rotate_left
  ·refine RC.ex ?_
   obtain rfl:=oi o
   exact⟨rfl,aj,j.sp 3 [0,1,2]⟩
  refine RC.sn (RC.bs (mv aj (mv v0 (mv (vi ab.2) ?_))))
  obtain⟨aw,a1,o⟩:=bd o
  refine RL.bP 0 j oS a1 fun bh j=>(RL.bJ 0 aw j Fv fun a2 j=>(RL.dY ([aw]: (List aF)) j [a2] oS Jm (fun M hs g=>⟨(g.sat 0 _ zr).1,zt⟩) fun bj w j=>?_))
  have j:=j.freeze 0
  obtain⟨bk,a3,o⟩:=bd o
  refine RL.app 5 0 j Hq a3 fun ax w j=>?_
  refine aQ ax (RL.nt (RC.region (mv (vi ab.2) (RL.fY ab.2 1 (aQ (vi (IntKind.wrap .i64 (ab.2+1))) (RL.nil (bQ ?_)))))))
  obtain rfl:=oi o
  exact⟨rfl,ax,j.sp 6 [3,4,5]⟩
 ·intro r _ _ _ _
  exact r.elim
 rintro ab _ w rfl ⟨ah,O,rfl,j⟩
 rw [Fo.dB] at o
 refine aH (RC.seq ?_)
 obtain⟨bl,hN,o⟩:=bd o
 refine RC.iter (fun(aa:aF×Int)=>SH E V [(0,v0),(3,vp ag 0),(5,ah),(6,vi aa.2)] [rd v0 p0,bx 160 ag aa.1,own 160 ah ab.1]) (fun(aa:aF×Int)=>SH E V [(0,v0),(3,vp ag 0),(5,ah),(6,vi aa.2)] [rd v0 p0,bx 160 ag aa.1,own 160 ah ab.1]) (fun(r:Empty) _ _=>r.elim) hN ?_ ?_ ?_ ?_
 ·exact j.sp 3 [0,1,2]
 ·rintro aa fl _ w ⟨O,rfl,j⟩ o
  refine RC.seq (RC.seq ?_)
  obtain⟨ar,hj,o⟩:=bd o
  refine RC.jn (fun(ar:Bool)=>SH E V [(0,v0),(3,vp ag 0),(5,ah),(6,vi aa.2),(43,vb ar)] [rd v0 p0,bx 160 ag aa.1,own 160 ah ab.1]) ar ?_ ?_
  ·refine RC.yN mixed ?_
   have j:=j.drew
   refine RO.go (mv (vi aa.2) (RO.nx (mv v0 (RO.nx (RL.bF 0 p0 j vR (RO.nx (ic aa.2 ((p0.length:Int)) (RO.nx ?_))))))))
   refine mv (vb (decide (aa.2< (p0.length:Int)))) (eZ hj (fun ae hj=>?_) fun ae hj=>?_)
   rotate_left
   ·refine RO.nx (bC ae (RO.nx (bC ae (RO.nx (bC ae (RO.nx (bC ae (RO.nx ?_))))))))
    refine bC ae (RO.nx (bC ae (RO.nx (bC ae (RO.nx (bC ae (RO.nx (fq ae (vb false) ?_))))))))
    refine RO.last ?_
    obtain rfl:=oi hj
    exact⟨rfl,j.sp 3 [0,1,2]⟩
   refine RO.nx (RL.move v0 (cg ae) (RO.nx (RL.move (vi aa.2) (cg ae) (RO.nx ?_))))
   obtain⟨au,a4,hj⟩:=bd hj
   refine RL.bP (hg:=(cg ae)) 0 j oS a4 fun bm j=>(RO.nx (RL.dP (hg:=(cg ae)) 0 j zr p4 eG fun bn j=>(RO.nx (RL.bE (hg:=(cg ae)) au.from_ 0 j cI (RO.nx (RL.aY (hg:=(cg ae)) zr pZ (RO.nx (RL.aM (hg:=(cg ae)) 3 j zr eH cI ?_))))))))
   refine RO.nx (RL.kX au.from_ aa.1.to (cg ae) (RO.nx (fq ae (vb (decide (au.from_<=aa.1.to))) (RO.last ?_))))
   obtain rfl:=oi hj
   exact⟨rfl,j.sp 5 [2,3,4]⟩
  rintro _ w ⟨O,rfl,j⟩
  refine aH (dQ o (fun hc o=>?_) fun hc o=>?_)
  rotate_left
  ·refine RC.ex ?_
   obtain rfl:=oi o
   exact⟨rfl,j.sp 3 [0,1,2]⟩
  refine RC.sn (RC.block (RC.seq (RC.ug mixed [0,0,0,0,0,0,0,0,0,0,1,1,1,1,1,1,0,2,0,2] [0,1,2,3,4,5,6,7,8,9,10,11,12,13,14,15,16,17,18,19] ?_)))
  have j:=j.drew
  refine DP.e0 zr (RL.aY zr p4 (aW zr (RL.aM 1 j zr eG cI (aW zr (mv v0 (aW zr (mv (vi aa.2) (aW zr ?_))))))))
  obtain⟨ak,a5,o⟩:=bd o
  refine RL.bP 0 j oS a5 fun bo j=>(aW zr (RL.dP 0 j zr p4 eG fun bp j=>(aW zr (RL.bE ak.from_ 0 j cI (aW zr (RL.min aa.1.from_ ak.from_ (aW zr (RL.aY zr pZ ?_))))))))
  refine aW zr (RL.aM 3 j zr eH cI (DP.d0 (DP.e1 v0 zr (fun w=>RL.move v0 zt DP.d1) (DP.e1 (vi aa.2) zr (fun w=>RL.move (vi aa.2) zt DP.d1) ?_))))
  obtain⟨ai,a6,o⟩:=bd o
  refine DP.vx 2 zr j oS a6 fun bq j=>(DP.Bc 0 zr zt j zr pZ eH fun br j=>(DP.rq ai.to 0 zr j cI fun a135 bt j=>(DP.e1 (vi (if aa.1.to<ai.to then ai.to else aa.1.to)) zr (fun w=>RL.max aa.1.to ai.to DP.d1) (DP.e0 zr (RL.aY zr p4 (ou zr ?_))))))
  have j:=j.sc Int (if ak.from_<aa.1.from_ then ak.from_ else aa.1.from_)
  refine RL.wR 7 j zr zr zr 0 zr lj cI fun w j=>?_
  refine DP.d2 (⟨zt,j.gF 1⟩) (DP.e0 zr (RL.aY zr pZ (ou zr ?_)))
  have j:=j.sc Int (if aa.1.to<ai.to then ai.to else aa.1.to)
  refine RL.wR 8 j zr zr zr 0 zr lk cI fun w j=>?_
  refine DP.d2 (⟨zt,j.gF 2⟩) ?_
  have j:=j.pl 10 [0,1,3,4,5,6,7,8,9]
  refine DP.z (aH (RC.region (mv (vi aa.2) (RL.fY aa.2 1 (aQ (vi (IntKind.wrap .i64 (aa.2+1))) (RL.nil (bQ ?_)))))))
  obtain rfl:=oi o
  exact⟨rfl,j.sp 9 [6,7,8]⟩
 ·intro r _ _ _ _
  exact r.elim
 rintro aa _ w rfl ⟨O,rfl,j⟩
 rw [Fo.dB] at o
 refine aH (RC.sr (mv ah (RL.bB (f:=(fun x=>x)) 1 j zr Fd.self Fv fun a7 j=>(RL.dY ([aa.1]: (List aF)) j [a7] oS Jm (fun M hs g=>⟨(g.sat 0 _ zr).1,zt⟩) fun bu w j=>?_))))
 have j:=j.freeze 0
 obtain⟨bw,a8,o⟩:=bd o
 refine RL.app 4 0 j Hq a8 fun ay w j=>?_
 refine aQ ay (RL.ns (mv ay (mv v0 (mv (vi aa.2) ?_))))
 obtain⟨bz,a9,o⟩:=bd o
 refine RL.cut 2 j oS (.inr ⟨rfl,zr⟩) a9 fun b0 j=>?_
 obtain⟨b1,ba,o⟩:=bd o
 refine RL.app 5 0 j Hq ba fun bb w j=>?_
 refine aQ bb (RL.nt (RC.ret ?_))
 obtain rfl:=oi o
 exact bX (j.pk 6 [5])
theorem kM {p0: (List aI)} {res: (List aF)} (j:Holds E w V) (h0:V[i0]? =some (rd v0 p0)) (hb:gR N p0 p1=some res):
    Calls bN 104 [v0,(vi p1)].toArray w (gL (lJ E V res)):=by
 unfold gR at hb
 refine enter Tryz.func104 zr zr ?_
 have j:=j.dup (i0+0) h0
 refine RC.sr (aQ (.slice none 0 0) (RL.ns (aQ (.slice none 0 0) (RL.nq (RC.sr (aQ (vi 0) (RL.nt ?_)))))))
 obtain⟨a1,hN,hb⟩:=bd hb
 refine RC.iter (fun(aa: (List aF)×Int) U w=>∃aq:Value,SH E V [(0,v0),(1,vi p1),(5,aq),(6,vi aa.2)] [rd v0 p0,own 160 aq aa.1] U w) (fun(aa: (List aF)×Int) U w=>∃af:Value,SH E V [(5,af)] [rd v0 p0,own 160 af aa.1] U w) (fun(r:Empty) _ _=>r.elim) hN ?_ ?_ ?_ ?_
 ·have j:=j.cW aF 160
  exact⟨(.slice none 0 0),j.sp 2 [1,0]⟩
 ·rintro aa fl _ w ⟨ae,O,rfl,j⟩ hb
  refine RC.seq (RC.sr (mv (vi aa.2) (mv v0 (RL.bF 0 p0 j nk (ic aa.2 ((p0.length:Int)) (RL.nt (dQ hb (fun hc hb=>?_) fun hc hb=>?_)))))))
  rotate_left
  ·refine RC.ex ?_
   obtain rfl:=oi hb
   exact⟨rfl,ae,j.sp 2 [0,1]⟩
  refine RC.ss (RC.block (RC.seq ?_))
  obtain⟨ak,o,hb⟩:=bd hb
  refine RC.jn (fun(ak:Bool)=>SH E V [(0,v0),(1,vi p1),(5,ae),(6,vi aa.2),(28,vb ak)] [rd v0 p0,own 160 ae aa.1]) ak ?_ ?_
  ·refine RC.region (mv v0 (mv (vi aa.2) ?_))
   obtain⟨al,av,o⟩:=bd o
   refine RL.bP 0 j jh av fun a3 j=>(RL.dP 0 j zr gW dF fun a4 j=>(RL.bE al.Y0 0 j cI (mv (vi p1) (ic al.Y0 p1 (mv (vb (decide (al.Y0<=p1))) (eZ o (fun ab o=>?_) fun ab o=>?_))))))
   rotate_left
   ·refine bC ab (bC ab (bC ab (bC ab (bC ab (bC ab (bC ab (fq ab (vb false) (RL.nil ?_))))))))
    obtain rfl:=oi o
    exact⟨rfl,j.sp 4 [2,3]⟩
   refine RL.move (vi p1) (cg ab) (RL.move v0 (cg ab) (RL.move (vi aa.2) (cg ab) ?_))
   obtain⟨an,aw,o⟩:=bd o
   refine RL.bP (hg:=(cg ab)) 2 j jh aw fun a5 j=>(RL.dP (hg:=(cg ab)) 0 j zr kr fG fun a6 j=>(RL.bE (hg:=(cg ab)) an.Y1 0 j cI (RL.kX p1 an.Y1 (cg ab) (fq ab (vb (decide (p1<an.Y1))) (RL.nil ?_)))))
   obtain rfl:=oi o
   exact⟨rfl,j.sp 6 [4,5]⟩
  rintro _ w ⟨O,rfl,j⟩
  refine aH ?_
  obtain⟨ao,o,hb⟩:=bd hb
  refine RC.jn (fun(ao: (List aF)) U w=>∃ag:Value,SH E V [(0,v0),(1,vi p1),(5,ag),(6,vi aa.2)] [rd v0 p0,own 160 ag ao] U w) ao ?_ ?_
  ·refine dQ o (fun hc o=>?_) fun hc o=>?_
   rotate_left
   ·refine RC.skip ?_
    obtain rfl:=oi o
    exact⟨rfl,ae,j.sp 2 [0,1]⟩
   refine RC.ug mixed [0,0,0,0,0,0,0,0,0,0,0,0,2,0] [0,1,2,3,4,5,6,7,8,9,10,11,12,13] ?_
   have j:=j.drew
   refine DP.e0 zr (mv ae (aW zr (mv v0 (aW zr (mv (vi aa.2) (aW zr ?_))))))
   obtain⟨ah,ax,o⟩:=bd o
   refine RL.bP 0 j jh ax fun a7 j=>(aW zr (RL.dP 0 j zr ij dM fun a8 j=>(aW zr (RL.bE ah.X0 0 j cI (aW zr (mv v0 (aW zr (mv (vi aa.2) ?_))))))))
   refine aW zr ?_
   obtain⟨ai,ay,o⟩:=bd o
   refine RL.bP 2 j jh ay fun a9 j=>(aW zr (RL.dP 0 j zr ji eF fun ba j=>(aW zr (RL.bE ai.X1 0 j cI (aW zr ?_)))))
   have j:=(j.sc Int ah.X0).sc Int ai.X1
   refine RL.build (⟨ah.X0,ai.X1⟩:aF) trivial rfl j [(0,vi ah.X0),(1,vi ai.X1)] rfl Jl rfl (fun M hs g=>by have h:=po M;exact cU.cons (f:=fun(x:aF) y=>{x with from_:=y}) h lj (g.sat 1 _ rfl).1 fun _ h=>cU.cons (f:=fun(x:aF) y=>{x with to:=y}) h lk (g.sat 0 _ rfl).1 fun _ h=>cU.nil h) fun az j=>?_
   refine ou zr ?_
   have j:=j.freeze 8
   obtain⟨bb,a0,o⟩:=bd o
   refine RL.call zt zr Jn [ae,az] zr (aD (oe N (i0:=8) (i1:=0) j zr zr a0) ?_)
   rintro ar w j
   refine qz zr (aQ ar (DP.d0 (DP.z ?_)))
   obtain rfl:=oi o
   exact⟨rfl,ar,j.sp 10 [8,0]⟩
  rintro _ w ⟨ag,O,rfl,j⟩
  refine bQ (aH (RC.region (mv (vi aa.2) (RL.fY aa.2 1 (aQ (vi (IntKind.wrap .i64 (aa.2+1))) (RL.nil ?_))))))
  obtain rfl:=oi hb
  exact⟨rfl,ag,j.sp 2 [0,1]⟩
 ·intro r _ _ _ _
  exact r.elim
 rintro aa _ w rfl ⟨af,O,rfl,j⟩
 rw [Fo.dB] at hb
 refine aH (RC.sr (mv af (aQ af (RL.nt (RC.ret ?_)))))
 obtain rfl:=oi hb
 exact bX (j.pk 2 [1])
def rf (E:World) (V:List HP) (r:Bool) (U:Nat->Value) (w:World):Prop:=lF bN 26 Tryz.f124 (aX E V r) .ret U w
theorem qM {p0: (List aF)} {p1: (List aF)} {res:Bool} (j:Holds E w V) (h0:V[i0]? =some (rd v0 p0)) (h1:V[i1]? =some (rd v1 p1)) (o:jL N p0 p1=some res):
    Calls bN 124 [v0,v1].toArray w (gL (aX E V res)):=by
 unfold jL at o
 refine enter Tryz.func124 zr zr ?_
 have j:=(j.dup (i0+0) h0).dup (i1+1) h1
 refine RC.sr (aQ (vb false) (RL.nq (RC.sr (mv v0 (RL.bF 1 p0 j vR (mv v1 (RL.bF 0 p1 j vR (ic ((p0.length:Int)) ((p1.length:Int)) ?_))))))))
 refine RL.nt (dQ o (fun hc o=>?_) fun hc o=>?_)
 ·refine RC.sr (aQ (vb false) (RL.nt (RC.rt ?_)))
  obtain rfl:=oi o
  exact bX ⟨rfl,j.drop 2⟩
 refine RC.ss (RC.sr (aQ (vi 0) (RL.nt ?_)))
 obtain⟨aj,hN,o⟩:=bd o
 refine RC.iter (fun(aa:Int)=>SH E V [(0,v0),(1,v1),(5,vi aa)] [rd v0 p0,rd v1 p1]) (fun(aa:Int)=>SH E V [] [rd v0 p0,rd v1 p1]) (rf E V) hN ?_ ?_ ?_ ?_
 ·exact j.sp 2 [1,0]
 ·rintro aa fl _ w ⟨O,rfl,j⟩ o
  refine RC.seq (RC.sr (mv (vi aa) (mv v0 (RL.bF 0 p0 j vR (ic aa ((p0.length:Int)) (RL.nt (dQ o (fun hc o=>?_) fun hc o=>?_)))))))
  rotate_left
  ·refine RC.ex ?_
   obtain rfl:=oi o
   exact⟨rfl,j.sp 2 [0,1]⟩
  refine RC.ss (RC.block (RC.seq (RC.yN mixed ?_)))
  have j:=j.drew
  refine RO.go (mv v0 (RO.nx (mv (vi aa) (RO.nx ?_))))
  obtain⟨ad,ag,o⟩:=bd o
  refine RL.bP 0 j oS ag fun al j=>(RO.nx (RL.bJ 0 ad j Fv fun an j=>(RO.nx (mv v1 (RO.nx (mv (vi aa) (RO.nx ?_)))))))
  obtain⟨ae,ah,o⟩:=bd o
  refine RL.bP 3 j oS ah fun ao j=>(RO.nx (RL.bJ 0 ae j Fv fun aq j=>(RO.nx (RL.LY 2 0 ad ae zr j zr zr zr zr J8 zr (RO.last (aH (dQ o (fun hc o=>?_) fun hc o=>?_)))))))
  ·refine RC.sr (aQ (vb false) (RL.nt (RC.rb (bS ?_))))
   obtain rfl:=oi o
   exact⟨rfl,bX ⟨rfl,j.drop 6⟩⟩
  refine RC.skip (bQ (aH (RC.region (mv (vi aa) (RL.fY aa 1 (aQ (vi (IntKind.wrap .i64 (aa+1))) (RL.nil ?_)))))))
  obtain rfl:=oi o
  exact⟨rfl,j.sp 6 [4,5]⟩
 ·intro r U w e hK
  subst e
  refine bS ?_
  obtain rfl:=oi o
  exact hK
 rintro aa _ w rfl ⟨O,rfl,j⟩
 rw [Fo.dB] at o
 refine aH (RC.sr (aQ (vb true) (RL.nt (RC.ret ?_))))
 obtain rfl:=oi o
 exact bX ⟨rfl,j.drop 2⟩
def sC (E:World) (V:List HP) (res: (List aL)) (v:Value) (w:World):Prop:=Holds E w ([own 143 v res]++V)
theorem nC {p0: (List aL)} {p1:aL} {res: (List aL)} (j:Holds E w (own 143 v0 p0::V)) (h1:V[i1]? =some (rd v1 p1)) (hb:fT N p0 p1=some res):
    Calls bN 103 [v0,v1].toArray w (gL (sC E V res)):=by
 unfold fT at hb
 refine enter Tryz.func103 zr zr ?_
 have j:=j.dup (i1+1) h1
 refine RC.sr (RL.cS 0 v1 j zr fun ak w j=>?_)
 refine aQ (.slice none 0 0) (RL.nq (RC.sr (RL.aY zr va (RL.bB 0 j zr gp BG fun aw j=>(RL.bF 0 p1.iX j vR (ic ((p1.iX.length:Int)) 0 (RL.nt (dQ hb (fun hc hb=>?_) fun hc hb=>?_))))))))
 ·refine RC.sr (mv v0 (aQ v0 (RL.nt (RC.rt ?_))))
  obtain rfl:=oi hb
  exact bX (j.pk 4 [3])
 refine RC.ss (RC.sr (mv v0 (RL.fZ 3 p0 j Jp (aQ (vi p0.length) (RL.nq ?_)))))
 obtain⟨ai,hj,hb⟩:=bd hb
 refine RC.jn (fun(ai:Bool)=>SH E V [(0,v0),(3,vp ak 0),(5,vi p0.length),(36,vb ai)] [own 143 v0 p0,bx 143 ak p1]) ai ?_ ?_
 ·refine RC.ug mixed [0,0,0,0,0,0,0,0,0,0,0,0,0,0,0,0,0,0,0,0,0,0,2,0] [0,1,2,3,4,5,6,7,8,9,10,11,12,13,14,15,16,17,18,19,20,21,22,23] ?_
  have j:=j.drew
  refine DP.e0 zr (mv (vi p0.length) (aW zr (ic ((p0.length:Int)) 0 (aW zr (mv (vb (decide ((p0.length:Int)>0))) (DP.d0 (eZ hj (fun o hj=>?_) fun o hj=>?_)))))))
  rotate_left
  ·refine DP.e0 zr (bC o (aW zr (bC o (aW zr (bC o (aW zr (bC o (aW zr ?_))))))))
   refine bC o (aW zr (bC o (aW zr (bC o (aW zr (bC o (aW zr (bC o ?_))))))))
   refine aW zr (fq o (vb false) (aW zr (mv (vb false) (aW zr (kp (aW zr (kp (aW zr ?_))))))))
   refine kp (aW zr (kp (aW zr (kp (aW zr (kp (aW zr (kp ?_))))))))
   refine aW zr (kp (ou zr (kp (qz zr (RL.pick false (vb false) zr (DP.d0 (DP.z ?_)))))))
   obtain rfl:=oi hj
   exact⟨rfl,j.sp 4 [3,1]⟩
  refine DP.e0 zr (RL.move v0 (cg o) (aW zr (RL.move (vi p0.length) (cg o) (aW zr (RL.fY (hg:=(cg o)) (p0.length:Int) 1 (aW zr ?_))))))
  obtain⟨aj,ae,hj⟩:=bd hj
  refine RL.bV (hg:=(cg o)) 3 j zr zr xm ae (aW zr (RL.k7 (α:=aL) (cg o) (jF 3 j ae 0) zz (aW zr (RL.dH (hg:=(cg o)) 3 j (jF 3 j ae 1) (bH ae).2.1 ll cI (aW zr (RL.aY (hg:=(cg o)) zr Fx (aW zr (RL.aM (hg:=(cg o)) 1 j zr nZ cI ?_))))))))
  refine aW zr (RL.kX aj.to p1.from_ (cg o) (aW zr (fq o (vb (aj.to==p1.from_)) (aW zr (mv (vb (aj.to==p1.from_)) (DP.d0 (eZ hj (fun aa hj=>?_) fun aa hj=>?_)))))))
  rotate_left
  ·refine DP.e0 zr (bC aa (aW zr (bC aa (aW zr (bC aa (aW zr (bC aa (aW zr ?_))))))))
   refine bC aa (aW zr (bC aa (aW zr (bC aa (aW zr (bC aa (ou zr (bC aa ?_))))))))
   refine qz zr (fq aa (vb false) (DP.d0 (DP.z ?_)))
   obtain rfl:=oi hj
   exact⟨rfl,j.sp 4 [3,1]⟩
  refine DP.e0 zr (RL.move v0 (cg aa) (aW zr (RL.move (vi p0.length) (cg aa) (aW zr (RL.fY (hg:=(cg aa)) (p0.length:Int) 1 (aW zr ?_))))))
  obtain⟨ax,af,hj⟩:=bd hj
  refine RL.bV (hg:=(cg aa)) 3 j zr zr xm af (aW zr (RL.k7 (α:=aL) (cg aa) (jF 3 j af 0) va (aW zr (RL.kF (hg:=(cg aa)) 3 j (jF 3 j af 2) (bH af).2.1 gp BG fun al j=>?_))))
  refine aW zr (RL.aY (hg:=(cg aa)) zr va (aW zr (RL.bB (hg:=(cg aa)) 2 j zr gp BG fun an j=>(ou zr ?_))))
  obtain⟨ao,aq,hj⟩:=bd hj
  refine RL.call (cg aa) zr Li [al,an] zr (aD (qM N (i0:=1) (i1:=0) j zr zr aq) ?_)
  rintro _ w ⟨rfl,j⟩
  refine qz zr (fq aa (vb ao) (DP.d0 (DP.z ?_)))
  obtain rfl:=oi hj
  exact⟨rfl,j.sp 6 [5,3]⟩
 rintro _ w ⟨O,rfl,j⟩
 refine aH (dQ hb (fun hc hb=>?_) fun hc hb=>?_)
 rotate_left
 ·refine RC.sx (mv v0 (RL.bB (f:=(fun x=>x)) 1 j zr Fd.self Lj fun ar j=>(RL.dY ([p1]: (List aL)) j [ar] xm Ll (fun M hs g=>⟨(g.sat 0 _ zr).1,zt⟩) fun ay w j=>?_)))
  have j:=j.freeze 0
  obtain⟨az,au,hb⟩:=bd hb
  refine RL.app 2 0 j Lm au fun av w j=>?_
  refine aQ av (RL.nt (RC.ret ?_))
  obtain rfl:=oi hb
  exact bX (j.pk 4 [2])
 refine RC.sr (mv v0 (mv (vi p0.length) (RL.fY (p0.length:Int) 1 (RL.aY zr zz (RL.aM 1 j zr ll cI ?_)))))
 obtain⟨a0,ag,hb⟩:=bd hb
 refine RL.bV 0 j zr zr xm ag (RL.k7 (α:=aL) zt (jF 0 j ag 0) zz ?_)
 have j:=j.sc Int p1.to
 refine RL.gI 1 0 j (jF 1 j ag 1) (bH ag).2.1 zr ln cI fun w j=>?_
 refine RL.ns (mv v0 (aQ v0 (RL.nt (RC.rt ?_))))
 obtain rfl:=oi hb
 exact bX (j.pk 3 [1])
theorem oT {p0: (List aL)} {res: (List aI)} (j:Holds E w V) (h0:V[i0]? =some (rd v0 p0)) (o:je N p0=some res):
    Calls bN 105 [v0].toArray w (gL (fR E V res)):=by
 unfold je at o
 refine enter Tryz.func105 zr zr ?_
 have j:=j.dup (i0+0) h0
 refine RC.sr (aQ (.slice none 0 0) (RL.ns (aQ (.slice none 0 0) (RL.nq (RC.sr (aQ (vi 0) (RL.nt ?_)))))))
 obtain⟨a7,hN,o⟩:=bd o
 refine RC.iter (fun(aa: (List aI)×Int) U w=>∃ao:Value,SH E V [(0,v0),(3,ao),(4,vi aa.2)] [rd v0 p0,own 56 ao aa.1] U w) (fun(aa: (List aI)×Int) U w=>∃ad:Value,SH E V [(3,ad)] [rd v0 p0,own 56 ad aa.1] U w) (fun(r:Empty) _ _=>r.elim) hN ?_ ?_ ?_ ?_
 ·have j:=j.cW aI 56
  exact⟨(.slice none 0 0),j.sp 2 [1,0]⟩
 ·rintro aa fl _ w ⟨aq,O,rfl,j⟩ o
  refine RC.seq (RC.sr (mv (vi aa.2) (mv v0 (RL.bF 0 p0 j Jp (ic aa.2 ((p0.length:Int)) (RL.nt (dQ o (fun hc o=>?_) fun hc o=>?_)))))))
  rotate_left
  ·refine RC.ex ?_
   obtain rfl:=oi o
   exact⟨rfl,aq,j.sp 2 [0,1]⟩
  refine RC.ss (RC.bs (aQ (vi 0) (RL.nt ?_)))
  obtain⟨a8,hN,o⟩:=bd o
  refine RC.iter (fun(ab: (List aI)×Int) U w=>∃ar:Value,SH E V [(0,v0),(3,ar),(4,vi aa.2),(5,vi ab.2)] [rd v0 p0,own 56 ar ab.1] U w) (fun(ab: (List aI)×Int) U w=>∃ai:Value,SH E V [(0,v0),(3,ai),(4,vi aa.2)] [rd v0 p0,own 56 ai ab.1] U w) (fun(r:Empty) _ _=>r.elim) hN ?_ ?_ ?_ ?_
  ·exact⟨aq,j.sp 2 [0,1]⟩
  ·rintro ab fl _ w ⟨al,O,rfl,j⟩ o
   refine RC.seq (RC.sr (mv (vi ab.2) (mv v0 (mv (vi aa.2) ?_))))
   obtain⟨an,aw,o⟩:=bd o
   refine RL.bP 0 j xm aw fun a9 j=>(RL.dP 0 j zr va gp fun ba j=>(RL.bJ 0 an.iX j BG fun bb j=>(RL.bF 0 an.iX j vR (ic ab.2 ((an.iX.length:Int)) (RL.nt (dQ o (fun hc o=>?_) fun hc o=>?_))))))
   rotate_left
   ·refine RC.ex ?_
    obtain rfl:=oi o
    exact⟨rfl,al,j.sp 5 [3,4]⟩
   refine RC.ss (RC.block (RC.ug mixed [1,0,0,0,0,0,0,0,0,0,0,0,0,0,0,0,0,0,0,0,0,0,0,0,0,0,0,0,0,0,2,2,0] [0,1,2,3,4,5,6,7,8,9,10,11,12,13,14,15,16,17,18,19,20,21,22,23,24,25,26,27,28,29,30,31,32] ?_))
   have j:=j.drew
   refine DP.e1 al zr (fun w=>RL.move al zt DP.d1) (DP.e0 zr (mv v0 (aW zr (mv (vi aa.2) (aW zr ?_)))))
   obtain⟨ax,ay,o⟩:=bd o
   refine RL.bP 3 j xm ay fun bc j=>(aW zr (RL.dP 0 j zr va gp fun bf j=>(aW zr (RL.bJ 0 ax.iX j BG fun bg j=>(aW zr (mv (vi ab.2) (aW zr ?_)))))))
   obtain⟨ae,az,o⟩:=bd o
   refine RL.bP 0 j oS az fun bh j=>(aW zr (RL.dP 0 j zr p4 eG fun bj j=>(aW zr (RL.bE ae.from_ 0 j cI (aW zr (mv v0 (aW zr (mv (vi aa.2) ?_))))))))
   refine aW zr ?_
   obtain⟨af,a0,o⟩:=bd o
   refine RL.bP 8 j xm a0 fun bk j=>(aW zr (RL.dP 0 j zr Fx nZ fun bl j=>(aW zr (RL.bE af.from_ 0 j cI (aW zr (mv v0 (aW zr (mv (vi aa.2) ?_))))))))
   refine aW zr ?_
   obtain⟨a1,a2,o⟩:=bd o
   refine RL.bP 10 j xm a2 fun bm j=>(aW zr (RL.dP 0 j zr va gp fun bn j=>(aW zr (RL.bJ 0 a1.iX j BG fun bo j=>(aW zr (mv (vi ab.2) (aW zr ?_)))))))
   obtain⟨ag,a3,o⟩:=bd o
   refine RL.bP 0 j oS a3 fun bp j=>(aW zr (RL.dP 0 j zr pZ eH fun bq j=>(aW zr (RL.bE ag.to 0 j cI (aW zr (mv v0 (aW zr (mv (vi aa.2) ?_))))))))
   refine aW zr ?_
   obtain⟨ah,a4,o⟩:=bd o
   refine RL.bP 15 j xm a4 fun br j=>(aW zr (RL.dP 0 j zr zz ll fun bt j=>(aW zr (RL.bE ah.to 0 j cI (aW zr ?_)))))
   have j:=(((j.sc Int ae.from_).sc Int af.from_).sc Int ag.to).sc Int ah.to
   refine RL.build (⟨ae.from_,af.from_,ag.to,ah.to⟩:aI) trivial rfl j [(0,vi ae.from_),(1,vi af.from_),(2,vi ag.to),(3,vi ah.to)] rfl Dm rfl (fun M hs g=>by have h:=tj M;exact cU.cons (f:=fun(x:aI) y=>{x with X0:=y}) h oW (g.sat 3 _ rfl).1 fun _ h=>cU.cons (f:=fun(x:aI) y=>{x with Y0:=y}) h qj (g.sat 2 _ rfl).1 fun _ h=>cU.cons (f:=fun(x:aI) y=>{x with X1:=y}) h oX (g.sat 1 _ rfl).1 fun _ h=>cU.cons (f:=fun(x:aI) y=>{x with Y1:=y}) h ql (g.sat 0 _ rfl).1 fun _ h=>cU.nil h) fun a5 j=>?_
   refine ou zr (RL.dY ([(⟨ae.from_,af.from_,ag.to,ah.to⟩:aI)]: (List aI)) j [a5] jh oG (fun M hs g=>⟨(g.sat 0 _ zr).1,zt⟩) fun bu w j=>(Fq zr ?_))
   have j:=j.freeze 0
   obtain⟨bw,a6,o⟩:=bd o
   refine RL.app 24 0 j zX a6 fun au w j=>?_
   refine qz zr (aQ au (DP.d0 (DP.z (bQ (aH (RC.region (mv (vi ab.2) (RL.fY ab.2 1 ?_))))))))
   refine aQ (vi (IntKind.wrap .i64 (ab.2+1))) (RL.nil ?_)
   obtain rfl:=oi o
   exact⟨rfl,au,j.sp 25 [23,24]⟩
  ·intro r _ _ _ _
   exact r.elim
  rintro ab _ w rfl ⟨ai,O,rfl,j⟩
  rw [Fo.dB] at o
  refine bQ (aH (RC.region (mv (vi aa.2) (RL.fY aa.2 1 (aQ (vi (IntKind.wrap .i64 (aa.2+1))) (RL.nil ?_))))))
  obtain rfl:=oi o
  exact⟨rfl,ai,j.sp 2 [0,1]⟩
 ·intro r _ _ _ _
  exact r.elim
 rintro aa _ w rfl ⟨ad,O,rfl,j⟩
 rw [Fo.dB] at o
 refine aH (RC.sr (mv ad (aQ ad (RL.nt (RC.ret ?_)))))
 obtain rfl:=oi o
 exact bX (j.pk 2 [1])
theorem kh {p0: (List aI)} {res: (List aI)} (j:Holds E w V) (h0:V[i0]? =some (rd v0 p0)) (o:eY N p0=some res):
    Calls bN 65 [v0].toArray w (gL (fR E V res)):=by
 unfold eY at o
 refine enter Tryz.func65 zr zr ?_
 have j:=j.dup (i0+0) h0
 refine RC.sr (aQ (.slice none 0 0) (RL.ns (mv v0 ?_)))
 obtain⟨ae,al,o⟩:=bd o
 refine RL.call zt zr Jk [v0] zr (aD (nB N (i0:=0) j zr al) ?_)
 rintro ab w j
 refine aQ ab (RL.ns (aQ (.slice none 0 0) (RL.nq (RC.sr (aQ (vi 1) (RL.nt ?_))))))
 obtain⟨a2,hN,o⟩:=bd o
 refine RC.iter (fun(aa: (List aL)×Int) U w=>∃aj:Value,SH E V [(0,v0),(3,ab),(4,aj),(5,vi aa.2)] [rd v0 p0,rd ab ae,own 143 aj aa.1] U w) (fun(aa: (List aL)×Int) U w=>∃ad:Value,SH E V [(4,ad)] [rd v0 p0,rd ab ae,own 143 ad aa.1] U w) (fun(r:Empty) _ _=>r.elim) hN ?_ ?_ ?_ ?_
 ·have j:=j.cW aL 143
  exact⟨(.slice none 0 0),j.sp 3 [2,1,0]⟩
 ·rintro aa fl _ w ⟨af,O,rfl,j⟩ o
  refine RC.seq (RC.sr (mv (vi aa.2) (mv ab (RL.bF 1 ae j mn (ic aa.2 ((ae.length:Int)) (RL.nt (dQ o (fun hc o=>?_) fun hc o=>?_)))))))
  rotate_left
  ·refine RC.ex ?_
   obtain rfl:=oi o
   exact⟨rfl,af,j.sp 3 [0,1,2]⟩
  refine RC.ss (RC.block (RC.ug mixed [1,1,1,1,1,1,1,1,1,1,0,0,0,0,0,0,2,0,2,0] [0,1,2,3,4,5,6,7,8,9,10,11,12,13,14,15,16,17,18,19] ?_))
  have j:=j.drew
  refine DP.e1 af zr (fun w=>RL.move af zt DP.d1) (DP.e1 ab zr (fun w=>RL.move ab zt DP.d1) (DP.e1 (vi aa.2) zr (fun w=>RL.move (vi aa.2) zt DP.d1) (DP.e1 (vi (IntKind.wrap .i64 (aa.2 - 1))) zr (fun w=>RL.fY aa.2 1 DP.d1) ?_)))
  obtain⟨ag,aq,o⟩:=bd o
  refine DP.vx 1 zr j eC aq fun a4 j=>(DP.rq ag 0 zr j cI fun a72 a5 j=>(DP.e1 ab zr (fun w=>RL.move ab zt DP.d1) (DP.e1 (vi aa.2) zr (fun w=>RL.move (vi aa.2) zt DP.d1) ?_)))
  obtain⟨ah,ar,o⟩:=bd o
  refine DP.vx 3 zr j eC ar fun a6 j=>(DP.rq ah 0 zr j cI fun a76 a7 j=>(DP.e0 zr (mv v0 (aW zr (mv ab (aW zr (mv (vi aa.2) (aW zr ?_))))))))
  refine RL.fY aa.2 1 (aW zr ?_)
  obtain⟨ai,au,o⟩:=bd o
  refine RL.bP 5 j eC au fun a8 j=>(aW zr (RL.bE ai 0 j cI (ou zr ?_)))
  obtain⟨av,aw,o⟩:=bd o
  refine RL.call zt zr Fw [v0,(vi ai)] zr (aD (kM N (p1:=ai) (i0:=5) j zr aw) ?_)
  rintro ax w j
  refine DP.d2 (⟨⟨zt,j.gF 4⟩,j.gF 2⟩) (DP.e0 zr ?_)
  have j:=((j.sc Int ag).sc Int ah).freeze 2
  refine RL.build (⟨ag,ah,av⟩:aL) trivial rfl j [(0,vi ag),(1,vi ah),(2,ax)] rfl Jo rfl (fun M hs g=>by have h:=pj M;exact cU.cons (f:=fun(x:aL) y=>{x with from_:=y}) h n0 (g.sat 1 _ rfl).1 fun _ h=>cU.cons (f:=fun(x:aL) y=>{x with to:=y}) h ln (g.sat 0 _ rfl).1 fun _ h=>cU.cons (f:=fun(x:aL) y=>{x with iX:=y}) h n7 (g.sat 2 _ rfl).1 fun _ h=>cU.nil h) fun ay j=>?_
  refine ou zr ?_
  have j:=j.pull 11
  obtain⟨a9,az,o⟩:=bd o
  refine RL.call zt zr Jq [af,ay] zr (aD (nC N (i1:=0) j zr az) ?_)
  rintro ak w j
  refine DP.d2 (⟨⟨zt,j.gF 8⟩,j.gF 6⟩) (DP.e0 zr (aQ ak (DP.d0 ?_)))
  have j:=j.pl 13 [0,1,2,3,4,5,7,9,10,11,12]
  refine DP.z (bQ (aH (RC.region (mv (vi aa.2) (RL.fY aa.2 1 (aQ (vi (IntKind.wrap .i64 (aa.2+1))) (RL.nil ?_)))))))
  obtain rfl:=oi o
  exact⟨rfl,ak,j.sp 11 [8,9,0]⟩
 ·intro r _ _ _ _
  exact r.elim
 rintro aa _ w rfl ⟨ad,O,rfl,j⟩
 rw [Fo.dB] at o
 refine aH (RC.sr (mv ad ?_))
 have j:=j.freeze 2
 obtain⟨ba,a0,o⟩:=bd o
 refine RL.call zt zr Jr [ad] zr (aD (oT N (i0:=2) j zr a0) ?_)
 rintro a1 w j
 refine aQ a1 (RL.nt (RC.ret ?_))
 obtain rfl:=oi o
 exact bX (j.pk 4 [0])
def rh (E:World) (V:List HP) (r:Bool) (U:Nat->Value) (w:World):Prop:=lF bN 26 Tryz.f96 (aX E V r) .ret U w
theorem qN {p0: (List aI)} {p1: (List aI)} {res:Bool} (j:Holds E w V) (h0:V[i0]? =some (rd v0 p0)) (h1:V[i1]? =some (rd v1 p1)) (o:jM N p0 p1=some res):
    Calls bN 96 [v0,v1].toArray w (gL (aX E V res)):=by
 unfold jM at o
 refine enter Tryz.func96 zr zr ?_
 have j:=(j.dup (i0+0) h0).dup (i1+1) h1
 refine RC.sr (aQ (vb false) (RL.nq (RC.sr (mv v0 (RL.bF 1 p0 j nk (mv v1 (RL.bF 0 p1 j nk (ic ((p0.length:Int)) ((p1.length:Int)) ?_))))))))
 refine RL.nt (dQ o (fun hc o=>?_) fun hc o=>?_)
 ·refine RC.sr (aQ (vb false) (RL.nt (RC.rt ?_)))
  obtain rfl:=oi o
  exact bX ⟨rfl,j.drop 2⟩
 refine RC.ss (RC.sr (aQ (vi 0) (RL.nt ?_)))
 obtain⟨aj,hN,o⟩:=bd o
 refine RC.iter (fun(aa:Int)=>SH E V [(0,v0),(1,v1),(5,vi aa)] [rd v0 p0,rd v1 p1]) (fun(aa:Int)=>SH E V [] [rd v0 p0,rd v1 p1]) (rh E V) hN ?_ ?_ ?_ ?_
 ·exact j.sp 2 [1,0]
 ·rintro aa fl _ w ⟨O,rfl,j⟩ o
  refine RC.seq (RC.sr (mv (vi aa) (mv v0 (RL.bF 0 p0 j nk (ic aa ((p0.length:Int)) (RL.nt (dQ o (fun hc o=>?_) fun hc o=>?_)))))))
  rotate_left
  ·refine RC.ex ?_
   obtain rfl:=oi o
   exact⟨rfl,j.sp 2 [0,1]⟩
  refine RC.ss (RC.block (RC.seq (RC.yN mixed ?_)))
  have j:=j.drew
  refine RO.go (mv v0 (RO.nx (mv (vi aa) (RO.nx ?_))))
  obtain⟨ad,ag,o⟩:=bd o
  refine RL.bP 0 j jh ag fun al j=>(RO.nx (RL.bJ 0 ad j iE fun an j=>(RO.nx (mv v1 (RO.nx (mv (vi aa) (RO.nx ?_)))))))
  obtain⟨ae,ah,o⟩:=bd o
  refine RL.bP 3 j jh ah fun ao j=>(RO.nx (RL.bJ 0 ae j iE fun aq j=>(RO.nx (RL.LY 2 0 ad ae zr j zr zr zr zr Hg zr (RO.last (aH (dQ o (fun hc o=>?_) fun hc o=>?_)))))))
  ·refine RC.sr (aQ (vb false) (RL.nt (RC.rb (bS ?_))))
   obtain rfl:=oi o
   exact⟨rfl,bX ⟨rfl,j.drop 6⟩⟩
  refine RC.skip (bQ (aH (RC.region (mv (vi aa) (RL.fY aa 1 (aQ (vi (IntKind.wrap .i64 (aa+1))) (RL.nil ?_)))))))
  obtain rfl:=oi o
  exact⟨rfl,j.sp 6 [4,5]⟩
 ·intro r U w e hK
  subst e
  refine bS ?_
  obtain rfl:=oi o
  exact hK
 rintro aa _ w rfl ⟨O,rfl,j⟩
 rw [Fo.dB] at o
 refine aH (RC.sr (aQ (vb true) (RL.nt (RC.ret ?_))))
 obtain rfl:=oi o
 exact bX ⟨rfl,j.drop 2⟩
def p7 (E:World) (V:List HP) (r:Int) (U:Nat->Value) (w:World):Prop:=lF bN 32 Tryz.f60 (aU E V r) .ret U w
theorem lP {p0: (List aI)} (o:Holds E w V) (h0:V[i0]? =some (rd v0 p0)) (j:fE N p0=some res):
    Calls bN 60 [v0].toArray w (gL (aU E V res)):=by
 unfold fE at j
 refine enter Tryz.func60 zr zr ?_
 have o:=o.dup (i0+0) h0
 refine RC.sr (aQ (vi 0) (RL.nq (RC.sr (mv v0 ?_))))
 obtain⟨ad,ae,j⟩:=bd j
 refine RL.call zt zr MO [v0] zr (aD (p6 N (i0:=0) o zr ae) ?_)
 rintro _ w ⟨rfl,o⟩
 refine aQ (vi ad) (RL.ns (mv (vi ad) (ic ad 0 (RL.nt (dQ j (fun hc j=>?_) fun hc j=>?_)))))
 ·refine RC.sr (mv (vi ad) (aQ (vi ad) (RL.nt (RC.rt ?_))))
  obtain rfl:=oi j
  exact bX ⟨rfl,o.drop 1⟩
 refine RC.ss (RC.sr (aQ (vi 1) (RL.nt ?_)))
 obtain⟨ax,hN,j⟩:=bd j
 refine RC.iter (fun(aa:Int)=>SH E V [(0,v0),(4,vi aa)] [rd v0 p0]) (fun(aa:Int)=>SH E V [(0,v0)] [rd v0 p0]) (p7 E V) hN ?_ ?_ ?_ ?_
 ·exact o.sp 1 [0]
 ·rintro aa fl _ w ⟨O,rfl,o⟩ j
  refine RC.seq (RC.sr (mv (vi aa) (mv v0 (RL.bF 0 p0 o nk (ic aa ((p0.length:Int)) (RL.nt (dQ j (fun hc j=>?_) fun hc j=>?_)))))))
  rotate_left
  ·refine RC.ex ?_
   obtain rfl:=oi j
   exact⟨rfl,o.sp 1 [0]⟩
  refine RC.ss (RC.block (RC.seq (RC.ug mixed [0,0,0,0,0,0,0,0,0,2,0] [0,1,2,3,4,5,6,7,8,9,10] ?_)))
  have o:=o.drew
  refine DP.e0 zr (mv v0 (aW zr (mv (vi aa) (aW zr (RL.fY aa 1 (aW zr ?_))))))
  obtain⟨ag,ah,j⟩:=bd j
  refine RL.bP 0 o jh ah fun az o=>(aW zr (RL.bJ 0 ag o iE fun ai o=>(aW zr (mv v0 (aW zr (mv (vi aa) (aW zr ?_)))))))
  obtain⟨aj,ak,j⟩:=bd j
  refine RL.bP 2 o jh ak fun a0 o=>(aW zr (RL.bJ 0 aj o iE fun al o=>(ou zr ?_)))
  obtain⟨an,ao,j⟩:=bd j
  refine RL.call zt zr Lh [ai,al] zr (aD (oc N (i0:=2) (i1:=0) o zr zr ao) ?_)
  rintro _ w ⟨rfl,o⟩
  refine qz zr (RL.not an (DP.d0 (DP.z (aH (dQ j (fun hc j=>?_) fun hc j=>?_)))))
  ·refine RC.sr (aQ (vi 8) (RL.nt (RC.rb (bS ?_))))
   obtain rfl:=oi j
   exact⟨rfl,bX ⟨rfl,o.drop 5⟩⟩
  refine RC.skip (bQ (aH (RC.region (mv (vi aa) (RL.fY aa 1 (aQ (vi (IntKind.wrap .i64 (aa+1))) (RL.nil ?_)))))))
  obtain rfl:=oi j
  exact⟨rfl,o.sp 5 [4]⟩
 ·intro r U w e hK
  subst e
  refine bS ?_
  obtain rfl:=oi j
  exact hK
 rintro aa _ w rfl ⟨O,rfl,o⟩
 rw [Fo.dB] at j
 refine aH (RC.seq (RC.sr (mv v0 (mv v0 ?_))))
 obtain⟨a1,ar,j⟩:=bd j
 refine RL.call zt zr J9 [v0] zr (aD (kh N (i0:=0) o zr ar) ?_)
 rintro au w o
 have o:=o.freeze 0
 obtain⟨av,aw,j⟩:=bd j
 refine RL.call zt zr MP [v0,au] zr (aD (qN N (i0:=1) (i1:=0) o zr zr aw) ?_)
 rintro _ w ⟨rfl,o⟩
 refine RL.not av (RL.nt (dQ j (fun hc j=>?_) fun hc j=>?_))
 ·refine RC.sr (aQ (vi 3) (RL.nt (RC.rt ?_)))
  obtain rfl:=oi j
  exact bX ⟨rfl,o.drop 2⟩
 refine RC.sx (aQ (vi 0) (RL.nt (RC.ret ?_)))
 obtain rfl:=oi j
 exact bX ⟨rfl,o.drop 2⟩
theorem iG {res:Bool} (o:Holds E w V) (j:dX N p0 p1 p2=some res):
    Calls bN 62 [(vi p0),(vi p1),(vi p2)].toArray w (gL (aX E V res)):=by
 unfold dX at j
 refine enter Tryz.func62 zr zr (RC.sr (aQ (vb false) (RL.ns (mv (vi p0) (mv (vi p1) (ic p0 p1 (mv (vb (decide (p0>=p1))) (RL.gs true (decide (p0>=p1)) (vi p0) zr zr zr cK ?_))))))))
 refine RL.gs true (decide (p0>=p1)) (vi p2) rfl rfl rfl cK (RL.gs true (decide (p0>=p1)) (vb (decide (p0<=p2))) rfl rfl rfl (dK .leq .i64 p0 p2 rfl (fun h=>by exact(cM h:cv (true&&((decide (p0>=p1))==true)) (vi p0)= (vi p0))) (fun h=>by exact(cM h:cv (true&&((decide (p0>=p1))==true)) (vi p2)= (vi p2))) rfl) (RL.pick (decide (p0>=p1)) (vb ((decide (p0>=p1))&&(decide (p0<=p2)))) (gD true rfl) (aQ (vb ((decide (p0>=p1))&&(decide (p0<=p2)))) (RL.nt (RC.ret ?_)))))
 obtain rfl:=oi j
 exact bX ⟨rfl,o.drop 0⟩
theorem nD {p0:jr} {res:Bool} (j:Holds E w V) (h0:V[i0]? =some (rd v0 p0)) (hb:fU N p0=some res):
    Calls bN 97 [v0].toArray w (gL (aX E V res)):=by
 unfold fU at hb
 refine enter Tryz.func97 zr zr ?_
 have j:=j.dup (i0+0) h0
 refine RC.sr (RL.cS 0 v0 j zr fun ai w j=>?_)
 refine aQ (vb false) (RL.nq ?_)
 obtain⟨ad,o,hb⟩:=bd hb
 refine RC.jn (fun(ad:Bool)=>SH E V [(2,vb ad)] []) ad ?_ ?_
 ·refine RC.region (RL.aY zr wk (RL.aM 0 j zr nO cI ?_))
  obtain⟨af,ag,o⟩:=bd o
  refine RL.call zt zr Bi [(vi p0.X)] zr (aD (eK N (p0:=p0.X) j ag) ?_)
  rintro _ w ⟨rfl,j⟩
  refine mv (vb af) (eZ o (fun aa o=>?_) fun aa o=>?_)
  rotate_left
  ·refine bC aa (bC aa (bC aa (fq aa (vb false) (aQ (vb false) (RL.nil ?_)))))
   obtain rfl:=oi o
   exact⟨rfl,j.sp 2 []⟩
  refine RL.aY (hg:=(cg aa)) zr wm (RL.aM (hg:=(cg aa)) 0 j zr nP cI ?_)
  obtain⟨ae,ah,o⟩:=bd o
  refine RL.call (cg aa) zr Bi [(vi p0.Y)] zr (aD (eK N (p0:=p0.Y) j ah) ?_)
  rintro _ w ⟨rfl,j⟩
  refine fq aa (vb ae) (aQ (vb ae) (RL.nil ?_))
  obtain rfl:=oi o
  exact⟨rfl,j.sp 2 []⟩
 rintro _ w ⟨O,rfl,j⟩
 refine aH (RC.ret ?_)
 obtain rfl:=oi hb
 exact bX ⟨rfl,j.drop 0⟩
theorem fH {p0:bZ} {res:aI} (j:Holds E w V) (h0:V[i0]? =some (rd v0 p0)) (o:cH N p0=some res):
    Calls bN 29 [v0].toArray w (gL (oI E V res)):=by
 unfold cH at o
 refine enter Tryz.func29 zr zr ?_
 have j:=j.dup (i0+0) h0
 refine RC.sr (RL.cS 0 v0 j zr fun aa w j=>?_)
 refine RL.alloc j oG.z fun ab w j=>?_
 refine RL.nq (RC.yN mixed ?_)
 have j:=j.drew
 refine RO.go (RL.aY zr yd (RO.nx (RL.aY zr wk (RO.nx (RL.aM (f:=(fun x=>x.At.X)) 1 j zr (Fd.comp (f:=fun(x:bZ)=>x.At) (fun(x:jr)=>x.X) qm nO) cI (RO.nx (RL.aY zr rJ (RO.nx ?_))))))))
 refine RL.aM 1 j zr l3 cI (RO.nx (RL.quo p0.dE 2 (RO.nx (RL.fY p0.At.X (IntKind.wrap .i64 (Int.tdiv p0.dE 2)) (RO.nx (RL.aY zr yd (RO.nx (RL.aY zr wm ?_))))))))
 refine RO.nx (RL.aM (f:=(fun x=>x.At.Y)) 1 j zr (Fd.comp (f:=fun(x:bZ)=>x.At) (fun(x:jr)=>x.Y) qm nP) cI (RO.nx (RL.aY zr rJ (RO.nx (RL.aM 1 j zr l3 cI (RO.nx (RL.quo p0.dE 2 (RO.nx ?_))))))))
 refine RL.fY p0.At.Y (IntKind.wrap .i64 (Int.tdiv p0.dE 2)) (RO.nx (aQ (vi (IntKind.wrap .i64 (p0.At.X - (IntKind.wrap .i64 (Int.tdiv p0.dE 2))))) (RO.nx (aQ (vi (IntKind.wrap .i64 (p0.At.Y - (IntKind.wrap .i64 (Int.tdiv p0.dE 2))))) (RO.last (aH (RC.sr (mv (vi (IntKind.wrap .i64 (p0.At.X - (IntKind.wrap .i64 (Int.tdiv p0.dE 2))))) ?_))))))))
 refine mv (vi (IntKind.wrap .i64 (p0.At.Y - (IntKind.wrap .i64 (Int.tdiv p0.dE 2))))) (mv (vi (IntKind.wrap .i64 (p0.At.X - (IntKind.wrap .i64 (Int.tdiv p0.dE 2))))) (RL.aY zr rJ (RL.aM 1 j zr l3 cI (RL.fY (IntKind.wrap .i64 (p0.At.X - (IntKind.wrap .i64 (Int.tdiv p0.dE 2)))) p0.dE (mv (vi (IntKind.wrap .i64 (p0.At.Y - (IntKind.wrap .i64 (Int.tdiv p0.dE 2))))) (RL.aY zr rJ (RL.aM 1 j zr l3 cI (RL.fY (IntKind.wrap .i64 (p0.At.Y - (IntKind.wrap .i64 (Int.tdiv p0.dE 2)))) p0.dE ?_))))))))
 have j:=((j.sc Int (IntKind.wrap .i64 (p0.At.X - (IntKind.wrap .i64 (Int.tdiv p0.dE 2))))).sc Int (IntKind.wrap .i64 (p0.At.Y - (IntKind.wrap .i64 (Int.tdiv p0.dE 2))))).sc Int (IntKind.wrap .i64 ((IntKind.wrap .i64 (p0.At.X - (IntKind.wrap .i64 (Int.tdiv p0.dE 2))))+p0.dE))
 have j:=j.sc Int (IntKind.wrap .i64 ((IntKind.wrap .i64 (p0.At.Y - (IntKind.wrap .i64 (Int.tdiv p0.dE 2))))+p0.dE))
 refine RL.build (⟨(IntKind.wrap .i64 (p0.At.X - (IntKind.wrap .i64 (Int.tdiv p0.dE 2)))),(IntKind.wrap .i64 (p0.At.Y - (IntKind.wrap .i64 (Int.tdiv p0.dE 2)))),(IntKind.wrap .i64 ((IntKind.wrap .i64 (p0.At.X - (IntKind.wrap .i64 (Int.tdiv p0.dE 2))))+p0.dE)),(IntKind.wrap .i64 ((IntKind.wrap .i64 (p0.At.Y - (IntKind.wrap .i64 (Int.tdiv p0.dE 2))))+p0.dE))⟩:aI) trivial rfl j [(0,(vi (IntKind.wrap .i64 (p0.At.X - (IntKind.wrap .i64 (Int.tdiv p0.dE 2)))))),(1,(vi (IntKind.wrap .i64 (p0.At.Y - (IntKind.wrap .i64 (Int.tdiv p0.dE 2)))))),(2,(vi (IntKind.wrap .i64 ((IntKind.wrap .i64 (p0.At.X - (IntKind.wrap .i64 (Int.tdiv p0.dE 2))))+p0.dE)))),(3,(vi (IntKind.wrap .i64 ((IntKind.wrap .i64 (p0.At.Y - (IntKind.wrap .i64 (Int.tdiv p0.dE 2))))+p0.dE))))] rfl Dm rfl (fun M hs g=>by have h:=tj M;exact cU.cons (f:=fun(x:aI) y=>{x with X0:=y}) h oW (g.sat 3 _ rfl).1 fun _ h=>cU.cons (f:=fun(x:aI) y=>{x with Y0:=y}) h qj (g.sat 2 _ rfl).1 fun _ h=>cU.cons (f:=fun(x:aI) y=>{x with X1:=y}) h oX (g.sat 1 _ rfl).1 fun _ h=>cU.cons (f:=fun(x:aI) y=>{x with Y1:=y}) h ql (g.sat 0 _ rfl).1 fun _ h=>cU.nil h) fun ad j=>?_
 refine RL.cC 5 j 0 zr iE fun w j=>?_
 refine RL.nt (RC.ret ?_)
 obtain rfl:=oi o
 exact Il 5 zr j zr zr iE fun ae j=>(j.pk 9 [0])
theorem pN {p0:bZ} (j:Holds E w V) (h0:V[i0]? =some (rd v0 p0)) (hb:gJ N p0=some res):
    Calls bN 61 [v0].toArray w (gL (aU E V res)):=by
 unfold gJ at hb
 refine enter Tryz.func61 zr zr ?_
 have j:=j.dup (i0+0) h0
 refine RC.sr (RL.cS 0 v0 j zr fun an w j=>?_)
 refine aQ (vi 0) (RL.nq (RC.seq ?_))
 obtain⟨ah,o,hb⟩:=bd hb
 refine RC.jn (fun(ah:Bool)=>SH E V [(1,vp an 0),(13,vb ah)] [bx 60 an p0]) ah ?_ ?_
 ·refine RC.region (RL.aY zr rJ (RL.aM 0 j zr l3 cI ?_))
  obtain⟨ao,av,o⟩:=bd o
  refine RL.call zt zr Hr [(vi p0.dE),(vi 1),(vi 10000)] zr (aD (iG N (p0:=p0.dE) (p1:=1) (p2:=10000) j av) ?_)
  rintro _ w ⟨rfl,j⟩
  refine RL.not ao (mv (vb (!ao)) (eZ o (fun ab o=>?_) fun ab o=>?_))
  ·refine bC ab (bC ab (bC ab (bC ab (fq ab (vb true) (RL.nil ?_)))))
   obtain rfl:=oi o
   exact⟨rfl,j.sp 2 [0]⟩
  refine RL.aY (hg:=(cg ab)) zr yd (RL.bB (hg:=(cg ab)) 0 j zr qm Dn fun aw j=>?_)
  obtain⟨aq,ax,o⟩:=bd o
  refine RL.call (cg ab) zr Lo [aw] zr (aD (nD N (i0:=0) j zr ax) ?_)
  rintro _ w ⟨rfl,j⟩
  refine RL.not (hg:=(cg ab)) aq (fq ab (vb (!aq)) (RL.nil ?_))
  obtain rfl:=oi o
  exact⟨rfl,j.sp 3 [1]⟩
 rintro _ w ⟨O,rfl,j⟩
 refine aH (dQ hb (fun hc hb=>?_) fun hc hb=>?_)
 ·refine RC.sr (aQ (vi 1) (RL.nt (RC.rt ?_)))
  obtain rfl:=oi hb
  exact bX ⟨rfl,j.drop 1⟩
 refine RC.sx (RL.bB (f:=(fun x=>x)) 0 j zr Fd.self ma fun ay j=>?_)
 obtain⟨ag,az,hb⟩:=bd hb
 refine RL.call zt zr Gb [ay] zr (aD (fH N (i0:=0) j zr az) ?_)
 rintro a4 w j
 refine RL.alloc j oG.z fun a5 w j=>?_
 refine RL.cC 0 j 1 zr iE fun w j=>?_
 refine RL.nq (RC.seq ?_)
 obtain⟨aj,o,hb⟩:=bd hb
 refine RC.jn (fun(aj:Bool)=>SH E V [(37,vb aj)] []) aj ?_ ?_
 ·refine RC.region (RL.aY zr ij (RL.aM 0 j zr dM cI ?_))
  obtain⟨ar,a0,o⟩:=bd o
  refine RL.call zt zr Bi [(vi ag.X0)] zr (aD (eK N (p0:=ag.X0) j a0) ?_)
  rintro _ w ⟨rfl,j⟩
  refine RL.not ar (mv (vb (!ar)) (eZ o (fun ad o=>?_) fun ad o=>?_))
  ·refine bC ad (bC ad (bC ad (bC ad (fq ad (vb true) (mv (vb true) (kp (kp (kp ?_))))))))
   refine kp (RL.pick true (vb true) zr (mv (vb true) (kp (kp (kp (kp (RL.pick true (vb true) zr (RL.nil ?_))))))))
   obtain rfl:=oi o
   exact⟨rfl,j.sp 4 []⟩
  refine RL.aY (hg:=(cg ad)) zr gW (RL.aM (hg:=(cg ad)) 0 j zr dF cI ?_)
  obtain⟨ak,a1,o⟩:=bd o
  refine RL.call (cg ad) zr Bi [(vi ag.Y0)] zr (aD (eK N (p0:=ag.Y0) j a1) ?_)
  rintro _ w ⟨rfl,j⟩
  refine RL.not (hg:=(cg ad)) ak (fq ad (vb (!ak)) (mv (vb (!ak)) (eZ o (fun ae o=>?_) fun ae o=>?_)))
  ·refine bC ae (bC ae (bC ae (bC ae (fq ae (vb true) (mv (vb true) (kp (kp (kp ?_))))))))
   refine kp (RL.pick true (vb true) zr (RL.nil ?_))
   obtain rfl:=oi o
   exact⟨rfl,j.sp 4 []⟩
  refine RL.aY (hg:=(cg ae)) zr ji (RL.aM (hg:=(cg ae)) 0 j zr eF cI ?_)
  obtain⟨al,a2,o⟩:=bd o
  refine RL.call (cg ae) zr Bi [(vi ag.X1)] zr (aD (eK N (p0:=ag.X1) j a2) ?_)
  rintro _ w ⟨rfl,j⟩
  refine RL.not (hg:=(cg ae)) al (fq ae (vb (!al)) (mv (vb (!al)) (eZ o (fun af o=>?_) fun af o=>?_)))
  ·refine bC af (bC af (bC af (bC af (fq af (vb true) (RL.nil ?_)))))
   obtain rfl:=oi o
   exact⟨rfl,j.sp 4 []⟩
  refine RL.aY (hg:=(cg af)) zr kr (RL.aM (hg:=(cg af)) 0 j zr fG cI ?_)
  obtain⟨au,a3,o⟩:=bd o
  refine RL.call (cg af) zr Bi [(vi ag.Y1)] zr (aD (eK N (p0:=ag.Y1) j a3) ?_)
  rintro _ w ⟨rfl,j⟩
  refine RL.not (hg:=(cg af)) au (fq af (vb (!au)) (RL.nil ?_))
  obtain rfl:=oi o
  exact⟨rfl,j.sp 4 []⟩
 rintro _ w ⟨O,rfl,j⟩
 refine aH (dQ hb (fun hc hb=>?_) fun hc hb=>?_)
 ·refine RC.sr (aQ (vi 1) (RL.nt (RC.rt ?_)))
  obtain rfl:=oi hb
  exact bX ⟨rfl,j.drop 0⟩
 refine RC.sx (aQ (vi 0) (RL.nt (RC.ret ?_)))
 obtain rfl:=oi hb
 exact bX ⟨rfl,j.drop 0⟩
end Go.Gk
