/-
  Printed texts: Go functions as plain functions, and that they are. No statement of the seed is proved here.
-/
import Derived.Test.YtmmiladckdcjeadGreatDoorG1
import Derived.Test.YtmmiladckdcjeadGreatDoorG2
import Derived.Test.YtmmiladckdcjeadGreatDoorG4
import Derived.Test.YtmmiladckdcjeadGreatDoorA2
set_option linter.unusedVariables false
set_option linter.unusedSimpArgs false
set_option linter.unusedSectionVars false
set_option maxRecDepth 100000
set_option maxHeartbeats 4000000
namespace Go.Gk
open Go Go.Proofs
variable (N:Nat) {E w:World} {i0 i1:Nat} {p0 p1 p2 res:Int} {v0 v1:Value} {V:List HP}
def qN (E:World) (V:List HP) (r:Int) (U:Nat->Value) (w:World):Prop:=lS bN 52 Tryz.f77 (aV E V r) .ret U w
theorem p9 {p0: (List aI)} (o:Holds E w V) (h0:V[i0]? =some (rd v0 p0)) (hb:hZ N p0=some res):
    Calls bN 77 [v0].toArray w (gQ (aV E V res)):=by
 unfold hZ at hb
 refine enter Tryz.func77 zr zr ?_
 have o:=o.dup (i0+0) h0
 refine RC.sr (aP (vi 0) (RL.nq (RC.sr (mv v0 (RL.bC 0 p0 o mH (ic ((p0.length:Int)) 2000 (RL.nt (dX hb (fun hc hb=>?_) fun hc hb=>?_))))))))
 ·refine RC.sr (aP (vi 2) (RL.nt (RC.rt ?_)))
  obtain rfl:=oi hb
  exact bY ⟨rfl,o.drop 1⟩
 refine RC.ss (RC.sr (aP (vi 0) (RL.nt ?_)))
 obtain⟨az,hN,hb⟩:=bd hb
 refine RC.iter (fun(ad:Int)=>SH E V [(0,v0),(3,vi ad)] [rd v0 p0]) (fun(ad:Int)=>SH E V [] [rd v0 p0]) (qN E V) hN ?_ ?_ ?_ ?_
 ·exact o.sp 1 [0]
 ·rintro ad fl _ w ⟨O,rfl,o⟩ hb
  refine RC.seq (RC.sr (mv (vi ad) (mv v0 (RL.bC 0 p0 o mH (ic ad ((p0.length:Int)) (RL.nt (dX hb (fun hc hb=>?_) fun hc hb=>?_)))))))
  rotate_left
  ·refine RC.ex ?_
   obtain rfl:=oi hb
   exact⟨rfl,o.sp 1 [0]⟩
  refine RC.ss (RC.bs (mv v0 (mv (vi ad) ?_)))
  obtain⟨j,ar,hb⟩:=bd hb
  refine RL.bM 0 o iK ar fun a1 o=>(RL.bF 0 j o iq fun a2 o=>(RL.alloc o om.z fun ah w o=>?_))
  refine RL.bZ 0 o 1 zr iq fun w o=>?_
  refine RL.nq (RC.seq ?_)
  obtain⟨aj,hj,hb⟩:=bd hb
  refine RC.jn (fun(aj:Bool)=>SH E V [(0,v0),(3,vi ad),(4,vp ah 0),(39,vb aj)] [rd v0 p0,bx 73 ah j]) aj ?_ ?_
  ·refine RC.region (RL.aZ zr gO (RL.aM 0 o zr dD cG ?_))
   obtain⟨an,au,hj⟩:=bd hj
   refine RL.call zt zr Bn [(vi j.X0)] zr (aD (eK N (p0:=j.X0) o au) ?_)
   rintro _ w ⟨rfl,o⟩
   refine RL.not an (mv (vb (!an)) (fN hj (fun ae hj=>?_) fun ae hj=>?_))
   ·refine bJ ae (bJ ae (bJ ae (bJ ae (fU ae (vb true) (mv (vb true) (jR (jR (jR ?_))))))))
    refine jR (RL.pick true (vb true) zr (mv (vb true) (jR (jR (jR (jR (RL.pick true (vb true) zr (RL.nil ?_))))))))
    obtain rfl:=oi hj
    exact⟨rfl,o.sp 4 [3,0]⟩
   refine RL.aZ (hg:=(cg ae)) zr gG (RL.aM (hg:=(cg ae)) 0 o zr cZ cG ?_)
   obtain⟨ak,av,hj⟩:=bd hj
   refine RL.call (cg ae) zr Bn [(vi j.Y0)] zr (aD (eK N (p0:=j.Y0) o av) ?_)
   rintro _ w ⟨rfl,o⟩
   refine RL.not (hg:=(cg ae)) ak (fU ae (vb (!ak)) (mv (vb (!ak)) (fN hj (fun af hj=>?_) fun af hj=>?_)))
   ·refine bJ af (bJ af (bJ af (bJ af (fU af (vb true) (mv (vb true) (jR (jR (jR ?_))))))))
    refine jR (RL.pick true (vb true) zr (RL.nil ?_))
    obtain rfl:=oi hj
    exact⟨rfl,o.sp 4 [3,0]⟩
   refine RL.aZ (hg:=(cg af)) zr iX (RL.aM (hg:=(cg af)) 0 o zr dY cG ?_)
   obtain⟨al,aw,hj⟩:=bd hj
   refine RL.call (cg af) zr Bn [(vi j.X1)] zr (aD (eK N (p0:=j.X1) o aw) ?_)
   rintro _ w ⟨rfl,o⟩
   refine RL.not (hg:=(cg af)) al (fU af (vb (!al)) (mv (vb (!al)) (fN hj (fun ag hj=>?_) fun ag hj=>?_)))
   ·refine bJ ag (bJ ag (bJ ag (bJ ag (fU ag (vb true) (RL.nil ?_)))))
    obtain rfl:=oi hj
    exact⟨rfl,o.sp 4 [3,0]⟩
   refine RL.aZ (hg:=(cg ag)) zr jZ (RL.aM (hg:=(cg ag)) 0 o zr eT cG ?_)
   obtain⟨ao,ax,hj⟩:=bd hj
   refine RL.call (cg ag) zr Bn [(vi j.Y1)] zr (aD (eK N (p0:=j.Y1) o ax) ?_)
   rintro _ w ⟨rfl,o⟩
   refine RL.not (hg:=(cg ag)) ao (fU ag (vb (!ao)) (RL.nil ?_))
   obtain rfl:=oi hj
   exact⟨rfl,o.sp 4 [3,0]⟩
  rintro _ w ⟨O,rfl,o⟩
  refine aG (dX hb (fun hc hb=>?_) fun hc hb=>?_)
  ·refine RC.sr (aP (vi 1) (RL.nt (RC.rt (oz (bQ ?_)))))
   obtain rfl:=oi hb
   exact⟨rfl,bY ⟨rfl,o.drop 2⟩⟩
  refine RC.sx (RL.aZ rfl iX (RL.aM 1 o rfl dY cG (RL.aZ rfl gO (RL.aM 1 o rfl dD cG (ic j.X1 j.X0 (mv (vb (decide (j.X1<=j.X0))) (RL.gs true (decide (j.X1<=j.X0)) (vp ah 3) rfl rfl rfl (eC jZ) (RL.gs true (decide (j.X1<=j.X0)) (vi j.Y1) rfl rfl rfl (cB 1 rfl o (fun h=>by exact(cO h:cv (true&&((decide (j.X1<=j.X0))==false)) (vp ah 3)= (vp ah 3))) rfl eT cG) ?_))))))))
  refine RL.gs true (decide (j.X1<=j.X0)) (vp ah 1) rfl rfl rfl (eC gG) (RL.gs true (decide (j.X1<=j.X0)) (vi j.Y0) rfl rfl rfl (cB 1 rfl o (fun h=>by exact(cO h:cv (true&&((decide (j.X1<=j.X0))==false)) (vp ah 1)= (vp ah 1))) rfl cZ cG) (RL.gs true (decide (j.X1<=j.X0)) (vb (decide (j.Y1<=j.Y0))) rfl rfl rfl (dL .leq .i64 j.Y1 j.Y0 rfl (fun h=>by exact(cO h:cv (true&&((decide (j.X1<=j.X0))==false)) (vi j.Y1)= (vi j.Y1))) (fun h=>by exact(cO h:cv (true&&((decide (j.X1<=j.X0))==false)) (vi j.Y0)= (vi j.Y0))) rfl) (RL.pick (decide (j.X1<=j.X0)) (vb ((decide (j.X1<=j.X0))||(decide (j.Y1<=j.Y0)))) (nW true) (RL.nt (dX hb (fun hc hb=>?_) fun hc hb=>?_)))))
  ·refine RC.sr (aP (vi 13) (RL.nt (RC.rb (bQ ?_))))
   obtain rfl:=oi hb
   exact⟨rfl,bY ⟨rfl,o.drop 2⟩⟩
  refine RC.skip (bO (aG (RC.region (mv (vi ad) (RL.fO ad 1 (aP (vi (IntKind.wrap .i64 (ad+1))) (RL.nil ?_)))))))
  obtain rfl:=oi hb
  exact⟨rfl,o.sp 2 [0]⟩
 ·intro r U w e hK
  subst e
  refine bQ ?_
  obtain rfl:=oi hb
  exact hK
 rintro ad _ w rfl ⟨O,rfl,o⟩
 rw [Fo.dB] at hb
 refine aG (RC.sr (aP (vi 0) (RL.nt (RC.ret ?_))))
 obtain rfl:=oi hb
 exact bY ⟨rfl,o.drop 1⟩
theorem oc {p0 p1:aI} {res:Bool} (j:Holds E w V) (h0:V[i0]? =some (rd v0 p0)) (h1:V[i1]? =some (rd v1 p1)) (hb:iF N p0 p1=some res):
    Calls bN 78 [v0,v1].toArray w (gQ (aU E V res)):=by
 unfold iF at hb
 refine enter Tryz.func78 zr zr ?_
 have j:=(j.dup (i0+0) h0).dup (i1+1) h1
 refine RC.sr (RL.dK 1 v0 j zr fun o w j=>?_)
 refine RL.dK 1 v1 j zr fun aa w j=>?_
 refine aP (vb false) (RL.ns (RL.aZ zr gG (RL.aM 1 j zr cZ cG (RL.aZ zr gG (RL.aM 0 j zr cZ cG (ic p0.Y0 p1.Y0 (mv (vb (decide (p0.Y0<p1.Y0))) (RL.gs true (decide (p0.Y0<p1.Y0)) (vp o 1) zr zr zr (eC gG) ?_))))))))
 refine RL.gs true (decide (p0.Y0<p1.Y0)) (vi p0.Y0) rfl rfl rfl (cB 1 rfl j (fun h=>by exact(cO h:cv (true&&((decide (p0.Y0<p1.Y0))==false)) (vp o 1)= (vp o 1))) rfl cZ cG) (RL.gs true (decide (p0.Y0<p1.Y0)) (vp aa 1) rfl rfl rfl (eC gG) (RL.gs true (decide (p0.Y0<p1.Y0)) (vi p1.Y0) rfl rfl rfl (cB 0 rfl j (fun h=>by exact(cO h:cv (true&&((decide (p0.Y0<p1.Y0))==false)) (vp aa 1)= (vp aa 1))) rfl cZ cG) (RL.gs true (decide (p0.Y0<p1.Y0)) (vb (p0.Y0==p1.Y0)) rfl rfl rfl (dL .eql .i64 p0.Y0 p1.Y0 rfl (fun h=>by exact(cO h:cv (true&&((decide (p0.Y0<p1.Y0))==false)) (vi p0.Y0)= (vi p0.Y0))) (fun h=>by exact(cO h:cv (true&&((decide (p0.Y0<p1.Y0))==false)) (vi p1.Y0)= (vi p1.Y0))) rfl) (RL.gs true (decide (p0.Y0<p1.Y0)) (vb (p0.Y0==p1.Y0)) rfl rfl rfl (cI (hx:=fun h=>by exact(cO h:cv (true&&((decide (p0.Y0<p1.Y0))==false)) (vb (p0.Y0==p1.Y0))= (vb (p0.Y0==p1.Y0))))) (RL.gs (true&&((decide (p0.Y0<p1.Y0))==false)) (p0.Y0==p1.Y0) (vp o 0) rfl rfl rfl (eC gO) (RL.gs (true&&((decide (p0.Y0<p1.Y0))==false)) (p0.Y0==p1.Y0) (vi p0.X0) rfl rfl rfl (cB 1 rfl j (fun h=>by exact(cO h:cv ((true&&((decide (p0.Y0<p1.Y0))==false))&&((p0.Y0==p1.Y0)==true)) (vp o 0)= (vp o 0))) rfl dD cG) (RL.gs (true&&((decide (p0.Y0<p1.Y0))==false)) (p0.Y0==p1.Y0) (vp aa 0) rfl rfl rfl (eC gO) (RL.gs (true&&((decide (p0.Y0<p1.Y0))==false)) (p0.Y0==p1.Y0) (vi p1.X0) rfl rfl rfl (cB 0 rfl j (fun h=>by exact(cO h:cv ((true&&((decide (p0.Y0<p1.Y0))==false))&&((p0.Y0==p1.Y0)==true)) (vp aa 0)= (vp aa 0))) rfl dD cG) ?_))))))))
 refine RL.gs (true&&((decide (p0.Y0<p1.Y0))==false)) (p0.Y0==p1.Y0) (vb (decide (p0.X0<p1.X0))) rfl rfl rfl (dL .lss .i64 p0.X0 p1.X0 rfl (fun h=>by exact(cO h:cv ((true&&((decide (p0.Y0<p1.Y0))==false))&&((p0.Y0==p1.Y0)==true)) (vi p0.X0)= (vi p0.X0))) (fun h=>by exact(cO h:cv ((true&&((decide (p0.Y0<p1.Y0))==false))&&((p0.Y0==p1.Y0)==true)) (vi p1.X0)= (vi p1.X0))) rfl) (RL.gs true (decide (p0.Y0<p1.Y0)) (vb ((p0.Y0==p1.Y0)&&(decide (p0.X0<p1.X0)))) rfl rfl rfl (kG (p0.Y0==p1.Y0) rfl (fun h=>by exact(cO h:cv (true&&((decide (p0.Y0<p1.Y0))==false)) (vb (p0.Y0==p1.Y0))= (vb (p0.Y0==p1.Y0)))) (fun h=>by exact gx (true&&((decide (p0.Y0<p1.Y0))==false)) h)) (RL.pick (decide (p0.Y0<p1.Y0)) (vb ((decide (p0.Y0<p1.Y0))||((p0.Y0==p1.Y0)&&(decide (p0.X0<p1.X0))))) (nW true) (aP (vb ((decide (p0.Y0<p1.Y0))||((p0.Y0==p1.Y0)&&(decide (p0.X0<p1.X0))))) (RL.nt (RC.ret ?_)))))
 obtain rfl:=oi hb
 exact bY ⟨rfl,j.drop 4⟩
theorem iL {p0: (List Int)} {res: (List Int)} (j:Holds E w V) (h0:V[i0]? =some (rd v0 p0)) (hb:fE N p0 p1=some res):
    Calls bN 107 [v0,(vi p1)].toArray w (gQ (nu E V res)):=by
 unfold fE at hb
 refine enter Tryz.func107 zr zr ?_
 have j:=j.dup (i0+0) h0
 refine RC.sr (aP (.slice none 0 0) (RL.ns (mv v0 (RL.bC 0 p0 j mw (aP (vi 0) (aP (vi p0.length) (RL.nq ?_)))))))
 obtain⟨ay,hN,hb⟩:=bd hb
 refine RC.iter (fun(o:Int×Int)=>SH E V [(0,v0),(1,vi p1),(5,vi o.1),(6,vi o.2)] [rd v0 p0]) (fun(o:Int×Int)=>SH E V [(0,v0),(1,vi p1),(5,vi o.1)] [rd v0 p0]) (fun(r:Empty) _ _=>r.elim) hN ?_ ?_ ?_ ?_
 ·exact j.sp 1 [0]
 ·rintro o fl _ w ⟨O,rfl,j⟩ hb
  refine RC.seq (RC.sr (mv (vi o.1) (mv (vi o.2) (ic o.1 o.2 (RL.nt (dX hb (fun hc hb=>?_) fun hc hb=>?_))))))
  rotate_left
  ·refine RC.ex ?_
   obtain rfl:=oi hb
   exact⟨rfl,j.sp 1 [0]⟩
  refine RC.sn (RC.bs (mv (vi o.1) (mv (vi o.2) (RL.fO o.1 o.2 (RL.quo (IntKind.wrap .i64 (o.1+o.2)) 2 (aP (vi (IntKind.wrap .i64 (Int.tdiv (IntKind.wrap .i64 (o.1+o.2)) 2))) (RL.ns (mv v0 ?_))))))))
  refine mv (vi (IntKind.wrap .i64 (Int.tdiv (IntKind.wrap .i64 (o.1+o.2)) 2))) ?_
  obtain⟨ai,an,hb⟩:=bd hb
  refine RL.bM 0 j eD an fun a0 j=>(RL.bB ai 0 j cG (mv (vi p1) (ic ai p1 (RL.nt ?_))))
  obtain⟨af,hj,hb⟩:=bd hb
  refine RC.jn (fun(af:Int×Int)=>SH E V [(0,v0),(1,vi p1),(5,vi af.1),(6,vi af.2)] [rd v0 p0]) af ?_ ?_
  ·refine dX hj (fun hc hj=>?_) fun hc hj=>?_
   rotate_left
   ·refine RC.region (mv (vi (IntKind.wrap .i64 (Int.tdiv (IntKind.wrap .i64 (o.1+o.2)) 2))) (aP (vi (IntKind.wrap .i64 (Int.tdiv (IntKind.wrap .i64 (o.1+o.2)) 2))) (RL.nil ?_)))
    obtain rfl:=oi hj
    exact⟨rfl,j.sp 2 [1]⟩
   refine RC.region (mv (vi (IntKind.wrap .i64 (Int.tdiv (IntKind.wrap .i64 (o.1+o.2)) 2))) (RL.fO (IntKind.wrap .i64 (Int.tdiv (IntKind.wrap .i64 (o.1+o.2)) 2)) 1 (aP (vi (IntKind.wrap .i64 ((IntKind.wrap .i64 (Int.tdiv (IntKind.wrap .i64 (o.1+o.2)) 2))+1))) (RL.nil ?_))))
   obtain rfl:=oi hj
   exact⟨rfl,j.sp 2 [1]⟩
  rintro _ w ⟨O,rfl,j⟩
  refine bO ?_
  obtain rfl:=oi hb
  exact⟨rfl,j.sp 1 [0]⟩
 ·intro r _ _ _ _
  exact r.elim
 rintro o _ w rfl ⟨O,rfl,j⟩
 rw [Fo.dB] at hb
 refine aG (RC.seq (RC.seq ?_))
 obtain⟨ag,hj,hb⟩:=bd hb
 refine RC.jn (fun(ag:Bool)=>SH E V [(0,v0),(1,vi p1),(5,vi o.1),(38,vb ag)] [rd v0 p0]) ag ?_ ?_
 ·refine RC.region (mv (vi o.1) (mv v0 (RL.bC 0 p0 j mw (ic o.1 ((p0.length:Int)) (mv (vb (decide (o.1< (p0.length:Int)))) (fN hj (fun ab hj=>?_) fun ab hj=>?_))))))
  rotate_left
  ·refine bJ ab (bJ ab (bJ ab (bJ ab (bJ ab (bJ ab (fU ab (vb false) (RL.nil ?_)))))))
   obtain rfl:=oi hj
   exact⟨rfl,j.sp 1 [0]⟩
  refine RL.move v0 (cg ab) (RL.move (vi o.1) (cg ab) ?_)
  obtain⟨ah,ao,hj⟩:=bd hj
  refine RL.bM (hg:=(cg ab)) 0 j eD ao fun a1 j=>(RL.bB (hg:=(cg ab)) ah 0 j cG (RL.move (vi p1) (cg ab) (RL.ld ah p1 (cg ab) (fU ab (vb (ah==p1)) (RL.nil ?_)))))
  obtain rfl:=oi hj
  exact⟨rfl,j.sp 2 [1]⟩
 rintro _ w ⟨O,rfl,j⟩
 refine aG (dX hb (fun hc hb=>?_) fun hc hb=>?_)
 ·refine RC.sr (mv v0 (aP v0 (RL.nt (RC.rt ?_))))
  obtain rfl:=oi hb
  exact bY (j.pk 1 [0])
 refine RC.sx (aP (.slice none 0 0) (RL.ns (mv (.slice none 0 0) (mv v0 (mv (vi o.1) ?_)))))
 obtain⟨a2,aq,hb⟩:=bd hb
 refine RL.cut (hl:= .inr ⟨rfl,zr⟩) 0 j eD (.inl zr) aq fun a3 j=>?_
 have j:=j.cQ Int 3
 obtain⟨a4,ar,hb⟩:=bd hb
 refine RL.app 0 1 j rh ar fun aj w j=>?_
 refine aP aj (RL.ns (mv aj (mv (vi p1) ?_)))
 have j:=j.sc Int p1
 refine RL.dQ ([p1]: (List Int)) j [(vi p1)] eD CX (fun M hs g=>⟨(g.sat 0 _ zr).1,zt⟩) fun a5 w j=>?_
 have j:=j.freeze 0
 obtain⟨a6,au,hb⟩:=bd hb
 refine RL.app 2 0 j rh au fun ak w j=>?_
 refine aP ak (RL.ns (mv ak (mv v0 (mv (vi o.1) ?_))))
 obtain⟨a7,av,hb⟩:=bd hb
 refine RL.cut 4 j eD (.inr ⟨rfl,zr⟩) av fun a8 j=>?_
 obtain⟨a9,aw,hb⟩:=bd hb
 refine RL.app 3 0 j rh aw fun ax w j=>?_
 refine aP ax (RL.nt (RC.ret ?_))
 obtain rfl:=oi hb
 have j:=j.freeze 3
 exact bY (j.pk 6 [3])
theorem nC {p0: (List aI)} {res: (List Int)} (j:Holds E w V) (h0:V[i0]? =some (rd v0 p0)) (o:g9 N p0=some res):
    Calls bN 71 [v0].toArray w (gQ (nu E V res)):=by
 unfold g9 at o
 refine enter Tryz.func71 zr zr ?_
 have j:=j.dup (i0+0) h0
 refine RC.sr (aP (.slice none 0 0) (RL.ns (aP (.slice none 0 0) (RL.nq (RC.sr (aP (vi 0) (RL.nt ?_)))))))
 obtain⟨ar,hN,o⟩:=bd o
 refine RC.iter (fun(aa: (List Int)×Int) U w=>∃ag:Value,SH E V [(0,v0),(3,ag),(4,vi aa.2)] [rd v0 p0,rd ag aa.1] U w) (fun(aa: (List Int)×Int) U w=>∃ab:Value,SH E V [(3,ab)] [rd v0 p0,rd ab aa.1] U w) (fun(r:Empty) _ _=>r.elim) hN ?_ ?_ ?_ ?_
 ·have j:=j.yf Int
  exact⟨(.slice none 0 0),j.sp 2 [1,0]⟩
 ·rintro aa fl _ w ⟨ad,O,rfl,j⟩ o
  refine RC.seq (RC.sr (mv (vi aa.2) (mv v0 (RL.bC 0 p0 j mH (ic aa.2 ((p0.length:Int)) (RL.nt (dX o (fun hc o=>?_) fun hc o=>?_)))))))
  rotate_left
  ·refine RC.ex ?_
   obtain rfl:=oi o
   exact⟨rfl,ad,j.sp 2 [0,1]⟩
  refine RC.ss (RC.block (RC.vH mixed [0,0,0,0,0,0,2,1,1,1,1,1,2,0] [0,1,2,3,4,5,7,8,9,10,11,6,12,13] ?_))
  have j:=j.drew
  refine DP.e0 zr (mv ad (aY zr (mv v0 (aY zr (mv (vi aa.2) (aY zr ?_))))))
  obtain⟨ae,ak,o⟩:=bd o
  refine RL.bM 0 j iK ak fun av j=>(aY zr (RL.dN 0 j zr gG cZ fun aw j=>(aY zr (RL.bB ae.Y0 0 j cG (DP.d0 (DP.e1 v0 zr (fun w=>RL.move v0 zt DP.d1) (DP.e1 (vi aa.2) zr (fun w=>RL.move (vi aa.2) zt DP.d1) ?_)))))))
  obtain⟨af,al,o⟩:=bd o
  refine DP.wx 2 zr j iK al fun ax j=>(DP.Cq 0 zr zt j zr jZ eT fun ay j=>(DP.rA af.Y1 0 zr j cG fun a68 az j=>(DP.e2 zr ?_)))
  obtain⟨a0,an,o⟩:=bd o
  refine RL.call zt zr BP [ad,(vi ae.Y0)] zr (aD (iL N (p1:=ae.Y0) (i0:=6) j zr an) ?_)
  rintro ao w j
  refine DP.d2 (⟨zt,j.gm 1⟩) (DP.e2 zr ?_)
  obtain⟨a1,aq,o⟩:=bd o
  refine RL.call zt zr BP [ao,(vi af.Y1)] zr (aD (iL N (p1:=af.Y1) (i0:=0) j zr aq) ?_)
  rintro ah w j
  refine DP.d2 (⟨zt,j.gm 2⟩) (DP.e0 zr (aP ah (DP.d0 ?_)))
  have j:=j.pl 9 [0,1,3,4,5,6,7,8]
  refine DP.z (bO (aG (RC.region (mv (vi aa.2) (RL.fO aa.2 1 (aP (vi (IntKind.wrap .i64 (aa.2+1))) (RL.nil ?_)))))))
  obtain rfl:=oi o
  exact⟨rfl,ah,j.sp 8 [6,0]⟩
 ·intro r _ _ _ _
  exact r.elim
 rintro aa _ w rfl ⟨ab,O,rfl,j⟩
 rw [Fo.dB] at o
 refine aG (RC.sr (mv ab (aP ab (RL.nt (RC.ret ?_)))))
 obtain rfl:=oi o
 exact bY (j.pk 2 [1])
theorem oe {p0: (List aF)} {p1:aF} {res: (List aF)} (j:Holds E w V) (h0:V[i0]? =some (rd v0 p0)) (h1:V[i1]? =some (rd v1 p1)) (o:iG N p0 p1=some res):
    Calls bN 109 [v0,v1].toArray w (gQ (lM E V res)):=by
 unfold iG at o
 refine enter Tryz.func109 zr zr ?_
 have j:=(j.dup (i0+0) h0).dup (i1+1) h1
 refine RC.sr (RL.dK 0 v1 j zr fun ag w j=>?_)
 refine aP (.slice none 0 0) (RL.ns (aP (.slice none 0 0) (RL.ns (aP (vi 0) (RL.nq ?_)))))
 obtain⟨bc,hN,o⟩:=bd o
 refine RC.iter (fun(ab: (List aF)×Int) U w=>∃av:Value,SH E V [(0,v0),(3,vp ag 0),(5,av),(6,vi ab.2)] [rd v0 p0,bx 155 ag p1,own 155 av ab.1] U w) (fun(ab: (List aF)×Int) U w=>∃ah:Value,SH E V [(0,v0),(3,vp ag 0),(5,ah),(6,vi ab.2)] [rd v0 p0,bx 155 ag p1,own 155 ah ab.1] U w) (fun(r:Empty) _ _=>r.elim) hN ?_ ?_ ?_ ?_
 ·have j:=j.cQ aF 155
  exact⟨(.slice none 0 0),j.sp 4 [3,1,0]⟩
 ·rintro ab fl _ w ⟨aj,O,rfl,j⟩ o
  refine RC.seq (RC.seq ?_)
  obtain⟨an,hj,o⟩:=bd o
  refine RC.jn (fun(an:Bool)=>SH E V [(0,v0),(3,vp ag 0),(5,aj),(6,vi ab.2),(20,vb an)] [rd v0 p0,bx 155 ag p1,own 155 aj ab.1]) an ?_ ?_
  ·refine RC.yh mixed ?_
   have j:=j.drew
   refine RO.go (mv (vi ab.2) (RO.nx (mv v0 (RO.nx (RL.bC 0 p0 j v5 (RO.nx (ic ab.2 ((p0.length:Int)) (RO.nx ?_))))))))
   refine mv (vb (decide (ab.2< (p0.length:Int)))) (fN hj (fun ad hj=>?_) fun ad hj=>?_)
   rotate_left
   ·refine RO.nx (bJ ad (RO.nx (bJ ad (RO.nx (bJ ad (RO.nx (bJ ad (RO.nx ?_))))))))
    refine bJ ad (RO.nx (bJ ad (RO.nx (bJ ad (RO.nx (bJ ad (RO.nx (fU ad (vb false) ?_))))))))
    refine RO.last ?_
    obtain rfl:=oi hj
    exact⟨rfl,j.sp 3 [0,1,2]⟩
   refine RO.nx (RL.move v0 (cg ad) (RO.nx (RL.move (vi ab.2) (cg ad) (RO.nx ?_))))
   obtain⟨ao,a0,hj⟩:=bd hj
   refine RL.bM (hg:=(cg ad)) 0 j oV a0 fun bf j=>(RO.nx (RL.dN (hg:=(cg ad)) 0 j zr p6 eH fun bg j=>(RO.nx (RL.bB (hg:=(cg ad)) ao.to 0 j cG (RO.nx (RL.aZ (hg:=(cg ad)) zr p7 (RO.nx (RL.aM (hg:=(cg ad)) 3 j zr eG cG ?_))))))))
   refine RO.nx (RL.ld ao.to p1.from_ (cg ad) (RO.nx (fU ad (vb (decide (ao.to<p1.from_))) (RO.last ?_))))
   obtain rfl:=oi hj
   exact⟨rfl,j.sp 5 [2,3,4]⟩
  rintro _ w ⟨O,rfl,j⟩
  refine aG (dX o (fun hc o=>?_) fun hc o=>?_)
  rotate_left
  ·refine RC.ex ?_
   obtain rfl:=oi o
   exact⟨rfl,aj,j.sp 3 [0,1,2]⟩
  refine RC.sn (RC.bs (mv aj (mv v0 (mv (vi ab.2) ?_))))
  obtain⟨aw,a1,o⟩:=bd o
  refine RL.bM 0 j oV a1 fun bh j=>(RL.bF 0 aw j FP fun a2 j=>(RL.dQ ([aw]: (List aF)) j [a2] oV JE (fun M hs g=>⟨(g.sat 0 _ zr).1,zt⟩) fun bj w j=>?_))
  have j:=j.freeze 0
  obtain⟨bk,a3,o⟩:=bd o
  refine RL.app 5 0 j HM a3 fun ax w j=>?_
  refine aP ax (RL.nt (RC.region (mv (vi ab.2) (RL.fO ab.2 1 (aP (vi (IntKind.wrap .i64 (ab.2+1))) (RL.nil (bO ?_)))))))
  obtain rfl:=oi o
  exact⟨rfl,ax,j.sp 6 [3,4,5]⟩
 ·intro r _ _ _ _
  exact r.elim
 rintro ab _ w rfl ⟨ah,O,rfl,j⟩
 rw [Fo.dB] at o
 refine aG (RC.seq ?_)
 obtain⟨bl,hN,o⟩:=bd o
 refine RC.iter (fun(aa:aF×Int)=>SH E V [(0,v0),(3,vp ag 0),(5,ah),(6,vi aa.2)] [rd v0 p0,bx 155 ag aa.1,own 155 ah ab.1]) (fun(aa:aF×Int)=>SH E V [(0,v0),(3,vp ag 0),(5,ah),(6,vi aa.2)] [rd v0 p0,bx 155 ag aa.1,own 155 ah ab.1]) (fun(r:Empty) _ _=>r.elim) hN ?_ ?_ ?_ ?_
 ·exact j.sp 3 [0,1,2]
 ·rintro aa fl _ w ⟨O,rfl,j⟩ o
  refine RC.seq (RC.seq ?_)
  obtain⟨ar,hj,o⟩:=bd o
  refine RC.jn (fun(ar:Bool)=>SH E V [(0,v0),(3,vp ag 0),(5,ah),(6,vi aa.2),(43,vb ar)] [rd v0 p0,bx 155 ag aa.1,own 155 ah ab.1]) ar ?_ ?_
  ·refine RC.yh mixed ?_
   have j:=j.drew
   refine RO.go (mv (vi aa.2) (RO.nx (mv v0 (RO.nx (RL.bC 0 p0 j v5 (RO.nx (ic aa.2 ((p0.length:Int)) (RO.nx ?_))))))))
   refine mv (vb (decide (aa.2< (p0.length:Int)))) (fN hj (fun ae hj=>?_) fun ae hj=>?_)
   rotate_left
   ·refine RO.nx (bJ ae (RO.nx (bJ ae (RO.nx (bJ ae (RO.nx (bJ ae (RO.nx ?_))))))))
    refine bJ ae (RO.nx (bJ ae (RO.nx (bJ ae (RO.nx (bJ ae (RO.nx (fU ae (vb false) ?_))))))))
    refine RO.last ?_
    obtain rfl:=oi hj
    exact⟨rfl,j.sp 3 [0,1,2]⟩
   refine RO.nx (RL.move v0 (cg ae) (RO.nx (RL.move (vi aa.2) (cg ae) (RO.nx ?_))))
   obtain⟨au,a4,hj⟩:=bd hj
   refine RL.bM (hg:=(cg ae)) 0 j oV a4 fun bm j=>(RO.nx (RL.dN (hg:=(cg ae)) 0 j zr p7 eG fun bn j=>(RO.nx (RL.bB (hg:=(cg ae)) au.from_ 0 j cG (RO.nx (RL.aZ (hg:=(cg ae)) zr p6 (RO.nx (RL.aM (hg:=(cg ae)) 3 j zr eH cG ?_))))))))
   refine RO.nx (RL.ld au.from_ aa.1.to (cg ae) (RO.nx (fU ae (vb (decide (au.from_<=aa.1.to))) (RO.last ?_))))
   obtain rfl:=oi hj
   exact⟨rfl,j.sp 5 [2,3,4]⟩
  rintro _ w ⟨O,rfl,j⟩
  refine aG (dX o (fun hc o=>?_) fun hc o=>?_)
  rotate_left
  ·refine RC.ex ?_
   obtain rfl:=oi o
   exact⟨rfl,j.sp 3 [0,1,2]⟩
  refine RC.sn (RC.block (RC.seq (RC.vH mixed [0,0,0,0,0,0,0,0,0,0,1,1,1,1,1,1,0,2,0,2] [0,1,2,3,4,5,6,7,8,9,10,11,12,13,14,15,16,17,18,19] ?_)))
  have j:=j.drew
  refine DP.e0 zr (RL.aZ zr p7 (aY zr (RL.aM 1 j zr eG cG (aY zr (mv v0 (aY zr (mv (vi aa.2) (aY zr ?_))))))))
  obtain⟨ak,a5,o⟩:=bd o
  refine RL.bM 0 j oV a5 fun bo j=>(aY zr (RL.dN 0 j zr p7 eG fun bp j=>(aY zr (RL.bB ak.from_ 0 j cG (aY zr (RL.min aa.1.from_ ak.from_ (aY zr (RL.aZ zr p6 ?_))))))))
  refine aY zr (RL.aM 3 j zr eH cG (DP.d0 (DP.e1 v0 zr (fun w=>RL.move v0 zt DP.d1) (DP.e1 (vi aa.2) zr (fun w=>RL.move (vi aa.2) zt DP.d1) ?_))))
  obtain⟨ai,a6,o⟩:=bd o
  refine DP.wx 2 zr j oV a6 fun bq j=>(DP.Cq 0 zr zt j zr p6 eH fun br j=>(DP.rA ai.to 0 zr j cG fun a135 bt j=>(DP.e1 (vi (if aa.1.to<ai.to then ai.to else aa.1.to)) zr (fun w=>RL.max aa.1.to ai.to DP.d1) (DP.e0 zr (RL.aZ zr p7 (oN zr ?_))))))
  have j:=j.sc Int (if ak.from_<aa.1.from_ then ak.from_ else aa.1.from_)
  refine RL.wW 7 j zr zr zr 0 zr lr cG fun w j=>?_
  refine DP.d2 (⟨zt,j.gm 1⟩) (DP.e0 zr (RL.aZ zr p6 (oN zr ?_)))
  have j:=j.sc Int (if aa.1.to<ai.to then ai.to else aa.1.to)
  refine RL.wW 8 j zr zr zr 0 zr lu cG fun w j=>?_
  refine DP.d2 (⟨zt,j.gm 2⟩) ?_
  have j:=j.pl 10 [0,1,3,4,5,6,7,8,9]
  refine DP.z (aG (RC.region (mv (vi aa.2) (RL.fO aa.2 1 (aP (vi (IntKind.wrap .i64 (aa.2+1))) (RL.nil (bO ?_)))))))
  obtain rfl:=oi o
  exact⟨rfl,j.sp 9 [6,7,8]⟩
 ·intro r _ _ _ _
  exact r.elim
 rintro aa _ w rfl ⟨O,rfl,j⟩
 rw [Fo.dB] at o
 refine aG (RC.sr (mv ah (RL.bG (f:=(fun x=>x)) 1 j zr Fd.self FP fun a7 j=>(RL.dQ ([aa.1]: (List aF)) j [a7] oV JE (fun M hs g=>⟨(g.sat 0 _ zr).1,zt⟩) fun bu w j=>?_))))
 have j:=j.freeze 0
 obtain⟨bw,a8,o⟩:=bd o
 refine RL.app 4 0 j HM a8 fun ay w j=>?_
 refine aP ay (RL.ns (mv ay (mv v0 (mv (vi aa.2) ?_))))
 obtain⟨bz,a9,o⟩:=bd o
 refine RL.cut 2 j oV (.inr ⟨rfl,zr⟩) a9 fun b0 j=>?_
 obtain⟨b1,ba,o⟩:=bd o
 refine RL.app 5 0 j HM ba fun bb w j=>?_
 refine aP bb (RL.nt (RC.ret ?_))
 obtain rfl:=oi o
 exact bY (j.pk 6 [5])
theorem kN {p0: (List aI)} {res: (List aF)} (j:Holds E w V) (h0:V[i0]? =some (rd v0 p0)) (hb:gZ N p0 p1=some res):
    Calls bN 73 [v0,(vi p1)].toArray w (gQ (lM E V res)):=by
 unfold gZ at hb
 refine enter Tryz.func73 zr zr ?_
 have j:=j.dup (i0+0) h0
 refine RC.sr (aP (.slice none 0 0) (RL.ns (aP (.slice none 0 0) (RL.nq (RC.sr (aP (vi 0) (RL.nt ?_)))))))
 obtain⟨a1,hN,hb⟩:=bd hb
 refine RC.iter (fun(aa: (List aF)×Int) U w=>∃aq:Value,SH E V [(0,v0),(1,vi p1),(5,aq),(6,vi aa.2)] [rd v0 p0,own 155 aq aa.1] U w) (fun(aa: (List aF)×Int) U w=>∃af:Value,SH E V [(5,af)] [rd v0 p0,own 155 af aa.1] U w) (fun(r:Empty) _ _=>r.elim) hN ?_ ?_ ?_ ?_
 ·have j:=j.cQ aF 155
  exact⟨(.slice none 0 0),j.sp 2 [1,0]⟩
 ·rintro aa fl _ w ⟨ae,O,rfl,j⟩ hb
  refine RC.seq (RC.sr (mv (vi aa.2) (mv v0 (RL.bC 0 p0 j mH (ic aa.2 ((p0.length:Int)) (RL.nt (dX hb (fun hc hb=>?_) fun hc hb=>?_)))))))
  rotate_left
  ·refine RC.ex ?_
   obtain rfl:=oi hb
   exact⟨rfl,ae,j.sp 2 [0,1]⟩
  refine RC.ss (RC.block (RC.seq ?_))
  obtain⟨ak,o,hb⟩:=bd hb
  refine RC.jn (fun(ak:Bool)=>SH E V [(0,v0),(1,vi p1),(5,ae),(6,vi aa.2),(28,vb ak)] [rd v0 p0,own 155 ae aa.1]) ak ?_ ?_
  ·refine RC.region (mv v0 (mv (vi aa.2) ?_))
   obtain⟨al,av,o⟩:=bd o
   refine RL.bM 0 j iK av fun a3 j=>(RL.dN 0 j zr gG cZ fun a4 j=>(RL.bB al.Y0 0 j cG (mv (vi p1) (ic al.Y0 p1 (mv (vb (decide (al.Y0<=p1))) (fN o (fun ab o=>?_) fun ab o=>?_))))))
   rotate_left
   ·refine bJ ab (bJ ab (bJ ab (bJ ab (bJ ab (bJ ab (bJ ab (fU ab (vb false) (RL.nil ?_))))))))
    obtain rfl:=oi o
    exact⟨rfl,j.sp 4 [2,3]⟩
   refine RL.move (vi p1) (cg ab) (RL.move v0 (cg ab) (RL.move (vi aa.2) (cg ab) ?_))
   obtain⟨an,aw,o⟩:=bd o
   refine RL.bM (hg:=(cg ab)) 2 j iK aw fun a5 j=>(RL.dN (hg:=(cg ab)) 0 j zr jZ eT fun a6 j=>(RL.bB (hg:=(cg ab)) an.Y1 0 j cG (RL.ld p1 an.Y1 (cg ab) (fU ab (vb (decide (p1<an.Y1))) (RL.nil ?_)))))
   obtain rfl:=oi o
   exact⟨rfl,j.sp 6 [4,5]⟩
  rintro _ w ⟨O,rfl,j⟩
  refine aG ?_
  obtain⟨ao,o,hb⟩:=bd hb
  refine RC.jn (fun(ao: (List aF)) U w=>∃ag:Value,SH E V [(0,v0),(1,vi p1),(5,ag),(6,vi aa.2)] [rd v0 p0,own 155 ag ao] U w) ao ?_ ?_
  ·refine dX o (fun hc o=>?_) fun hc o=>?_
   rotate_left
   ·refine RC.skip ?_
    obtain rfl:=oi o
    exact⟨rfl,ae,j.sp 2 [0,1]⟩
   refine RC.vH mixed [0,0,0,0,0,0,0,0,0,0,0,0,2,0] [0,1,2,3,4,5,6,7,8,9,10,11,12,13] ?_
   have j:=j.drew
   refine DP.e0 zr (mv ae (aY zr (mv v0 (aY zr (mv (vi aa.2) (aY zr ?_))))))
   obtain⟨ah,ax,o⟩:=bd o
   refine RL.bM 0 j iK ax fun a7 j=>(aY zr (RL.dN 0 j zr gO dD fun a8 j=>(aY zr (RL.bB ah.X0 0 j cG (aY zr (mv v0 (aY zr (mv (vi aa.2) ?_))))))))
   refine aY zr ?_
   obtain⟨ai,ay,o⟩:=bd o
   refine RL.bM 2 j iK ay fun a9 j=>(aY zr (RL.dN 0 j zr iX dY fun ba j=>(aY zr (RL.bB ai.X1 0 j cG (aY zr ?_)))))
   have j:=(j.sc Int ah.X0).sc Int ai.X1
   refine RL.build (⟨ah.X0,ai.X1⟩:aF) trivial rfl j [(0,vi ah.X0),(1,vi ai.X1)] rfl JD rfl (fun M hs g=>by have h:=po M;exact cS.cons (f:=fun(x:aF) y=>{x with from_:=y}) h lr (g.sat 1 _ rfl).1 fun _ h=>cS.cons (f:=fun(x:aF) y=>{x with to:=y}) h lu (g.sat 0 _ rfl).1 fun _ h=>cS.nil h) fun az j=>?_
   refine oN zr ?_
   have j:=j.freeze 8
   obtain⟨bb,a0,o⟩:=bd o
   refine RL.call zt zr JF [ae,az] zr (aD (oe N (i0:=8) (i1:=0) j zr zr a0) ?_)
   rintro ar w j
   refine uh zr (aP ar (DP.d0 (DP.z ?_)))
   obtain rfl:=oi o
   exact⟨rfl,ar,j.sp 10 [8,0]⟩
  rintro _ w ⟨ag,O,rfl,j⟩
  refine bO (aG (RC.region (mv (vi aa.2) (RL.fO aa.2 1 (aP (vi (IntKind.wrap .i64 (aa.2+1))) (RL.nil ?_))))))
  obtain rfl:=oi hb
  exact⟨rfl,ag,j.sp 2 [0,1]⟩
 ·intro r _ _ _ _
  exact r.elim
 rintro aa _ w rfl ⟨af,O,rfl,j⟩
 rw [Fo.dB] at hb
 refine aG (RC.sr (mv af (aP af (RL.nt (RC.ret ?_)))))
 obtain rfl:=oi hb
 exact bY (j.pk 2 [1])
def rl (E:World) (V:List HP) (r:Bool) (U:Nat->Value) (w:World):Prop:=lS bN 26 Tryz.f108 (aU E V r) .ret U w
theorem qO {p0: (List aF)} {p1: (List aF)} {res:Bool} (j:Holds E w V) (h0:V[i0]? =some (rd v0 p0)) (h1:V[i1]? =some (rd v1 p1)) (o:jM N p0 p1=some res):
    Calls bN 108 [v0,v1].toArray w (gQ (aU E V res)):=by
 unfold jM at o
 refine enter Tryz.func108 zr zr ?_
 have j:=(j.dup (i0+0) h0).dup (i1+1) h1
 refine RC.sr (aP (vb false) (RL.nq (RC.sr (mv v0 (RL.bC 1 p0 j v5 (mv v1 (RL.bC 0 p1 j v5 (ic ((p0.length:Int)) ((p1.length:Int)) ?_))))))))
 refine RL.nt (dX o (fun hc o=>?_) fun hc o=>?_)
 ·refine RC.sr (aP (vb false) (RL.nt (RC.rt ?_)))
  obtain rfl:=oi o
  exact bY ⟨rfl,j.drop 2⟩
 refine RC.ss (RC.sr (aP (vi 0) (RL.nt ?_)))
 obtain⟨aj,hN,o⟩:=bd o
 refine RC.iter (fun(aa:Int)=>SH E V [(0,v0),(1,v1),(5,vi aa)] [rd v0 p0,rd v1 p1]) (fun(aa:Int)=>SH E V [] [rd v0 p0,rd v1 p1]) (rl E V) hN ?_ ?_ ?_ ?_
 ·exact j.sp 2 [1,0]
 ·rintro aa fl _ w ⟨O,rfl,j⟩ o
  refine RC.seq (RC.sr (mv (vi aa) (mv v0 (RL.bC 0 p0 j v5 (ic aa ((p0.length:Int)) (RL.nt (dX o (fun hc o=>?_) fun hc o=>?_)))))))
  rotate_left
  ·refine RC.ex ?_
   obtain rfl:=oi o
   exact⟨rfl,j.sp 2 [0,1]⟩
  refine RC.ss (RC.block (RC.seq (RC.yh mixed ?_)))
  have j:=j.drew
  refine RO.go (mv v0 (RO.nx (mv (vi aa) (RO.nx ?_))))
  obtain⟨ad,ag,o⟩:=bd o
  refine RL.bM 0 j oV ag fun al j=>(RO.nx (RL.bF 0 ad j FP fun an j=>(RO.nx (mv v1 (RO.nx (mv (vi aa) (RO.nx ?_)))))))
  obtain⟨ae,ah,o⟩:=bd o
  refine RL.bM 3 j oV ah fun ao j=>(RO.nx (RL.bF 0 ae j FP fun aq j=>(RO.nx (RL.Mc 2 0 ad ae zr j zr zr zr zr Kq zr (RO.last (aG (dX o (fun hc o=>?_) fun hc o=>?_)))))))
  ·refine RC.sr (aP (vb false) (RL.nt (RC.rb (bQ ?_))))
   obtain rfl:=oi o
   exact⟨rfl,bY ⟨rfl,j.drop 6⟩⟩
  refine RC.skip (bO (aG (RC.region (mv (vi aa) (RL.fO aa 1 (aP (vi (IntKind.wrap .i64 (aa+1))) (RL.nil ?_)))))))
  obtain rfl:=oi o
  exact⟨rfl,j.sp 6 [4,5]⟩
 ·intro r U w e hK
  subst e
  refine bQ ?_
  obtain rfl:=oi o
  exact hK
 rintro aa _ w rfl ⟨O,rfl,j⟩
 rw [Fo.dB] at o
 refine aG (RC.sr (aP (vb true) (RL.nt (RC.ret ?_))))
 obtain rfl:=oi o
 exact bY ⟨rfl,j.drop 2⟩
def sK (E:World) (V:List HP) (res: (List aL)) (v:Value) (w:World):Prop:=Holds E w ([own 125 v res]++V)
theorem nD {p0: (List aL)} {p1:aL} {res: (List aL)} (j:Holds E w (own 125 v0 p0::V)) (h1:V[i1]? =some (rd v1 p1)) (hb:fZ N p0 p1=some res):
    Calls bN 72 [v0,v1].toArray w (gQ (sK E V res)):=by
 unfold fZ at hb
 refine enter Tryz.func72 zr zr ?_
 have j:=j.dup (i1+1) h1
 refine RC.sr (RL.dK 0 v1 j zr fun ak w j=>?_)
 refine aP (.slice none 0 0) (RL.nq (RC.sr (RL.aZ zr vm (RL.bG 0 j zr gu BQ fun aw j=>(RL.bC 0 p1.ja j v5 (ic ((p1.ja.length:Int)) 0 (RL.nt (dX hb (fun hc hb=>?_) fun hc hb=>?_))))))))
 ·refine RC.sr (mv v0 (aP v0 (RL.nt (RC.rt ?_))))
  obtain rfl:=oi hb
  exact bY (j.pk 4 [3])
 refine RC.ss (RC.sr (mv v0 (RL.fS 3 p0 j JH (aP (vi p0.length) (RL.nq ?_)))))
 obtain⟨ai,hj,hb⟩:=bd hb
 refine RC.jn (fun(ai:Bool)=>SH E V [(0,v0),(3,vp ak 0),(5,vi p0.length),(36,vb ai)] [own 125 v0 p0,bx 125 ak p1]) ai ?_ ?_
 ·refine RC.vH mixed [0,0,0,0,0,0,0,0,0,0,0,0,0,0,0,0,0,0,0,0,0,0,2,0] [0,1,2,3,4,5,6,7,8,9,10,11,12,13,14,15,16,17,18,19,20,21,22,23] ?_
  have j:=j.drew
  refine DP.e0 zr (mv (vi p0.length) (aY zr (ic ((p0.length:Int)) 0 (aY zr (mv (vb (decide ((p0.length:Int)>0))) (DP.d0 (fN hj (fun o hj=>?_) fun o hj=>?_)))))))
  rotate_left
  ·refine DP.e0 zr (bJ o (aY zr (bJ o (aY zr (bJ o (aY zr (bJ o (aY zr ?_))))))))
   refine bJ o (aY zr (bJ o (aY zr (bJ o (aY zr (bJ o (aY zr (bJ o ?_))))))))
   refine aY zr (fU o (vb false) (aY zr (mv (vb false) (aY zr (jR (aY zr (jR (aY zr ?_))))))))
   refine jR (aY zr (jR (aY zr (jR (aY zr (jR (aY zr (jR ?_))))))))
   refine aY zr (jR (oN zr (jR (uh zr (RL.pick false (vb false) zr (DP.d0 (DP.z ?_)))))))
   obtain rfl:=oi hj
   exact⟨rfl,j.sp 4 [3,1]⟩
  refine DP.e0 zr (RL.move v0 (cg o) (aY zr (RL.move (vi p0.length) (cg o) (aY zr (RL.fO (hg:=(cg o)) (p0.length:Int) 1 (aY zr ?_))))))
  obtain⟨aj,ae,hj⟩:=bd hj
  refine RL.bS (hg:=(cg o)) 3 j zr zr xu ae (aY zr (RL.lh (α:=aL) (cg o) (jJ 3 j ae 0) zG (aY zr (RL.dR (hg:=(cg o)) 3 j (jJ 3 j ae 1) (bI ae).2.1 lv cG (aY zr (RL.aZ (hg:=(cg o)) zr FQ (aY zr (RL.aM (hg:=(cg o)) 1 j zr nZ cG ?_))))))))
  refine aY zr (RL.ld aj.to p1.from_ (cg o) (aY zr (fU o (vb (aj.to==p1.from_)) (aY zr (mv (vb (aj.to==p1.from_)) (DP.d0 (fN hj (fun aa hj=>?_) fun aa hj=>?_)))))))
  rotate_left
  ·refine DP.e0 zr (bJ aa (aY zr (bJ aa (aY zr (bJ aa (aY zr (bJ aa (aY zr ?_))))))))
   refine bJ aa (aY zr (bJ aa (aY zr (bJ aa (aY zr (bJ aa (oN zr (bJ aa ?_))))))))
   refine uh zr (fU aa (vb false) (DP.d0 (DP.z ?_)))
   obtain rfl:=oi hj
   exact⟨rfl,j.sp 4 [3,1]⟩
  refine DP.e0 zr (RL.move v0 (cg aa) (aY zr (RL.move (vi p0.length) (cg aa) (aY zr (RL.fO (hg:=(cg aa)) (p0.length:Int) 1 (aY zr ?_))))))
  obtain⟨ax,af,hj⟩:=bd hj
  refine RL.bS (hg:=(cg aa)) 3 j zr zr xu af (aY zr (RL.lh (α:=aL) (cg aa) (jJ 3 j af 0) vm (aY zr (RL.kn (hg:=(cg aa)) 3 j (jJ 3 j af 2) (bI af).2.1 gu BQ fun al j=>?_))))
  refine aY zr (RL.aZ (hg:=(cg aa)) zr vm (aY zr (RL.bG (hg:=(cg aa)) 2 j zr gu BQ fun an j=>(oN zr ?_))))
  obtain⟨ao,aq,hj⟩:=bd hj
  refine RL.call (cg aa) zr LC [al,an] zr (aD (qO N (i0:=1) (i1:=0) j zr zr aq) ?_)
  rintro _ w ⟨rfl,j⟩
  refine uh zr (fU aa (vb ao) (DP.d0 (DP.z ?_)))
  obtain rfl:=oi hj
  exact⟨rfl,j.sp 6 [5,3]⟩
 rintro _ w ⟨O,rfl,j⟩
 refine aG (dX hb (fun hc hb=>?_) fun hc hb=>?_)
 rotate_left
 ·refine RC.sx (mv v0 (RL.bG (f:=(fun x=>x)) 1 j zr Fd.self LD fun ar j=>(RL.dQ ([p1]: (List aL)) j [ar] xu LF (fun M hs g=>⟨(g.sat 0 _ zr).1,zt⟩) fun ay w j=>?_)))
  have j:=j.freeze 0
  obtain⟨az,au,hb⟩:=bd hb
  refine RL.app 2 0 j LG au fun av w j=>?_
  refine aP av (RL.nt (RC.ret ?_))
  obtain rfl:=oi hb
  exact bY (j.pk 4 [2])
 refine RC.sr (mv v0 (mv (vi p0.length) (RL.fO (p0.length:Int) 1 (RL.aZ zr zG (RL.aM 1 j zr lv cG ?_)))))
 obtain⟨a0,ag,hb⟩:=bd hb
 refine RL.bS 0 j zr zr xu ag (RL.lh (α:=aL) zt (jJ 0 j ag 0) zG ?_)
 have j:=j.sc Int p1.to
 refine RL.gR 1 0 j (jJ 1 j ag 1) (bI ag).2.1 zr lx cG fun w j=>?_
 refine RL.ns (mv v0 (aP v0 (RL.nt (RC.rt ?_))))
 obtain rfl:=oi hb
 exact bY (j.pk 3 [1])
theorem oW {p0: (List aL)} {res: (List aI)} (j:Holds E w V) (h0:V[i0]? =some (rd v0 p0)) (o:jl N p0=some res):
    Calls bN 74 [v0].toArray w (gQ (fX E V res)):=by
 unfold jl at o
 refine enter Tryz.func74 zr zr ?_
 have j:=j.dup (i0+0) h0
 refine RC.sr (aP (.slice none 0 0) (RL.ns (aP (.slice none 0 0) (RL.nq (RC.sr (aP (vi 0) (RL.nt ?_)))))))
 obtain⟨a7,hN,o⟩:=bd o
 refine RC.iter (fun(aa: (List aI)×Int) U w=>∃ao:Value,SH E V [(0,v0),(3,ao),(4,vi aa.2)] [rd v0 p0,own 73 ao aa.1] U w) (fun(aa: (List aI)×Int) U w=>∃ad:Value,SH E V [(3,ad)] [rd v0 p0,own 73 ad aa.1] U w) (fun(r:Empty) _ _=>r.elim) hN ?_ ?_ ?_ ?_
 ·have j:=j.cQ aI 73
  exact⟨(.slice none 0 0),j.sp 2 [1,0]⟩
 ·rintro aa fl _ w ⟨aq,O,rfl,j⟩ o
  refine RC.seq (RC.sr (mv (vi aa.2) (mv v0 (RL.bC 0 p0 j JH (ic aa.2 ((p0.length:Int)) (RL.nt (dX o (fun hc o=>?_) fun hc o=>?_)))))))
  rotate_left
  ·refine RC.ex ?_
   obtain rfl:=oi o
   exact⟨rfl,aq,j.sp 2 [0,1]⟩
  refine RC.ss (RC.bs (aP (vi 0) (RL.nt ?_)))
  obtain⟨a8,hN,o⟩:=bd o
  refine RC.iter (fun(ab: (List aI)×Int) U w=>∃ar:Value,SH E V [(0,v0),(3,ar),(4,vi aa.2),(5,vi ab.2)] [rd v0 p0,own 73 ar ab.1] U w) (fun(ab: (List aI)×Int) U w=>∃ai:Value,SH E V [(0,v0),(3,ai),(4,vi aa.2)] [rd v0 p0,own 73 ai ab.1] U w) (fun(r:Empty) _ _=>r.elim) hN ?_ ?_ ?_ ?_
  ·exact⟨aq,j.sp 2 [0,1]⟩
  ·rintro ab fl _ w ⟨al,O,rfl,j⟩ o
   refine RC.seq (RC.sr (mv (vi ab.2) (mv v0 (mv (vi aa.2) ?_))))
   obtain⟨an,aw,o⟩:=bd o
   refine RL.bM 0 j xu aw fun a9 j=>(RL.dN 0 j zr vm gu fun ba j=>(RL.bF 0 an.ja j BQ fun bb j=>(RL.bC 0 an.ja j v5 (ic ab.2 ((an.ja.length:Int)) (RL.nt (dX o (fun hc o=>?_) fun hc o=>?_))))))
   rotate_left
   ·refine RC.ex ?_
    obtain rfl:=oi o
    exact⟨rfl,al,j.sp 5 [3,4]⟩
   refine RC.ss (RC.block (RC.vH mixed [1,0,0,0,0,0,0,0,0,0,0,0,0,0,0,0,0,0,0,0,0,0,0,0,0,0,0,0,0,0,2,2,0] [0,1,2,3,4,5,6,7,8,9,10,11,12,13,14,15,16,17,18,19,20,21,22,23,24,25,26,27,28,29,30,31,32] ?_))
   have j:=j.drew
   refine DP.e1 al zr (fun w=>RL.move al zt DP.d1) (DP.e0 zr (mv v0 (aY zr (mv (vi aa.2) (aY zr ?_)))))
   obtain⟨ax,ay,o⟩:=bd o
   refine RL.bM 3 j xu ay fun bc j=>(aY zr (RL.dN 0 j zr vm gu fun bf j=>(aY zr (RL.bF 0 ax.ja j BQ fun bg j=>(aY zr (mv (vi ab.2) (aY zr ?_)))))))
   obtain⟨ae,az,o⟩:=bd o
   refine RL.bM 0 j oV az fun bh j=>(aY zr (RL.dN 0 j zr p7 eG fun bj j=>(aY zr (RL.bB ae.from_ 0 j cG (aY zr (mv v0 (aY zr (mv (vi aa.2) ?_))))))))
   refine aY zr ?_
   obtain⟨af,a0,o⟩:=bd o
   refine RL.bM 8 j xu a0 fun bk j=>(aY zr (RL.dN 0 j zr FQ nZ fun bl j=>(aY zr (RL.bB af.from_ 0 j cG (aY zr (mv v0 (aY zr (mv (vi aa.2) ?_))))))))
   refine aY zr ?_
   obtain⟨a1,a2,o⟩:=bd o
   refine RL.bM 10 j xu a2 fun bm j=>(aY zr (RL.dN 0 j zr vm gu fun bn j=>(aY zr (RL.bF 0 a1.ja j BQ fun bo j=>(aY zr (mv (vi ab.2) (aY zr ?_)))))))
   obtain⟨ag,a3,o⟩:=bd o
   refine RL.bM 0 j oV a3 fun bp j=>(aY zr (RL.dN 0 j zr p6 eH fun bq j=>(aY zr (RL.bB ag.to 0 j cG (aY zr (mv v0 (aY zr (mv (vi aa.2) ?_))))))))
   refine aY zr ?_
   obtain⟨ah,a4,o⟩:=bd o
   refine RL.bM 15 j xu a4 fun br j=>(aY zr (RL.dN 0 j zr zG lv fun bt j=>(aY zr (RL.bB ah.to 0 j cG (aY zr ?_)))))
   have j:=(((j.sc Int ae.from_).sc Int af.from_).sc Int ag.to).sc Int ah.to
   refine RL.build (⟨ae.from_,af.from_,ag.to,ah.to⟩:aI) trivial rfl j [(0,vi ae.from_),(1,vi af.from_),(2,vi ag.to),(3,vi ah.to)] rfl DI rfl (fun M hs g=>by have h:=tx M;exact cS.cons (f:=fun(x:aI) y=>{x with X0:=y}) h oY (g.sat 3 _ rfl).1 fun _ h=>cS.cons (f:=fun(x:aI) y=>{x with Y0:=y}) h qo (g.sat 2 _ rfl).1 fun _ h=>cS.cons (f:=fun(x:aI) y=>{x with X1:=y}) h oZ (g.sat 1 _ rfl).1 fun _ h=>cS.cons (f:=fun(x:aI) y=>{x with Y1:=y}) h qp (g.sat 0 _ rfl).1 fun _ h=>cS.nil h) fun a5 j=>?_
   refine oN zr (RL.dQ ([(⟨ae.from_,af.from_,ag.to,ah.to⟩:aI)]: (List aI)) j [a5] iK om (fun M hs g=>⟨(g.sat 0 _ zr).1,zt⟩) fun bu w j=>(FM zr ?_))
   have j:=j.freeze 0
   obtain⟨bw,a6,o⟩:=bd o
   refine RL.app 24 0 j z9 a6 fun au w j=>?_
   refine uh zr (aP au (DP.d0 (DP.z (bO (aG (RC.region (mv (vi ab.2) (RL.fO ab.2 1 ?_))))))))
   refine aP (vi (IntKind.wrap .i64 (ab.2+1))) (RL.nil ?_)
   obtain rfl:=oi o
   exact⟨rfl,au,j.sp 25 [23,24]⟩
  ·intro r _ _ _ _
   exact r.elim
  rintro ab _ w rfl ⟨ai,O,rfl,j⟩
  rw [Fo.dB] at o
  refine bO (aG (RC.region (mv (vi aa.2) (RL.fO aa.2 1 (aP (vi (IntKind.wrap .i64 (aa.2+1))) (RL.nil ?_))))))
  obtain rfl:=oi o
  exact⟨rfl,ai,j.sp 2 [0,1]⟩
 ·intro r _ _ _ _
  exact r.elim
 rintro aa _ w rfl ⟨ad,O,rfl,j⟩
 rw [Fo.dB] at o
 refine aG (RC.sr (mv ad (aP ad (RL.nt (RC.ret ?_)))))
 obtain rfl:=oi o
 exact bY (j.pk 2 [1])
theorem ki {p0: (List aI)} {res: (List aI)} (j:Holds E w V) (h0:V[i0]? =some (rd v0 p0)) (o:fz N p0=some res):
    Calls bN 37 [v0].toArray w (gQ (fX E V res)):=by
 unfold fz at o
 refine enter Tryz.func37 zr zr ?_
 have j:=j.dup (i0+0) h0
 refine RC.sr (aP (.slice none 0 0) (RL.ns (mv v0 ?_)))
 obtain⟨ae,al,o⟩:=bd o
 refine RL.call zt zr LB [v0] zr (aD (nC N (i0:=0) j zr al) ?_)
 rintro ab w j
 refine aP ab (RL.ns (aP (.slice none 0 0) (RL.nq (RC.sr (aP (vi 1) (RL.nt ?_))))))
 obtain⟨a2,hN,o⟩:=bd o
 refine RC.iter (fun(aa: (List aL)×Int) U w=>∃aj:Value,SH E V [(0,v0),(3,ab),(4,aj),(5,vi aa.2)] [rd v0 p0,rd ab ae,own 125 aj aa.1] U w) (fun(aa: (List aL)×Int) U w=>∃ad:Value,SH E V [(4,ad)] [rd v0 p0,rd ab ae,own 125 ad aa.1] U w) (fun(r:Empty) _ _=>r.elim) hN ?_ ?_ ?_ ?_
 ·have j:=j.cQ aL 125
  exact⟨(.slice none 0 0),j.sp 3 [2,1,0]⟩
 ·rintro aa fl _ w ⟨af,O,rfl,j⟩ o
  refine RC.seq (RC.sr (mv (vi aa.2) (mv ab (RL.bC 1 ae j mw (ic aa.2 ((ae.length:Int)) (RL.nt (dX o (fun hc o=>?_) fun hc o=>?_)))))))
  rotate_left
  ·refine RC.ex ?_
   obtain rfl:=oi o
   exact⟨rfl,af,j.sp 3 [0,1,2]⟩
  refine RC.ss (RC.block (RC.vH mixed [1,1,1,1,1,1,1,1,1,1,0,0,0,0,0,0,2,0,2,0] [0,1,2,3,4,5,6,7,8,9,10,11,12,13,14,15,16,17,18,19] ?_))
  have j:=j.drew
  refine DP.e1 af zr (fun w=>RL.move af zt DP.d1) (DP.e1 ab zr (fun w=>RL.move ab zt DP.d1) (DP.e1 (vi aa.2) zr (fun w=>RL.move (vi aa.2) zt DP.d1) (DP.e1 (vi (IntKind.wrap .i64 (aa.2 - 1))) zr (fun w=>RL.fO aa.2 1 DP.d1) ?_)))
  obtain⟨ag,aq,o⟩:=bd o
  refine DP.wx 1 zr j eD aq fun a4 j=>(DP.rA ag 0 zr j cG fun a72 a5 j=>(DP.e1 ab zr (fun w=>RL.move ab zt DP.d1) (DP.e1 (vi aa.2) zr (fun w=>RL.move (vi aa.2) zt DP.d1) ?_)))
  obtain⟨ah,ar,o⟩:=bd o
  refine DP.wx 3 zr j eD ar fun a6 j=>(DP.rA ah 0 zr j cG fun a76 a7 j=>(DP.e0 zr (mv v0 (aY zr (mv ab (aY zr (mv (vi aa.2) (aY zr ?_))))))))
  refine RL.fO aa.2 1 (aY zr ?_)
  obtain⟨ai,au,o⟩:=bd o
  refine RL.bM 5 j eD au fun a8 j=>(aY zr (RL.bB ai 0 j cG (oN zr ?_)))
  obtain⟨av,aw,o⟩:=bd o
  refine RL.call zt zr I1 [v0,(vi ai)] zr (aD (kN N (p1:=ai) (i0:=5) j zr aw) ?_)
  rintro ax w j
  refine DP.d2 (⟨⟨zt,j.gm 4⟩,j.gm 2⟩) (DP.e0 zr ?_)
  have j:=((j.sc Int ag).sc Int ah).freeze 2
  refine RL.build (⟨ag,ah,av⟩:aL) trivial rfl j [(0,vi ag),(1,vi ah),(2,ax)] rfl JG rfl (fun M hs g=>by have h:=pj M;exact cS.cons (f:=fun(x:aL) y=>{x with from_:=y}) h n0 (g.sat 1 _ rfl).1 fun _ h=>cS.cons (f:=fun(x:aL) y=>{x with to:=y}) h lx (g.sat 0 _ rfl).1 fun _ h=>cS.cons (f:=fun(x:aL) y=>{x with ja:=y}) h n7 (g.sat 2 _ rfl).1 fun _ h=>cS.nil h) fun ay j=>?_
  refine oN zr ?_
  have j:=j.pull 11
  obtain⟨a9,az,o⟩:=bd o
  refine RL.call zt zr LH [af,ay] zr (aD (nD N (i1:=0) j zr az) ?_)
  rintro ak w j
  refine DP.d2 (⟨⟨zt,j.gm 8⟩,j.gm 6⟩) (DP.e0 zr (aP ak (DP.d0 ?_)))
  have j:=j.pl 13 [0,1,2,3,4,5,7,9,10,11,12]
  refine DP.z (bO (aG (RC.region (mv (vi aa.2) (RL.fO aa.2 1 (aP (vi (IntKind.wrap .i64 (aa.2+1))) (RL.nil ?_)))))))
  obtain rfl:=oi o
  exact⟨rfl,ak,j.sp 11 [8,9,0]⟩
 ·intro r _ _ _ _
  exact r.elim
 rintro aa _ w rfl ⟨ad,O,rfl,j⟩
 rw [Fo.dB] at o
 refine aG (RC.sr (mv ad ?_))
 have j:=j.freeze 2
 obtain⟨ba,a0,o⟩:=bd o
 refine RL.call zt zr LI [ad] zr (aD (oW N (i0:=2) j zr a0) ?_)
 rintro a1 w j
 refine aP a1 (RL.nt (RC.ret ?_))
 obtain rfl:=oi o
 exact bY (j.pk 4 [0])
def rm (E:World) (V:List HP) (r:Bool) (U:Nat->Value) (w:World):Prop:=lS bN 26 Tryz.f11 (aU E V r) .ret U w
theorem mM {p0: (List aI)} {p1: (List aI)} {res:Bool} (j:Holds E w V) (h0:V[i0]? =some (rd v0 p0)) (h1:V[i1]? =some (rd v1 p1)) (o:eF N p0 p1=some res):
    Calls bN 11 [v0,v1].toArray w (gQ (aU E V res)):=by
 unfold eF at o
 refine enter Tryz.func11 zr zr ?_
 have j:=(j.dup (i0+0) h0).dup (i1+1) h1
 refine RC.sr (aP (vb false) (RL.nq (RC.sr (mv v0 (RL.bC 1 p0 j mH (mv v1 (RL.bC 0 p1 j mH (ic ((p0.length:Int)) ((p1.length:Int)) ?_))))))))
 refine RL.nt (dX o (fun hc o=>?_) fun hc o=>?_)
 ·refine RC.sr (aP (vb false) (RL.nt (RC.rt ?_)))
  obtain rfl:=oi o
  exact bY ⟨rfl,j.drop 2⟩
 refine RC.ss (RC.sr (aP (vi 0) (RL.nt ?_)))
 obtain⟨aj,hN,o⟩:=bd o
 refine RC.iter (fun(aa:Int)=>SH E V [(0,v0),(1,v1),(5,vi aa)] [rd v0 p0,rd v1 p1]) (fun(aa:Int)=>SH E V [] [rd v0 p0,rd v1 p1]) (rm E V) hN ?_ ?_ ?_ ?_
 ·exact j.sp 2 [1,0]
 ·rintro aa fl _ w ⟨O,rfl,j⟩ o
  refine RC.seq (RC.sr (mv (vi aa) (mv v0 (RL.bC 0 p0 j mH (ic aa ((p0.length:Int)) (RL.nt (dX o (fun hc o=>?_) fun hc o=>?_)))))))
  rotate_left
  ·refine RC.ex ?_
   obtain rfl:=oi o
   exact⟨rfl,j.sp 2 [0,1]⟩
  refine RC.ss (RC.block (RC.seq (RC.yh mixed ?_)))
  have j:=j.drew
  refine RO.go (mv v0 (RO.nx (mv (vi aa) (RO.nx ?_))))
  obtain⟨ad,ag,o⟩:=bd o
  refine RL.bM 0 j iK ag fun al j=>(RO.nx (RL.bF 0 ad j iq fun an j=>(RO.nx (mv v1 (RO.nx (mv (vi aa) (RO.nx ?_)))))))
  obtain⟨ae,ah,o⟩:=bd o
  refine RL.bM 3 j iK ah fun ao j=>(RO.nx (RL.bF 0 ae j iq fun aq j=>(RO.nx (RL.Mc 2 0 ad ae zr j zr zr zr zr HA zr (RO.last (aG (dX o (fun hc o=>?_) fun hc o=>?_)))))))
  ·refine RC.sr (aP (vb false) (RL.nt (RC.rb (bQ ?_))))
   obtain rfl:=oi o
   exact⟨rfl,bY ⟨rfl,j.drop 6⟩⟩
  refine RC.skip (bO (aG (RC.region (mv (vi aa) (RL.fO aa 1 (aP (vi (IntKind.wrap .i64 (aa+1))) (RL.nil ?_)))))))
  obtain rfl:=oi o
  exact⟨rfl,j.sp 6 [4,5]⟩
 ·intro r U w e hK
  subst e
  refine bQ ?_
  obtain rfl:=oi o
  exact hK
 rintro aa _ w rfl ⟨O,rfl,j⟩
 rw [Fo.dB] at o
 refine aG (RC.sr (aP (vb true) (RL.nt (RC.ret ?_))))
 obtain rfl:=oi o
 exact bY ⟨rfl,j.drop 2⟩
def qc (E:World) (V:List HP) (r:Int) (U:Nat->Value) (w:World):Prop:=lS bN 32 Tryz.f41 (aV E V r) .ret U w
theorem lV {p0: (List aI)} (o:Holds E w V) (h0:V[i0]? =some (rd v0 p0)) (j:fH N p0=some res):
    Calls bN 41 [v0].toArray w (gQ (aV E V res)):=by
 unfold fH at j
 refine enter Tryz.func41 zr zr ?_
 have o:=o.dup (i0+0) h0
 refine RC.sr (aP (vi 0) (RL.nq (RC.sr (mv v0 ?_))))
 obtain⟨ad,ae,j⟩:=bd j
 refine RL.call zt zr M7 [v0] zr (aD (p9 N (i0:=0) o zr ae) ?_)
 rintro _ w ⟨rfl,o⟩
 refine aP (vi ad) (RL.ns (mv (vi ad) (ic ad 0 (RL.nt (dX j (fun hc j=>?_) fun hc j=>?_)))))
 ·refine RC.sr (mv (vi ad) (aP (vi ad) (RL.nt (RC.rt ?_))))
  obtain rfl:=oi j
  exact bY ⟨rfl,o.drop 1⟩
 refine RC.ss (RC.sr (aP (vi 1) (RL.nt ?_)))
 obtain⟨ax,hN,j⟩:=bd j
 refine RC.iter (fun(aa:Int)=>SH E V [(0,v0),(4,vi aa)] [rd v0 p0]) (fun(aa:Int)=>SH E V [(0,v0)] [rd v0 p0]) (qc E V) hN ?_ ?_ ?_ ?_
 ·exact o.sp 1 [0]
 ·rintro aa fl _ w ⟨O,rfl,o⟩ j
  refine RC.seq (RC.sr (mv (vi aa) (mv v0 (RL.bC 0 p0 o mH (ic aa ((p0.length:Int)) (RL.nt (dX j (fun hc j=>?_) fun hc j=>?_)))))))
  rotate_left
  ·refine RC.ex ?_
   obtain rfl:=oi j
   exact⟨rfl,o.sp 1 [0]⟩
  refine RC.ss (RC.block (RC.seq (RC.vH mixed [0,0,0,0,0,0,0,0,0,2,0] [0,1,2,3,4,5,6,7,8,9,10] ?_)))
  have o:=o.drew
  refine DP.e0 zr (mv v0 (aY zr (mv (vi aa) (aY zr (RL.fO aa 1 (aY zr ?_))))))
  obtain⟨ag,ah,j⟩:=bd j
  refine RL.bM 0 o iK ah fun az o=>(aY zr (RL.bF 0 ag o iq fun ai o=>(aY zr (mv v0 (aY zr (mv (vi aa) (aY zr ?_)))))))
  obtain⟨aj,ak,j⟩:=bd j
  refine RL.bM 2 o iK ak fun a0 o=>(aY zr (RL.bF 0 aj o iq fun al o=>(oN zr ?_)))
  obtain⟨an,ao,j⟩:=bd j
  refine RL.call zt zr LA [ai,al] zr (aD (oc N (i0:=2) (i1:=0) o zr zr ao) ?_)
  rintro _ w ⟨rfl,o⟩
  refine uh zr (RL.not an (DP.d0 (DP.z (aG (dX j (fun hc j=>?_) fun hc j=>?_)))))
  ·refine RC.sr (aP (vi 8) (RL.nt (RC.rb (bQ ?_))))
   obtain rfl:=oi j
   exact⟨rfl,bY ⟨rfl,o.drop 5⟩⟩
  refine RC.skip (bO (aG (RC.region (mv (vi aa) (RL.fO aa 1 (aP (vi (IntKind.wrap .i64 (aa+1))) (RL.nil ?_)))))))
  obtain rfl:=oi j
  exact⟨rfl,o.sp 5 [4]⟩
 ·intro r U w e hK
  subst e
  refine bQ ?_
  obtain rfl:=oi j
  exact hK
 rintro aa _ w rfl ⟨O,rfl,o⟩
 rw [Fo.dB] at j
 refine aG (RC.seq (RC.sr (mv v0 (mv v0 ?_))))
 obtain⟨a1,ar,j⟩:=bd j
 refine RL.call zt zr Kr [v0] zr (aD (ki N (i0:=0) o zr ar) ?_)
 rintro au w o
 have o:=o.freeze 0
 obtain⟨av,aw,j⟩:=bd j
 refine RL.call zt zr LJ [v0,au] zr (aD (mM N (i0:=1) (i1:=0) o zr zr aw) ?_)
 rintro _ w ⟨rfl,o⟩
 refine RL.not av (RL.nt (dX j (fun hc j=>?_) fun hc j=>?_))
 ·refine RC.sr (aP (vi 3) (RL.nt (RC.rt ?_)))
  obtain rfl:=oi j
  exact bY ⟨rfl,o.drop 2⟩
 refine RC.sx (aP (vi 0) (RL.nt (RC.ret ?_)))
 obtain rfl:=oi j
 exact bY ⟨rfl,o.drop 2⟩
theorem iM {res:Bool} (o:Holds E w V) (j:eA N p0 p1 p2=some res):
    Calls bN 43 [(vi p0),(vi p1),(vi p2)].toArray w (gQ (aU E V res)):=by
 unfold eA at j
 refine enter Tryz.func43 zr zr (RC.sr (aP (vb false) (RL.ns (mv (vi p0) (mv (vi p1) (ic p0 p1 (mv (vb (decide (p0>=p1))) (RL.gs true (decide (p0>=p1)) (vi p0) zr zr zr cI ?_))))))))
 refine RL.gs true (decide (p0>=p1)) (vi p2) rfl rfl rfl cI (RL.gs true (decide (p0>=p1)) (vb (decide (p0<=p2))) rfl rfl rfl (dL .leq .i64 p0 p2 rfl (fun h=>by exact(cO h:cv (true&&((decide (p0>=p1))==true)) (vi p0)= (vi p0))) (fun h=>by exact(cO h:cv (true&&((decide (p0>=p1))==true)) (vi p2)= (vi p2))) rfl) (RL.pick (decide (p0>=p1)) (vb ((decide (p0>=p1))&&(decide (p0<=p2)))) (gx true rfl) (aP (vb ((decide (p0>=p1))&&(decide (p0<=p2)))) (RL.nt (RC.ret ?_)))))
 obtain rfl:=oi j
 exact bY ⟨rfl,o.drop 0⟩
theorem nE {p0:eQ} {res:Bool} (j:Holds E w V) (h0:V[i0]? =some (rd v0 p0)) (hb:f0 N p0=some res):
    Calls bN 79 [v0].toArray w (gQ (aU E V res)):=by
 unfold f0 at hb
 refine enter Tryz.func79 zr zr ?_
 have j:=j.dup (i0+0) h0
 refine RC.sr (RL.dK 0 v0 j zr fun ai w j=>?_)
 refine aP (vb false) (RL.nq ?_)
 obtain⟨ad,o,hb⟩:=bd hb
 refine RC.jn (fun(ad:Bool)=>SH E V [(2,vb ad)] []) ad ?_ ?_
 ·refine RC.region (RL.aZ zr wz (RL.aM 0 j zr nN cG ?_))
  obtain⟨af,ag,o⟩:=bd o
  refine RL.call zt zr Bn [(vi p0.X)] zr (aD (eK N (p0:=p0.X) j ag) ?_)
  rintro _ w ⟨rfl,j⟩
  refine mv (vb af) (fN o (fun aa o=>?_) fun aa o=>?_)
  rotate_left
  ·refine bJ aa (bJ aa (bJ aa (fU aa (vb false) (aP (vb false) (RL.nil ?_)))))
   obtain rfl:=oi o
   exact⟨rfl,j.sp 2 []⟩
  refine RL.aZ (hg:=(cg aa)) zr wA (RL.aM (hg:=(cg aa)) 0 j zr nO cG ?_)
  obtain⟨ae,ah,o⟩:=bd o
  refine RL.call (cg aa) zr Bn [(vi p0.Y)] zr (aD (eK N (p0:=p0.Y) j ah) ?_)
  rintro _ w ⟨rfl,j⟩
  refine fU aa (vb ae) (aP (vb ae) (RL.nil ?_))
  obtain rfl:=oi o
  exact⟨rfl,j.sp 2 []⟩
 rintro _ w ⟨O,rfl,j⟩
 refine aG (RC.ret ?_)
 obtain rfl:=oi hb
 exact bY ⟨rfl,j.drop 0⟩
theorem fI {p0:cE} {res:aI} (j:Holds E w V) (h0:V[i0]? =some (rd v0 p0)) (o:cJ N p0=some res):
    Calls bN 24 [v0].toArray w (gQ (oJ E V res)):=by
 unfold cJ at o
 refine enter Tryz.func24 zr zr ?_
 have j:=j.dup (i0+0) h0
 refine RC.sr (RL.dK 0 v0 j zr fun aa w j=>?_)
 refine RL.alloc j om.z fun ab w j=>?_
 refine RL.nq (RC.yh mixed ?_)
 have j:=j.drew
 refine RO.go (RL.aZ zr yk (RO.nx (RL.aZ zr wz (RO.nx (RL.aM (f:=(fun x=>x.At.X)) 1 j zr (Fd.comp (f:=fun(x:cE)=>x.At) (fun(x:eQ)=>x.X) qs nN) cG (RO.nx (RL.aZ zr rP (RO.nx ?_))))))))
 refine RL.aM 1 j zr l6 cG (RO.nx (RL.quo p0.dH 2 (RO.nx (RL.fO p0.At.X (IntKind.wrap .i64 (Int.tdiv p0.dH 2)) (RO.nx (RL.aZ zr yk (RO.nx (RL.aZ zr wA ?_))))))))
 refine RO.nx (RL.aM (f:=(fun x=>x.At.Y)) 1 j zr (Fd.comp (f:=fun(x:cE)=>x.At) (fun(x:eQ)=>x.Y) qs nO) cG (RO.nx (RL.aZ zr rP (RO.nx (RL.aM 1 j zr l6 cG (RO.nx (RL.quo p0.dH 2 (RO.nx ?_))))))))
 refine RL.fO p0.At.Y (IntKind.wrap .i64 (Int.tdiv p0.dH 2)) (RO.nx (aP (vi (IntKind.wrap .i64 (p0.At.X - (IntKind.wrap .i64 (Int.tdiv p0.dH 2))))) (RO.nx (aP (vi (IntKind.wrap .i64 (p0.At.Y - (IntKind.wrap .i64 (Int.tdiv p0.dH 2))))) (RO.last (aG (RC.sr (mv (vi (IntKind.wrap .i64 (p0.At.X - (IntKind.wrap .i64 (Int.tdiv p0.dH 2))))) ?_))))))))
 refine mv (vi (IntKind.wrap .i64 (p0.At.Y - (IntKind.wrap .i64 (Int.tdiv p0.dH 2))))) (mv (vi (IntKind.wrap .i64 (p0.At.X - (IntKind.wrap .i64 (Int.tdiv p0.dH 2))))) (RL.aZ zr rP (RL.aM 1 j zr l6 cG (RL.fO (IntKind.wrap .i64 (p0.At.X - (IntKind.wrap .i64 (Int.tdiv p0.dH 2)))) p0.dH (mv (vi (IntKind.wrap .i64 (p0.At.Y - (IntKind.wrap .i64 (Int.tdiv p0.dH 2))))) (RL.aZ zr rP (RL.aM 1 j zr l6 cG (RL.fO (IntKind.wrap .i64 (p0.At.Y - (IntKind.wrap .i64 (Int.tdiv p0.dH 2)))) p0.dH ?_))))))))
 have j:=((j.sc Int (IntKind.wrap .i64 (p0.At.X - (IntKind.wrap .i64 (Int.tdiv p0.dH 2))))).sc Int (IntKind.wrap .i64 (p0.At.Y - (IntKind.wrap .i64 (Int.tdiv p0.dH 2))))).sc Int (IntKind.wrap .i64 ((IntKind.wrap .i64 (p0.At.X - (IntKind.wrap .i64 (Int.tdiv p0.dH 2))))+p0.dH))
 have j:=j.sc Int (IntKind.wrap .i64 ((IntKind.wrap .i64 (p0.At.Y - (IntKind.wrap .i64 (Int.tdiv p0.dH 2))))+p0.dH))
 refine RL.build (⟨(IntKind.wrap .i64 (p0.At.X - (IntKind.wrap .i64 (Int.tdiv p0.dH 2)))),(IntKind.wrap .i64 (p0.At.Y - (IntKind.wrap .i64 (Int.tdiv p0.dH 2)))),(IntKind.wrap .i64 ((IntKind.wrap .i64 (p0.At.X - (IntKind.wrap .i64 (Int.tdiv p0.dH 2))))+p0.dH)),(IntKind.wrap .i64 ((IntKind.wrap .i64 (p0.At.Y - (IntKind.wrap .i64 (Int.tdiv p0.dH 2))))+p0.dH))⟩:aI) trivial rfl j [(0,(vi (IntKind.wrap .i64 (p0.At.X - (IntKind.wrap .i64 (Int.tdiv p0.dH 2)))))),(1,(vi (IntKind.wrap .i64 (p0.At.Y - (IntKind.wrap .i64 (Int.tdiv p0.dH 2)))))),(2,(vi (IntKind.wrap .i64 ((IntKind.wrap .i64 (p0.At.X - (IntKind.wrap .i64 (Int.tdiv p0.dH 2))))+p0.dH)))),(3,(vi (IntKind.wrap .i64 ((IntKind.wrap .i64 (p0.At.Y - (IntKind.wrap .i64 (Int.tdiv p0.dH 2))))+p0.dH))))] rfl DI rfl (fun M hs g=>by have h:=tx M;exact cS.cons (f:=fun(x:aI) y=>{x with X0:=y}) h oY (g.sat 3 _ rfl).1 fun _ h=>cS.cons (f:=fun(x:aI) y=>{x with Y0:=y}) h qo (g.sat 2 _ rfl).1 fun _ h=>cS.cons (f:=fun(x:aI) y=>{x with X1:=y}) h oZ (g.sat 1 _ rfl).1 fun _ h=>cS.cons (f:=fun(x:aI) y=>{x with Y1:=y}) h qp (g.sat 0 _ rfl).1 fun _ h=>cS.nil h) fun ad j=>?_
 refine RL.bZ 5 j 0 zr iq fun w j=>?_
 refine RL.nt (RC.ret ?_)
 obtain rfl:=oi o
 exact Gf 5 j iq fun ae j=>(j.pk 9 [0])
theorem pP {p0:cE} (j:Holds E w V) (h0:V[i0]? =some (rd v0 p0)) (hb:gS N p0=some res):
    Calls bN 42 [v0].toArray w (gQ (aV E V res)):=by
 unfold gS at hb
 refine enter Tryz.func42 zr zr ?_
 have j:=j.dup (i0+0) h0
 refine RC.sr (RL.dK 0 v0 j zr fun an w j=>?_)
 refine aP (vi 0) (RL.nq (RC.seq ?_))
 obtain⟨ah,o,hb⟩:=bd hb
 refine RC.jn (fun(ah:Bool)=>SH E V [(1,vp an 0),(13,vb ah)] [bx 70 an p0]) ah ?_ ?_
 ·refine RC.region (RL.aZ zr rP (RL.aM 0 j zr l6 cG ?_))
  obtain⟨ao,av,o⟩:=bd o
  refine RL.call zt zr HN [(vi p0.dH),(vi 1),(vi 10000)] zr (aD (iM N (p0:=p0.dH) (p1:=1) (p2:=10000) j av) ?_)
  rintro _ w ⟨rfl,j⟩
  refine RL.not ao (mv (vb (!ao)) (fN o (fun ab o=>?_) fun ab o=>?_))
  ·refine bJ ab (bJ ab (bJ ab (bJ ab (fU ab (vb true) (RL.nil ?_)))))
   obtain rfl:=oi o
   exact⟨rfl,j.sp 2 [0]⟩
  refine RL.aZ (hg:=(cg ab)) zr yk (RL.bG (hg:=(cg ab)) 0 j zr qs zm fun aw j=>?_)
  obtain⟨aq,ax,o⟩:=bd o
  refine RL.call (cg ab) zr LL [aw] zr (aD (nE N (i0:=0) j zr ax) ?_)
  rintro _ w ⟨rfl,j⟩
  refine RL.not (hg:=(cg ab)) aq (fU ab (vb (!aq)) (RL.nil ?_))
  obtain rfl:=oi o
  exact⟨rfl,j.sp 3 [1]⟩
 rintro _ w ⟨O,rfl,j⟩
 refine aG (dX hb (fun hc hb=>?_) fun hc hb=>?_)
 ·refine RC.sr (aP (vi 1) (RL.nt (RC.rt ?_)))
  obtain rfl:=oi hb
  exact bY ⟨rfl,j.drop 1⟩
 refine RC.sx (RL.bG (f:=(fun x=>x)) 0 j zr Fd.self mf fun ay j=>?_)
 obtain⟨ag,az,hb⟩:=bd hb
 refine RL.call zt zr Gu [ay] zr (aD (fI N (i0:=0) j zr az) ?_)
 rintro a4 w j
 refine RL.alloc j om.z fun a5 w j=>?_
 refine RL.bZ 0 j 1 zr iq fun w j=>?_
 refine RL.nq (RC.seq ?_)
 obtain⟨aj,o,hb⟩:=bd hb
 refine RC.jn (fun(aj:Bool)=>SH E V [(37,vb aj)] []) aj ?_ ?_
 ·refine RC.region (RL.aZ zr gO (RL.aM 0 j zr dD cG ?_))
  obtain⟨ar,a0,o⟩:=bd o
  refine RL.call zt zr Bn [(vi ag.X0)] zr (aD (eK N (p0:=ag.X0) j a0) ?_)
  rintro _ w ⟨rfl,j⟩
  refine RL.not ar (mv (vb (!ar)) (fN o (fun ad o=>?_) fun ad o=>?_))
  ·refine bJ ad (bJ ad (bJ ad (bJ ad (fU ad (vb true) (mv (vb true) (jR (jR (jR ?_))))))))
   refine jR (RL.pick true (vb true) zr (mv (vb true) (jR (jR (jR (jR (RL.pick true (vb true) zr (RL.nil ?_))))))))
   obtain rfl:=oi o
   exact⟨rfl,j.sp 4 []⟩
  refine RL.aZ (hg:=(cg ad)) zr gG (RL.aM (hg:=(cg ad)) 0 j zr cZ cG ?_)
  obtain⟨ak,a1,o⟩:=bd o
  refine RL.call (cg ad) zr Bn [(vi ag.Y0)] zr (aD (eK N (p0:=ag.Y0) j a1) ?_)
  rintro _ w ⟨rfl,j⟩
  refine RL.not (hg:=(cg ad)) ak (fU ad (vb (!ak)) (mv (vb (!ak)) (fN o (fun ae o=>?_) fun ae o=>?_)))
  ·refine bJ ae (bJ ae (bJ ae (bJ ae (fU ae (vb true) (mv (vb true) (jR (jR (jR ?_))))))))
   refine jR (RL.pick true (vb true) zr (RL.nil ?_))
   obtain rfl:=oi o
   exact⟨rfl,j.sp 4 []⟩
  refine RL.aZ (hg:=(cg ae)) zr iX (RL.aM (hg:=(cg ae)) 0 j zr dY cG ?_)
  obtain⟨al,a2,o⟩:=bd o
  refine RL.call (cg ae) zr Bn [(vi ag.X1)] zr (aD (eK N (p0:=ag.X1) j a2) ?_)
  rintro _ w ⟨rfl,j⟩
  refine RL.not (hg:=(cg ae)) al (fU ae (vb (!al)) (mv (vb (!al)) (fN o (fun af o=>?_) fun af o=>?_)))
  ·refine bJ af (bJ af (bJ af (bJ af (fU af (vb true) (RL.nil ?_)))))
   obtain rfl:=oi o
   exact⟨rfl,j.sp 4 []⟩
  refine RL.aZ (hg:=(cg af)) zr jZ (RL.aM (hg:=(cg af)) 0 j zr eT cG ?_)
  obtain⟨au,a3,o⟩:=bd o
  refine RL.call (cg af) zr Bn [(vi ag.Y1)] zr (aD (eK N (p0:=ag.Y1) j a3) ?_)
  rintro _ w ⟨rfl,j⟩
  refine RL.not (hg:=(cg af)) au (fU af (vb (!au)) (RL.nil ?_))
  obtain rfl:=oi o
  exact⟨rfl,j.sp 4 []⟩
 rintro _ w ⟨O,rfl,j⟩
 refine aG (dX hb (fun hc hb=>?_) fun hc hb=>?_)
 ·refine RC.sr (aP (vi 1) (RL.nt (RC.rt ?_)))
  obtain rfl:=oi hb
  exact bY ⟨rfl,j.drop 0⟩
 refine RC.sx (aP (vi 0) (RL.nt (RC.ret ?_)))
 obtain rfl:=oi hb
 exact bY ⟨rfl,j.drop 0⟩
def tE (E:World) (V:List HP) (r:Bool) (U:Nat->Value) (w:World):Prop:=lS bN 45 Tryz.f82 (aU E V r) .ret U w
theorem og {p0:eJ} {res:Bool} (hw:Holds E w V) (o:gC N p0=some res):
    Calls bN 82 [(str p0)].toArray w (gQ (aU E V res)):=by
 unfold gC at o
 refine enter Tryz.func82 zr zr (RC.sr (aP (vb false) (RL.nq (RC.sr (aP (vi 0) (RL.nt ?_))))))
 obtain⟨aq,hN,o⟩:=bd o
 refine RC.iter (fun(ab:Int)=>SH E V [(0,(str p0)),(3,vi ab)] []) (fun(ab:Int)=>SH E V [(0,(str p0))] []) (tE E V) hN ?_ ?_ ?_ ?_
 ·exact hw.sp 0 []
 ·rintro ab fl _ w ⟨O,rfl,hw⟩ o
  refine RC.seq (RC.sr (mv (vi ab) (mv (str p0) (RL.lens p0 Bl (ic ab ((p0.dA.length:Int)) (RL.nt (dX o (fun hc o=>?_) fun hc o=>?_)))))))
  rotate_left
  ·refine RC.ex ?_
   obtain rfl:=oi o
   exact⟨rfl,hw.sp 0 []⟩
  refine RC.ss (RC.bs (mv (str p0) (mv (vi ab) ?_)))
  obtain⟨j,aj,o⟩:=bd o
  refine RL.idxs p0 ab j zr zr zr Bl aj (aP (.int .u8 (j.toNat:Int)) (RL.nq ?_))
  obtain⟨ag,hj,o⟩:=bd o
  refine RC.jn (fun(ag:Bool)=>SH E V [(0,(str p0)),(3,vi ab),(41,vb ag)] []) ag ?_ ?_
  ·refine RC.region (mv (.int .u8 (j.toNat:Int)) (ic ((j.toNat:Int)) 97 (mv (vb (decide ((j.toNat:Int)>=97))) (RL.gs true (decide ((j.toNat:Int)>=97)) (.int .u8 (j.toNat:Int)) rfl rfl rfl cI (RL.gs true (decide ((j.toNat:Int)>=97)) (vb (decide ((j.toNat:Int)<=122))) rfl rfl rfl (dL .leq .u8 (j.toNat:Int) 122 rfl (fun h=>by exact(cO h:cv (true&&((decide ((j.toNat:Int)>=97))==true)) (.int .u8 (j.toNat:Int))= (.int .u8 (j.toNat:Int)))) (fun _=>rfl) rfl) (RL.pick (decide ((j.toNat:Int)>=97)) (vb ((decide ((j.toNat:Int)>=97))&&(decide ((j.toNat:Int)<=122)))) (gx true rfl) (mv (vb ((decide ((j.toNat:Int)>=97))&&(decide ((j.toNat:Int)<=122)))) (RL.gs true ((decide ((j.toNat:Int)>=97))&&(decide ((j.toNat:Int)<=122))) (.int .u8 (j.toNat:Int)) rfl rfl rfl cI ?_))))))))
   refine RL.gs true ((decide ((j.toNat:Int)>=97))&&(decide ((j.toNat:Int)<=122))) (vb (decide ((j.toNat:Int)>=65))) rfl rfl rfl (dL .geq .u8 (j.toNat:Int) 65 rfl (fun h=>by exact(cO h:cv (true&&(((decide ((j.toNat:Int)>=97))&&(decide ((j.toNat:Int)<=122)))==false)) (.int .u8 (j.toNat:Int))= (.int .u8 (j.toNat:Int)))) (fun _=>rfl) rfl) (RL.gs true ((decide ((j.toNat:Int)>=97))&&(decide ((j.toNat:Int)<=122))) (vb (decide ((j.toNat:Int)>=65))) rfl rfl rfl (cI (hx:=fun h=>by exact(cO h:cv (true&&(((decide ((j.toNat:Int)>=97))&&(decide ((j.toNat:Int)<=122)))==false)) (vb (decide ((j.toNat:Int)>=65)))= (vb (decide ((j.toNat:Int)>=65)))))) (RL.gs (true&&(((decide ((j.toNat:Int)>=97))&&(decide ((j.toNat:Int)<=122)))==false)) (decide ((j.toNat:Int)>=65)) (.int .u8 (j.toNat:Int)) rfl rfl rfl cI (RL.gs (true&&(((decide ((j.toNat:Int)>=97))&&(decide ((j.toNat:Int)<=122)))==false)) (decide ((j.toNat:Int)>=65)) (vb (decide ((j.toNat:Int)<=90))) rfl rfl rfl (dL .leq .u8 (j.toNat:Int) 90 rfl (fun h=>by exact(cO h:cv ((true&&(((decide ((j.toNat:Int)>=97))&&(decide ((j.toNat:Int)<=122)))==false))&&((decide ((j.toNat:Int)>=65))==true)) (.int .u8 (j.toNat:Int))= (.int .u8 (j.toNat:Int)))) (fun _=>rfl) rfl) (RL.gs true ((decide ((j.toNat:Int)>=97))&&(decide ((j.toNat:Int)<=122))) (vb ((decide ((j.toNat:Int)>=65))&&(decide ((j.toNat:Int)<=90)))) rfl rfl rfl (kG (decide ((j.toNat:Int)>=65)) rfl (fun h=>by exact(cO h:cv (true&&(((decide ((j.toNat:Int)>=97))&&(decide ((j.toNat:Int)<=122)))==false)) (vb (decide ((j.toNat:Int)>=65)))= (vb (decide ((j.toNat:Int)>=65))))) (fun h=>by exact gx (true&&(((decide ((j.toNat:Int)>=97))&&(decide ((j.toNat:Int)<=122)))==false)) h)) (RL.pick ((decide ((j.toNat:Int)>=97))&&(decide ((j.toNat:Int)<=122))) (vb (((decide ((j.toNat:Int)>=97))&&(decide ((j.toNat:Int)<=122)))||((decide ((j.toNat:Int)>=65))&&(decide ((j.toNat:Int)<=90))))) (nW true) (mv (vb (((decide ((j.toNat:Int)>=97))&&(decide ((j.toNat:Int)<=122)))||((decide ((j.toNat:Int)>=65))&&(decide ((j.toNat:Int)<=90))))) (RL.gs true (((decide ((j.toNat:Int)>=97))&&(decide ((j.toNat:Int)<=122)))||((decide ((j.toNat:Int)>=65))&&(decide ((j.toNat:Int)<=90)))) (.int .u8 (j.toNat:Int)) rfl rfl rfl cI (RL.gs true (((decide ((j.toNat:Int)>=97))&&(decide ((j.toNat:Int)<=122)))||((decide ((j.toNat:Int)>=65))&&(decide ((j.toNat:Int)<=90)))) (vb (decide ((j.toNat:Int)>=48))) rfl rfl rfl (dL .geq .u8 (j.toNat:Int) 48 rfl (fun h=>by exact(cO h:cv (true&&((((decide ((j.toNat:Int)>=97))&&(decide ((j.toNat:Int)<=122)))||((decide ((j.toNat:Int)>=65))&&(decide ((j.toNat:Int)<=90))))==false)) (.int .u8 (j.toNat:Int))= (.int .u8 (j.toNat:Int)))) (fun _=>rfl) rfl) ?_))))))))
   refine RL.gs true (((decide ((j.toNat:Int)>=97))&&(decide ((j.toNat:Int)<=122)))||((decide ((j.toNat:Int)>=65))&&(decide ((j.toNat:Int)<=90)))) (vb (decide ((j.toNat:Int)>=48))) rfl rfl rfl (cI (hx:=fun h=>by exact(cO h:cv (true&&((((decide ((j.toNat:Int)>=97))&&(decide ((j.toNat:Int)<=122)))||((decide ((j.toNat:Int)>=65))&&(decide ((j.toNat:Int)<=90))))==false)) (vb (decide ((j.toNat:Int)>=48)))= (vb (decide ((j.toNat:Int)>=48)))))) (RL.gs (true&&((((decide ((j.toNat:Int)>=97))&&(decide ((j.toNat:Int)<=122)))||((decide ((j.toNat:Int)>=65))&&(decide ((j.toNat:Int)<=90))))==false)) (decide ((j.toNat:Int)>=48)) (.int .u8 (j.toNat:Int)) rfl rfl rfl cI (RL.gs (true&&((((decide ((j.toNat:Int)>=97))&&(decide ((j.toNat:Int)<=122)))||((decide ((j.toNat:Int)>=65))&&(decide ((j.toNat:Int)<=90))))==false)) (decide ((j.toNat:Int)>=48)) (vb (decide ((j.toNat:Int)<=57))) rfl rfl rfl (dL .leq .u8 (j.toNat:Int) 57 rfl (fun h=>by exact(cO h:cv ((true&&((((decide ((j.toNat:Int)>=97))&&(decide ((j.toNat:Int)<=122)))||((decide ((j.toNat:Int)>=65))&&(decide ((j.toNat:Int)<=90))))==false))&&((decide ((j.toNat:Int)>=48))==true)) (.int .u8 (j.toNat:Int))= (.int .u8 (j.toNat:Int)))) (fun _=>rfl) rfl) (RL.gs true (((decide ((j.toNat:Int)>=97))&&(decide ((j.toNat:Int)<=122)))||((decide ((j.toNat:Int)>=65))&&(decide ((j.toNat:Int)<=90)))) (vb ((decide ((j.toNat:Int)>=48))&&(decide ((j.toNat:Int)<=57)))) rfl rfl rfl (kG (decide ((j.toNat:Int)>=48)) rfl (fun h=>by exact(cO h:cv (true&&((((decide ((j.toNat:Int)>=97))&&(decide ((j.toNat:Int)<=122)))||((decide ((j.toNat:Int)>=65))&&(decide ((j.toNat:Int)<=90))))==false)) (vb (decide ((j.toNat:Int)>=48)))= (vb (decide ((j.toNat:Int)>=48))))) (fun h=>by exact gx (true&&((((decide ((j.toNat:Int)>=97))&&(decide ((j.toNat:Int)<=122)))||((decide ((j.toNat:Int)>=65))&&(decide ((j.toNat:Int)<=90))))==false)) h)) (RL.pick (((decide ((j.toNat:Int)>=97))&&(decide ((j.toNat:Int)<=122)))||((decide ((j.toNat:Int)>=65))&&(decide ((j.toNat:Int)<=90)))) (vb ((((decide ((j.toNat:Int)>=97))&&(decide ((j.toNat:Int)<=122)))||((decide ((j.toNat:Int)>=65))&&(decide ((j.toNat:Int)<=90))))||((decide ((j.toNat:Int)>=48))&&(decide ((j.toNat:Int)<=57))))) (nW true) (RL.not ((((decide ((j.toNat:Int)>=97))&&(decide ((j.toNat:Int)<=122)))||((decide ((j.toNat:Int)>=65))&&(decide ((j.toNat:Int)<=90))))||((decide ((j.toNat:Int)>=48))&&(decide ((j.toNat:Int)<=57)))) (mv (vb (!((((decide ((j.toNat:Int)>=97))&&(decide ((j.toNat:Int)<=122)))||((decide ((j.toNat:Int)>=65))&&(decide ((j.toNat:Int)<=90))))||((decide ((j.toNat:Int)>=48))&&(decide ((j.toNat:Int)<=57)))))) (fN hj (fun ad hj=>?_) fun ad hj=>?_)))))))
   rotate_left
   ·refine bJ ad (bJ ad (bJ ad (fU ad (vb false) (RL.nil ?_))))
    obtain rfl:=oi hj
    exact⟨rfl,hw.sp 0 []⟩
   refine RL.move (.int .u8 (j.toNat:Int)) (cg ad) ?_
   obtain⟨ah,ak,hj⟩:=bd hj
   refine RL.call (cg ad) zr Lj [(str ⟨[95,43,45,35]⟩),(.int .u8 (j.toNat:Int))] zr (aD (py N (p0:=⟨[95,43,45,35]⟩) (p1:=(j.toNat:Int)) hw ak) ?_)
   rintro _ w ⟨rfl,hw⟩
   refine RL.ld ah 0 (cg ad) (fU ad (vb (decide (ah<0))) (RL.nil ?_))
   obtain rfl:=oi hj
   exact⟨rfl,hw.sp 0 []⟩
  rintro _ w ⟨O,rfl,hw⟩
  refine aG (dX o (fun hc o=>?_) fun hc o=>?_)
  ·refine RC.sr (aP (vb false) (RL.nt (RC.rb (bQ ?_))))
   obtain rfl:=oi o
   exact⟨rfl,bY ⟨rfl,hw.drop 0⟩⟩
  refine RC.skip (bO (aG (RC.region (mv (vi ab) (RL.fO ab 1 (aP (vi (IntKind.wrap .i64 (ab+1))) (RL.nil ?_)))))))
  obtain rfl:=oi o
  exact⟨rfl,hw.sp 0 []⟩
 ·intro r U w e hK
  subst e
  refine bQ ?_
  obtain rfl:=oi o
  exact hK
 rintro ab _ w rfl ⟨O,rfl,hw⟩
 rw [Fo.dB] at o
 refine aG (RC.sr (mv (str p0) (RL.lens p0 Bl ?_)))
 obtain⟨an,ao,o⟩:=bd o
 refine RL.call zt zr HN [(vi p0.dA.length),(vi 1),(vi 40)] zr (aD (iM N (p0:=(p0.dA.length:Int)) (p1:=1) (p2:=40) hw ao) ?_)
 rintro _ w ⟨rfl,hw⟩
 refine aP (vb an) (RL.nt (RC.ret ?_))
 obtain rfl:=oi o
 exact bY ⟨rfl,hw.drop 0⟩
def tF (E:World) (V:List HP) (r:Bool) (U:Nat->Value) (w:World):Prop:=lS bN 22 Tryz.f81 (aU E V r) .ret U w
theorem sL {p0:eJ} {res:Bool} (o:Holds E w V) (j:jD N p0=some res):
    Calls bN 81 [(str p0)].toArray w (gQ (aU E V res)):=by
 unfold jD at j
 refine enter Tryz.func81 zr zr (RC.sr (aP (vb false) (RL.ns (mv (str p0) ?_))))
 obtain⟨ad,ah,j⟩:=bd j
 refine RL.call zt zr Lh [(str p0),(str ⟨[47]⟩)] zr (aD (sH N (p0:=p0) (p1:=⟨[47]⟩) o ah) ?_)
 rintro ab w o
 refine aP ab (RL.nq (RC.sr (aP (vi 0) (RL.nt ?_))))
 obtain⟨an,hN,j⟩:=bd j
 refine RC.iter (fun(aa:Int)=>SH E V [(0,(str p0)),(3,ab),(4,vi aa)] [own 9 ab ad]) (fun(aa:Int)=>SH E V [(0,(str p0))] [own 9 ab ad]) (tF E V) hN ?_ ?_ ?_ ?_
 ·exact o.sp 1 [0]
 ·rintro aa fl _ w ⟨O,rfl,o⟩ j
  refine RC.seq (RC.sr (mv (vi aa) (mv ab (RL.fS 0 ad o Jy (ic aa ((ad.length:Int)) (RL.nt (dX j (fun hc j=>?_) fun hc j=>?_)))))))
  rotate_left
  ·refine RC.ex ?_
   obtain rfl:=oi j
   exact⟨rfl,o.sp 1 [0]⟩
  refine RC.ss (RC.bs (mv ab (mv (vi aa) ?_)))
  obtain⟨ag,af,j⟩:=bd j
  refine RL.bS 0 o zr zr DJ af (RL.dR (f:=(fun x=>x)) 0 o (jJ 0 o af 0) (bI af).2.1 Fd.self Ba ?_)
  obtain⟨aj,ak,j⟩:=bd j
  refine RL.call zt zr LM [(str ag)] zr (aD (og N (p0:=ag) o ak) ?_)
  rintro _ w ⟨rfl,o⟩
  refine RL.not aj (RL.nt (dX j (fun hc j=>?_) fun hc j=>?_))
  ·refine RC.sr (aP (vb false) (RL.nt (RC.rb (bQ ?_))))
   obtain rfl:=oi j
   exact⟨rfl,bY ⟨rfl,o.drop 1⟩⟩
  refine RC.skip (bO (aG (RC.region (mv (vi aa) (RL.fO aa 1 (aP (vi (IntKind.wrap .i64 (aa+1))) (RL.nil ?_)))))))
  obtain rfl:=oi j
  exact⟨rfl,o.sp 1 [0]⟩
 ·intro r U w e hK
  subst e
  refine bQ ?_
  obtain rfl:=oi j
  exact hK
 rintro aa _ w rfl ⟨O,rfl,o⟩
 rw [Fo.dB] at j
 refine aG (RC.sr (mv (str p0) (RL.lens p0 Bl (ic ((p0.dA.length:Int)) 200 (aP (vb (decide ((p0.dA.length:Int)<=200))) (RL.nt (RC.ret ?_)))))))
 obtain rfl:=oi j
 exact bY ⟨rfl,o.drop 1⟩
end Go.Gk
