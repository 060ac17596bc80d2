/-
  Printed texts: Go functions as plain functions, and that they are. No statement of the seed is proved here.
-/
import Derived.Test.YtmmiladckdcjeaaGreatDoorG1
import Derived.Test.YtmmiladckdcjeaaGreatDoorG2
import Derived.Test.YtmmiladckdcjeaaGreatDoorG4
import Derived.Test.YtmmiladckdcjeaaGreatDoorA2
set_option linter.unusedVariables false
set_option linter.unusedSimpArgs false
set_option linter.unusedSectionVars false
set_option maxRecDepth 100000
set_option maxHeartbeats 4000000
namespace Go.Gk
open Go Go.Proofs
variable (N:Nat) {E w:World} {i0 i1:Nat} {p0 p1 p2 res:Int} {v0 v1:Value} {V:List HP}
def qE (E:World) (V:List HP) (r:Int) (U:Nat->Value) (w:World):Prop:=mh bO 52 Tryz.f89 (aW E V r) .ret U w
theorem p4 {p0: (List aI)} (o:Holds E w V) (h0:V[i0]? =some (rd v0 p0)) (hb:gY N p0=some res):
    Calls bO 89 [v0].toArray w (gW (aW E V res)):=by
 unfold gY at hb
 refine enter Tryz.func89 zr zr ?_
 have o:=o.dup (i0+0) h0
 refine RC.sr (aQ (vi 0) (RL.nq (RC.sr (mv v0 (RL.bA 0 p0 o nc (ic ((p0.length:Int)) 2000 (RL.nt (dU hb (fun hc hb=>?_) fun hc hb=>?_))))))))
 ·refine RC.sr (aQ (vi 2) (RL.nt (RC.rt ?_)))
  obtain rfl:=oi hb
  exact bX ⟨rfl,o.drop 1⟩
 refine RC.ss (RC.sr (aQ (vi 0) (RL.nt ?_)))
 obtain⟨az,hN,hb⟩:=bd hb
 refine RC.iter (fun(ad:Int)=>SH E V [(0,v0),(3,vi ad)] [rd v0 p0]) (fun(ad:Int)=>SH E V [] [rd v0 p0]) (qE E V) hN ?_ ?_ ?_ ?_
 ·exact o.sp 1 [0]
 ·rintro ad fl _ w ⟨O,rfl,o⟩ hb
  refine RC.seq (RC.sr (mv (vi ad) (mv v0 (RL.bA 0 p0 o nc (ic ad ((p0.length:Int)) (RL.nt (dU hb (fun hc hb=>?_) fun hc hb=>?_)))))))
  rotate_left
  ·refine RC.ex ?_
   obtain rfl:=oi hb
   exact⟨rfl,o.sp 1 [0]⟩
  refine RC.ss (RC.bs (mv v0 (mv (vi ad) ?_)))
  obtain⟨j,ar,hb⟩:=bd hb
  refine RL.bP 0 o jk ar fun a1 o=>(RL.bL 0 j o iF fun a2 o=>(RL.alloc o oA.z fun ah w o=>?_))
  refine RL.cA 0 o 1 zr iF fun w o=>?_
  refine RL.nq (RC.seq ?_)
  obtain⟨aj,hj,hb⟩:=bd hb
  refine RC.jn (fun(aj:Bool)=>SH E V [(0,v0),(3,vi ad),(4,vp ah 0),(39,vb aj)] [rd v0 p0,bx 59 ah j]) aj ?_ ?_
  ·refine RC.region (RL.aX zr ir (RL.aN 0 o zr dL cJ ?_))
   obtain⟨an,au,hj⟩:=bd hj
   refine RL.call zt zr A4 [(vi j.X0)] zr (aD (eK N (p0:=j.X0) o au) ?_)
   rintro _ w ⟨rfl,o⟩
   refine RL.not an (mv (vb (!an)) (fC hj (fun ae hj=>?_) fun ae hj=>?_))
   ·refine bG ae (bG ae (bG ae (bG ae (fL ae (vb true) (mv (vb true) (ko (ko (ko ?_))))))))
    refine ko (RL.pick true (vb true) zr (mv (vb true) (ko (ko (ko (ko (RL.pick true (vb true) zr (RL.nil ?_))))))))
    obtain rfl:=oi hj
    exact⟨rfl,o.sp 4 [3,0]⟩
   refine RL.aX (hg:=(cg ae)) zr g8 (RL.aN (hg:=(cg ae)) 0 o zr dF cJ ?_)
   obtain⟨ak,av,hj⟩:=bd hj
   refine RL.call (cg ae) zr A4 [(vi j.Y0)] zr (aD (eK N (p0:=j.Y0) o av) ?_)
   rintro _ w ⟨rfl,o⟩
   refine RL.not (hg:=(cg ae)) ak (fL ae (vb (!ak)) (mv (vb (!ak)) (fC hj (fun af hj=>?_) fun af hj=>?_)))
   ·refine bG af (bG af (bG af (bG af (fL af (vb true) (mv (vb true) (ko (ko (ko ?_))))))))
    refine ko (RL.pick true (vb true) zr (RL.nil ?_))
    obtain rfl:=oi hj
    exact⟨rfl,o.sp 4 [3,0]⟩
   refine RL.aX (hg:=(cg af)) zr jl (RL.aN (hg:=(cg af)) 0 o zr eE cJ ?_)
   obtain⟨al,aw,hj⟩:=bd hj
   refine RL.call (cg af) zr A4 [(vi j.X1)] zr (aD (eK N (p0:=j.X1) o aw) ?_)
   rintro _ w ⟨rfl,o⟩
   refine RL.not (hg:=(cg af)) al (fL af (vb (!al)) (mv (vb (!al)) (fC hj (fun ag hj=>?_) fun ag hj=>?_)))
   ·refine bG ag (bG ag (bG ag (bG ag (fL ag (vb true) (RL.nil ?_)))))
    obtain rfl:=oi hj
    exact⟨rfl,o.sp 4 [3,0]⟩
   refine RL.aX (hg:=(cg ag)) zr kq (RL.aN (hg:=(cg ag)) 0 o zr fF cJ ?_)
   obtain⟨ao,ax,hj⟩:=bd hj
   refine RL.call (cg ag) zr A4 [(vi j.Y1)] zr (aD (eK N (p0:=j.Y1) o ax) ?_)
   rintro _ w ⟨rfl,o⟩
   refine RL.not (hg:=(cg ag)) ao (fL ag (vb (!ao)) (RL.nil ?_))
   obtain rfl:=oi hj
   exact⟨rfl,o.sp 4 [3,0]⟩
  rintro _ w ⟨O,rfl,o⟩
  refine aH (dU hb (fun hc hb=>?_) fun hc hb=>?_)
  ·refine RC.sr (aQ (vi 1) (RL.nt (RC.rt (ot (bT ?_)))))
   obtain rfl:=oi hb
   exact⟨rfl,bX ⟨rfl,o.drop 2⟩⟩
  refine RC.sx (RL.aX rfl jl (RL.aN 1 o rfl eE cJ (RL.aX rfl ir (RL.aN 1 o rfl dL cJ (ic j.X1 j.X0 (mv (vb (decide (j.X1<=j.X0))) (RL.gs true (decide (j.X1<=j.X0)) (vp ah 3) rfl rfl rfl (eA kq) (RL.gs true (decide (j.X1<=j.X0)) (vi j.Y1) rfl rfl rfl (bZ 1 rfl o (fun h=>by exact(cK h:cv (true&&((decide (j.X1<=j.X0))==false)) (vp ah 3)= (vp ah 3))) rfl fF cJ) ?_))))))))
  refine RL.gs true (decide (j.X1<=j.X0)) (vp ah 1) rfl rfl rfl (eA g8) (RL.gs true (decide (j.X1<=j.X0)) (vi j.Y0) rfl rfl rfl (bZ 1 rfl o (fun h=>by exact(cK h:cv (true&&((decide (j.X1<=j.X0))==false)) (vp ah 1)= (vp ah 1))) rfl dF cJ) (RL.gs true (decide (j.X1<=j.X0)) (vb (decide (j.Y1<=j.Y0))) rfl rfl rfl (dI .leq .i64 j.Y1 j.Y0 rfl (fun h=>by exact(cK h:cv (true&&((decide (j.X1<=j.X0))==false)) (vi j.Y1)= (vi j.Y1))) (fun h=>by exact(cK h:cv (true&&((decide (j.X1<=j.X0))==false)) (vi j.Y0)= (vi j.Y0))) rfl) (RL.pick (decide (j.X1<=j.X0)) (vb ((decide (j.X1<=j.X0))||(decide (j.Y1<=j.Y0)))) (nR true) (RL.nt (dU hb (fun hc hb=>?_) fun hc hb=>?_)))))
  ·refine RC.sr (aQ (vi 13) (RL.nt (RC.rb (bT ?_))))
   obtain rfl:=oi hb
   exact⟨rfl,bX ⟨rfl,o.drop 2⟩⟩
  refine RC.skip (bM (aH (RC.region (mv (vi ad) (RL.gl ad 1 (aQ (vi (IntKind.wrap .i64 (ad+1))) (RL.nil ?_)))))))
  obtain rfl:=oi hb
  exact⟨rfl,o.sp 2 [0]⟩
 ·intro r U w e hK
  subst e
  refine bT ?_
  obtain rfl:=oi hb
  exact hK
 rintro ad _ w rfl ⟨O,rfl,o⟩
 rw [Fo.dA] at hb
 refine aH (RC.sr (aQ (vi 0) (RL.nt (RC.ret ?_))))
 obtain rfl:=oi hb
 exact bX ⟨rfl,o.drop 1⟩
theorem n0 {p0 p1:aI} {res:Bool} (j:Holds E w V) (h0:V[i0]? =some (rd v0 p0)) (h1:V[i1]? =some (rd v1 p1)) (hb:iB N p0 p1=some res):
    Calls bO 90 [v0,v1].toArray w (gW (aV E V res)):=by
 unfold iB at hb
 refine enter Tryz.func90 zr zr ?_
 have j:=(j.dup (i0+0) h0).dup (i1+1) h1
 refine RC.sr (RL.dJ 1 v0 j zr fun o w j=>?_)
 refine RL.dJ 1 v1 j zr fun aa w j=>?_
 refine aQ (vb false) (RL.ns (RL.aX zr g8 (RL.aN 1 j zr dF cJ (RL.aX zr g8 (RL.aN 0 j zr dF cJ (ic p0.Y0 p1.Y0 (mv (vb (decide (p0.Y0<p1.Y0))) (RL.gs true (decide (p0.Y0<p1.Y0)) (vp o 1) zr zr zr (eA g8) ?_))))))))
 refine RL.gs true (decide (p0.Y0<p1.Y0)) (vi p0.Y0) rfl rfl rfl (bZ 1 rfl j (fun h=>by exact(cK h:cv (true&&((decide (p0.Y0<p1.Y0))==false)) (vp o 1)= (vp o 1))) rfl dF cJ) (RL.gs true (decide (p0.Y0<p1.Y0)) (vp aa 1) rfl rfl rfl (eA g8) (RL.gs true (decide (p0.Y0<p1.Y0)) (vi p1.Y0) rfl rfl rfl (bZ 0 rfl j (fun h=>by exact(cK h:cv (true&&((decide (p0.Y0<p1.Y0))==false)) (vp aa 1)= (vp aa 1))) rfl dF cJ) (RL.gs true (decide (p0.Y0<p1.Y0)) (vb (p0.Y0==p1.Y0)) rfl rfl rfl (dI .eql .i64 p0.Y0 p1.Y0 rfl (fun h=>by exact(cK h:cv (true&&((decide (p0.Y0<p1.Y0))==false)) (vi p0.Y0)= (vi p0.Y0))) (fun h=>by exact(cK h:cv (true&&((decide (p0.Y0<p1.Y0))==false)) (vi p1.Y0)= (vi p1.Y0))) rfl) (RL.gs true (decide (p0.Y0<p1.Y0)) (vb (p0.Y0==p1.Y0)) rfl rfl rfl (cH (hx:=fun h=>by exact(cK h:cv (true&&((decide (p0.Y0<p1.Y0))==false)) (vb (p0.Y0==p1.Y0))= (vb (p0.Y0==p1.Y0))))) (RL.gs (true&&((decide (p0.Y0<p1.Y0))==false)) (p0.Y0==p1.Y0) (vp o 0) rfl rfl rfl (eA ir) (RL.gs (true&&((decide (p0.Y0<p1.Y0))==false)) (p0.Y0==p1.Y0) (vi p0.X0) rfl rfl rfl (bZ 1 rfl j (fun h=>by exact(cK h:cv ((true&&((decide (p0.Y0<p1.Y0))==false))&&((p0.Y0==p1.Y0)==true)) (vp o 0)= (vp o 0))) rfl dL cJ) (RL.gs (true&&((decide (p0.Y0<p1.Y0))==false)) (p0.Y0==p1.Y0) (vp aa 0) rfl rfl rfl (eA ir) (RL.gs (true&&((decide (p0.Y0<p1.Y0))==false)) (p0.Y0==p1.Y0) (vi p1.X0) rfl rfl rfl (bZ 0 rfl j (fun h=>by exact(cK h:cv ((true&&((decide (p0.Y0<p1.Y0))==false))&&((p0.Y0==p1.Y0)==true)) (vp aa 0)= (vp aa 0))) rfl dL cJ) ?_))))))))
 refine RL.gs (true&&((decide (p0.Y0<p1.Y0))==false)) (p0.Y0==p1.Y0) (vb (decide (p0.X0<p1.X0))) rfl rfl rfl (dI .lss .i64 p0.X0 p1.X0 rfl (fun h=>by exact(cK h:cv ((true&&((decide (p0.Y0<p1.Y0))==false))&&((p0.Y0==p1.Y0)==true)) (vi p0.X0)= (vi p0.X0))) (fun h=>by exact(cK h:cv ((true&&((decide (p0.Y0<p1.Y0))==false))&&((p0.Y0==p1.Y0)==true)) (vi p1.X0)= (vi p1.X0))) rfl) (RL.gs true (decide (p0.Y0<p1.Y0)) (vb ((p0.Y0==p1.Y0)&&(decide (p0.X0<p1.X0)))) rfl rfl rfl (kE (p0.Y0==p1.Y0) rfl (fun h=>by exact(cK h:cv (true&&((decide (p0.Y0<p1.Y0))==false)) (vb (p0.Y0==p1.Y0))= (vb (p0.Y0==p1.Y0)))) (fun h=>by exact gr (true&&((decide (p0.Y0<p1.Y0))==false)) h)) (RL.pick (decide (p0.Y0<p1.Y0)) (vb ((decide (p0.Y0<p1.Y0))||((p0.Y0==p1.Y0)&&(decide (p0.X0<p1.X0))))) (nR true) (aQ (vb ((decide (p0.Y0<p1.Y0))||((p0.Y0==p1.Y0)&&(decide (p0.X0<p1.X0))))) (RL.nt (RC.ret ?_)))))
 obtain rfl:=oi hb
 exact bX ⟨rfl,j.drop 4⟩
theorem iG {p0: (List Int)} {res: (List Int)} (j:Holds E w V) (h0:V[i0]? =some (rd v0 p0)) (hb:fA N p0 p1=some res):
    Calls bO 118 [v0,(vi p1)].toArray w (gW (ng E V res)):=by
 unfold fA at hb
 refine enter Tryz.func118 zr zr ?_
 have j:=j.dup (i0+0) h0
 refine RC.sr (aQ (.slice none 0 0) (RL.ns (mv v0 (RL.bA 0 p0 j ly (aQ (vi 0) (aQ (vi p0.length) (RL.nq ?_)))))))
 obtain⟨ay,hN,hb⟩:=bd hb
 refine RC.iter (fun(o:Int×Int)=>SH E V [(0,v0),(1,vi p1),(5,vi o.1),(6,vi o.2)] [rd v0 p0]) (fun(o:Int×Int)=>SH E V [(0,v0),(1,vi p1),(5,vi o.1)] [rd v0 p0]) (fun(r:Empty) _ _=>r.elim) hN ?_ ?_ ?_ ?_
 ·exact j.sp 1 [0]
 ·rintro o fl _ w ⟨O,rfl,j⟩ hb
  refine RC.seq (RC.sr (mv (vi o.1) (mv (vi o.2) (ic o.1 o.2 (RL.nt (dU hb (fun hc hb=>?_) fun hc hb=>?_))))))
  rotate_left
  ·refine RC.ex ?_
   obtain rfl:=oi hb
   exact⟨rfl,j.sp 1 [0]⟩
  refine RC.sn (RC.bs (mv (vi o.1) (mv (vi o.2) (RL.gl o.1 o.2 (RL.quo (IntKind.wrap .i64 (o.1+o.2)) 2 (aQ (vi (IntKind.wrap .i64 (Int.tdiv (IntKind.wrap .i64 (o.1+o.2)) 2))) (RL.ns (mv v0 ?_))))))))
  refine mv (vi (IntKind.wrap .i64 (Int.tdiv (IntKind.wrap .i64 (o.1+o.2)) 2))) ?_
  obtain⟨ai,an,hb⟩:=bd hb
  refine RL.bP 0 j dW an fun a0 j=>(RL.bD ai 0 j cJ (mv (vi p1) (ic ai p1 (RL.nt ?_))))
  obtain⟨af,hj,hb⟩:=bd hb
  refine RC.jn (fun(af:Int×Int)=>SH E V [(0,v0),(1,vi p1),(5,vi af.1),(6,vi af.2)] [rd v0 p0]) af ?_ ?_
  ·refine dU hj (fun hc hj=>?_) fun hc hj=>?_
   rotate_left
   ·refine RC.region (mv (vi (IntKind.wrap .i64 (Int.tdiv (IntKind.wrap .i64 (o.1+o.2)) 2))) (aQ (vi (IntKind.wrap .i64 (Int.tdiv (IntKind.wrap .i64 (o.1+o.2)) 2))) (RL.nil ?_)))
    obtain rfl:=oi hj
    exact⟨rfl,j.sp 2 [1]⟩
   refine RC.region (mv (vi (IntKind.wrap .i64 (Int.tdiv (IntKind.wrap .i64 (o.1+o.2)) 2))) (RL.gl (IntKind.wrap .i64 (Int.tdiv (IntKind.wrap .i64 (o.1+o.2)) 2)) 1 (aQ (vi (IntKind.wrap .i64 ((IntKind.wrap .i64 (Int.tdiv (IntKind.wrap .i64 (o.1+o.2)) 2))+1))) (RL.nil ?_))))
   obtain rfl:=oi hj
   exact⟨rfl,j.sp 2 [1]⟩
  rintro _ w ⟨O,rfl,j⟩
  refine bM ?_
  obtain rfl:=oi hb
  exact⟨rfl,j.sp 1 [0]⟩
 ·intro r _ _ _ _
  exact r.elim
 rintro o _ w rfl ⟨O,rfl,j⟩
 rw [Fo.dA] at hb
 refine aH (RC.seq (RC.seq ?_))
 obtain⟨ag,hj,hb⟩:=bd hb
 refine RC.jn (fun(ag:Bool)=>SH E V [(0,v0),(1,vi p1),(5,vi o.1),(38,vb ag)] [rd v0 p0]) ag ?_ ?_
 ·refine RC.region (mv (vi o.1) (mv v0 (RL.bA 0 p0 j ly (ic o.1 ((p0.length:Int)) (mv (vb (decide (o.1< (p0.length:Int)))) (fC hj (fun ab hj=>?_) fun ab hj=>?_))))))
  rotate_left
  ·refine bG ab (bG ab (bG ab (bG ab (bG ab (bG ab (fL ab (vb false) (RL.nil ?_)))))))
   obtain rfl:=oi hj
   exact⟨rfl,j.sp 1 [0]⟩
  refine RL.move v0 (cg ab) (RL.move (vi o.1) (cg ab) ?_)
  obtain⟨ah,ao,hj⟩:=bd hj
  refine RL.bP (hg:=(cg ab)) 0 j dW ao fun a1 j=>(RL.bD (hg:=(cg ab)) ah 0 j cJ (RL.move (vi p1) (cg ab) (RL.kD ah p1 (cg ab) (fL ab (vb (ah==p1)) (RL.nil ?_)))))
  obtain rfl:=oi hj
  exact⟨rfl,j.sp 2 [1]⟩
 rintro _ w ⟨O,rfl,j⟩
 refine aH (dU hb (fun hc hb=>?_) fun hc hb=>?_)
 ·refine RC.sr (mv v0 (aQ v0 (RL.nt (RC.rt ?_))))
  obtain rfl:=oi hb
  exact bX (j.pk 1 [0])
 refine RC.sx (aQ (.slice none 0 0) (RL.ns (mv (.slice none 0 0) (mv v0 (mv (vi o.1) ?_)))))
 obtain⟨a2,aq,hb⟩:=bd hb
 refine RL.cut (hl:= .inr ⟨rfl,zr⟩) 0 j dW (.inl zr) aq fun a3 j=>?_
 have j:=j.cO Int 3
 obtain⟨a4,ar,hb⟩:=bd hb
 refine RL.app 0 1 j pC ar fun aj w j=>?_
 refine aQ aj (RL.ns (mv aj (mv (vi p1) ?_)))
 have j:=j.sc Int p1
 refine RL.dR ([p1]: (List Int)) j [(vi p1)] dW A1 (fun M hs g=>⟨(g.sat 0 _ zr).1,zt⟩) fun a5 w j=>?_
 have j:=j.freeze 0
 obtain⟨a6,au,hb⟩:=bd hb
 refine RL.app 2 0 j pC au fun ak w j=>?_
 refine aQ ak (RL.ns (mv ak (mv v0 (mv (vi o.1) ?_))))
 obtain⟨a7,av,hb⟩:=bd hb
 refine RL.cut 4 j dW (.inr ⟨rfl,zr⟩) av fun a8 j=>?_
 obtain⟨a9,aw,hb⟩:=bd hb
 refine RL.app 3 0 j pC aw fun ax w j=>?_
 refine aQ ax (RL.nt (RC.ret ?_))
 obtain rfl:=oi hb
 have j:=j.freeze 3
 exact bX (j.pk 6 [3])
theorem nv {p0: (List aI)} {res: (List Int)} (j:Holds E w V) (h0:V[i0]? =some (rd v0 p0)) (o:gU N p0=some res):
    Calls bO 97 [v0].toArray w (gW (ng E V res)):=by
 unfold gU at o
 refine enter Tryz.func97 zr zr ?_
 have j:=j.dup (i0+0) h0
 refine RC.sr (aQ (.slice none 0 0) (RL.ns (aQ (.slice none 0 0) (RL.nq (RC.sr (aQ (vi 0) (RL.nt ?_)))))))
 obtain⟨ar,hN,o⟩:=bd o
 refine RC.iter (fun(aa: (List Int)×Int) U w=>∃ag:Value,SH E V [(0,v0),(3,ag),(4,vi aa.2)] [rd v0 p0,rd ag aa.1] U w) (fun(aa: (List Int)×Int) U w=>∃ab:Value,SH E V [(3,ab)] [rd v0 p0,rd ab aa.1] U w) (fun(r:Empty) _ _=>r.elim) hN ?_ ?_ ?_ ?_
 ·have j:=j.t8 Int
  exact⟨(.slice none 0 0),j.sp 2 [1,0]⟩
 ·rintro aa fl _ w ⟨ad,O,rfl,j⟩ o
  refine RC.seq (RC.sr (mv (vi aa.2) (mv v0 (RL.bA 0 p0 j nc (ic aa.2 ((p0.length:Int)) (RL.nt (dU o (fun hc o=>?_) fun hc o=>?_)))))))
  rotate_left
  ·refine RC.ex ?_
   obtain rfl:=oi o
   exact⟨rfl,ad,j.sp 2 [0,1]⟩
  refine RC.ss (RC.block (RC.v5 mixed [0,0,0,0,0,0,2,1,1,1,1,1,2,0] [0,1,2,3,4,5,7,8,9,10,11,6,12,13] ?_))
  have j:=j.drew
  refine DP.e0 zr (mv ad (aZ zr (mv v0 (aZ zr (mv (vi aa.2) (aZ zr ?_))))))
  obtain⟨ae,ak,o⟩:=bd o
  refine RL.bP 0 j jk ak fun av j=>(aZ zr (RL.dX 0 j zr g8 dF fun aw j=>(aZ zr (RL.bD ae.Y0 0 j cJ (DP.d0 (DP.e1 v0 zr (fun w=>RL.move v0 zt DP.d1) (DP.e1 (vi aa.2) zr (fun w=>RL.move (vi aa.2) zt DP.d1) ?_)))))))
  obtain⟨af,al,o⟩:=bd o
  refine DP.v7 2 zr j jk al fun ax j=>(DP.B5 0 zr zt j zr kq fF fun ay j=>(DP.re af.Y1 0 zr j cJ fun a68 az j=>(DP.e2 zr ?_)))
  obtain⟨a0,an,o⟩:=bd o
  refine RL.call zt zr Bs [ad,(vi ae.Y0)] zr (aD (iG N (p1:=ae.Y0) (i0:=6) j zr an) ?_)
  rintro ao w j
  refine DP.d2 (⟨zt,j.iq 1⟩) (DP.e2 zr ?_)
  obtain⟨a1,aq,o⟩:=bd o
  refine RL.call zt zr Bs [ao,(vi af.Y1)] zr (aD (iG N (p1:=af.Y1) (i0:=0) j zr aq) ?_)
  rintro ah w j
  refine DP.d2 (⟨zt,j.iq 2⟩) (DP.e0 zr (aQ ah (DP.d0 ?_)))
  have j:=j.pl 9 [0,1,3,4,5,6,7,8]
  refine DP.z (bM (aH (RC.region (mv (vi aa.2) (RL.gl aa.2 1 (aQ (vi (IntKind.wrap .i64 (aa.2+1))) (RL.nil ?_)))))))
  obtain rfl:=oi o
  exact⟨rfl,ah,j.sp 8 [6,0]⟩
 ·intro r _ _ _ _
  exact r.elim
 rintro aa _ w rfl ⟨ab,O,rfl,j⟩
 rw [Fo.dA] at o
 refine aH (RC.sr (mv ab (aQ ab (RL.nt (RC.ret ?_)))))
 obtain rfl:=oi o
 exact bX (j.pk 2 [1])
theorem n7 {p0: (List aF)} {p1:aF} {res: (List aF)} (j:Holds E w V) (h0:V[i0]? =some (rd v0 p0)) (h1:V[i1]? =some (rd v1 p1)) (o:iC N p0 p1=some res):
    Calls bO 120 [v0,v1].toArray w (gW (lF E V res)):=by
 unfold iC at o
 refine enter Tryz.func120 zr zr ?_
 have j:=(j.dup (i0+0) h0).dup (i1+1) h1
 refine RC.sr (RL.dJ 0 v1 j zr fun ag w j=>?_)
 refine aQ (.slice none 0 0) (RL.ns (aQ (.slice none 0 0) (RL.ns (aQ (vi 0) (RL.nq ?_)))))
 obtain⟨bc,hN,o⟩:=bd o
 refine RC.iter (fun(ab: (List aF)×Int) U w=>∃av:Value,SH E V [(0,v0),(3,vp ag 0),(5,av),(6,vi ab.2)] [rd v0 p0,bx 156 ag p1,own 156 av ab.1] U w) (fun(ab: (List aF)×Int) U w=>∃ah:Value,SH E V [(0,v0),(3,vp ag 0),(5,ah),(6,vi ab.2)] [rd v0 p0,bx 156 ag p1,own 156 ah ab.1] U w) (fun(r:Empty) _ _=>r.elim) hN ?_ ?_ ?_ ?_
 ·have j:=j.cO aF 156
  exact⟨(.slice none 0 0),j.sp 4 [3,1,0]⟩
 ·rintro ab fl _ w ⟨aj,O,rfl,j⟩ o
  refine RC.seq (RC.seq ?_)
  obtain⟨an,hj,o⟩:=bd o
  refine RC.jn (fun(an:Bool)=>SH E V [(0,v0),(3,vp ag 0),(5,aj),(6,vi ab.2),(20,vb an)] [rd v0 p0,bx 156 ag p1,own 156 aj ab.1]) an ?_ ?_
  ·refine RC.zf mixed ?_
   have j:=j.drew
   refine RO.go (mv (vi ab.2) (RO.nx (mv v0 (RO.nx (RL.bA 0 p0 j vL (RO.nx (ic ab.2 ((p0.length:Int)) (RO.nx ?_))))))))
   refine mv (vb (decide (ab.2< (p0.length:Int)))) (fC hj (fun ad hj=>?_) fun ad hj=>?_)
   rotate_left
   ·refine RO.nx (bG ad (RO.nx (bG ad (RO.nx (bG ad (RO.nx (bG ad (RO.nx ?_))))))))
    refine bG ad (RO.nx (bG ad (RO.nx (bG ad (RO.nx (bG ad (RO.nx (fL ad (vb false) ?_))))))))
    refine RO.last ?_
    obtain rfl:=oi hj
    exact⟨rfl,j.sp 3 [0,1,2]⟩
   refine RO.nx (RL.move v0 (cg ad) (RO.nx (RL.move (vi ab.2) (cg ad) (RO.nx ?_))))
   obtain⟨ao,a0,hj⟩:=bd hj
   refine RL.bP (hg:=(cg ad)) 0 j oL a0 fun bf j=>(RO.nx (RL.dX (hg:=(cg ad)) 0 j zr pX eG fun bg j=>(RO.nx (RL.bD (hg:=(cg ad)) ao.to 0 j cJ (RO.nx (RL.aX (hg:=(cg ad)) zr pY (RO.nx (RL.aN (hg:=(cg ad)) 3 j zr eF cJ ?_))))))))
   refine RO.nx (RL.kD ao.to p1.from_ (cg ad) (RO.nx (fL ad (vb (decide (ao.to<p1.from_))) (RO.last ?_))))
   obtain rfl:=oi hj
   exact⟨rfl,j.sp 5 [2,3,4]⟩
  rintro _ w ⟨O,rfl,j⟩
  refine aH (dU o (fun hc o=>?_) fun hc o=>?_)
  rotate_left
  ·refine RC.ex ?_
   obtain rfl:=oi o
   exact⟨rfl,aj,j.sp 3 [0,1,2]⟩
  refine RC.sn (RC.bs (mv aj (mv v0 (mv (vi ab.2) ?_))))
  obtain⟨aw,a1,o⟩:=bd o
  refine RL.bP 0 j oL a1 fun bh j=>(RL.bL 0 aw j E9 fun a2 j=>(RL.dR ([aw]: (List aF)) j [a2] oL I4 (fun M hs g=>⟨(g.sat 0 _ zr).1,zt⟩) fun bj w j=>?_))
  have j:=j.freeze 0
  obtain⟨bk,a3,o⟩:=bd o
  refine RL.app 5 0 j G8 a3 fun ax w j=>?_
  refine aQ ax (RL.nt (RC.region (mv (vi ab.2) (RL.gl ab.2 1 (aQ (vi (IntKind.wrap .i64 (ab.2+1))) (RL.nil (bM ?_)))))))
  obtain rfl:=oi o
  exact⟨rfl,ax,j.sp 6 [3,4,5]⟩
 ·intro r _ _ _ _
  exact r.elim
 rintro ab _ w rfl ⟨ah,O,rfl,j⟩
 rw [Fo.dA] at o
 refine aH (RC.seq ?_)
 obtain⟨bl,hN,o⟩:=bd o
 refine RC.iter (fun(aa:aF×Int)=>SH E V [(0,v0),(3,vp ag 0),(5,ah),(6,vi aa.2)] [rd v0 p0,bx 156 ag aa.1,own 156 ah ab.1]) (fun(aa:aF×Int)=>SH E V [(0,v0),(3,vp ag 0),(5,ah),(6,vi aa.2)] [rd v0 p0,bx 156 ag aa.1,own 156 ah ab.1]) (fun(r:Empty) _ _=>r.elim) hN ?_ ?_ ?_ ?_
 ·exact j.sp 3 [0,1,2]
 ·rintro aa fl _ w ⟨O,rfl,j⟩ o
  refine RC.seq (RC.seq ?_)
  obtain⟨ar,hj,o⟩:=bd o
  refine RC.jn (fun(ar:Bool)=>SH E V [(0,v0),(3,vp ag 0),(5,ah),(6,vi aa.2),(43,vb ar)] [rd v0 p0,bx 156 ag aa.1,own 156 ah ab.1]) ar ?_ ?_
  ·refine RC.zf mixed ?_
   have j:=j.drew
   refine RO.go (mv (vi aa.2) (RO.nx (mv v0 (RO.nx (RL.bA 0 p0 j vL (RO.nx (ic aa.2 ((p0.length:Int)) (RO.nx ?_))))))))
   refine mv (vb (decide (aa.2< (p0.length:Int)))) (fC hj (fun ae hj=>?_) fun ae hj=>?_)
   rotate_left
   ·refine RO.nx (bG ae (RO.nx (bG ae (RO.nx (bG ae (RO.nx (bG ae (RO.nx ?_))))))))
    refine bG ae (RO.nx (bG ae (RO.nx (bG ae (RO.nx (bG ae (RO.nx (fL ae (vb false) ?_))))))))
    refine RO.last ?_
    obtain rfl:=oi hj
    exact⟨rfl,j.sp 3 [0,1,2]⟩
   refine RO.nx (RL.move v0 (cg ae) (RO.nx (RL.move (vi aa.2) (cg ae) (RO.nx ?_))))
   obtain⟨au,a4,hj⟩:=bd hj
   refine RL.bP (hg:=(cg ae)) 0 j oL a4 fun bm j=>(RO.nx (RL.dX (hg:=(cg ae)) 0 j zr pY eF fun bn j=>(RO.nx (RL.bD (hg:=(cg ae)) au.from_ 0 j cJ (RO.nx (RL.aX (hg:=(cg ae)) zr pX (RO.nx (RL.aN (hg:=(cg ae)) 3 j zr eG cJ ?_))))))))
   refine RO.nx (RL.kD au.from_ aa.1.to (cg ae) (RO.nx (fL ae (vb (decide (au.from_<=aa.1.to))) (RO.last ?_))))
   obtain rfl:=oi hj
   exact⟨rfl,j.sp 5 [2,3,4]⟩
  rintro _ w ⟨O,rfl,j⟩
  refine aH (dU o (fun hc o=>?_) fun hc o=>?_)
  rotate_left
  ·refine RC.ex ?_
   obtain rfl:=oi o
   exact⟨rfl,j.sp 3 [0,1,2]⟩
  refine RC.sn (RC.block (RC.seq (RC.v5 mixed [0,0,0,0,0,0,0,0,0,0,1,1,1,1,1,1,0,2,0,2] [0,1,2,3,4,5,6,7,8,9,10,11,12,13,14,15,16,17,18,19] ?_)))
  have j:=j.drew
  refine DP.e0 zr (RL.aX zr pY (aZ zr (RL.aN 1 j zr eF cJ (aZ zr (mv v0 (aZ zr (mv (vi aa.2) (aZ zr ?_))))))))
  obtain⟨ak,a5,o⟩:=bd o
  refine RL.bP 0 j oL a5 fun bo j=>(aZ zr (RL.dX 0 j zr pY eF fun bp j=>(aZ zr (RL.bD ak.from_ 0 j cJ (aZ zr (RL.min aa.1.from_ ak.from_ (aZ zr (RL.aX zr pX ?_))))))))
  refine aZ zr (RL.aN 3 j zr eG cJ (DP.d0 (DP.e1 v0 zr (fun w=>RL.move v0 zt DP.d1) (DP.e1 (vi aa.2) zr (fun w=>RL.move (vi aa.2) zt DP.d1) ?_))))
  obtain⟨ai,a6,o⟩:=bd o
  refine DP.v7 2 zr j oL a6 fun bq j=>(DP.B5 0 zr zt j zr pX eG fun br j=>(DP.re ai.to 0 zr j cJ fun a135 bt j=>(DP.e1 (vi (if aa.1.to<ai.to then ai.to else aa.1.to)) zr (fun w=>RL.max aa.1.to ai.to DP.d1) (DP.e0 zr (RL.aX zr pY (pP zr ?_))))))
  have j:=j.sc Int (if ak.from_<aa.1.from_ then ak.from_ else aa.1.from_)
  refine RL.wH 7 j zr zr zr 0 zr lj cJ fun w j=>?_
  refine DP.d2 (⟨zt,j.iq 1⟩) (DP.e0 zr (RL.aX zr pX (pP zr ?_)))
  have j:=j.sc Int (if aa.1.to<ai.to then ai.to else aa.1.to)
  refine RL.wH 8 j zr zr zr 0 zr lk cJ fun w j=>?_
  refine DP.d2 (⟨zt,j.iq 2⟩) ?_
  have j:=j.pl 10 [0,1,3,4,5,6,7,8,9]
  refine DP.z (aH (RC.region (mv (vi aa.2) (RL.gl aa.2 1 (aQ (vi (IntKind.wrap .i64 (aa.2+1))) (RL.nil (bM ?_)))))))
  obtain rfl:=oi o
  exact⟨rfl,j.sp 9 [6,7,8]⟩
 ·intro r _ _ _ _
  exact r.elim
 rintro aa _ w rfl ⟨O,rfl,j⟩
 rw [Fo.dA] at o
 refine aH (RC.sr (mv ah (RL.bE (f:=(fun x=>x)) 1 j zr Fd.self E9 fun a7 j=>(RL.dR ([aa.1]: (List aF)) j [a7] oL I4 (fun M hs g=>⟨(g.sat 0 _ zr).1,zt⟩) fun bu w j=>?_))))
 have j:=j.freeze 0
 obtain⟨bw,a8,o⟩:=bd o
 refine RL.app 4 0 j G8 a8 fun ay w j=>?_
 refine aQ ay (RL.ns (mv ay (mv v0 (mv (vi aa.2) ?_))))
 obtain⟨bz,a9,o⟩:=bd o
 refine RL.cut 2 j oL (.inr ⟨rfl,zr⟩) a9 fun b0 j=>?_
 obtain⟨b1,ba,o⟩:=bd o
 refine RL.app 5 0 j G8 ba fun bb w j=>?_
 refine aQ bb (RL.nt (RC.ret ?_))
 obtain rfl:=oi o
 exact bX (j.pk 6 [5])
theorem kK {p0: (List aI)} {res: (List aF)} (j:Holds E w V) (h0:V[i0]? =some (rd v0 p0)) (hb:gT N p0 p1=some res):
    Calls bO 99 [v0,(vi p1)].toArray w (gW (lF E V res)):=by
 unfold gT at hb
 refine enter Tryz.func99 zr zr ?_
 have j:=j.dup (i0+0) h0
 refine RC.sr (aQ (.slice none 0 0) (RL.ns (aQ (.slice none 0 0) (RL.nq (RC.sr (aQ (vi 0) (RL.nt ?_)))))))
 obtain⟨a1,hN,hb⟩:=bd hb
 refine RC.iter (fun(aa: (List aF)×Int) U w=>∃aq:Value,SH E V [(0,v0),(1,vi p1),(5,aq),(6,vi aa.2)] [rd v0 p0,own 156 aq aa.1] U w) (fun(aa: (List aF)×Int) U w=>∃af:Value,SH E V [(5,af)] [rd v0 p0,own 156 af aa.1] U w) (fun(r:Empty) _ _=>r.elim) hN ?_ ?_ ?_ ?_
 ·have j:=j.cO aF 156
  exact⟨(.slice none 0 0),j.sp 2 [1,0]⟩
 ·rintro aa fl _ w ⟨ae,O,rfl,j⟩ hb
  refine RC.seq (RC.sr (mv (vi aa.2) (mv v0 (RL.bA 0 p0 j nc (ic aa.2 ((p0.length:Int)) (RL.nt (dU hb (fun hc hb=>?_) fun hc hb=>?_)))))))
  rotate_left
  ·refine RC.ex ?_
   obtain rfl:=oi hb
   exact⟨rfl,ae,j.sp 2 [0,1]⟩
  refine RC.ss (RC.block (RC.seq ?_))
  obtain⟨ak,o,hb⟩:=bd hb
  refine RC.jn (fun(ak:Bool)=>SH E V [(0,v0),(1,vi p1),(5,ae),(6,vi aa.2),(28,vb ak)] [rd v0 p0,own 156 ae aa.1]) ak ?_ ?_
  ·refine RC.region (mv v0 (mv (vi aa.2) ?_))
   obtain⟨al,av,o⟩:=bd o
   refine RL.bP 0 j jk av fun a3 j=>(RL.dX 0 j zr g8 dF fun a4 j=>(RL.bD al.Y0 0 j cJ (mv (vi p1) (ic al.Y0 p1 (mv (vb (decide (al.Y0<=p1))) (fC o (fun ab o=>?_) fun ab o=>?_))))))
   rotate_left
   ·refine bG ab (bG ab (bG ab (bG ab (bG ab (bG ab (bG ab (fL ab (vb false) (RL.nil ?_))))))))
    obtain rfl:=oi o
    exact⟨rfl,j.sp 4 [2,3]⟩
   refine RL.move (vi p1) (cg ab) (RL.move v0 (cg ab) (RL.move (vi aa.2) (cg ab) ?_))
   obtain⟨an,aw,o⟩:=bd o
   refine RL.bP (hg:=(cg ab)) 2 j jk aw fun a5 j=>(RL.dX (hg:=(cg ab)) 0 j zr kq fF fun a6 j=>(RL.bD (hg:=(cg ab)) an.Y1 0 j cJ (RL.kD p1 an.Y1 (cg ab) (fL ab (vb (decide (p1<an.Y1))) (RL.nil ?_)))))
   obtain rfl:=oi o
   exact⟨rfl,j.sp 6 [4,5]⟩
  rintro _ w ⟨O,rfl,j⟩
  refine aH ?_
  obtain⟨ao,o,hb⟩:=bd hb
  refine RC.jn (fun(ao: (List aF)) U w=>∃ag:Value,SH E V [(0,v0),(1,vi p1),(5,ag),(6,vi aa.2)] [rd v0 p0,own 156 ag ao] U w) ao ?_ ?_
  ·refine dU o (fun hc o=>?_) fun hc o=>?_
   rotate_left
   ·refine RC.skip ?_
    obtain rfl:=oi o
    exact⟨rfl,ae,j.sp 2 [0,1]⟩
   refine RC.v5 mixed [0,0,0,0,0,0,0,0,0,0,0,0,2,0] [0,1,2,3,4,5,6,7,8,9,10,11,12,13] ?_
   have j:=j.drew
   refine DP.e0 zr (mv ae (aZ zr (mv v0 (aZ zr (mv (vi aa.2) (aZ zr ?_))))))
   obtain⟨ah,ax,o⟩:=bd o
   refine RL.bP 0 j jk ax fun a7 j=>(aZ zr (RL.dX 0 j zr ir dL fun a8 j=>(aZ zr (RL.bD ah.X0 0 j cJ (aZ zr (mv v0 (aZ zr (mv (vi aa.2) ?_))))))))
   refine aZ zr ?_
   obtain⟨ai,ay,o⟩:=bd o
   refine RL.bP 2 j jk ay fun a9 j=>(aZ zr (RL.dX 0 j zr jl eE fun ba j=>(aZ zr (RL.bD ai.X1 0 j cJ (aZ zr ?_)))))
   have j:=(j.sc Int ah.X0).sc Int ai.X1
   refine RL.build (⟨ah.X0,ai.X1⟩:aF) trivial rfl j [(0,vi ah.X0),(1,vi ai.X1)] rfl I3 rfl (fun M hs g=>by have h:=o8 M;exact cT.cons (f:=fun(x:aF) y=>{x with from_:=y}) h lj (g.sat 1 _ rfl).1 fun _ h=>cT.cons (f:=fun(x:aF) y=>{x with to:=y}) h lk (g.sat 0 _ rfl).1 fun _ h=>cT.nil h) fun az j=>?_
   refine pP zr ?_
   have j:=j.freeze 8
   obtain⟨bb,a0,o⟩:=bd o
   refine RL.call zt zr I5 [ae,az] zr (aD (n7 N (i0:=8) (i1:=0) j zr zr a0) ?_)
   rintro ar w j
   refine tP zr (aQ ar (DP.d0 (DP.z ?_)))
   obtain rfl:=oi o
   exact⟨rfl,ar,j.sp 10 [8,0]⟩
  rintro _ w ⟨ag,O,rfl,j⟩
  refine bM (aH (RC.region (mv (vi aa.2) (RL.gl aa.2 1 (aQ (vi (IntKind.wrap .i64 (aa.2+1))) (RL.nil ?_))))))
  obtain rfl:=oi hb
  exact⟨rfl,ag,j.sp 2 [0,1]⟩
 ·intro r _ _ _ _
  exact r.elim
 rintro aa _ w rfl ⟨af,O,rfl,j⟩
 rw [Fo.dA] at hb
 refine aH (RC.sr (mv af (aQ af (RL.nt (RC.ret ?_)))))
 obtain rfl:=oi hb
 exact bX (j.pk 2 [1])
def qZ (E:World) (V:List HP) (r:Bool) (U:Nat->Value) (w:World):Prop:=mh bO 26 Tryz.f119 (aV E V r) .ret U w
theorem qF {p0: (List aF)} {p1: (List aF)} {res:Bool} (j:Holds E w V) (h0:V[i0]? =some (rd v0 p0)) (h1:V[i1]? =some (rd v1 p1)) (o:jJ N p0 p1=some res):
    Calls bO 119 [v0,v1].toArray w (gW (aV E V res)):=by
 unfold jJ at o
 refine enter Tryz.func119 zr zr ?_
 have j:=(j.dup (i0+0) h0).dup (i1+1) h1
 refine RC.sr (aQ (vb false) (RL.nq (RC.sr (mv v0 (RL.bA 1 p0 j vL (mv v1 (RL.bA 0 p1 j vL (ic ((p0.length:Int)) ((p1.length:Int)) ?_))))))))
 refine RL.nt (dU o (fun hc o=>?_) fun hc o=>?_)
 ·refine RC.sr (aQ (vb false) (RL.nt (RC.rt ?_)))
  obtain rfl:=oi o
  exact bX ⟨rfl,j.drop 2⟩
 refine RC.ss (RC.sr (aQ (vi 0) (RL.nt ?_)))
 obtain⟨aj,hN,o⟩:=bd o
 refine RC.iter (fun(aa:Int)=>SH E V [(0,v0),(1,v1),(5,vi aa)] [rd v0 p0,rd v1 p1]) (fun(aa:Int)=>SH E V [] [rd v0 p0,rd v1 p1]) (qZ E V) hN ?_ ?_ ?_ ?_
 ·exact j.sp 2 [1,0]
 ·rintro aa fl _ w ⟨O,rfl,j⟩ o
  refine RC.seq (RC.sr (mv (vi aa) (mv v0 (RL.bA 0 p0 j vL (ic aa ((p0.length:Int)) (RL.nt (dU o (fun hc o=>?_) fun hc o=>?_)))))))
  rotate_left
  ·refine RC.ex ?_
   obtain rfl:=oi o
   exact⟨rfl,j.sp 2 [0,1]⟩
  refine RC.ss (RC.block (RC.seq (RC.zf mixed ?_)))
  have j:=j.drew
  refine RO.go (mv v0 (RO.nx (mv (vi aa) (RO.nx ?_))))
  obtain⟨ad,ag,o⟩:=bd o
  refine RL.bP 0 j oL ag fun al j=>(RO.nx (RL.bL 0 ad j E9 fun an j=>(RO.nx (mv v1 (RO.nx (mv (vi aa) (RO.nx ?_)))))))
  obtain⟨ae,ah,o⟩:=bd o
  refine RL.bP 3 j oL ah fun ao j=>(RO.nx (RL.bL 0 ae j E9 fun aq j=>(RO.nx (RL.LM 2 0 ad ae zr j zr zr zr zr JN zr (RO.last (aH (dU o (fun hc o=>?_) fun hc o=>?_)))))))
  ·refine RC.sr (aQ (vb false) (RL.nt (RC.rb (bT ?_))))
   obtain rfl:=oi o
   exact⟨rfl,bX ⟨rfl,j.drop 6⟩⟩
  refine RC.skip (bM (aH (RC.region (mv (vi aa) (RL.gl aa 1 (aQ (vi (IntKind.wrap .i64 (aa+1))) (RL.nil ?_)))))))
  obtain rfl:=oi o
  exact⟨rfl,j.sp 6 [4,5]⟩
 ·intro r U w e hK
  subst e
  refine bT ?_
  obtain rfl:=oi o
  exact hK
 rintro aa _ w rfl ⟨O,rfl,j⟩
 rw [Fo.dA] at o
 refine aH (RC.sr (aQ (vb true) (RL.nt (RC.ret ?_))))
 obtain rfl:=oi o
 exact bX ⟨rfl,j.drop 2⟩
def r9 (E:World) (V:List HP) (res: (List aL)) (v:Value) (w:World):Prop:=Holds E w ([own 140 v res]++V)
theorem ny {p0: (List aL)} {p1:aL} {res: (List aL)} (j:Holds E w (own 140 v0 p0::V)) (h1:V[i1]? =some (rd v1 p1)) (hb:fY N p0 p1=some res):
    Calls bO 98 [v0,v1].toArray w (gW (r9 E V res)):=by
 unfold fY at hb
 refine enter Tryz.func98 zr zr ?_
 have j:=j.dup (i1+1) h1
 refine RC.sr (RL.dJ 0 v1 j zr fun ak w j=>?_)
 refine aQ (.slice none 0 0) (RL.nq (RC.sr (RL.aX zr u5 (RL.bE 0 j zr gp Bt fun aw j=>(RL.bA 0 p1.iZ j vL (ic ((p1.iZ.length:Int)) 0 (RL.nt (dU hb (fun hc hb=>?_) fun hc hb=>?_))))))))
 ·refine RC.sr (mv v0 (aQ v0 (RL.nt (RC.rt ?_))))
  obtain rfl:=oi hb
  exact bX (j.pk 4 [3])
 refine RC.ss (RC.sr (mv v0 (RL.fS 3 p0 j I7 (aQ (vi p0.length) (RL.nq ?_)))))
 obtain⟨ai,hj,hb⟩:=bd hb
 refine RC.jn (fun(ai:Bool)=>SH E V [(0,v0),(3,vp ak 0),(5,vi p0.length),(36,vb ai)] [own 140 v0 p0,bx 140 ak p1]) ai ?_ ?_
 ·refine RC.v5 mixed [0,0,0,0,0,0,0,0,0,0,0,0,0,0,0,0,0,0,0,0,0,0,2,0] [0,1,2,3,4,5,6,7,8,9,10,11,12,13,14,15,16,17,18,19,20,21,22,23] ?_
  have j:=j.drew
  refine DP.e0 zr (mv (vi p0.length) (aZ zr (ic ((p0.length:Int)) 0 (aZ zr (mv (vb (decide ((p0.length:Int)>0))) (DP.d0 (fC hj (fun o hj=>?_) fun o hj=>?_)))))))
  rotate_left
  ·refine DP.e0 zr (bG o (aZ zr (bG o (aZ zr (bG o (aZ zr (bG o (aZ zr ?_))))))))
   refine bG o (aZ zr (bG o (aZ zr (bG o (aZ zr (bG o (aZ zr (bG o ?_))))))))
   refine aZ zr (fL o (vb false) (aZ zr (mv (vb false) (aZ zr (ko (aZ zr (ko (aZ zr ?_))))))))
   refine ko (aZ zr (ko (aZ zr (ko (aZ zr (ko (aZ zr (ko ?_))))))))
   refine aZ zr (ko (pP zr (ko (tP zr (RL.pick false (vb false) zr (DP.d0 (DP.z ?_)))))))
   obtain rfl:=oi hj
   exact⟨rfl,j.sp 4 [3,1]⟩
  refine DP.e0 zr (RL.move v0 (cg o) (aZ zr (RL.move (vi p0.length) (cg o) (aZ zr (RL.gl (hg:=(cg o)) (p0.length:Int) 1 (aZ zr ?_))))))
  obtain⟨aj,ae,hj⟩:=bd hj
  refine RL.bQ (hg:=(cg o)) 3 j zr zr xd ae (aZ zr (RL.jV (hg:=(cg o)) (α:=aL) (jg 3 j ae 0) zv (aZ zr (RL.dQ (hg:=(cg o)) 3 j (jg 3 j ae 1) (bF ae).2.1 ll cJ (aZ zr (RL.aX (hg:=(cg o)) zr Fa (aZ zr (RL.aN (hg:=(cg o)) 1 j zr nV cJ ?_))))))))
  refine aZ zr (RL.kD aj.to p1.from_ (cg o) (aZ zr (fL o (vb (aj.to==p1.from_)) (aZ zr (mv (vb (aj.to==p1.from_)) (DP.d0 (fC hj (fun aa hj=>?_) fun aa hj=>?_)))))))
  rotate_left
  ·refine DP.e0 zr (bG aa (aZ zr (bG aa (aZ zr (bG aa (aZ zr (bG aa (aZ zr ?_))))))))
   refine bG aa (aZ zr (bG aa (aZ zr (bG aa (aZ zr (bG aa (pP zr (bG aa ?_))))))))
   refine tP zr (fL aa (vb false) (DP.d0 (DP.z ?_)))
   obtain rfl:=oi hj
   exact⟨rfl,j.sp 4 [3,1]⟩
  refine DP.e0 zr (RL.move v0 (cg aa) (aZ zr (RL.move (vi p0.length) (cg aa) (aZ zr (RL.gl (hg:=(cg aa)) (p0.length:Int) 1 (aZ zr ?_))))))
  obtain⟨ax,af,hj⟩:=bd hj
  refine RL.bQ (hg:=(cg aa)) 3 j zr zr xd af (aZ zr (RL.jV (hg:=(cg aa)) (α:=aL) (jg 3 j af 0) u5 (aZ zr (RL.ju (hg:=(cg aa)) 3 j (jg 3 j af 2) (bF af).2.1 gp Bt fun al j=>?_))))
  refine aZ zr (RL.aX (hg:=(cg aa)) zr u5 (aZ zr (RL.bE (hg:=(cg aa)) 2 j zr gp Bt fun an j=>(pP zr ?_))))
  obtain⟨ao,aq,hj⟩:=bd hj
  refine RL.call (cg aa) zr K3 [al,an] zr (aD (qF N (i0:=1) (i1:=0) j zr zr aq) ?_)
  rintro _ w ⟨rfl,j⟩
  refine tP zr (fL aa (vb ao) (DP.d0 (DP.z ?_)))
  obtain rfl:=oi hj
  exact⟨rfl,j.sp 6 [5,3]⟩
 rintro _ w ⟨O,rfl,j⟩
 refine aH (dU hb (fun hc hb=>?_) fun hc hb=>?_)
 rotate_left
 ·refine RC.sx (mv v0 (RL.bE (f:=(fun x=>x)) 1 j zr Fd.self K4 fun ar j=>(RL.dR ([p1]: (List aL)) j [ar] xd K5 (fun M hs g=>⟨(g.sat 0 _ zr).1,zt⟩) fun ay w j=>?_)))
  have j:=j.freeze 0
  obtain⟨az,au,hb⟩:=bd hb
  refine RL.app 2 0 j K6 au fun av w j=>?_
  refine aQ av (RL.nt (RC.ret ?_))
  obtain rfl:=oi hb
  exact bX (j.pk 4 [2])
 refine RC.sr (mv v0 (mv (vi p0.length) (RL.gl (p0.length:Int) 1 (RL.aX zr zv (RL.aN 1 j zr ll cJ ?_)))))
 obtain⟨a0,ag,hb⟩:=bd hb
 refine RL.bQ 0 j zr zr xd ag (RL.jV (α:=aL) (jg 0 j ag 0) zv ?_)
 have j:=j.sc Int p1.to
 refine RL.gL 1 0 j (jg 1 j ag 1) (bF ag).2.1 zr ln cJ fun w j=>?_
 refine RL.ns (mv v0 (aQ v0 (RL.nt (RC.rt ?_))))
 obtain rfl:=oi hb
 exact bX (j.pk 3 [1])
theorem oM {p0: (List aL)} {res: (List aI)} (j:Holds E w V) (h0:V[i0]? =some (rd v0 p0)) (o:jh N p0=some res):
    Calls bO 100 [v0].toArray w (gW (fX E V res)):=by
 unfold jh at o
 refine enter Tryz.func100 zr zr ?_
 have j:=j.dup (i0+0) h0
 refine RC.sr (aQ (.slice none 0 0) (RL.ns (aQ (.slice none 0 0) (RL.nq (RC.sr (aQ (vi 0) (RL.nt ?_)))))))
 obtain⟨a7,hN,o⟩:=bd o
 refine RC.iter (fun(aa: (List aI)×Int) U w=>∃ao:Value,SH E V [(0,v0),(3,ao),(4,vi aa.2)] [rd v0 p0,own 59 ao aa.1] U w) (fun(aa: (List aI)×Int) U w=>∃ad:Value,SH E V [(3,ad)] [rd v0 p0,own 59 ad aa.1] U w) (fun(r:Empty) _ _=>r.elim) hN ?_ ?_ ?_ ?_
 ·have j:=j.cO aI 59
  exact⟨(.slice none 0 0),j.sp 2 [1,0]⟩
 ·rintro aa fl _ w ⟨aq,O,rfl,j⟩ o
  refine RC.seq (RC.sr (mv (vi aa.2) (mv v0 (RL.bA 0 p0 j I7 (ic aa.2 ((p0.length:Int)) (RL.nt (dU o (fun hc o=>?_) fun hc o=>?_)))))))
  rotate_left
  ·refine RC.ex ?_
   obtain rfl:=oi o
   exact⟨rfl,aq,j.sp 2 [0,1]⟩
  refine RC.ss (RC.bs (aQ (vi 0) (RL.nt ?_)))
  obtain⟨a8,hN,o⟩:=bd o
  refine RC.iter (fun(ab: (List aI)×Int) U w=>∃ar:Value,SH E V [(0,v0),(3,ar),(4,vi aa.2),(5,vi ab.2)] [rd v0 p0,own 59 ar ab.1] U w) (fun(ab: (List aI)×Int) U w=>∃ai:Value,SH E V [(0,v0),(3,ai),(4,vi aa.2)] [rd v0 p0,own 59 ai ab.1] U w) (fun(r:Empty) _ _=>r.elim) hN ?_ ?_ ?_ ?_
  ·exact⟨aq,j.sp 2 [0,1]⟩
  ·rintro ab fl _ w ⟨al,O,rfl,j⟩ o
   refine RC.seq (RC.sr (mv (vi ab.2) (mv v0 (mv (vi aa.2) ?_))))
   obtain⟨an,aw,o⟩:=bd o
   refine RL.bP 0 j xd aw fun a9 j=>(RL.dX 0 j zr u5 gp fun ba j=>(RL.bL 0 an.iZ j Bt fun bb j=>(RL.bA 0 an.iZ j vL (ic ab.2 ((an.iZ.length:Int)) (RL.nt (dU o (fun hc o=>?_) fun hc o=>?_))))))
   rotate_left
   ·refine RC.ex ?_
    obtain rfl:=oi o
    exact⟨rfl,al,j.sp 5 [3,4]⟩
   refine RC.ss (RC.block (RC.v5 mixed [1,0,0,0,0,0,0,0,0,0,0,0,0,0,0,0,0,0,0,0,0,0,0,0,0,0,0,0,0,0,2,2,0] [0,1,2,3,4,5,6,7,8,9,10,11,12,13,14,15,16,17,18,19,20,21,22,23,24,25,26,27,28,29,30,31,32] ?_))
   have j:=j.drew
   refine DP.e1 al zr (fun w=>RL.move al zt DP.d1) (DP.e0 zr (mv v0 (aZ zr (mv (vi aa.2) (aZ zr ?_)))))
   obtain⟨ax,ay,o⟩:=bd o
   refine RL.bP 3 j xd ay fun bc j=>(aZ zr (RL.dX 0 j zr u5 gp fun bf j=>(aZ zr (RL.bL 0 ax.iZ j Bt fun bg j=>(aZ zr (mv (vi ab.2) (aZ zr ?_)))))))
   obtain⟨ae,az,o⟩:=bd o
   refine RL.bP 0 j oL az fun bh j=>(aZ zr (RL.dX 0 j zr pY eF fun bj j=>(aZ zr (RL.bD ae.from_ 0 j cJ (aZ zr (mv v0 (aZ zr (mv (vi aa.2) ?_))))))))
   refine aZ zr ?_
   obtain⟨af,a0,o⟩:=bd o
   refine RL.bP 8 j xd a0 fun bk j=>(aZ zr (RL.dX 0 j zr Fa nV fun bl j=>(aZ zr (RL.bD af.from_ 0 j cJ (aZ zr (mv v0 (aZ zr (mv (vi aa.2) ?_))))))))
   refine aZ zr ?_
   obtain⟨a1,a2,o⟩:=bd o
   refine RL.bP 10 j xd a2 fun bm j=>(aZ zr (RL.dX 0 j zr u5 gp fun bn j=>(aZ zr (RL.bL 0 a1.iZ j Bt fun bo j=>(aZ zr (mv (vi ab.2) (aZ zr ?_)))))))
   obtain⟨ag,a3,o⟩:=bd o
   refine RL.bP 0 j oL a3 fun bp j=>(aZ zr (RL.dX 0 j zr pX eG fun bq j=>(aZ zr (RL.bD ag.to 0 j cJ (aZ zr (mv v0 (aZ zr (mv (vi aa.2) ?_))))))))
   refine aZ zr ?_
   obtain⟨ah,a4,o⟩:=bd o
   refine RL.bP 15 j xd a4 fun br j=>(aZ zr (RL.dX 0 j zr zv ll fun bt j=>(aZ zr (RL.bD ah.to 0 j cJ (aZ zr ?_)))))
   have j:=(((j.sc Int ae.from_).sc Int af.from_).sc Int ag.to).sc Int ah.to
   refine RL.build (⟨ae.from_,af.from_,ag.to,ah.to⟩:aI) trivial rfl j [(0,vi ae.from_),(1,vi af.from_),(2,vi ag.to),(3,vi ah.to)] rfl Di rfl (fun M hs g=>by have h:=sX M;exact cT.cons (f:=fun(x:aI) y=>{x with X0:=y}) h oO (g.sat 3 _ rfl).1 fun _ h=>cT.cons (f:=fun(x:aI) y=>{x with Y0:=y}) h qf (g.sat 2 _ rfl).1 fun _ h=>cT.cons (f:=fun(x:aI) y=>{x with X1:=y}) h oQ (g.sat 1 _ rfl).1 fun _ h=>cT.cons (f:=fun(x:aI) y=>{x with Y1:=y}) h qg (g.sat 0 _ rfl).1 fun _ h=>cT.nil h) fun a5 j=>?_
   refine pP zr (RL.dR ([(⟨ae.from_,af.from_,ag.to,ah.to⟩:aI)]: (List aI)) j [a5] jk oA (fun M hs g=>⟨(g.sat 0 _ zr).1,zt⟩) fun bu w j=>(E7 zr ?_))
   have j:=j.freeze 0
   obtain⟨bw,a6,o⟩:=bd o
   refine RL.app 24 0 j zO a6 fun au w j=>?_
   refine tP zr (aQ au (DP.d0 (DP.z (bM (aH (RC.region (mv (vi ab.2) (RL.gl ab.2 1 ?_))))))))
   refine aQ (vi (IntKind.wrap .i64 (ab.2+1))) (RL.nil ?_)
   obtain rfl:=oi o
   exact⟨rfl,au,j.sp 25 [23,24]⟩
  ·intro r _ _ _ _
   exact r.elim
  rintro ab _ w rfl ⟨ai,O,rfl,j⟩
  rw [Fo.dA] at o
  refine bM (aH (RC.region (mv (vi aa.2) (RL.gl aa.2 1 (aQ (vi (IntKind.wrap .i64 (aa.2+1))) (RL.nil ?_))))))
  obtain rfl:=oi o
  exact⟨rfl,ai,j.sp 2 [0,1]⟩
 ·intro r _ _ _ _
  exact r.elim
 rintro aa _ w rfl ⟨ad,O,rfl,j⟩
 rw [Fo.dA] at o
 refine aH (RC.sr (mv ad (aQ ad (RL.nt (RC.ret ?_)))))
 obtain rfl:=oi o
 exact bX (j.pk 2 [1])
theorem ke {p0: (List aI)} {res: (List aI)} (j:Holds E w V) (h0:V[i0]? =some (rd v0 p0)) (o:eX N p0=some res):
    Calls bO 61 [v0].toArray w (gW (fX E V res)):=by
 unfold eX at o
 refine enter Tryz.func61 zr zr ?_
 have j:=j.dup (i0+0) h0
 refine RC.sr (aQ (.slice none 0 0) (RL.ns (mv v0 ?_)))
 obtain⟨ae,al,o⟩:=bd o
 refine RL.call zt zr K2 [v0] zr (aD (nv N (i0:=0) j zr al) ?_)
 rintro ab w j
 refine aQ ab (RL.ns (aQ (.slice none 0 0) (RL.nq (RC.sr (aQ (vi 1) (RL.nt ?_))))))
 obtain⟨a2,hN,o⟩:=bd o
 refine RC.iter (fun(aa: (List aL)×Int) U w=>∃aj:Value,SH E V [(0,v0),(3,ab),(4,aj),(5,vi aa.2)] [rd v0 p0,rd ab ae,own 140 aj aa.1] U w) (fun(aa: (List aL)×Int) U w=>∃ad:Value,SH E V [(4,ad)] [rd v0 p0,rd ab ae,own 140 ad aa.1] U w) (fun(r:Empty) _ _=>r.elim) hN ?_ ?_ ?_ ?_
 ·have j:=j.cO aL 140
  exact⟨(.slice none 0 0),j.sp 3 [2,1,0]⟩
 ·rintro aa fl _ w ⟨af,O,rfl,j⟩ o
  refine RC.seq (RC.sr (mv (vi aa.2) (mv ab (RL.bA 1 ae j ly (ic aa.2 ((ae.length:Int)) (RL.nt (dU o (fun hc o=>?_) fun hc o=>?_)))))))
  rotate_left
  ·refine RC.ex ?_
   obtain rfl:=oi o
   exact⟨rfl,af,j.sp 3 [0,1,2]⟩
  refine RC.ss (RC.block (RC.v5 mixed [1,1,1,1,1,1,1,1,1,1,0,0,0,0,0,0,2,0,2,0] [0,1,2,3,4,5,6,7,8,9,10,11,12,13,14,15,16,17,18,19] ?_))
  have j:=j.drew
  refine DP.e1 af zr (fun w=>RL.move af zt DP.d1) (DP.e1 ab zr (fun w=>RL.move ab zt DP.d1) (DP.e1 (vi aa.2) zr (fun w=>RL.move (vi aa.2) zt DP.d1) (DP.e1 (vi (IntKind.wrap .i64 (aa.2 - 1))) zr (fun w=>RL.gl aa.2 1 DP.d1) ?_)))
  obtain⟨ag,aq,o⟩:=bd o
  refine DP.v7 1 zr j dW aq fun a4 j=>(DP.re ag 0 zr j cJ fun a72 a5 j=>(DP.e1 ab zr (fun w=>RL.move ab zt DP.d1) (DP.e1 (vi aa.2) zr (fun w=>RL.move (vi aa.2) zt DP.d1) ?_)))
  obtain⟨ah,ar,o⟩:=bd o
  refine DP.v7 3 zr j dW ar fun a6 j=>(DP.re ah 0 zr j cJ fun a76 a7 j=>(DP.e0 zr (mv v0 (aZ zr (mv ab (aZ zr (mv (vi aa.2) (aZ zr ?_))))))))
  refine RL.gl aa.2 1 (aZ zr ?_)
  obtain⟨ai,au,o⟩:=bd o
  refine RL.bP 5 j dW au fun a8 j=>(aZ zr (RL.bD ai 0 j cJ (pP zr ?_)))
  obtain⟨av,aw,o⟩:=bd o
  refine RL.call zt zr Ik [v0,(vi ai)] zr (aD (kK N (p1:=ai) (i0:=5) j zr aw) ?_)
  rintro ax w j
  refine DP.d2 (⟨⟨zt,j.iq 4⟩,j.iq 2⟩) (DP.e0 zr ?_)
  have j:=((j.sc Int ag).sc Int ah).freeze 2
  refine RL.build (⟨ag,ah,av⟩:aL) trivial rfl j [(0,vi ag),(1,vi ah),(2,ax)] rfl I6 rfl (fun M hs g=>by have h:=o7 M;exact cT.cons (f:=fun(x:aL) y=>{x with from_:=y}) h nW (g.sat 1 _ rfl).1 fun _ h=>cT.cons (f:=fun(x:aL) y=>{x with to:=y}) h ln (g.sat 0 _ rfl).1 fun _ h=>cT.cons (f:=fun(x:aL) y=>{x with iZ:=y}) h nX (g.sat 2 _ rfl).1 fun _ h=>cT.nil h) fun ay j=>?_
  refine pP zr ?_
  have j:=j.pull 11
  obtain⟨a9,az,o⟩:=bd o
  refine RL.call zt zr K7 [af,ay] zr (aD (ny N (i1:=0) j zr az) ?_)
  rintro ak w j
  refine DP.d2 (⟨⟨zt,j.iq 8⟩,j.iq 6⟩) (DP.e0 zr (aQ ak (DP.d0 ?_)))
  have j:=j.pl 13 [0,1,2,3,4,5,7,9,10,11,12]
  refine DP.z (bM (aH (RC.region (mv (vi aa.2) (RL.gl aa.2 1 (aQ (vi (IntKind.wrap .i64 (aa.2+1))) (RL.nil ?_)))))))
  obtain rfl:=oi o
  exact⟨rfl,ak,j.sp 11 [8,9,0]⟩
 ·intro r _ _ _ _
  exact r.elim
 rintro aa _ w rfl ⟨ad,O,rfl,j⟩
 rw [Fo.dA] at o
 refine aH (RC.sr (mv ad ?_))
 have j:=j.freeze 2
 obtain⟨ba,a0,o⟩:=bd o
 refine RL.call zt zr I8 [ad] zr (aD (oM N (i0:=2) j zr a0) ?_)
 rintro a1 w j
 refine aQ a1 (RL.nt (RC.ret ?_))
 obtain rfl:=oi o
 exact bX (j.pk 4 [0])
def q6 (E:World) (V:List HP) (r:Bool) (U:Nat->Value) (w:World):Prop:=mh bO 26 Tryz.f91 (aV E V r) .ret U w
theorem qG {p0: (List aI)} {p1: (List aI)} {res:Bool} (j:Holds E w V) (h0:V[i0]? =some (rd v0 p0)) (h1:V[i1]? =some (rd v1 p1)) (o:jK N p0 p1=some res):
    Calls bO 91 [v0,v1].toArray w (gW (aV E V res)):=by
 unfold jK at o
 refine enter Tryz.func91 zr zr ?_
 have j:=(j.dup (i0+0) h0).dup (i1+1) h1
 refine RC.sr (aQ (vb false) (RL.nq (RC.sr (mv v0 (RL.bA 1 p0 j nc (mv v1 (RL.bA 0 p1 j nc (ic ((p0.length:Int)) ((p1.length:Int)) ?_))))))))
 refine RL.nt (dU o (fun hc o=>?_) fun hc o=>?_)
 ·refine RC.sr (aQ (vb false) (RL.nt (RC.rt ?_)))
  obtain rfl:=oi o
  exact bX ⟨rfl,j.drop 2⟩
 refine RC.ss (RC.sr (aQ (vi 0) (RL.nt ?_)))
 obtain⟨aj,hN,o⟩:=bd o
 refine RC.iter (fun(aa:Int)=>SH E V [(0,v0),(1,v1),(5,vi aa)] [rd v0 p0,rd v1 p1]) (fun(aa:Int)=>SH E V [] [rd v0 p0,rd v1 p1]) (q6 E V) hN ?_ ?_ ?_ ?_
 ·exact j.sp 2 [1,0]
 ·rintro aa fl _ w ⟨O,rfl,j⟩ o
  refine RC.seq (RC.sr (mv (vi aa) (mv v0 (RL.bA 0 p0 j nc (ic aa ((p0.length:Int)) (RL.nt (dU o (fun hc o=>?_) fun hc o=>?_)))))))
  rotate_left
  ·refine RC.ex ?_
   obtain rfl:=oi o
   exact⟨rfl,j.sp 2 [0,1]⟩
  refine RC.ss (RC.block (RC.seq (RC.zf mixed ?_)))
  have j:=j.drew
  refine RO.go (mv v0 (RO.nx (mv (vi aa) (RO.nx ?_))))
  obtain⟨ad,ag,o⟩:=bd o
  refine RL.bP 0 j jk ag fun al j=>(RO.nx (RL.bL 0 ad j iF fun an j=>(RO.nx (mv v1 (RO.nx (mv (vi aa) (RO.nx ?_)))))))
  obtain⟨ae,ah,o⟩:=bd o
  refine RL.bP 3 j jk ah fun ao j=>(RO.nx (RL.bL 0 ae j iF fun aq j=>(RO.nx (RL.LM 2 0 ad ae zr j zr zr zr zr GV zr (RO.last (aH (dU o (fun hc o=>?_) fun hc o=>?_)))))))
  ·refine RC.sr (aQ (vb false) (RL.nt (RC.rb (bT ?_))))
   obtain rfl:=oi o
   exact⟨rfl,bX ⟨rfl,j.drop 6⟩⟩
  refine RC.skip (bM (aH (RC.region (mv (vi aa) (RL.gl aa 1 (aQ (vi (IntKind.wrap .i64 (aa+1))) (RL.nil ?_)))))))
  obtain rfl:=oi o
  exact⟨rfl,j.sp 6 [4,5]⟩
 ·intro r U w e hK
  subst e
  refine bT ?_
  obtain rfl:=oi o
  exact hK
 rintro aa _ w rfl ⟨O,rfl,j⟩
 rw [Fo.dA] at o
 refine aH (RC.sr (aQ (vb true) (RL.nt (RC.ret ?_))))
 obtain rfl:=oi o
 exact bX ⟨rfl,j.drop 2⟩
def p5 (E:World) (V:List HP) (r:Int) (U:Nat->Value) (w:World):Prop:=mh bO 32 Tryz.f56 (aW E V r) .ret U w
theorem lL {p0: (List aI)} (o:Holds E w V) (h0:V[i0]? =some (rd v0 p0)) (j:fE N p0=some res):
    Calls bO 56 [v0].toArray w (gW (aW E V res)):=by
 unfold fE at j
 refine enter Tryz.func56 zr zr ?_
 have o:=o.dup (i0+0) h0
 refine RC.sr (aQ (vi 0) (RL.nq (RC.sr (mv v0 ?_))))
 obtain⟨ad,ae,j⟩:=bd j
 refine RL.call zt zr MA [v0] zr (aD (p4 N (i0:=0) o zr ae) ?_)
 rintro _ w ⟨rfl,o⟩
 refine aQ (vi ad) (RL.ns (mv (vi ad) (ic ad 0 (RL.nt (dU j (fun hc j=>?_) fun hc j=>?_)))))
 ·refine RC.sr (mv (vi ad) (aQ (vi ad) (RL.nt (RC.rt ?_))))
  obtain rfl:=oi j
  exact bX ⟨rfl,o.drop 1⟩
 refine RC.ss (RC.sr (aQ (vi 1) (RL.nt ?_)))
 obtain⟨ax,hN,j⟩:=bd j
 refine RC.iter (fun(aa:Int)=>SH E V [(0,v0),(4,vi aa)] [rd v0 p0]) (fun(aa:Int)=>SH E V [(0,v0)] [rd v0 p0]) (p5 E V) hN ?_ ?_ ?_ ?_
 ·exact o.sp 1 [0]
 ·rintro aa fl _ w ⟨O,rfl,o⟩ j
  refine RC.seq (RC.sr (mv (vi aa) (mv v0 (RL.bA 0 p0 o nc (ic aa ((p0.length:Int)) (RL.nt (dU j (fun hc j=>?_) fun hc j=>?_)))))))
  rotate_left
  ·refine RC.ex ?_
   obtain rfl:=oi j
   exact⟨rfl,o.sp 1 [0]⟩
  refine RC.ss (RC.block (RC.seq (RC.v5 mixed [0,0,0,0,0,0,0,0,0,2,0] [0,1,2,3,4,5,6,7,8,9,10] ?_)))
  have o:=o.drew
  refine DP.e0 zr (mv v0 (aZ zr (mv (vi aa) (aZ zr (RL.gl aa 1 (aZ zr ?_))))))
  obtain⟨ag,ah,j⟩:=bd j
  refine RL.bP 0 o jk ah fun az o=>(aZ zr (RL.bL 0 ag o iF fun ai o=>(aZ zr (mv v0 (aZ zr (mv (vi aa) (aZ zr ?_)))))))
  obtain⟨aj,ak,j⟩:=bd j
  refine RL.bP 2 o jk ak fun a0 o=>(aZ zr (RL.bL 0 aj o iF fun al o=>(pP zr ?_)))
  obtain⟨an,ao,j⟩:=bd j
  refine RL.call zt zr K1 [ai,al] zr (aD (n0 N (i0:=2) (i1:=0) o zr zr ao) ?_)
  rintro _ w ⟨rfl,o⟩
  refine tP zr (RL.not an (DP.d0 (DP.z (aH (dU j (fun hc j=>?_) fun hc j=>?_)))))
  ·refine RC.sr (aQ (vi 8) (RL.nt (RC.rb (bT ?_))))
   obtain rfl:=oi j
   exact⟨rfl,bX ⟨rfl,o.drop 5⟩⟩
  refine RC.skip (bM (aH (RC.region (mv (vi aa) (RL.gl aa 1 (aQ (vi (IntKind.wrap .i64 (aa+1))) (RL.nil ?_)))))))
  obtain rfl:=oi j
  exact⟨rfl,o.sp 5 [4]⟩
 ·intro r U w e hK
  subst e
  refine bT ?_
  obtain rfl:=oi j
  exact hK
 rintro aa _ w rfl ⟨O,rfl,o⟩
 rw [Fo.dA] at j
 refine aH (RC.seq (RC.sr (mv v0 (mv v0 ?_))))
 obtain⟨a1,ar,j⟩:=bd j
 refine RL.call zt zr JO [v0] zr (aD (ke N (i0:=0) o zr ar) ?_)
 rintro au w o
 have o:=o.freeze 0
 obtain⟨av,aw,j⟩:=bd j
 refine RL.call zt zr MB [v0,au] zr (aD (qG N (i0:=1) (i1:=0) o zr zr aw) ?_)
 rintro _ w ⟨rfl,o⟩
 refine RL.not av (RL.nt (dU j (fun hc j=>?_) fun hc j=>?_))
 ·refine RC.sr (aQ (vi 3) (RL.nt (RC.rt ?_)))
  obtain rfl:=oi j
  exact bX ⟨rfl,o.drop 2⟩
 refine RC.sx (aQ (vi 0) (RL.nt (RC.ret ?_)))
 obtain rfl:=oi j
 exact bX ⟨rfl,o.drop 2⟩
theorem iH {res:Bool} (o:Holds E w V) (j:dY N p0 p1 p2=some res):
    Calls bO 58 [(vi p0),(vi p1),(vi p2)].toArray w (gW (aV E V res)):=by
 unfold dY at j
 refine enter Tryz.func58 zr zr (RC.sr (aQ (vb false) (RL.ns (mv (vi p0) (mv (vi p1) (ic p0 p1 (mv (vb (decide (p0>=p1))) (RL.gs true (decide (p0>=p1)) (vi p0) zr zr zr cH ?_))))))))
 refine RL.gs true (decide (p0>=p1)) (vi p2) rfl rfl rfl cH (RL.gs true (decide (p0>=p1)) (vb (decide (p0<=p2))) rfl rfl rfl (dI .leq .i64 p0 p2 rfl (fun h=>by exact(cK h:cv (true&&((decide (p0>=p1))==true)) (vi p0)= (vi p0))) (fun h=>by exact(cK h:cv (true&&((decide (p0>=p1))==true)) (vi p2)= (vi p2))) rfl) (RL.pick (decide (p0>=p1)) (vb ((decide (p0>=p1))&&(decide (p0<=p2)))) (gr true rfl) (aQ (vb ((decide (p0>=p1))&&(decide (p0<=p2)))) (RL.nt (RC.ret ?_)))))
 obtain rfl:=oi j
 exact bX ⟨rfl,o.drop 0⟩
theorem nz {p0:jt} {res:Bool} (j:Holds E w V) (h0:V[i0]? =some (rd v0 p0)) (hb:fZ N p0=some res):
    Calls bO 92 [v0].toArray w (gW (aV E V res)):=by
 unfold fZ at hb
 refine enter Tryz.func92 zr zr ?_
 have j:=j.dup (i0+0) h0
 refine RC.sr (RL.dJ 0 v0 j zr fun ai w j=>?_)
 refine aQ (vb false) (RL.nq ?_)
 obtain⟨ad,o,hb⟩:=bd hb
 refine RC.jn (fun(ad:Bool)=>SH E V [(2,vb ad)] []) ad ?_ ?_
 ·refine RC.region (RL.aX zr v8 (RL.aN 0 j zr nL cJ ?_))
  obtain⟨af,ag,o⟩:=bd o
  refine RL.call zt zr A4 [(vi p0.X)] zr (aD (eK N (p0:=p0.X) j ag) ?_)
  rintro _ w ⟨rfl,j⟩
  refine mv (vb af) (fC o (fun aa o=>?_) fun aa o=>?_)
  rotate_left
  ·refine bG aa (bG aa (bG aa (fL aa (vb false) (aQ (vb false) (RL.nil ?_)))))
   obtain rfl:=oi o
   exact⟨rfl,j.sp 2 []⟩
  refine RL.aX (hg:=(cg aa)) zr v9 (RL.aN (hg:=(cg aa)) 0 j zr nM cJ ?_)
  obtain⟨ae,ah,o⟩:=bd o
  refine RL.call (cg aa) zr A4 [(vi p0.Y)] zr (aD (eK N (p0:=p0.Y) j ah) ?_)
  rintro _ w ⟨rfl,j⟩
  refine fL aa (vb ae) (aQ (vb ae) (RL.nil ?_))
  obtain rfl:=oi o
  exact⟨rfl,j.sp 2 []⟩
 rintro _ w ⟨O,rfl,j⟩
 refine aH (RC.ret ?_)
 obtain rfl:=oi hb
 exact bX ⟨rfl,j.drop 0⟩
theorem fG {p0:cE} {res:aI} (j:Holds E w V) (h0:V[i0]? =some (rd v0 p0)) (o:cI N p0=some res):
    Calls bO 26 [v0].toArray w (gW (oD E V res)):=by
 unfold cI at o
 refine enter Tryz.func26 zr zr ?_
 have j:=j.dup (i0+0) h0
 refine RC.sr (RL.dJ 0 v0 j zr fun aa w j=>?_)
 refine RL.alloc j oA.z fun ab w j=>?_
 refine RL.nq (RC.zf mixed ?_)
 have j:=j.drew
 refine RO.go (RL.aX zr x8 (RO.nx (RL.aX zr v8 (RO.nx (RL.aN (f:=(fun x=>x.At.X)) 1 j zr (Fd.comp (f:=fun(x:cE)=>x.At) (fun(x:jt)=>x.X) qh nL) cJ (RO.nx (RL.aX zr rz (RO.nx ?_))))))))
 refine RL.aN 1 j zr lV cJ (RO.nx (RL.quo p0.dE 2 (RO.nx (RL.gl p0.At.X (IntKind.wrap .i64 (Int.tdiv p0.dE 2)) (RO.nx (RL.aX zr x8 (RO.nx (RL.aX zr v9 ?_))))))))
 refine RO.nx (RL.aN (f:=(fun x=>x.At.Y)) 1 j zr (Fd.comp (f:=fun(x:cE)=>x.At) (fun(x:jt)=>x.Y) qh nM) cJ (RO.nx (RL.aX zr rz (RO.nx (RL.aN 1 j zr lV cJ (RO.nx (RL.quo p0.dE 2 (RO.nx ?_))))))))
 refine RL.gl p0.At.Y (IntKind.wrap .i64 (Int.tdiv p0.dE 2)) (RO.nx (aQ (vi (IntKind.wrap .i64 (p0.At.X - (IntKind.wrap .i64 (Int.tdiv p0.dE 2))))) (RO.nx (aQ (vi (IntKind.wrap .i64 (p0.At.Y - (IntKind.wrap .i64 (Int.tdiv p0.dE 2))))) (RO.last (aH (RC.sr (mv (vi (IntKind.wrap .i64 (p0.At.X - (IntKind.wrap .i64 (Int.tdiv p0.dE 2))))) ?_))))))))
 refine mv (vi (IntKind.wrap .i64 (p0.At.Y - (IntKind.wrap .i64 (Int.tdiv p0.dE 2))))) (mv (vi (IntKind.wrap .i64 (p0.At.X - (IntKind.wrap .i64 (Int.tdiv p0.dE 2))))) (RL.aX zr rz (RL.aN 1 j zr lV cJ (RL.gl (IntKind.wrap .i64 (p0.At.X - (IntKind.wrap .i64 (Int.tdiv p0.dE 2)))) p0.dE (mv (vi (IntKind.wrap .i64 (p0.At.Y - (IntKind.wrap .i64 (Int.tdiv p0.dE 2))))) (RL.aX zr rz (RL.aN 1 j zr lV cJ (RL.gl (IntKind.wrap .i64 (p0.At.Y - (IntKind.wrap .i64 (Int.tdiv p0.dE 2)))) p0.dE ?_))))))))
 have j:=((j.sc Int (IntKind.wrap .i64 (p0.At.X - (IntKind.wrap .i64 (Int.tdiv p0.dE 2))))).sc Int (IntKind.wrap .i64 (p0.At.Y - (IntKind.wrap .i64 (Int.tdiv p0.dE 2))))).sc Int (IntKind.wrap .i64 ((IntKind.wrap .i64 (p0.At.X - (IntKind.wrap .i64 (Int.tdiv p0.dE 2))))+p0.dE))
 have j:=j.sc Int (IntKind.wrap .i64 ((IntKind.wrap .i64 (p0.At.Y - (IntKind.wrap .i64 (Int.tdiv p0.dE 2))))+p0.dE))
 refine RL.build (⟨(IntKind.wrap .i64 (p0.At.X - (IntKind.wrap .i64 (Int.tdiv p0.dE 2)))),(IntKind.wrap .i64 (p0.At.Y - (IntKind.wrap .i64 (Int.tdiv p0.dE 2)))),(IntKind.wrap .i64 ((IntKind.wrap .i64 (p0.At.X - (IntKind.wrap .i64 (Int.tdiv p0.dE 2))))+p0.dE)),(IntKind.wrap .i64 ((IntKind.wrap .i64 (p0.At.Y - (IntKind.wrap .i64 (Int.tdiv p0.dE 2))))+p0.dE))⟩:aI) trivial rfl j [(0,(vi (IntKind.wrap .i64 (p0.At.X - (IntKind.wrap .i64 (Int.tdiv p0.dE 2)))))),(1,(vi (IntKind.wrap .i64 (p0.At.Y - (IntKind.wrap .i64 (Int.tdiv p0.dE 2)))))),(2,(vi (IntKind.wrap .i64 ((IntKind.wrap .i64 (p0.At.X - (IntKind.wrap .i64 (Int.tdiv p0.dE 2))))+p0.dE)))),(3,(vi (IntKind.wrap .i64 ((IntKind.wrap .i64 (p0.At.Y - (IntKind.wrap .i64 (Int.tdiv p0.dE 2))))+p0.dE))))] rfl Di rfl (fun M hs g=>by have h:=sX M;exact cT.cons (f:=fun(x:aI) y=>{x with X0:=y}) h oO (g.sat 3 _ rfl).1 fun _ h=>cT.cons (f:=fun(x:aI) y=>{x with Y0:=y}) h qf (g.sat 2 _ rfl).1 fun _ h=>cT.cons (f:=fun(x:aI) y=>{x with X1:=y}) h oQ (g.sat 1 _ rfl).1 fun _ h=>cT.cons (f:=fun(x:aI) y=>{x with Y1:=y}) h qg (g.sat 0 _ rfl).1 fun _ h=>cT.nil h) fun ad j=>?_
 refine RL.cA 5 j 0 zr iF fun w j=>?_
 refine RL.nt (RC.ret ?_)
 obtain rfl:=oi o
 exact H0 5 zr j zr zr iF fun ae j=>(j.pk 9 [0])
theorem pI {p0:cE} (j:Holds E w V) (h0:V[i0]? =some (rd v0 p0)) (hb:gM N p0=some res):
    Calls bO 57 [v0].toArray w (gW (aW E V res)):=by
 unfold gM at hb
 refine enter Tryz.func57 zr zr ?_
 have j:=j.dup (i0+0) h0
 refine RC.sr (RL.dJ 0 v0 j zr fun an w j=>?_)
 refine aQ (vi 0) (RL.nq (RC.seq ?_))
 obtain⟨ah,o,hb⟩:=bd hb
 refine RC.jn (fun(ah:Bool)=>SH E V [(1,vp an 0),(13,vb ah)] [bx 57 an p0]) ah ?_ ?_
 ·refine RC.region (RL.aX zr rz (RL.aN 0 j zr lV cJ ?_))
  obtain⟨ao,av,o⟩:=bd o
  refine RL.call zt zr G9 [(vi p0.dE),(vi 1),(vi 10000)] zr (aD (iH N (p0:=p0.dE) (p1:=1) (p2:=10000) j av) ?_)
  rintro _ w ⟨rfl,j⟩
  refine RL.not ao (mv (vb (!ao)) (fC o (fun ab o=>?_) fun ab o=>?_))
  ·refine bG ab (bG ab (bG ab (bG ab (fL ab (vb true) (RL.nil ?_)))))
   obtain rfl:=oi o
   exact⟨rfl,j.sp 2 [0]⟩
  refine RL.aX (hg:=(cg ab)) zr x8 (RL.bE (hg:=(cg ab)) 0 j zr qh Dk fun aw j=>?_)
  obtain⟨aq,ax,o⟩:=bd o
  refine RL.call (cg ab) zr K9 [aw] zr (aD (nz N (i0:=0) j zr ax) ?_)
  rintro _ w ⟨rfl,j⟩
  refine RL.not (hg:=(cg ab)) aq (fL ab (vb (!aq)) (RL.nil ?_))
  obtain rfl:=oi o
  exact⟨rfl,j.sp 3 [1]⟩
 rintro _ w ⟨O,rfl,j⟩
 refine aH (dU hb (fun hc hb=>?_) fun hc hb=>?_)
 ·refine RC.sr (aQ (vi 1) (RL.nt (RC.rt ?_)))
  obtain rfl:=oi hb
  exact bX ⟨rfl,j.drop 1⟩
 refine RC.sx (RL.bE (f:=(fun x=>x)) 0 j zr Fd.self lE fun ay j=>?_)
 obtain⟨ag,az,hb⟩:=bd hb
 refine RL.call zt zr FV [ay] zr (aD (fG N (i0:=0) j zr az) ?_)
 rintro a4 w j
 refine RL.alloc j oA.z fun a5 w j=>?_
 refine RL.cA 0 j 1 zr iF fun w j=>?_
 refine RL.nq (RC.seq ?_)
 obtain⟨aj,o,hb⟩:=bd hb
 refine RC.jn (fun(aj:Bool)=>SH E V [(37,vb aj)] []) aj ?_ ?_
 ·refine RC.region (RL.aX zr ir (RL.aN 0 j zr dL cJ ?_))
  obtain⟨ar,a0,o⟩:=bd o
  refine RL.call zt zr A4 [(vi ag.X0)] zr (aD (eK N (p0:=ag.X0) j a0) ?_)
  rintro _ w ⟨rfl,j⟩
  refine RL.not ar (mv (vb (!ar)) (fC o (fun ad o=>?_) fun ad o=>?_))
  ·refine bG ad (bG ad (bG ad (bG ad (fL ad (vb true) (mv (vb true) (ko (ko (ko ?_))))))))
   refine ko (RL.pick true (vb true) zr (mv (vb true) (ko (ko (ko (ko (RL.pick true (vb true) zr (RL.nil ?_))))))))
   obtain rfl:=oi o
   exact⟨rfl,j.sp 4 []⟩
  refine RL.aX (hg:=(cg ad)) zr g8 (RL.aN (hg:=(cg ad)) 0 j zr dF cJ ?_)
  obtain⟨ak,a1,o⟩:=bd o
  refine RL.call (cg ad) zr A4 [(vi ag.Y0)] zr (aD (eK N (p0:=ag.Y0) j a1) ?_)
  rintro _ w ⟨rfl,j⟩
  refine RL.not (hg:=(cg ad)) ak (fL ad (vb (!ak)) (mv (vb (!ak)) (fC o (fun ae o=>?_) fun ae o=>?_)))
  ·refine bG ae (bG ae (bG ae (bG ae (fL ae (vb true) (mv (vb true) (ko (ko (ko ?_))))))))
   refine ko (RL.pick true (vb true) zr (RL.nil ?_))
   obtain rfl:=oi o
   exact⟨rfl,j.sp 4 []⟩
  refine RL.aX (hg:=(cg ae)) zr jl (RL.aN (hg:=(cg ae)) 0 j zr eE cJ ?_)
  obtain⟨al,a2,o⟩:=bd o
  refine RL.call (cg ae) zr A4 [(vi ag.X1)] zr (aD (eK N (p0:=ag.X1) j a2) ?_)
  rintro _ w ⟨rfl,j⟩
  refine RL.not (hg:=(cg ae)) al (fL ae (vb (!al)) (mv (vb (!al)) (fC o (fun af o=>?_) fun af o=>?_)))
  ·refine bG af (bG af (bG af (bG af (fL af (vb true) (RL.nil ?_)))))
   obtain rfl:=oi o
   exact⟨rfl,j.sp 4 []⟩
  refine RL.aX (hg:=(cg af)) zr kq (RL.aN (hg:=(cg af)) 0 j zr fF cJ ?_)
  obtain⟨au,a3,o⟩:=bd o
  refine RL.call (cg af) zr A4 [(vi ag.Y1)] zr (aD (eK N (p0:=ag.Y1) j a3) ?_)
  rintro _ w ⟨rfl,j⟩
  refine RL.not (hg:=(cg af)) au (fL af (vb (!au)) (RL.nil ?_))
  obtain rfl:=oi o
  exact⟨rfl,j.sp 4 []⟩
 rintro _ w ⟨O,rfl,j⟩
 refine aH (dU hb (fun hc hb=>?_) fun hc hb=>?_)
 ·refine RC.sr (aQ (vi 1) (RL.nt (RC.rt ?_)))
  obtain rfl:=oi hb
  exact bX ⟨rfl,j.drop 0⟩
 refine RC.sx (aQ (vi 0) (RL.nt (RC.ret ?_)))
 obtain rfl:=oi hb
 exact bX ⟨rfl,j.drop 0⟩
def te (E:World) (V:List HP) (r:Bool) (U:Nat->Value) (w:World):Prop:=mh bO 45 Tryz.f95 (aV E V r) .ret U w
theorem n8 {p0:eJ} {res:Bool} (hw:Holds E w V) (o:gv N p0=some res):
    Calls bO 95 [(str p0)].toArray w (gW (aV E V res)):=by
 unfold gv at o
 refine enter Tryz.func95 zr zr (RC.sr (aQ (vb false) (RL.nq (RC.sr (aQ (vi 0) (RL.nt ?_))))))
 obtain⟨aq,hN,o⟩:=bd o
 refine RC.iter (fun(ab:Int)=>SH E V [(0,(str p0)),(3,vi ab)] []) (fun(ab:Int)=>SH E V [(0,(str p0))] []) (te E V) hN ?_ ?_ ?_ ?_
 ·exact hw.sp 0 []
 ·rintro ab fl _ w ⟨O,rfl,hw⟩ o
  refine RC.seq (RC.sr (mv (vi ab) (mv (str p0) (RL.lens p0 A3 (ic ab ((p0.cX.length:Int)) (RL.nt (dU o (fun hc o=>?_) fun hc o=>?_)))))))
  rotate_left
  ·refine RC.ex ?_
   obtain rfl:=oi o
   exact⟨rfl,hw.sp 0 []⟩
  refine RC.ss (RC.bs (mv (str p0) (mv (vi ab) ?_)))
  obtain⟨j,aj,o⟩:=bd o
  refine RL.idxs p0 ab j zr zr zr A3 aj (aQ (.int .u8 (j.toNat:Int)) (RL.nq ?_))
  obtain⟨ag,hj,o⟩:=bd o
  refine RC.jn (fun(ag:Bool)=>SH E V [(0,(str p0)),(3,vi ab),(41,vb ag)] []) ag ?_ ?_
  ·refine RC.region (mv (.int .u8 (j.toNat:Int)) (ic ((j.toNat:Int)) 97 (mv (vb (decide ((j.toNat:Int)>=97))) (RL.gs true (decide ((j.toNat:Int)>=97)) (.int .u8 (j.toNat:Int)) rfl rfl rfl cH (RL.gs true (decide ((j.toNat:Int)>=97)) (vb (decide ((j.toNat:Int)<=122))) rfl rfl rfl (dI .leq .u8 (j.toNat:Int) 122 rfl (fun h=>by exact(cK h:cv (true&&((decide ((j.toNat:Int)>=97))==true)) (.int .u8 (j.toNat:Int))= (.int .u8 (j.toNat:Int)))) (fun _=>rfl) rfl) (RL.pick (decide ((j.toNat:Int)>=97)) (vb ((decide ((j.toNat:Int)>=97))&&(decide ((j.toNat:Int)<=122)))) (gr true rfl) (mv (vb ((decide ((j.toNat:Int)>=97))&&(decide ((j.toNat:Int)<=122)))) (RL.gs true ((decide ((j.toNat:Int)>=97))&&(decide ((j.toNat:Int)<=122))) (.int .u8 (j.toNat:Int)) rfl rfl rfl cH ?_))))))))
   refine RL.gs true ((decide ((j.toNat:Int)>=97))&&(decide ((j.toNat:Int)<=122))) (vb (decide ((j.toNat:Int)>=65))) rfl rfl rfl (dI .geq .u8 (j.toNat:Int) 65 rfl (fun h=>by exact(cK h:cv (true&&(((decide ((j.toNat:Int)>=97))&&(decide ((j.toNat:Int)<=122)))==false)) (.int .u8 (j.toNat:Int))= (.int .u8 (j.toNat:Int)))) (fun _=>rfl) rfl) (RL.gs true ((decide ((j.toNat:Int)>=97))&&(decide ((j.toNat:Int)<=122))) (vb (decide ((j.toNat:Int)>=65))) rfl rfl rfl (cH (hx:=fun h=>by exact(cK h:cv (true&&(((decide ((j.toNat:Int)>=97))&&(decide ((j.toNat:Int)<=122)))==false)) (vb (decide ((j.toNat:Int)>=65)))= (vb (decide ((j.toNat:Int)>=65)))))) (RL.gs (true&&(((decide ((j.toNat:Int)>=97))&&(decide ((j.toNat:Int)<=122)))==false)) (decide ((j.toNat:Int)>=65)) (.int .u8 (j.toNat:Int)) rfl rfl rfl cH (RL.gs (true&&(((decide ((j.toNat:Int)>=97))&&(decide ((j.toNat:Int)<=122)))==false)) (decide ((j.toNat:Int)>=65)) (vb (decide ((j.toNat:Int)<=90))) rfl rfl rfl (dI .leq .u8 (j.toNat:Int) 90 rfl (fun h=>by exact(cK h:cv ((true&&(((decide ((j.toNat:Int)>=97))&&(decide ((j.toNat:Int)<=122)))==false))&&((decide ((j.toNat:Int)>=65))==true)) (.int .u8 (j.toNat:Int))= (.int .u8 (j.toNat:Int)))) (fun _=>rfl) rfl) (RL.gs true ((decide ((j.toNat:Int)>=97))&&(decide ((j.toNat:Int)<=122))) (vb ((decide ((j.toNat:Int)>=65))&&(decide ((j.toNat:Int)<=90)))) rfl rfl rfl (kE (decide ((j.toNat:Int)>=65)) rfl (fun h=>by exact(cK h:cv (true&&(((decide ((j.toNat:Int)>=97))&&(decide ((j.toNat:Int)<=122)))==false)) (vb (decide ((j.toNat:Int)>=65)))= (vb (decide ((j.toNat:Int)>=65))))) (fun h=>by exact gr (true&&(((decide ((j.toNat:Int)>=97))&&(decide ((j.toNat:Int)<=122)))==false)) h)) (RL.pick ((decide ((j.toNat:Int)>=97))&&(decide ((j.toNat:Int)<=122))) (vb (((decide ((j.toNat:Int)>=97))&&(decide ((j.toNat:Int)<=122)))||((decide ((j.toNat:Int)>=65))&&(decide ((j.toNat:Int)<=90))))) (nR true) (mv (vb (((decide ((j.toNat:Int)>=97))&&(decide ((j.toNat:Int)<=122)))||((decide ((j.toNat:Int)>=65))&&(decide ((j.toNat:Int)<=90))))) (RL.gs true (((decide ((j.toNat:Int)>=97))&&(decide ((j.toNat:Int)<=122)))||((decide ((j.toNat:Int)>=65))&&(decide ((j.toNat:Int)<=90)))) (.int .u8 (j.toNat:Int)) rfl rfl rfl cH (RL.gs true (((decide ((j.toNat:Int)>=97))&&(decide ((j.toNat:Int)<=122)))||((decide ((j.toNat:Int)>=65))&&(decide ((j.toNat:Int)<=90)))) (vb (decide ((j.toNat:Int)>=48))) rfl rfl rfl (dI .geq .u8 (j.toNat:Int) 48 rfl (fun h=>by exact(cK h:cv (true&&((((decide ((j.toNat:Int)>=97))&&(decide ((j.toNat:Int)<=122)))||((decide ((j.toNat:Int)>=65))&&(decide ((j.toNat:Int)<=90))))==false)) (.int .u8 (j.toNat:Int))= (.int .u8 (j.toNat:Int)))) (fun _=>rfl) rfl) ?_))))))))
   refine RL.gs true (((decide ((j.toNat:Int)>=97))&&(decide ((j.toNat:Int)<=122)))||((decide ((j.toNat:Int)>=65))&&(decide ((j.toNat:Int)<=90)))) (vb (decide ((j.toNat:Int)>=48))) rfl rfl rfl (cH (hx:=fun h=>by exact(cK h:cv (true&&((((decide ((j.toNat:Int)>=97))&&(decide ((j.toNat:Int)<=122)))||((decide ((j.toNat:Int)>=65))&&(decide ((j.toNat:Int)<=90))))==false)) (vb (decide ((j.toNat:Int)>=48)))= (vb (decide ((j.toNat:Int)>=48)))))) (RL.gs (true&&((((decide ((j.toNat:Int)>=97))&&(decide ((j.toNat:Int)<=122)))||((decide ((j.toNat:Int)>=65))&&(decide ((j.toNat:Int)<=90))))==false)) (decide ((j.toNat:Int)>=48)) (.int .u8 (j.toNat:Int)) rfl rfl rfl cH (RL.gs (true&&((((decide ((j.toNat:Int)>=97))&&(decide ((j.toNat:Int)<=122)))||((decide ((j.toNat:Int)>=65))&&(decide ((j.toNat:Int)<=90))))==false)) (decide ((j.toNat:Int)>=48)) (vb (decide ((j.toNat:Int)<=57))) rfl rfl rfl (dI .leq .u8 (j.toNat:Int) 57 rfl (fun h=>by exact(cK h:cv ((true&&((((decide ((j.toNat:Int)>=97))&&(decide ((j.toNat:Int)<=122)))||((decide ((j.toNat:Int)>=65))&&(decide ((j.toNat:Int)<=90))))==false))&&((decide ((j.toNat:Int)>=48))==true)) (.int .u8 (j.toNat:Int))= (.int .u8 (j.toNat:Int)))) (fun _=>rfl) rfl) (RL.gs true (((decide ((j.toNat:Int)>=97))&&(decide ((j.toNat:Int)<=122)))||((decide ((j.toNat:Int)>=65))&&(decide ((j.toNat:Int)<=90)))) (vb ((decide ((j.toNat:Int)>=48))&&(decide ((j.toNat:Int)<=57)))) rfl rfl rfl (kE (decide ((j.toNat:Int)>=48)) rfl (fun h=>by exact(cK h:cv (true&&((((decide ((j.toNat:Int)>=97))&&(decide ((j.toNat:Int)<=122)))||((decide ((j.toNat:Int)>=65))&&(decide ((j.toNat:Int)<=90))))==false)) (vb (decide ((j.toNat:Int)>=48)))= (vb (decide ((j.toNat:Int)>=48))))) (fun h=>by exact gr (true&&((((decide ((j.toNat:Int)>=97))&&(decide ((j.toNat:Int)<=122)))||((decide ((j.toNat:Int)>=65))&&(decide ((j.toNat:Int)<=90))))==false)) h)) (RL.pick (((decide ((j.toNat:Int)>=97))&&(decide ((j.toNat:Int)<=122)))||((decide ((j.toNat:Int)>=65))&&(decide ((j.toNat:Int)<=90)))) (vb ((((decide ((j.toNat:Int)>=97))&&(decide ((j.toNat:Int)<=122)))||((decide ((j.toNat:Int)>=65))&&(decide ((j.toNat:Int)<=90))))||((decide ((j.toNat:Int)>=48))&&(decide ((j.toNat:Int)<=57))))) (nR true) (RL.not ((((decide ((j.toNat:Int)>=97))&&(decide ((j.toNat:Int)<=122)))||((decide ((j.toNat:Int)>=65))&&(decide ((j.toNat:Int)<=90))))||((decide ((j.toNat:Int)>=48))&&(decide ((j.toNat:Int)<=57)))) (mv (vb (!((((decide ((j.toNat:Int)>=97))&&(decide ((j.toNat:Int)<=122)))||((decide ((j.toNat:Int)>=65))&&(decide ((j.toNat:Int)<=90))))||((decide ((j.toNat:Int)>=48))&&(decide ((j.toNat:Int)<=57)))))) (fC hj (fun ad hj=>?_) fun ad hj=>?_)))))))
   rotate_left
   ·refine bG ad (bG ad (bG ad (fL ad (vb false) (RL.nil ?_))))
    obtain rfl:=oi hj
    exact⟨rfl,hw.sp 0 []⟩
   refine RL.move (.int .u8 (j.toNat:Int)) (cg ad) ?_
   obtain⟨ah,ak,hj⟩:=bd hj
   refine RL.call (cg ad) zr KE [(str ⟨[95,43,45,35]⟩),(.int .u8 (j.toNat:Int))] zr (aD (pg N (p0:=⟨[95,43,45,35]⟩) (p1:=(j.toNat:Int)) hw ak) ?_)
   rintro _ w ⟨rfl,hw⟩
   refine RL.kD ah 0 (cg ad) (fL ad (vb (decide (ah<0))) (RL.nil ?_))
   obtain rfl:=oi hj
   exact⟨rfl,hw.sp 0 []⟩
  rintro _ w ⟨O,rfl,hw⟩
  refine aH (dU o (fun hc o=>?_) fun hc o=>?_)
  ·refine RC.sr (aQ (vb false) (RL.nt (RC.rb (bT ?_))))
   obtain rfl:=oi o
   exact⟨rfl,bX ⟨rfl,hw.drop 0⟩⟩
  refine RC.skip (bM (aH (RC.region (mv (vi ab) (RL.gl ab 1 (aQ (vi (IntKind.wrap .i64 (ab+1))) (RL.nil ?_)))))))
  obtain rfl:=oi o
  exact⟨rfl,hw.sp 0 []⟩
 ·intro r U w e hK
  subst e
  refine bT ?_
  obtain rfl:=oi o
  exact hK
 rintro ab _ w rfl ⟨O,rfl,hw⟩
 rw [Fo.dA] at o
 refine aH (RC.sr (mv (str p0) (RL.lens p0 A3 ?_)))
 obtain⟨an,ao,o⟩:=bd o
 refine RL.call zt zr G9 [(vi p0.cX.length),(vi 1),(vi 40)] zr (aD (iH N (p0:=(p0.cX.length:Int)) (p1:=1) (p2:=40) hw ao) ?_)
 rintro _ w ⟨rfl,hw⟩
 refine aQ (vb an) (RL.nt (RC.ret ?_))
 obtain rfl:=oi o
 exact bX ⟨rfl,hw.drop 0⟩
def tf (E:World) (V:List HP) (r:Bool) (U:Nat->Value) (w:World):Prop:=mh bO 22 Tryz.f94 (aV E V r) .ret U w
theorem sd {p0:eJ} {res:Bool} (o:Holds E w V) (j:jB N p0=some res):
    Calls bO 94 [(str p0)].toArray w (gW (aV E V res)):=by
 unfold jB at j
 refine enter Tryz.func94 zr zr (RC.sr (aQ (vb false) (RL.ns (mv (str p0) ?_))))
 obtain⟨ad,ah,j⟩:=bd j
 refine RL.call zt zr KC [(str p0),(str ⟨[47]⟩)] zr (aD (r6 N (p0:=p0) (p1:=⟨[47]⟩) o ah) ?_)
 rintro ab w o
 refine aQ ab (RL.nq (RC.sr (aQ (vi 0) (RL.nt ?_))))
 obtain⟨an,hN,j⟩:=bd j
 refine RC.iter (fun(aa:Int)=>SH E V [(0,(str p0)),(3,ab),(4,vi aa)] [own 9 ab ad]) (fun(aa:Int)=>SH E V [(0,(str p0))] [own 9 ab ad]) (tf E V) hN ?_ ?_ ?_ ?_
 ·exact o.sp 1 [0]
 ·rintro aa fl _ w ⟨O,rfl,o⟩ j
  refine RC.seq (RC.sr (mv (vi aa) (mv ab (RL.fS 0 ad o I1 (ic aa ((ad.length:Int)) (RL.nt (dU j (fun hc j=>?_) fun hc j=>?_)))))))
  rotate_left
  ·refine RC.ex ?_
   obtain rfl:=oi j
   exact⟨rfl,o.sp 1 [0]⟩
  refine RC.ss (RC.bs (mv ab (mv (vi aa) ?_)))
  obtain⟨ag,af,j⟩:=bd j
  refine RL.bQ 0 o zr zr Dl af (RL.dQ (f:=(fun x=>x)) 0 o (jg 0 o af 0) (bF af).2.1 Fd.self AQ ?_)
  obtain⟨aj,ak,j⟩:=bd j
  refine RL.call zt zr Lb [(str ag)] zr (aD (n8 N (p0:=ag) o ak) ?_)
  rintro _ w ⟨rfl,o⟩
  refine RL.not aj (RL.nt (dU j (fun hc j=>?_) fun hc j=>?_))
  ·refine RC.sr (aQ (vb false) (RL.nt (RC.rb (bT ?_))))
   obtain rfl:=oi j
   exact⟨rfl,bX ⟨rfl,o.drop 1⟩⟩
  refine RC.skip (bM (aH (RC.region (mv (vi aa) (RL.gl aa 1 (aQ (vi (IntKind.wrap .i64 (aa+1))) (RL.nil ?_)))))))
  obtain rfl:=oi j
  exact⟨rfl,o.sp 1 [0]⟩
 ·intro r U w e hK
  subst e
  refine bT ?_
  obtain rfl:=oi j
  exact hK
 rintro aa _ w rfl ⟨O,rfl,o⟩
 rw [Fo.dA] at j
 refine aH (RC.sr (mv (str p0) (RL.lens p0 A3 (ic ((p0.cX.length:Int)) 200 (aQ (vb (decide ((p0.cX.length:Int)<=200))) (RL.nt (RC.ret ?_)))))))
 obtain rfl:=oi j
 exact bX ⟨rfl,o.drop 1⟩
end Go.Gk
