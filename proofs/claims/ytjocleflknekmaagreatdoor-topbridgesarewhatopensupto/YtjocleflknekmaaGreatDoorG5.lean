/-
  Printed texts: Go functions as plain functions, and that they are. No statement of the seed is proved here.
-/
import Derived.Test.YtjocleflknekmaaGreatDoorG1
import Derived.Test.YtjocleflknekmaaGreatDoorG4
import Derived.Test.YtjocleflknekmaaGreatDoorA2
set_option linter.unusedVariables false
set_option linter.unusedSimpArgs false
set_option linter.unusedSectionVars false
set_option maxRecDepth 100000
set_option maxHeartbeats 40000000
namespace Go.Gk
open Go Go.Proofs
variable (N:Nat) {E w:World} {b0 i0 i1 i2:Nat} {p0 p1 res:Int} {v0 v0_0 v0_1 v0_10 v0_11 v0_2 v0_3 v0_4 v0_5 v0_6 v0_7 v0_8 v0_9 v1 v2:Value} {V:List HP}
def rY (E:World) (V:List HP) (b0:Nat) (v0_0 v0_1:Value) (v0_2 v0_3:Value) (v0_4 v0_5:Value) (v0_6 v0_7:Value) (v0_8 v0_9:Value) (v0_10 v0_11:Value) (res:bE×bE×Bool×Int) (v:Value) (w:World):Prop:=∃u0 u1:Value,v = .tuple #[u0,u1,(vb res.2.2.1),(vi res.2.2.2)]/\Holds E w ([rd u0 res.1,rd u1 res.2.1,bc 79 b0 [v0_0,v0_1,v0_2,v0_3,v0_4,v0_5,v0_6,v0_7,v0_8,v0_9,v0_10,v0_11]]++V)
theorem mP {p0_0: (List (List aI))} {p0_1: (List aI)} {p0_2: (List bW)} {p0_3: (List dL)} {p0_10: (List Int)} {p0_11: (List bE)} {p1 p2:fX} {res:bE×bE×Bool×Int} (j:Holds E w (bc 79 b0 [v0_0,v0_1,v0_2,v0_3,v0_4,v0_5,v0_6,v0_7,v0_8,v0_9,v0_10,v0_11]::rd v0_0 p0_0::rd v0_1 p0_1::rd v0_2 p0_2::rd v0_3 p0_3::rd v0_10 p0_10::rd v0_11 p0_11::V)) (h1:V[i1]? =some (rd v1 p1)) (h2:V[i2]? =some (rd v2 p2)) (hb:fE N p0_0 p0_1 p0_2 p0_3 p0_10 p0_11 p1 p2=some res):
    Calls bH 10 [(vp b0 0),v1,v2].toArray w (gI (rY E V b0 v0_0 v0_1 v0_2 v0_3 v0_4 v0_5 v0_6 v0_7 v0_8 v0_9 v0_10 v0_11 res)):=by
 unfold fE at hb
 refine enter Tryz.func10 zr zr ?_
 have j:=(j.dup (i1+7) h1).dup (i2+8) h2
 refine RC.sr (RL.cR 1 v1 j zr fun a7 w j=>?_)
 have j:=j.gm (i:=0) rfl
 refine RL.cR 1 v2 j zr fun a8 w j=>?_
 have j:=j.gm (i:=0) rfl
 refine RL.nM j Ie fun ao w j=>?_
 refine RL.nM j Ie fun aq w j=>?_
 refine aM (vb false) (aM (vi 0) (RL.nq ?_))
 have j:=j.drew
 refine RC.CN (fun w=>Holds E w ([bc 79 b0 [v0_0,v0_1,v0_2,v0_3,v0_4,v0_5,v0_6,v0_7,v0_8,v0_9,v0_10,v0_11]]++V)) mixed zr [0,0,0,0,0,2,1,1,1,1,1,2,0,0] [0,1,2,3,4,6,7,8,9,10,5,11,12,13] (j.pk 13 [6]) (DP.e0 zr (mv (vp b0 0) (cT zr (RL.nilCheck zr (cT zr (RL.bF zr l3 (cT zr (RL.zN (cs:=[v0_0,v0_1,v0_2,v0_3]) 6 zt zr j zr zr tD zr zr ?_))))))))
 refine cT zr (RL.bU 3 p1 j oj fun a5 j=>(DP.d0 (DP.e1 (vp b0 0) zr (fun w=>RL.move (vp b0 0) zt DP.d1) (DP.e1 (vp b0 0) zr (fun w=>RL.nilCheck zr DP.d1) (DP.e1 (vp b0 0) zr (fun w=>RL.bF zr l3 DP.d1) (DP.Gc (.agg ([v0_0,v0_1,v0_2,v0_3]:List Value).toArray) zr (fun w j=>RL.zN (cs:=[v0_0,v0_1,v0_2,v0_3]) 0 zt zr j zr zr tD zr zr DP.d1) (DP.wj p2 3 zr j oj fun a6 a37 b5 j=>(DP.e2 zr ?_))))))))
 have j:=j.A6 (cs:=[v0_0,v0_1,v0_2,v0_3]) (x:=(⟨p0_0,p0_1,p0_2,p0_3⟩:iW)) (fun M hs g=>⟨[v0_0],[v0_1,v0_2,v0_3],rfl,(mV (g.sat 10 _ rfl).1),⟨[v0_1],[v0_2,v0_3],rfl,(mV (g.sat 11 _ rfl).1),⟨[v0_2],[v0_3],rfl,(mV (g.sat 12 _ rfl).1),(mV (g.sat 13 _ rfl).1)⟩⟩⟩) rfl
 obtain⟨ar,bf,hb⟩:=bd hb
 refine RL.call zt zr FE [(.agg ([v0_0,v0_1,v0_2,v0_3]:List Value).toArray),a5] zr (aF (kM N (i0:=0) (i1:=3) j zr zr bf) ?_)
 rintro _ w ⟨rfl,j⟩
 refine DP.d2 (⟨j.pk 17 [10],j.kV 1⟩) (DP.e2 zr ?_)
 have j:=j.A6 (cs:=[v0_0,v0_1,v0_2,v0_3]) (x:=(⟨p0_0,p0_1,p0_2,p0_3⟩:iW)) (fun M hs g=>⟨[v0_0],[v0_1,v0_2,v0_3],rfl,(mV (g.sat 11 _ rfl).1),⟨[v0_1],[v0_2,v0_3],rfl,(mV (g.sat 12 _ rfl).1),⟨[v0_2],[v0_3],rfl,(mV (g.sat 13 _ rfl).1),(mV (g.sat 14 _ rfl).1)⟩⟩⟩) rfl
 obtain⟨aw,bg,hb⟩:=bd hb
 refine RL.call zt zr FE [(.agg ([v0_0,v0_1,v0_2,v0_3]:List Value).toArray),a6] zr (aF (kM N (i0:=0) (i1:=3) j zr zr bg) ?_)
 rintro _ w ⟨rfl,j⟩
 refine DP.d2 (⟨j.pk 18 [11],j.kV 2⟩) (DP.e0 zr (aM (vi ar) (cT zr (aM (vi aw) (DP.d0 ?_)))))
 have j:=j.pl 18 [0,1,3,4,5,6,7,8,9,10,11,12,13,14,15,16,17]
 refine DP.z (aG (RC.seq (RC.sr (mv (vi ar) (ic ar 0 (mv (vb (decide (ar<0))) (RL.gs true (decide (ar<0)) (vi aw) rfl rfl rfl dE (RL.gs true (decide (ar<0)) (vb (decide (aw<0))) rfl rfl rfl (eG .lss .i64 aw 0 rfl (fun h=>by exact(cY h:cv (true&&((decide (ar<0))==false)) (vi aw)= (vi aw))) (fun _=>rfl) rfl) ?_))))))))
 refine RL.pick (decide (ar<0)) (vb ((decide (ar<0))||(decide (aw<0)))) (mH true zr) (RL.nt (fy hb (fun hc hb=>?_) fun hc hb=>?_))
 ·refine RC.seq (RC.Ba E V mixed [0,0,0,0,1,1] [0,1] (fun(x:Value×Value)=>(fun ax ay=>[(0,30,ax),(1,31,ay),(4,8,(vb false)),(5,9,(vi 9))]) x.1 x.2) [(0,vp b0 0),(6,vp ao 0),(7,vp aq 0)] [] (fun(D:Nat->Bool) (x:Value×Value)=>(fun ax ay=>[bif D 0 then (rd ax (⟨false,0⟩:bE)) else aU,bif D 1 then (rd ay (⟨false,0⟩:bE)) else aU,rd (.agg ([v0_0,v0_1,v0_2,v0_3]:List Value).toArray) (⟨p0_0,p0_1,p0_2,p0_3⟩:iW),rd (.agg ([v0_0,v0_1,v0_2,v0_3]:List Value).toArray) (⟨p0_0,p0_1,p0_2,p0_3⟩:iW),rd a6 p2,rd a5 p1,bif D 1 then (bx 38 aq (⟨false,0⟩:bE)) else (bc 38 aq [(vb false),(vi 0)]),bif D 0 then (bx 38 ao (⟨false,0⟩:bE)) else (bc 38 ao [(vb false),(vi 0)]),pt (vp a8 0) p2,pt (vp a7 0) p1,rd v2 p2,rd v1 p1,bc 79 b0 [v0_0,v0_1,v0_2,v0_3,v0_4,v0_5,v0_6,v0_7,v0_8,v0_9,v0_10,v0_11],rd v0_0 p0_0,rd v0_1 p0_1,rd v0_2 p0_2,rd v0_3 p0_3,rd v0_10 p0_10,rd v0_11 p0_11]) x.1 x.2) (fun x=>by kernel_rfl) ?_ ⟨?_,?_,?_,?_,fun _=>zU gn,fun _=>zU gn,trivial⟩ ?_)
  ·have j:=((j.drew).aU).aU
   exact⟨(undef,undef),dX.none,(zZ zr),zt,j⟩
  ·rintro D U w hD aa ak ⟨⟨ax,ay⟩,o,ha,_,j⟩
   obtain⟨O,rfl⟩:=(ac (ha.at 1 rfl) az).dT
   have j:=((j.bM 0 hD).bM 7 hD).v8 (i:=7) (x:=(⟨false,0⟩:bE)) rfl (fun M hs g=>⟨[(vb false)],[(vi 0)],rfl,rfl,rfl⟩)
   refine RL.aR (f:=(fun x=>x)) 7 j zr Fd.self dD fun bj j=>?_
   have j:=((j.pl 20 [0,2,3,4,5,6,7,8,9,10,11,12,13,14,15,16,17,18,19]).bS 0 true rfl aU).bS 7 true rfl (bc 38 ao [(vb false),(vi 0)])
   exact RL.nil ⟨rfl,(bj,ay),o.pu 0,ha.u,zt,j⟩
  ·rintro D U w hD aa ak ⟨⟨ax,ay⟩,o,ha,_,j⟩
   obtain⟨O,rfl⟩:=(ac (ha.at 2 rfl) az).dT
   have j:=((j.bM 1 hD).bM 6 hD).v8 (i:=6) (x:=(⟨false,0⟩:bE)) rfl (fun M hs g=>⟨[(vb false)],[(vi 0)],rfl,rfl,rfl⟩)
   refine RL.aR (f:=(fun x=>x)) 6 j zr Fd.self dD fun bk j=>?_
   have j:=((j.pl 20 [1,0,3,4,5,6,7,8,9,10,11,12,13,14,15,16,17,18,19]).bS 1 true rfl aU).bS 6 true rfl (bc 38 aq [(vb false),(vi 0)])
   exact RL.nil ⟨rfl,(ax,bk),o.pu 1,ha.u,zt,j⟩
  ·rintro D U w hD aa ak ⟨⟨ax,ay⟩,o,ha,_,j⟩
   obtain⟨O,rfl⟩:=(ac (o.at 0 rfl (aa.1 rfl)) (ac (ha.at 1 rfl) az)).dT
   have j:=(j.bR 0 (aa.1 rfl)).bR 7 (aa.1 rfl)
   refine RL.tf 7 j zr zr zr 0 zr dD fun w j=>?_
   have j:=(j.bS 0 (D 0) (aa.1 rfl) aU).bS 7 (D 0) (aa.1 rfl) (bc 38 ao [(vb false),(vi 0)])
   exact RL.nil ⟨rfl,(ax,ay),o.n1,ha,zt,j⟩
  ·rintro D U w hD aa ak ⟨⟨ax,ay⟩,o,ha,_,j⟩
   obtain⟨O,rfl⟩:=(ac (o.at 1 rfl (aa.1 rfl)) (ac (ha.at 2 rfl) az)).dT
   have j:=(j.bR 1 (aa.1 rfl)).bR 6 (aa.1 rfl)
   refine RL.tf 6 j zr zr zr 1 zr dD fun w j=>?_
   have j:=(j.bS 1 (D 1) (aa.1 rfl) aU).bS 6 (D 1) (aa.1 rfl) (bc 38 aq [(vb false),(vi 0)])
   exact RL.nil ⟨rfl,(ax,ay),o.n1,ha,zt,j⟩
  rintro D U w al ⟨⟨ax,ay⟩,o,ha,_,j⟩
  have j:=(((j.bR 0 (gR al 0)).bR 1 (gR al 1)).bR 6 (gR al 1)).bR 7 (gR al 0)
  obtain⟨O,rfl⟩:=(ac (o.at 2 rfl (gR al 4)) (ac (o.at 3 rfl (gR al 5)) (ac (ha.at 0 rfl) (ac (ha.at 1 rfl) (ac (ha.at 2 rfl) az))))).dT
  refine aG (RC.rt ?_)
  obtain rfl:=oi hb
  exact Gd 7 6 zr j zr zr zr zr dD dD zr zr fun bl bm j=>⟨bl,bm,zr,j.pk 21 [1,0,14]⟩
 refine RC.ss ?_
 obtain⟨a4,hj,hb⟩:=bd hb
 refine RC.jn (fun(a4:bE×bE×Bool)=>SH E V [(0,vp b0 0),(6,vp ao 0),(7,vp aq 0),(8,vb a4.2.2),(9,vi 0)] [bc 79 b0 [v0_0,v0_1,v0_2,v0_3,v0_4,v0_5,v0_6,v0_7,v0_8,v0_9,v0_10,v0_11],rd v0_0 p0_0,rd v0_1 p0_1,rd v0_2 p0_2,rd v0_3 p0_3,rd v0_10 p0_10,rd v0_11 p0_11,bx 38 ao a4.1,bx 38 aq a4.2.1]) a4 ?_ ?_
 ·obtain⟨a1,a9,hj⟩:=bd hj
  obtain⟨a2,ba,hj⟩:=bd hj
  obtain⟨a0,bb,hj⟩:=bd hj
  refine gv hj (fun an hj=>?_) fun an hj=>?_
  rotate_left
  ·refine RC.Ba E V mixed [1,1,1,0,1,0,0,1,1,1,0,1,0,0,1,1,1,0,1,0,0,1,1,1,1,1,1,1,1,1,1,1,0,0,1,1] [5,6,12,13,19,32,33] (fun(x:Value×Value×Value×Value×Value)=>(fun ad ae af ag ah=>[(0,32,(vp b0 0)),(1,33,(vp b0 0)),(2,34,(vp b0 11)),(3,35,v0_11),(4,36,(vi ar)),(5,37,ad),(6,38,ae),(7,39,(vp b0 0)),(8,40,(vp b0 0)),(9,41,(vp b0 11)),(10,42,v0_11),(11,43,(vi aw)),(12,44,af),(13,45,ag),(14,46,(vp b0 0)),(15,47,(vp b0 0)),(16,48,(vp b0 10)),(17,49,v0_10),(18,50,(vi ar)),(19,51,ah),(20,52,(vi a0)),(21,53,(vb (decide (a0>=0)))),(22,54,(vb (decide (a0>=0)))),(23,55,undef),(24,56,undef),(25,57,undef),(26,58,undef),(27,59,undef),(28,60,undef),(29,61,undef),(30,62,undef),(31,63,(vb false)),(34,8,(vb false)),(35,9,(vi 0))]) x.1 x.2.1 x.2.2.1 x.2.2.2.1 x.2.2.2.2) [(0,vp b0 0),(6,vp ao 0),(7,vp aq 0),(10,vi ar),(11,vi aw)] [] (fun(D:Nat->Bool) (x:Value×Value×Value×Value×Value)=>(fun ad ae af ag ah=>[bif D 0 then (pt ad a1) else aU,bif D 1 then (rd ae a1) else aU,bif D 2 then (pt af a2) else aU,bif D 3 then (rd ag a2) else aU,bif D 4 then (pt ah a0) else aU,rd (.agg ([v0_0,v0_1,v0_2,v0_3]:List Value).toArray) (⟨p0_0,p0_1,p0_2,p0_3⟩:iW),rd (.agg ([v0_0,v0_1,v0_2,v0_3]:List Value).toArray) (⟨p0_0,p0_1,p0_2,p0_3⟩:iW),rd a6 p2,rd a5 p1,bif D 6 then (bx 38 aq a2) else (bc 38 aq [(vb false),(vi 0)]),bif D 5 then (bx 38 ao a1) else (bc 38 ao [(vb false),(vi 0)]),pt (vp a8 0) p2,pt (vp a7 0) p1,rd v2 p2,rd v1 p1,bc 79 b0 [v0_0,v0_1,v0_2,v0_3,v0_4,v0_5,v0_6,v0_7,v0_8,v0_9,v0_10,v0_11],rd v0_0 p0_0,rd v0_1 p0_1,rd v0_2 p0_2,rd v0_3 p0_3,rd v0_10 p0_10,rd v0_11 p0_11]) x.1 x.2.1 x.2.2.1 x.2.2.2.1 x.2.2.2.2) (fun x=>by kernel_rfl) ?_ ⟨fun _=>gA gn,fun _=>qB gn,fun _=>lH gn sH,?_,fun _=>gA gn,?_,?_,fun _=>gA gn,fun _=>qB gn,fun _=>lH gn sH,?_,fun _=>gA gn,?_,?_,fun _=>gA gn,fun _=>qB gn,fun _=>lH gn uQ,?_,fun _=>gA gn,?_,?_,fun _=>CM gn,fun _=>gA gn,fun _=>tq an,fun _=>tq an,fun _=>tq an,fun _=>tq an,fun _=>tq an,fun _=>tq an,fun _=>tq an,fun _=>tq an,fun _=>Hu gn an rfl,?_,?_,fun _=>zU gn,fun _=>zU gn,trivial⟩ ?_
   ·have j:=(((((j.drew).aU).aU).aU).aU).aU
    exact⟨(undef,undef,undef,undef,undef),dX.none,(zZ zr),zt,j⟩
   ·rintro D U w hD aa ak ⟨⟨ad,ae,af,ag,ah⟩,o,ha,_,j⟩
    obtain⟨O,rfl⟩:=(ac (o.at 2 rfl (aa.1 rfl)) az).dT
    refine RL.bA 15 v0_11 j Bj ?_
    exact RL.nil ⟨rfl,(ad,ae,af,ag,ah),o.pu 3,ha.u,zt,j⟩
   ·rintro D U w hD aa ak ⟨⟨ad,ae,af,ag,ah⟩,o,ha,_,j⟩
    obtain⟨O,rfl⟩:=(ac (o.at 3 rfl (aa.1 rfl)) (ac (o.at 4 rfl (aa.2.1 rfl)) az)).dT
    have j:=j.bM 0 hD
    refine RL.cG 21 j mw a9 fun bn j=>?_
    have j:=(j.pl 23 [0,2,3,4,5,6,7,8,9,10,11,12,13,14,15,16,17,18,19,20,21,22]).bS 0 true rfl aU
    exact RL.nil ⟨rfl,(bn,ae,af,ag,ah),o.pu 5,ha.u,zt,j⟩
   ·rintro D U w hD aa ak ⟨⟨ad,ae,af,ag,ah⟩,o,ha,_,j⟩
    obtain⟨O,rfl⟩:=(ac (o.at 5 rfl (aa.1 rfl)) az).dT
    have j:=(j.bR 0 (aa.1 rfl)).bM 1 hD
    refine RL.bU 0 a1 j dD fun bo j=>?_
    have j:=((j.pl 23 [1,0,3,4,5,6,7,8,9,10,11,12,13,14,15,16,17,18,19,20,21,22]).bS 0 (D 5) (aa.1 rfl) aU).bS 1 true rfl aU
    exact RL.nil ⟨rfl,(ad,bo,af,ag,ah),o.pu 6,ha.u,zt,j⟩
   ·rintro D U w hD aa ak ⟨⟨ad,ae,af,ag,ah⟩,o,ha,_,j⟩
    obtain⟨O,rfl⟩:=(ac (o.at 9 rfl (aa.1 rfl)) az).dT
    refine RL.bA 15 v0_11 j Bj ?_
    exact RL.nil ⟨rfl,(ad,ae,af,ag,ah),o.pu 10,ha.u,zt,j⟩
   ·rintro D U w hD aa ak ⟨⟨ad,ae,af,ag,ah⟩,o,ha,_,j⟩
    obtain⟨O,rfl⟩:=(ac (o.at 10 rfl (aa.1 rfl)) (ac (o.at 11 rfl (aa.2.1 rfl)) az)).dT
    have j:=j.bM 2 hD
    refine RL.cG 21 j mw ba fun bp j=>?_
    have j:=(j.pl 23 [1,2,0,4,5,6,7,8,9,10,11,12,13,14,15,16,17,18,19,20,21,22]).bS 2 true rfl aU
    exact RL.nil ⟨rfl,(ad,ae,bp,ag,ah),o.pu 12,ha.u,zt,j⟩
   ·rintro D U w hD aa ak ⟨⟨ad,ae,af,ag,ah⟩,o,ha,_,j⟩
    obtain⟨O,rfl⟩:=(ac (o.at 12 rfl (aa.1 rfl)) az).dT
    have j:=(j.bR 2 (aa.1 rfl)).bM 3 hD
    refine RL.bU 2 a2 j dD fun bq j=>?_
    have j:=((j.pl 23 [1,2,3,0,5,6,7,8,9,10,11,12,13,14,15,16,17,18,19,20,21,22]).bS 2 (D 12) (aa.1 rfl) aU).bS 3 true rfl aU
    exact RL.nil ⟨rfl,(ad,ae,af,bq,ah),o.pu 13,ha.u,zt,j⟩
   ·rintro D U w hD aa ak ⟨⟨ad,ae,af,ag,ah⟩,o,ha,_,j⟩
    obtain⟨O,rfl⟩:=(ac (o.at 16 rfl (aa.1 rfl)) az).dT
    refine RL.bA 15 v0_10 j fx ?_
    exact RL.nil ⟨rfl,(ad,ae,af,ag,ah),o.pu 17,ha.u,zt,j⟩
   ·rintro D U w hD aa ak ⟨⟨ad,ae,af,ag,ah⟩,o,ha,_,j⟩
    obtain⟨O,rfl⟩:=(ac (o.at 17 rfl (aa.1 rfl)) (ac (o.at 18 rfl (aa.2.1 rfl)) az)).dT
    have j:=j.bM 4 hD
    refine RL.cG 20 j eI bb fun br j=>?_
    have j:=(j.pl 23 [1,2,3,4,0,6,7,8,9,10,11,12,13,14,15,16,17,18,19,20,21,22]).bS 4 true rfl aU
    exact RL.nil ⟨rfl,(ad,ae,af,ag,br),o.pu 19,ha.u,zt,j⟩
   ·rintro D U w hD aa ak ⟨⟨ad,ae,af,ag,ah⟩,o,ha,_,j⟩
    obtain⟨O,rfl⟩:=(ac (o.at 19 rfl (aa.1 rfl)) az).dT
    have j:=j.bR 4 (aa.1 rfl)
    refine RL.bJ a0 4 j cP ?_
    have j:=j.bS 4 (D 19) (aa.1 rfl) aU
    exact RL.nil ⟨rfl,(ad,ae,af,ag,ah),o.pu 20,ha.u,zt,j⟩
   ·rintro D U w hD aa ak ⟨⟨ad,ae,af,ag,ah⟩,o,ha,_,j⟩
    obtain⟨O,rfl⟩:=(ac (o.at 6 rfl (aa.1 rfl)) (ac (ha.at 1 rfl) az)).dT
    have j:=(j.bR 1 (aa.1 rfl)).bM 10 hD
    refine RL.rp 10 1 j zr zr zr zr dD zr fun w j=>?_
    have j:=(j.bS 1 (D 6) (aa.1 rfl) aU).bS 10 true rfl (bc 38 ao [(vb false),(vi 0)])
    exact RL.nil ⟨rfl,(ad,ae,af,ag,ah),o.n1,ha,zt,j⟩
   ·rintro D U w hD aa ak ⟨⟨ad,ae,af,ag,ah⟩,o,ha,_,j⟩
    obtain⟨O,rfl⟩:=(ac (o.at 13 rfl (aa.1 rfl)) (ac (ha.at 2 rfl) az)).dT
    have j:=(j.bR 3 (aa.1 rfl)).bM 9 hD
    refine RL.rp 9 3 j zr zr zr zr dD zr fun w j=>?_
    have j:=(j.bS 3 (D 13) (aa.1 rfl) aU).bS 9 true rfl (bc 38 aq [(vb false),(vi 0)])
    exact RL.nil ⟨rfl,(ad,ae,af,ag,ah),o.n1,ha,zt,j⟩
   rintro D U w al ⟨⟨ad,ae,af,ag,ah⟩,o,ha,_,j⟩
   have j:=((((((j.bR 0 (gR al 5)).bR 1 (gR al 6)).bR 2 (gR al 12)).bR 3 (gR al 13)).bR 4 (gR al 19)).bR 9 (gR al 33)).bR 10 (gR al 32)
   obtain⟨O,rfl⟩:=(ac (o.at 32 rfl (gR al 34)) (ac (o.at 33 rfl (gR al 35)) (ac (ha.at 0 rfl) (ac (ha.at 1 rfl) (ac (ha.at 2 rfl) (ac (ha.at 3 rfl) (ac (ha.at 4 rfl) az))))))).dT
   obtain rfl:=oi hj
   exact⟨rfl,j.sp 22 [15,16,17,18,19,20,21,10,9]⟩
  obtain⟨a3,bs,hj⟩:=bd hj
  refine RC.Ba E V mixed [1,1,1,0,1,0,0,1,1,1,0,1,0,0,1,1,1,0,1,0,0,1,1,1,1,1,0,1,0,0,1,1,0,0,1,1] [5,6,12,13,19,28,32,33] (fun(x:Value×Value×Value×Value×Value×Value)=>(fun ad ae af ag ah aj=>[(0,32,(vp b0 0)),(1,33,(vp b0 0)),(2,34,(vp b0 11)),(3,35,v0_11),(4,36,(vi ar)),(5,37,ad),(6,38,ae),(7,39,(vp b0 0)),(8,40,(vp b0 0)),(9,41,(vp b0 11)),(10,42,v0_11),(11,43,(vi aw)),(12,44,af),(13,45,ag),(14,46,(vp b0 0)),(15,47,(vp b0 0)),(16,48,(vp b0 10)),(17,49,v0_10),(18,50,(vi ar)),(19,51,ah),(20,52,(vi a0)),(21,53,(vb (decide (a0>=0)))),(22,54,(vb (decide (a0>=0)))),(23,55,(vp b0 0)),(24,56,(vp b0 0)),(25,57,(vp b0 10)),(26,58,v0_10),(27,59,(vi aw)),(28,60,aj),(29,61,(vi a3)),(30,62,(vb (decide (a3>=0)))),(31,63,(vb (decide (a3>=0)))),(34,8,(vb (decide (a3>=0)))),(35,9,(vi 0))]) x.1 x.2.1 x.2.2.1 x.2.2.2.1 x.2.2.2.2.1 x.2.2.2.2.2) [(0,vp b0 0),(6,vp ao 0),(7,vp aq 0),(10,vi ar),(11,vi aw)] [] (fun(D:Nat->Bool) (x:Value×Value×Value×Value×Value×Value)=>(fun ad ae af ag ah aj=>[bif D 0 then (pt ad a1) else aU,bif D 1 then (rd ae a1) else aU,bif D 2 then (pt af a2) else aU,bif D 3 then (rd ag a2) else aU,bif D 4 then (pt ah a0) else aU,bif D 5 then (pt aj a3) else aU,rd (.agg ([v0_0,v0_1,v0_2,v0_3]:List Value).toArray) (⟨p0_0,p0_1,p0_2,p0_3⟩:iW),rd (.agg ([v0_0,v0_1,v0_2,v0_3]:List Value).toArray) (⟨p0_0,p0_1,p0_2,p0_3⟩:iW),rd a6 p2,rd a5 p1,bif D 7 then (bx 38 aq a2) else (bc 38 aq [(vb false),(vi 0)]),bif D 6 then (bx 38 ao a1) else (bc 38 ao [(vb false),(vi 0)]),pt (vp a8 0) p2,pt (vp a7 0) p1,rd v2 p2,rd v1 p1,bc 79 b0 [v0_0,v0_1,v0_2,v0_3,v0_4,v0_5,v0_6,v0_7,v0_8,v0_9,v0_10,v0_11],rd v0_0 p0_0,rd v0_1 p0_1,rd v0_2 p0_2,rd v0_3 p0_3,rd v0_10 p0_10,rd v0_11 p0_11]) x.1 x.2.1 x.2.2.1 x.2.2.2.1 x.2.2.2.2.1 x.2.2.2.2.2) (fun x=>by kernel_rfl) ?_ ⟨fun _=>gA gn,fun _=>qB gn,fun _=>lH gn sH,?_,fun _=>gA gn,?_,?_,fun _=>gA gn,fun _=>qB gn,fun _=>lH gn sH,?_,fun _=>gA gn,?_,?_,fun _=>gA gn,fun _=>qB gn,fun _=>lH gn uQ,?_,fun _=>gA gn,?_,?_,fun _=>CM gn,fun _=>gA gn,fun _=>gA (gy an),fun _=>qB (gy an),fun _=>lH (gy an) uQ,?_,fun _=>gA (gy an),?_,?_,fun _=>CM (gy an),fun _=>Ht gn an rfl,?_,?_,fun _=>zU gn,fun _=>zU gn,trivial⟩ ?_
  ·have j:=((((((j.drew).aU).aU).aU).aU).aU).aU
   exact⟨(undef,undef,undef,undef,undef,undef),dX.none,(zZ zr),zt,j⟩
  ·rintro D U w hD aa ak ⟨⟨ad,ae,af,ag,ah,aj⟩,o,ha,_,j⟩
   obtain⟨O,rfl⟩:=(ac (o.at 2 rfl (aa.1 rfl)) az).dT
   refine RL.bA 16 v0_11 j Bj ?_
   exact RL.nil ⟨rfl,(ad,ae,af,ag,ah,aj),o.pu 3,ha.u,zt,j⟩
  ·rintro D U w hD aa ak ⟨⟨ad,ae,af,ag,ah,aj⟩,o,ha,_,j⟩
   obtain⟨O,rfl⟩:=(ac (o.at 3 rfl (aa.1 rfl)) (ac (o.at 4 rfl (aa.2.1 rfl)) az)).dT
   have j:=j.bM 0 hD
   refine RL.cG 22 j mw a9 fun bt j=>?_
   have j:=(j.pl 24 [0,2,3,4,5,6,7,8,9,10,11,12,13,14,15,16,17,18,19,20,21,22,23]).bS 0 true rfl aU
   exact RL.nil ⟨rfl,(bt,ae,af,ag,ah,aj),o.pu 5,ha.u,zt,j⟩
  ·rintro D U w hD aa ak ⟨⟨ad,ae,af,ag,ah,aj⟩,o,ha,_,j⟩
   obtain⟨O,rfl⟩:=(ac (o.at 5 rfl (aa.1 rfl)) az).dT
   have j:=(j.bR 0 (aa.1 rfl)).bM 1 hD
   refine RL.bU 0 a1 j dD fun bu j=>?_
   have j:=((j.pl 24 [1,0,3,4,5,6,7,8,9,10,11,12,13,14,15,16,17,18,19,20,21,22,23]).bS 0 (D 5) (aa.1 rfl) aU).bS 1 true rfl aU
   exact RL.nil ⟨rfl,(ad,bu,af,ag,ah,aj),o.pu 6,ha.u,zt,j⟩
  ·rintro D U w hD aa ak ⟨⟨ad,ae,af,ag,ah,aj⟩,o,ha,_,j⟩
   obtain⟨O,rfl⟩:=(ac (o.at 9 rfl (aa.1 rfl)) az).dT
   refine RL.bA 16 v0_11 j Bj ?_
   exact RL.nil ⟨rfl,(ad,ae,af,ag,ah,aj),o.pu 10,ha.u,zt,j⟩
  ·rintro D U w hD aa ak ⟨⟨ad,ae,af,ag,ah,aj⟩,o,ha,_,j⟩
   obtain⟨O,rfl⟩:=(ac (o.at 10 rfl (aa.1 rfl)) (ac (o.at 11 rfl (aa.2.1 rfl)) az)).dT
   have j:=j.bM 2 hD
   refine RL.cG 22 j mw ba fun bw j=>?_
   have j:=(j.pl 24 [1,2,0,4,5,6,7,8,9,10,11,12,13,14,15,16,17,18,19,20,21,22,23]).bS 2 true rfl aU
   exact RL.nil ⟨rfl,(ad,ae,bw,ag,ah,aj),o.pu 12,ha.u,zt,j⟩
  ·rintro D U w hD aa ak ⟨⟨ad,ae,af,ag,ah,aj⟩,o,ha,_,j⟩
   obtain⟨O,rfl⟩:=(ac (o.at 12 rfl (aa.1 rfl)) az).dT
   have j:=(j.bR 2 (aa.1 rfl)).bM 3 hD
   refine RL.bU 2 a2 j dD fun bz j=>?_
   have j:=((j.pl 24 [1,2,3,0,5,6,7,8,9,10,11,12,13,14,15,16,17,18,19,20,21,22,23]).bS 2 (D 12) (aa.1 rfl) aU).bS 3 true rfl aU
   exact RL.nil ⟨rfl,(ad,ae,af,bz,ah,aj),o.pu 13,ha.u,zt,j⟩
  ·rintro D U w hD aa ak ⟨⟨ad,ae,af,ag,ah,aj⟩,o,ha,_,j⟩
   obtain⟨O,rfl⟩:=(ac (o.at 16 rfl (aa.1 rfl)) az).dT
   refine RL.bA 16 v0_10 j fx ?_
   exact RL.nil ⟨rfl,(ad,ae,af,ag,ah,aj),o.pu 17,ha.u,zt,j⟩
  ·rintro D U w hD aa ak ⟨⟨ad,ae,af,ag,ah,aj⟩,o,ha,_,j⟩
   obtain⟨O,rfl⟩:=(ac (o.at 17 rfl (aa.1 rfl)) (ac (o.at 18 rfl (aa.2.1 rfl)) az)).dT
   have j:=j.bM 4 hD
   refine RL.cG 21 j eI bb fun b1 j=>?_
   have j:=(j.pl 24 [1,2,3,4,0,6,7,8,9,10,11,12,13,14,15,16,17,18,19,20,21,22,23]).bS 4 true rfl aU
   exact RL.nil ⟨rfl,(ad,ae,af,ag,b1,aj),o.pu 19,ha.u,zt,j⟩
  ·rintro D U w hD aa ak ⟨⟨ad,ae,af,ag,ah,aj⟩,o,ha,_,j⟩
   obtain⟨O,rfl⟩:=(ac (o.at 19 rfl (aa.1 rfl)) az).dT
   have j:=j.bR 4 (aa.1 rfl)
   refine RL.bJ a0 4 j cP ?_
   have j:=j.bS 4 (D 19) (aa.1 rfl) aU
   exact RL.nil ⟨rfl,(ad,ae,af,ag,ah,aj),o.pu 20,ha.u,zt,j⟩
  ·rintro D U w hD aa ak ⟨⟨ad,ae,af,ag,ah,aj⟩,o,ha,_,j⟩
   obtain⟨O,rfl⟩:=(ac (o.at 22 rfl (aa.2.1 rfl)) (ac (o.at 25 rfl (aa.1 rfl)) az)).dT
   refine RL.bA (hg:=(cg an)) 16 v0_10 j fx ?_
   exact RL.nil ⟨rfl,(ad,ae,af,ag,ah,aj),o.pu 26,ha.u,zt,j⟩
  ·rintro D U w hD aa ak ⟨⟨ad,ae,af,ag,ah,aj⟩,o,ha,_,j⟩
   obtain⟨O,rfl⟩:=(ac (o.at 22 rfl (aa.2.2.1 rfl)) (ac (o.at 26 rfl (aa.1 rfl)) (ac (o.at 27 rfl (aa.2.1 rfl)) az))).dT
   have j:=j.bM 5 hD
   refine RL.cG (hg:=(cg an)) 21 j eI bs fun b2 j=>?_
   have j:=(j.pl 24 [1,2,3,4,5,0,7,8,9,10,11,12,13,14,15,16,17,18,19,20,21,22,23]).bS 5 true rfl aU
   exact RL.nil ⟨rfl,(ad,ae,af,ag,ah,b2),o.pu 28,ha.u,zt,j⟩
  ·rintro D U w hD aa ak ⟨⟨ad,ae,af,ag,ah,aj⟩,o,ha,_,j⟩
   obtain⟨O,rfl⟩:=(ac (o.at 22 rfl (aa.2.1 rfl)) (ac (o.at 28 rfl (aa.1 rfl)) az)).dT
   have j:=j.bR 5 (aa.1 rfl)
   refine RL.bJ (hg:=(cg an)) a3 5 j cP ?_
   have j:=j.bS 5 (D 28) (aa.1 rfl) aU
   exact RL.nil ⟨rfl,(ad,ae,af,ag,ah,aj),o.pu 29,ha.u,zt,j⟩
  ·rintro D U w hD aa ak ⟨⟨ad,ae,af,ag,ah,aj⟩,o,ha,_,j⟩
   obtain⟨O,rfl⟩:=(ac (o.at 6 rfl (aa.1 rfl)) (ac (ha.at 1 rfl) az)).dT
   have j:=(j.bR 1 (aa.1 rfl)).bM 11 hD
   refine RL.rp 11 1 j zr zr zr zr dD zr fun w j=>?_
   have j:=(j.bS 1 (D 6) (aa.1 rfl) aU).bS 11 true rfl (bc 38 ao [(vb false),(vi 0)])
   exact RL.nil ⟨rfl,(ad,ae,af,ag,ah,aj),o.n1,ha,zt,j⟩
  ·rintro D U w hD aa ak ⟨⟨ad,ae,af,ag,ah,aj⟩,o,ha,_,j⟩
   obtain⟨O,rfl⟩:=(ac (o.at 13 rfl (aa.1 rfl)) (ac (ha.at 2 rfl) az)).dT
   have j:=(j.bR 3 (aa.1 rfl)).bM 10 hD
   refine RL.rp 10 3 j zr zr zr zr dD zr fun w j=>?_
   have j:=(j.bS 3 (D 13) (aa.1 rfl) aU).bS 10 true rfl (bc 38 aq [(vb false),(vi 0)])
   exact RL.nil ⟨rfl,(ad,ae,af,ag,ah,aj),o.n1,ha,zt,j⟩
  rintro D U w al ⟨⟨ad,ae,af,ag,ah,aj⟩,o,ha,_,j⟩
  have j:=((((((j.bR 0 (gR al 5)).bR 1 (gR al 6)).bR 2 (gR al 12)).bR 3 (gR al 13)).bR 4 (gR al 19)).bR 5 (gR al 28)).bR 10 (gR al 33)
  have j:=j.bR 11 (gR al 32)
  obtain⟨O,rfl⟩:=(ac (o.at 32 rfl (gR al 34)) (ac (o.at 33 rfl (gR al 35)) (ac (ha.at 0 rfl) (ac (ha.at 1 rfl) (ac (ha.at 2 rfl) (ac (ha.at 3 rfl) (ac (ha.at 4 rfl) az))))))).dT
  obtain rfl:=oi hj
  exact⟨rfl,j.sp 23 [16,17,18,19,20,21,22,11,10]⟩
 rintro _ w ⟨O,rfl,j⟩
 refine aG (RC.ret ?_)
 obtain rfl:=oi hb
 exact Gd 7 8 zr j zr zr zr zr dD dD zr zr fun b3 b4 j=>⟨b3,b4,zr,j.pk 11 [1,0,2]⟩
theorem pg {res:Bool} (o:Holds E w V) (j:kU N p0=some res):
    Calls bH 100 [(vi p0)].toArray w (gI (bB E V res)):=by
 unfold kU at j
 refine enter Tryz.func100 zr zr (RC.sr (aM (vb false) (RL.ns (mv (vi p0) (mv (vi p0) (ic p0 p0 (aM (vb (p0 != p0)) (RL.nt ?_))))))))
 refine RC.ret ?_
 obtain rfl:=oi j
 exact cH ⟨rfl,o.drop 0⟩
theorem vK {res:Bool} (hw:Holds E w V) (hb:lS N p0 p1=some res):
    Calls bH 84 [(vi p0),(vi p1)].toArray w (gI (bB E V res)):=by
 unfold lS at hb
 refine enter Tryz.func84 zr zr (RC.sr (aM (vb false) (RL.nq ?_)))
 obtain⟨ae,o,hb⟩:=bd hb
 refine RC.jn (fun(ae:Bool)=>SH E V [(4,vb ae)] []) ae ?_ ?_
 ·refine RC.region (mv (vi p0) ?_)
  obtain⟨af,ag,o⟩:=bd o
  refine RL.call zt zr Gi [(vi p0)] zr (aF (pg N (p0:=p0) hw ag) ?_)
  rintro _ w ⟨rfl,hw⟩
  refine mv (vb af) (gv o (fun aa o=>?_) fun aa o=>?_)
  rotate_left
  ·refine cA aa (cA aa (cA aa (gw aa (vb false) (mv (vb false) (RL.move (vi p0) ⟨_,zr,zr⟩ (RL.move (vi p1) ⟨_,zr,zr⟩ (RL.kz p0 p1 ⟨_,zr,zr⟩ (RL.pick false (vb (decide (p0<p1))) zr ?_))))))))
   refine aM (vb (decide (p0<p1))) (RL.nil ?_)
   obtain rfl:=oi o
   exact⟨rfl,hw.sp 0 []⟩
  refine RL.move (vi p1) (cg aa) ?_
  obtain⟨j,ah,o⟩:=bd o
  refine RL.call (cg aa) zr Gi [(vi p1)] zr (aF (pg N (p0:=p1) hw ah) ?_)
  rintro _ w ⟨rfl,hw⟩
  refine RL.not (hg:=(cg aa)) j (gw aa (vb (!j)) (mv (vb (!j)) (RL.gs true (!j) (vi p0) rfl rfl rfl dE (RL.gs true (!j) (vi p1) rfl rfl rfl dE (RL.gs true (!j) (vb (decide (p0<p1))) rfl rfl rfl (eG .lss .i64 p0 p1 rfl (fun h=>by exact(cY h:cv (true&&((!j)==false)) (vi p0)= (vi p0))) (fun h=>by exact(cY h:cv (true&&((!j)==false)) (vi p1)= (vi p1))) rfl) (RL.pick (!j) (vb ((!j)||(decide (p0<p1)))) (mH true rfl) (aM (vb ((!j)||(decide (p0<p1)))) (RL.nil ?_))))))))
  obtain rfl:=oi o
  exact⟨rfl,hw.sp 0 []⟩
 rintro _ w ⟨O,rfl,hw⟩
 refine aG (RC.ret ?_)
 obtain rfl:=oi hb
 exact cH ⟨rfl,hw.drop 0⟩
theorem m9 {res:Bool} (o:Holds E w V) (j:jg N p0=some res):
    Calls bH 85 [(vi p0)].toArray w (gI (bB E V res)):=by
 unfold jg at j
 refine enter Tryz.func85 zr zr (RC.sr (aM (vb false) (RL.ns (mv (vi p0) (mv (vi p0) (ic p0 p0 (aM (vb (p0 != p0)) (RL.nt ?_))))))))
 refine RC.ret ?_
 obtain rfl:=oi j
 exact cH ⟨rfl,o.drop 0⟩
theorem nY {p0: (List Int)} {res:Int×Bool} (o:Holds E w V) (h0:V[i0]? =some (rd v0 p0)) (hb:fS N p0 p1=some res):
    Calls bH 60 [v0,(vi p1)].toArray w (gI (iD E V res)):=by
 unfold fS at hb
 refine enter Tryz.func60 zr zr ?_
 have o:=o.dup (i0+0) h0
 refine RC.sr (aM (vi 0) (aM (vb false) (RL.ns (mv v0 (RL.bK 0 p0 o lZ (aM (vi p0.length) (RL.ns (mv (vi p0.length) ?_))))))))
 refine aM (vi 0) (aM (vi p0.length) (RL.nq ?_))
 obtain⟨az,hN,hb⟩:=bd hb
 refine RC.iter (fun(j:Int×Int)=>SH E V [(0,v0),(1,vi p1),(6,vi p0.length),(7,vi j.1),(8,vi j.2)] [rd v0 p0]) (fun(j:Int×Int)=>SH E V [(0,v0),(1,vi p1),(6,vi p0.length),(7,vi j.1)] [rd v0 p0]) (fun(r:Empty) _ _=>r.elim) hN ?_ ?_ ?_ ?_
 ·exact o.sp 1 [0]
 ·rintro j fl _ w ⟨O,rfl,o⟩ hb
  refine RC.seq (RC.sr (mv (vi j.1) (mv (vi j.2) (ic j.1 j.2 (RL.nt (fy hb (fun hc hb=>?_) fun hc hb=>?_))))))
  rotate_left
  ·refine RC.ex ?_
   obtain rfl:=oi hb
   exact⟨rfl,o.sp 1 [0]⟩
  refine RC.sn (RC.bs (mv (vi j.1) (mv (vi j.2) (RL.jo j.1 j.2 (RL.conv (IntKind.wrap .i64 (j.1+j.2)) zr zr ⟨_,Be⟩ Cg (RL.bin (v:=(.int .u64 (IntKind.wrap .u64 (IntKind.wrap .i64 (j.1+j.2))))) (v':=(.int .u64 1)) (u:=(.int .u64 (Int.fdiv (IntKind.wrap .u64 (IntKind.wrap .i64 (j.1+j.2))) 2))) zt zr zr zr (fun _=>zr) (fun _=>zr) (RL.conv (Int.fdiv (IntKind.wrap .u64 (IntKind.wrap .i64 (j.1+j.2))) 2) zr zr ⟨_,Cg⟩ Be (aM (vi (IntKind.wrap .i64 (Int.fdiv (IntKind.wrap .u64 (IntKind.wrap .i64 (j.1+j.2))) 2))) ?_))))))))
  refine RL.ns (mv v0 (mv (vi (IntKind.wrap .i64 (Int.fdiv (IntKind.wrap .u64 (IntKind.wrap .i64 (j.1+j.2))) 2))) ?_))
  obtain⟨aj,aq,hb⟩:=bd hb
  refine RL.cG 0 o eI aq fun a1 o=>(RL.bJ aj 0 o cP (mv (vi p1) ?_))
  obtain⟨a2,ar,hb⟩:=bd hb
  refine RL.call zt zr JX [(vi aj),(vi p1)] zr (aF (vK N (p0:=aj) (p1:=p1) o ar) ?_)
  rintro _ w ⟨rfl,o⟩
  refine RL.nt ?_
  obtain⟨ag,hj,hb⟩:=bd hb
  refine RC.jn (fun(ag:Int×Int)=>SH E V [(0,v0),(1,vi p1),(6,vi p0.length),(7,vi ag.1),(8,vi ag.2)] [rd v0 p0]) ag ?_ ?_
  ·refine fy hj (fun hc hj=>?_) fun hc hj=>?_
   rotate_left
   ·refine RC.region (mv (vi (IntKind.wrap .i64 (Int.fdiv (IntKind.wrap .u64 (IntKind.wrap .i64 (j.1+j.2))) 2))) (aM (vi (IntKind.wrap .i64 (Int.fdiv (IntKind.wrap .u64 (IntKind.wrap .i64 (j.1+j.2))) 2))) (RL.nil ?_)))
    obtain rfl:=oi hj
    exact⟨rfl,o.sp 2 [1]⟩
   refine RC.region (mv (vi (IntKind.wrap .i64 (Int.fdiv (IntKind.wrap .u64 (IntKind.wrap .i64 (j.1+j.2))) 2))) (RL.jo (IntKind.wrap .i64 (Int.fdiv (IntKind.wrap .u64 (IntKind.wrap .i64 (j.1+j.2))) 2)) 1 (aM (vi (IntKind.wrap .i64 ((IntKind.wrap .i64 (Int.fdiv (IntKind.wrap .u64 (IntKind.wrap .i64 (j.1+j.2))) 2))+1))) (RL.nil ?_))))
   obtain rfl:=oi hj
   exact⟨rfl,o.sp 2 [1]⟩
  rintro _ w ⟨O,rfl,o⟩
  refine bQ ?_
  obtain rfl:=oi hb
  exact⟨rfl,o.sp 1 [0]⟩
 ·intro r _ _ _ _
  exact r.elim
 rintro j _ w rfl ⟨O,rfl,o⟩
 rw [Fo.fW] at hb
 refine aG (RC.seq ?_)
 obtain⟨ak,hj,hb⟩:=bd hb
 refine RC.jn (fun(ak:Bool)=>SH E V [(4,vi j.1),(5,vb ak)] []) ak ?_ ?_
 ·refine RC.region (mv (vi j.1) (mv (vi j.1) (mv (vi p0.length) (ic j.1 ((p0.length:Int)) (mv (vb (decide (j.1< (p0.length:Int)))) (gv hj (fun ab hj=>?_) fun ab hj=>?_))))))
  rotate_left
  ·refine cA ab (cA ab (cA ab (cA ab (cA ab (cA ab (cA ab (sg (sg ?_))))))))
   refine sg (sg (sg (sg (sg (sg (sg (cA ab (gw ab (vb false) ?_))))))))
   refine aM (vi j.1) (aM (vb false) (RL.nil ?_))
   obtain rfl:=oi hj
   exact⟨rfl,o.sp 1 []⟩
  refine RL.move v0 (cg ab) (RL.move (vi j.1) (cg ab) ?_)
  obtain⟨al,au,hj⟩:=bd hj
  refine RL.cG (hg:=(cg ab)) 0 o eI au fun a3 o=>(RL.bJ (hg:=(cg ab)) al 0 o cP (RL.move (vi p1) (cg ab) (RL.kz al p1 (cg ab) (RL.move (vb (al==p1)) (cg ab) (gv hj (fun ae hj=>?_) fun ae hj=>?_)))))
  ·refine cA ae (cA ae (cA ae (cA ae (cA ae (cA ae (sg (sg (cA ae ?_))))))))
   refine gw ae (vb true) (hg:=(cg ab)) (gw ab (vb true) (aM (vi j.1) (aM (vb true) (RL.nil ?_))))
   obtain rfl:=oi hj
   exact⟨rfl,o.sp 2 []⟩
  refine RL.move v0 (cg ae) (RL.move (vi j.1) (cg ae) ?_)
  obtain⟨an,av,hj⟩:=bd hj
  refine RL.cG (hg:=(cg ae)) 1 o eI av fun a4 o=>(RL.bJ (hg:=(cg ae)) an 0 o cP ?_)
  obtain⟨aw,ax,hj⟩:=bd hj
  refine RL.call (cg ae) zr Ii [(vi an)] zr (aF (m9 N (p0:=an) o ax) ?_)
  rintro _ w ⟨rfl,o⟩
  refine RL.move (vb aw) (cg ae) (gv hj (fun af hj=>?_) fun af hj=>?_)
  rotate_left
  ·refine cA af (cA af (gw af (vb false) (hg:=(cg ae)) (gw ae (vb false) (hg:=(cg ab)) (gw ab (vb false) (aM (vi j.1) (aM (vb false) (RL.nil ?_)))))))
   obtain rfl:=oi hj
   exact⟨rfl,o.sp 3 []⟩
  refine RL.move (vi p1) (cg af) ?_
  obtain⟨ah,ay,hj⟩:=bd hj
  refine RL.call (cg af) zr Ii [(vi p1)] zr (aF (m9 N (p0:=p1) o ay) ?_)
  rintro _ w ⟨rfl,o⟩
  refine gw af (vb ah) (hg:=(cg ae)) (gw ae (vb ah) (hg:=(cg ab)) (gw ab (vb ah) (aM (vi j.1) (aM (vb ah) (RL.nil ?_)))))
  obtain rfl:=oi hj
  exact⟨rfl,o.sp 3 []⟩
 rintro _ w ⟨O,rfl,o⟩
 refine aG (RC.ret ?_)
 obtain rfl:=oi hb
 exact lM ⟨rfl,o.drop 0⟩
def rZ (E:World) (V:List HP) (b0:Nat) (v0_0 v0_1:Value) (v0_2 v0_3:Value) (v0_4 v0_5:Value) (v0_6 v0_7:Value) (v0_8 v0_9:Value) (v0_10 v0_11:Value) (res: (List bE)) (v:Value) (w:World):Prop:=Holds E w ([own 38 v res,bc 79 b0 [v0_0,v0_1,v0_2,v0_3,v0_4,v0_5,v0_6,v0_7,v0_8,v0_9,v0_10,v0_11]]++V)
theorem kn {p0_6: (List (List Int))} {p1:bE} {res: (List bE)} (j:Holds E w (bc 79 b0 [v0_0,v0_1,v0_2,v0_3,v0_4,v0_5,v0_6,v0_7,v0_8,v0_9,v0_10,v0_11]::rd v0_6 p0_6::V)) (h1:V[i1]? =some (rd v1 p1)) (o:fF N p0_6 p1=some res):
    Calls bH 26 [(vp b0 0),v1].toArray w (gI (rZ E V b0 v0_0 v0_1 v0_2 v0_3 v0_4 v0_5 v0_6 v0_7 v0_8 v0_9 v0_10 v0_11 res)):=by
 unfold fF at o
 refine enter Tryz.func26 zr zr ?_
 have j:=j.dup (i1+2) h1
 refine RC.sr (RL.cR 0 v1 j zr fun ai w j=>?_)
 refine aM (.slice none 0 0) (RL.ns (aM (.slice none 0 0) (RL.nq (RC.sr (RL.bF zr yQ (RL.aO 0 j zr tA xo (RL.nt (fy o (fun hc o=>?_) fun hc o=>?_))))))))
 ·refine RC.seq (RC.seq (RC.vQ mixed ?_))
  have j:=j.drew
  refine RO.go (mv (vp b0 0) (RO.nx (RL.nilCheck zr (RO.nx (RL.bF zr uO (RO.nx (RL.bA 2 v0_6 j C2 (RO.nx ?_))))))))
  refine RL.bF zr pP (RO.nx (RL.aO 0 j zr lY cP (RO.nx ?_)))
  obtain⟨ab,a3,o⟩:=bd o
  refine RL.cG 3 j yM a3 fun bj j=>(RO.nx (RL.bU 0 ab j fx fun au j=>(RO.nx (RL.bK 0 ab j lZ (RO.nx (mv (vi 0) (RO.last (aG ?_))))))))
  obtain⟨ag,hN,o⟩:=bd o
  refine RC.fold (fun(ao:Nat) (ag: (List bE)) U w=>∃ay:Value,SH E V [(0,vp b0 0),(5,ay),(21,au),(22,vi ab.length),(23,vi ao)] [bc 79 b0 [v0_0,v0_1,v0_2,v0_3,v0_4,v0_5,v0_6,v0_7,v0_8,v0_9,v0_10,v0_11],rd v0_6 p0_6,rd au ab,own 38 ay ag] U w) (fun(ag: (List bE)) U w=>∃aj:Value,SH E V [(0,vp b0 0),(5,aj)] [bc 79 b0 [v0_0,v0_1,v0_2,v0_3,v0_4,v0_5,v0_6,v0_7,v0_8,v0_9,v0_10,v0_11],rd v0_6 p0_6,rd au ab,own 38 aj ag] U w) hN ?_ ?_ ?_ ?_
  ·have j:=j.cV bE 38
   exact⟨(.slice none 0 0),j.sp 7 [5,6,1,0]⟩
  ·rintro hm ag _ w ⟨a4,O,rfl,j⟩
   refine RC.sr (ic ((ab.length:Int)) ((ab.length:Int)) (RL.nq (RC.cX mT (RC.ex ?_))))
   exact⟨rfl,a4,j.sp 4 [0,1,2,3]⟩
  ·rintro hm ao ag s' _ w hk ⟨a5,O,rfl,j⟩ o
   refine RC.sr (ic ((ao:Int)) ((ab.length:Int)) (RL.nq (RC.cW (mS hk) (RC.ss (RC.bs ?_)))))
   obtain⟨ad,a6,o⟩:=bd o
   refine RL.cG 2 j eI a6 fun bk j=>(RL.bJ ad 0 j cP (aM (vi ad) (RL.nt (RC.region (mv a5 (mv (vi ad) ?_))))))
   have j:=j.sc Int ad
   refine RL.build (⟨false,ad⟩:bE) trivial rfl j [(1,vi ad)] rfl C5 rfl (fun M hs g=>by have h:=wm M;exact dO.cons (f:=fun(x:bE) y=>{x with Number:=y}) h tB (g.sat 0 _ rfl).1 fun _ h=>dO.nil h) fun a7 j=>?_
   refine RL.eH ([(⟨false,ad⟩:bE)]: (List bE)) j [a7] mw nz (fun M hs g=>⟨(g.sat 0 _ zr).1,zt⟩) fun bl w j=>?_
   have j:=j.freeze 0
   obtain⟨bm,a8,o⟩:=bd o
   refine RL.app 7 0 j Bl a8 fun az w j=>?_
   refine aM az (RL.nil (bQ (aG (RC.region (RL.inc hk hm (mv (vi ((ao+1:Nat):Int)) (RL.nil ?_)))))))
   obtain rfl:=oi o
   exact⟨rfl,az,j.sp 8 [4,5,6,7]⟩
  rintro _ w ⟨aj,O,rfl,j⟩
  refine aG (RC.sr (mv aj (aM aj (RL.nt (RC.rt ?_)))))
  obtain rfl:=oi o
  exact cH (j.pk 4 [3,0])
 refine RC.ss (RC.sr (mv (vp b0 0) (RL.nilCheck zr (RL.bF zr uO (RL.bA 2 v0_6 j C2 (RL.bK 3 p0_6 j Ee (mv (vi 0) (RL.nt ?_))))))))
 obtain⟨ah,hN,o⟩:=bd o
 refine RC.fold (fun(aa:Nat) (ah: (List bE)) U w=>∃a0:Value,SH E V [(0,vp b0 0),(3,vp ai 0),(5,a0),(37,v0_6),(38,vi p0_6.length),(39,vi aa)] [bc 79 b0 [v0_0,v0_1,v0_2,v0_3,v0_4,v0_5,v0_6,v0_7,v0_8,v0_9,v0_10,v0_11],rd v0_6 p0_6,bx 38 ai p1,own 38 a0 ah] U w) (fun(ah: (List bE)) U w=>∃an:Value,SH E V [(0,vp b0 0),(5,an)] [bc 79 b0 [v0_0,v0_1,v0_2,v0_3,v0_4,v0_5,v0_6,v0_7,v0_8,v0_9,v0_10,v0_11],rd v0_6 p0_6,bx 38 ai p1,own 38 an ah] U w) hN ?_ ?_ ?_ ?_
 ·have j:=j.cV bE 38
  exact⟨(.slice none 0 0),j.sp 5 [3,4,1,0]⟩
 ·rintro hm ah _ w ⟨a9,O,rfl,j⟩
  refine RC.sr (ic ((p0_6.length:Int)) ((p0_6.length:Int)) (RL.nq (RC.cX mT (RC.ex ?_))))
  exact⟨rfl,a9,j.sp 4 [0,1,2,3]⟩
 ·rintro hm aa ah s' _ w hk ⟨a1,O,rfl,j⟩ o
  refine RC.sr (ic ((aa:Int)) ((p0_6.length:Int)) (RL.nq (RC.cW (mS hk) (RC.ss (RC.bs (mv (vi aa) ?_))))))
  obtain⟨ba,bb,o⟩:=bd o
  refine RL.cG 1 j yM bb fun bn j=>(RL.bU 0 ba j fx fun aw j=>(aM (vi aa) (aM aw (RL.ns (mv aw (RL.bF zr pP (RL.aO 4 j zr lY cP ?_)))))))
  obtain⟨ae,bf,o⟩:=bd o
  refine RL.call zt zr JY [aw,(vi p1.Number)] zr (aF (nY N (p1:=p1.Number) (i0:=0) j zr bf) ?_)
  rintro _ w ⟨rfl,j⟩
  refine mv (.tuple #[(vi ae.1),(vb ae.2)]) (RL.extract (vi ae.1) (RL.extract (vb ae.2) (aM (vi ae.1) (aM (vb ae.2) (RL.ns (mv (vb ae.2) (RL.nt ?_)))))))
  obtain⟨ax,hj,o⟩:=bd o
  refine RC.jn (fun(ax: (List bE)) U w=>∃aq:Value,SH E V [(0,vp b0 0),(3,vp ai 0),(5,aq),(37,v0_6),(38,vi p0_6.length),(39,vi aa)] [bc 79 b0 [v0_0,v0_1,v0_2,v0_3,v0_4,v0_5,v0_6,v0_7,v0_8,v0_9,v0_10,v0_11],rd v0_6 p0_6,bx 38 ai p1,own 38 aq ax] U w) ax ?_ ?_
  ·refine fy hj (fun hc hj=>?_) fun hc hj=>?_
   rotate_left
   ·refine RC.skip ?_
    obtain rfl:=oi hj
    exact⟨rfl,a1,j.sp 6 [2,3,4,5]⟩
   refine RC.region (mv a1 (mv (vi aa) ?_))
   have j:=(j.sc Bool true).sc Int (aa:Int)
   refine RL.build (⟨true,(aa:Int)⟩:bE) trivial rfl j [(0,vb true),(1,vi aa)] rfl C5 rfl (fun M hs g=>by have h:=wm M;exact dO.cons (f:=fun(x:bE) y=>{x with bW:=y}) h z8 (g.sat 1 _ rfl).1 fun _ h=>dO.cons (f:=fun(x:bE) y=>{x with Number:=y}) h tB (g.sat 0 _ rfl).1 fun _ h=>dO.nil h) fun bg j=>?_
   refine RL.eH ([(⟨true,(aa:Int)⟩:bE)]: (List bE)) j [bg] mw nz (fun M hs g=>⟨(g.sat 0 _ zr).1,zt⟩) fun bo w j=>?_
   have j:=j.freeze 0
   obtain⟨bp,bh,hj⟩:=bd hj
   refine RL.app 9 0 j Bl bh fun a2 w j=>?_
   refine aM a2 (RL.nil ?_)
   obtain rfl:=oi hj
   exact⟨rfl,a2,j.sp 10 [6,7,8,9]⟩
  rintro _ w ⟨aq,O,rfl,j⟩
  refine bQ (aG (RC.region (RL.inc hk hm (mv (vi ((aa+1:Nat):Int)) (RL.nil ?_)))))
  obtain rfl:=oi o
  exact⟨rfl,aq,j.sp 4 [0,1,2,3]⟩
 rintro _ w ⟨an,O,rfl,j⟩
 refine aG (RC.sr (mv an (aM an (RL.nt (RC.ret ?_)))))
 obtain rfl:=oi o
 exact cH (j.pk 4 [3,0])
theorem ph {p0_6: (List (List Int))} {p1:bE} {res: (List (bE×Int))} (j:Holds E w (bc 79 b0 [v0_0,v0_1,v0_2,v0_3,v0_4,v0_5,v0_6,v0_7,v0_8,v0_9,v0_10,v0_11]::rd v0_6 p0_6::V)) (h1:V[i1]? =some (rd v1 p1)) (o:iT N p0_6 p1=some res):
    Calls bH 13 [(vp b0 0),v1,(.pointer none)].toArray w (gI (l4 E V b0 v0_0 v0_1 v0_2 v0_3 v0_4 v0_5 v0_6 v0_7 v0_8 v0_9 v0_10 v0_11 res)):=by
 unfold iT at o
 refine enter Tryz.func13 zr zr ?_
 have j:=j.dup (i1+2) h1
 refine RC.sr (RL.cR 0 v1 j zr fun bj w j=>?_)
 refine aM (.map none) (RL.ns (RL.makeMap (κ:=bE) (ν:=Int) j fun ab w j=>(RL.aR (f:=(fun x=>x)) 1 j zr Fd.self dD fun bk j=>?_)))
 have j:=j.sc Int 0
 refine RL.insert 2 0 p1 zt j zr (lO 1 j) zr zr zr vG fun w j=>(mv ab (aM ab (RL.nq (RC.sr (RL.aR (f:=(fun x=>x)) 3 j zr Fd.self dD fun a8 j=>(RL.eH ([p1]: (List bE)) j [a8] mw nz (fun M hs g=>⟨(g.sat 0 _ zr).1,zt⟩) fun a0 w j=>(aM a0 (RL.nt ?_))))))))
 obtain⟨bl,hN,o⟩:=bd o
 refine RC.iter (fun(ah: (List (bE×Int))×(List bE)) U w=>∃a1:Value,SH E V [(0,vp b0 0),(2,(.pointer none)),(7,ab),(8,a1)] [bc 79 b0 [v0_0,v0_1,v0_2,v0_3,v0_4,v0_5,v0_6,v0_7,v0_8,v0_9,v0_10,v0_11],rd v0_6 p0_6,mp ab ah.1,own 38 a1 ah.2] U w) (fun(ah: (List (bE×Int))×(List bE))=>SH E V [(0,vp b0 0),(7,ab)] [bc 79 b0 [v0_0,v0_1,v0_2,v0_3,v0_4,v0_5,v0_6,v0_7,v0_8,v0_9,v0_10,v0_11],rd v0_6 p0_6,mp ab ah.1]) (fun(r:Empty) _ _=>r.elim) hN ?_ ?_ ?_ ?_
 ·exact⟨a0,j.sp 9 [7,8,4,0]⟩
 ·rintro ah fl _ w ⟨ar,O,rfl,j⟩ o
  refine RC.seq (RC.sr (mv ar (RL.eK 3 ah.2 j xx (ic ((ah.2.length:Int)) 0 (RL.nt (fy o (fun hc o=>?_) fun hc o=>?_))))))
  rotate_left
  ·refine RC.ex ?_
   obtain rfl:=oi o
   exact⟨rfl,j.sp 4 [0,1,2]⟩
  refine RC.ss (RC.bs (mv (vp b0 0) (mv ar ?_)))
  obtain⟨bn,av,o⟩:=bd o
  refine RL.bL 3 j zr zr mw av (RL.gJ (f:=(fun x=>x)) 3 j (jr 3 j av 0) (aZ av).2.1 Fd.self dD fun a9 j=>?_)
  have j:=(j.dup 2 rfl).pull 2
  obtain⟨af,ba,o⟩:=bd o
  refine RL.call zt zr GW [(vp b0 0),a9] zr (aF (kn N (i1:=0) j zr ba) ?_)
  rintro ai w j
  refine RL.eK 0 af j xx (mv (vi 0) (RL.nt ?_))
  obtain⟨aa,hN,o⟩:=bd o
  refine RC.fold (fun(aj:Nat) (aa: (List (bE×Int))×(List bE)) U w=>∃a2:Value,SH E V [(0,vp b0 0),(2,(.pointer none)),(7,ab),(8,a2),(27,ai),(28,vi af.length),(29,vi aj)] [bc 79 b0 [v0_0,v0_1,v0_2,v0_3,v0_4,v0_5,v0_6,v0_7,v0_8,v0_9,v0_10,v0_11],rd v0_6 p0_6,mp ab aa.1,own 38 ai af,own 38 a2 aa.2] U w) (fun(aa: (List (bE×Int))×(List bE)) U w=>∃al:Value,SH E V [(0,vp b0 0),(2,(.pointer none)),(7,ab),(8,al)] [bc 79 b0 [v0_0,v0_1,v0_2,v0_3,v0_4,v0_5,v0_6,v0_7,v0_8,v0_9,v0_10,v0_11],rd v0_6 p0_6,mp ab aa.1,own 38 ai af,own 38 al aa.2] U w) hN ?_ ?_ ?_ ?_
  ·exact⟨ar,j.sp 7 [1,4,5,0,6]⟩
  ·rintro hm aa _ w ⟨bb,O,rfl,j⟩
   refine RC.sr (ic ((af.length:Int)) ((af.length:Int)) (RL.nq (RC.cX mT (RC.ex ?_))))
   exact⟨rfl,bb,j.sp 5 [0,1,2,3,4]⟩
  ·rintro hm aj aa s' _ w hk ⟨ak,O,rfl,j⟩ o
   refine RC.sr (ic ((aj:Int)) ((af.length:Int)) (RL.nq (RC.cW (mS hk) (RC.ss (RC.bs ?_)))))
   obtain⟨ae,aw,o⟩:=bd o
   refine RL.bL 3 j zr zr mw aw (RL.gJ (f:=(fun x=>x)) 3 j (jr 3 j aw 0) (aZ aw).2.1 Fd.self dD fun bo j=>?_)
   refine RL.alloc j nz.z fun a5 w j=>?_
   refine RL.bC 0 j 1 zr dD fun w j=>?_
   refine RL.ns (mv ab (RL.aR (f:=(fun x=>x)) 0 j zr Fd.self dD fun bp j=>(RL.nL 5 ae j (lO 0 j) vG (mv (.tuple #[(vi (cL aa.1 ae (0:Int))),(vb (dM aa.1 ae))]) (RL.extract (vi (cL aa.1 ae (0:Int))) (RL.extract (vb (dM aa.1 ae)) (aM (vi (cL aa.1 ae (0:Int))) (aM (vb (dM aa.1 ae)) ?_))))))))
   refine RL.nq ?_
   obtain⟨ax,hj,o⟩:=bd o
   refine RC.jn (fun(ax:Bool)=>SH E V [(0,vp b0 0),(2,(.pointer none)),(7,ab),(8,ak),(10,vp a5 0),(27,ai),(28,vi af.length),(29,vi aj),(51,vb ax)] [bc 79 b0 [v0_0,v0_1,v0_2,v0_3,v0_4,v0_5,v0_6,v0_7,v0_8,v0_9,v0_10,v0_11],rd v0_6 p0_6,mp ab aa.1,own 38 ak aa.2,bx 38 a5 ae,own 38 ai af]) ax ?_ ?_
   ·refine RC.vQ mixed ?_
    have j:=j.drew
    refine RO.go (mv (vb (dM aa.1 ae)) (RO.nx (RL.not (dM aa.1 ae) (RO.nx (mv (vb (!(dM aa.1 ae))) (gv hj (fun ag hj=>?_) fun ag hj=>?_))))))
    ·refine RO.nx (RL.move (.pointer none) (cg ag) (RO.nx (RL.Kp (b:=true) (cg ag) zr zr zr Gj zr (RO.nx (RL.move (vb true) (cg ag) (RO.nx (nr (RO.nx ?_))))))))
     refine nr (RO.nx (nr (RO.nx (nr (RO.nx (nr (RO.nx (RL.pick (hg:=(cg ag)) true (vb true) zr ?_))))))))
     refine RO.nx (gw ag (vb true) (RO.last ?_))
     obtain rfl:=oi hj
     exact⟨rfl,j.sp 8 [3,4,5,7,1,6]⟩
    refine RO.nx (cA ag (RO.nx (cA ag (RO.nx (cA ag (RO.nx (sg (RO.nx ?_))))))))
    refine sg (RO.nx (sg (RO.nx (sg (RO.nx (sg (RO.nx (cA ag ?_))))))))
    refine RO.nx (gw ag (vb false) (RO.last ?_))
    obtain rfl:=oi hj
    exact⟨rfl,j.sp 8 [3,4,5,7,1,6]⟩
   rintro _ w ⟨O,rfl,j⟩
   refine aG ?_
   obtain⟨an,hj,o⟩:=bd o
   refine RC.jn (fun(an: (List (bE×Int))×(List bE)) U w=>∃ao:Value,SH E V [(0,vp b0 0),(2,(.pointer none)),(7,ab),(8,ao),(27,ai),(28,vi af.length),(29,vi aj)] [bc 79 b0 [v0_0,v0_1,v0_2,v0_3,v0_4,v0_5,v0_6,v0_7,v0_8,v0_9,v0_10,v0_11],rd v0_6 p0_6,mp ab an.1,own 38 ai af,own 38 ao an.2] U w) an ?_ ?_
   ·refine fy hj (fun hc hj=>?_) fun hc hj=>?_
    rotate_left
    ·refine RC.skip ?_
     obtain rfl:=oi hj
     exact⟨rfl,ak,j.sp 6 [0,1,2,5,3]⟩
    refine RC.seq (RC.yF mixed [0,0,0,0,0,0,0,0,2] [0,1,2,3,4,5,6,7,8] ?_)
    have j:=j.drew
    refine DP.e0 zr (mv ab (cT zr (RL.aR (f:=(fun x=>x)) 4 j zr Fd.self dD fun bq j=>(cT zr (mv ab (cT zr (mv ak (cT zr ?_))))))))
    obtain⟨ay,az,hj⟩:=bd hj
    refine RL.bL 4 j zr zr mw az (cT zr (RL.gJ (f:=(fun x=>x)) 4 j (jr 4 j az 0) (aZ az).2.1 Fd.self dD fun br j=>?_))
    refine cT zr (RL.lP 4 ay j (lO 0 j) vG (cT zr (RL.jo (cL aa.1 ay (0:Int)) 1 (vF zr ?_))))
    have j:=j.sc Int (IntKind.wrap .i64 ((cL aa.1 ay (0:Int))+1))
    refine RL.mapUpdate 5 0 ae j zr (lO 2 j) zr zr zr vG fun w j=>(DP.d2 zt (DP.z (aG (RC.region (mv ak (RL.aR (f:=(fun x=>x)) 7 j zr Fd.self dD fun bf j=>(RL.eH ([ae]: (List bE)) j [bf] mw nz (fun M hs g=>⟨(g.sat 0 _ zr).1,zt⟩) fun bt w j=>?_)))))))
    have j:=j.freeze 0
    obtain⟨bu,bg,hj⟩:=bd hj
    refine RL.app 8 0 j Bl bg fun a6 w j=>?_
    refine aM a6 (RL.nil ?_)
    obtain rfl:=oi hj
    exact⟨rfl,a6,j.sp 11 [5,6,7,10,8]⟩
   rintro _ w ⟨ao,O,rfl,j⟩
   refine bQ (aG (RC.region (RL.inc hk hm (mv (vi ((aj+1:Nat):Int)) (RL.nil ?_)))))
   obtain rfl:=oi o
   exact⟨rfl,ao,j.sp 5 [0,1,2,3,4]⟩
  rintro _ w ⟨al,O,rfl,j⟩
  refine bQ (aG (RC.region (mv al ?_)))
  obtain⟨bw,bh,o⟩:=bd o
  refine RL.tk 4 zr j zr zr mw (.inl zr) (.inr ⟨rfl,zr⟩) bh fun a7 j=>(aM a7 (RL.nil ?_))
  obtain rfl:=oi o
  exact⟨rfl,a7,j.sp 5 [0,1,2,4]⟩
 ·intro r _ _ _ _
  exact r.elim
 rintro ah _ w rfl ⟨O,rfl,j⟩
 rw [Fo.fW] at o
 refine aG (RC.sr (mv ab (aM ab (RL.nt (RC.ret ?_)))))
 obtain rfl:=oi o
 exact cH (j.pk 3 [2,0])
def sQ (E:World) (V:List HP) (b0:Nat) (v0_0 v0_1:Value) (v0_2 v0_3:Value) (v0_4 v0_5:Value) (v0_6 v0_7:Value) (v0_8 v0_9:Value) (v0_10 v0_11:Value) (res: (List bE)×Bool) (v:Value) (w:World):Prop:=∃u0:Value,v = .tuple #[u0,(vb res.2)]/\Holds E w ([own 38 u0 res.1,bc 79 b0 [v0_0,v0_1,v0_2,v0_3,v0_4,v0_5,v0_6,v0_7,v0_8,v0_9,v0_10,v0_11]]++V)
theorem na {p0_6: (List (List Int))} {p1 p2:bE} {res: (List bE)×Bool} (j:Holds E w (bc 79 b0 [v0_0,v0_1,v0_2,v0_3,v0_4,v0_5,v0_6,v0_7,v0_8,v0_9,v0_10,v0_11]::rd v0_6 p0_6::V)) (h1:V[i1]? =some (rd v1 p1)) (h2:V[i2]? =some (rd v2 p2)) (o:gF N p0_6 p1 p2=some res):
    Calls bH 11 [(vp b0 0),v1,v2].toArray w (gI (sQ E V b0 v0_0 v0_1 v0_2 v0_3 v0_4 v0_5 v0_6 v0_7 v0_8 v0_9 v0_10 v0_11 res)):=by
 unfold gF at o
 refine enter Tryz.func11 zr zr ?_
 have j:=(j.dup (i1+2) h1).dup (i2+3) h2
 refine RC.sr (RL.cR 1 v1 j zr fun bh w j=>?_)
 refine RL.cR 1 v2 j zr fun ah w j=>?_
 refine aM (.slice none 0 0) (aM (vb false) (RL.ns (mv (vp b0 0) (RL.aR (f:=(fun x=>x)) 0 j zr Fd.self dD fun a4 j=>?_))))
 have j:=(j.dup 6 rfl).pull 6
 obtain⟨aa,a5,o⟩:=bd o
 refine RL.call zt zr Ij [(vp b0 0),a4,(.pointer none)] zr (aF (ph N (i1:=0) j zr a5) ?_)
 rintro ad w j
 refine aM ad (RL.nq (RC.sr (mv ad (RL.aR (f:=(fun x=>x)) 4 j zr Fd.self dD fun bj j=>(RL.nL 1 p1 j (lO 0 j) vG (mv (.tuple #[(vi (cL aa p1 (0:Int))),(vb (dM aa p1))]) (RL.extract (vi (cL aa p1 (0:Int))) (RL.extract (vb (dM aa p1)) ?_))))))))
 refine aM (vi (cL aa p1 (0:Int))) (aM (vb (dM aa p1)) (RL.ns (mv (vb (dM aa p1)) (RL.not (dM aa p1) (RL.nt (fy o (fun hc o=>?_) fun hc o=>?_))))))
 ·refine RC.sr (aM (.slice none 0 0) (aM (vb false) (RL.nt (RC.rt ?_))))
  obtain rfl:=oi o
  have j:=j.cV bE 38
  exact lM ⟨(.slice none 0 0),zr,j.pk 11 [0,3]⟩
 refine RC.sx (RL.aR (f:=(fun x=>x)) 5 j zr Fd.self dD fun a6 j=>(RL.eH ([p1]: (List bE)) j [a6] mw nz (fun M hs g=>⟨(g.sat 0 _ zr).1,zt⟩) fun ax w j=>(aM ax (RL.nq (RC.sr (RL.aR (f:=(fun x=>x)) 7 j zr Fd.self dD fun bk j=>(RL.alloc j nz.z fun a7 w j=>?_)))))))
 refine RL.bC 0 j 1 zr dD fun w j=>?_
 refine RL.nt ?_
 obtain⟨bl,hN,o⟩:=bd o
 refine RC.iter (fun(ag: (List bE)×bE) U w=>∃(ay:Value) (az:Nat),SH E V [(0,vp b0 0),(5,vp ah 0),(8,ad),(11,ay),(12,vp az 0)] [bc 79 b0 [v0_0,v0_1,v0_2,v0_3,v0_4,v0_5,v0_6,v0_7,v0_8,v0_9,v0_10,v0_11],rd v0_6 p0_6,bx 38 ah p2,mp ad aa,own 38 ay ag.1,bx 38 az ag.2] U w) (fun(ag: (List bE)×bE) U w=>∃ak:Value,SH E V [(0,vp b0 0),(11,ak)] [bc 79 b0 [v0_0,v0_1,v0_2,v0_3,v0_4,v0_5,v0_6,v0_7,v0_8,v0_9,v0_10,v0_11],rd v0_6 p0_6,bx 38 ah p2,mp ad aa,own 38 ak ag.1] U w) (fun(r:Empty) _ _=>r.elim) hN ?_ ?_ ?_ ?_
 ·exact⟨ax,a7,j.sp 14 [6,13,8,5,2,0]⟩
 ·rintro ag fl _ w ⟨aj,al,O,rfl,j⟩ o
  refine RC.seq (RC.sr (RL.aR (f:=(fun x=>x)) 5 j zr Fd.self dD fun bm j=>(RL.aR (f:=(fun x=>x)) 3 j zr Fd.self dD fun bn j=>(RL.IK 1 0 ag.2 p2 zt zr j zr zr zr zr wv zr (RL.nt (fy o (fun hc o=>?_) fun hc o=>?_))))))
  rotate_left
  ·refine RC.ex ?_
   obtain rfl:=oi o
   exact⟨rfl,aj,j.sp 8 [2,3,4,5,6]⟩
  refine RC.ss (RC.block (RC.seq (RC.sr (mv (vp b0 0) (RL.aR (f:=(fun x=>x)) 7 j zr Fd.self dD fun a9 j=>?_)))))
  have j:=(j.dup 4 rfl).pull 4
  obtain⟨ai,ba,o⟩:=bd o
  refine RL.call zt zr GW [(vp b0 0),a9] zr (aF (kn N (i1:=0) j zr ba) ?_)
  rintro ao w j
  refine RL.eK 0 ai j xx (mv (vi 0) (RL.nt ?_))
  obtain⟨bo,hN,o⟩:=bd o
  refine RC.range (fun(aq:Nat) (af:bE)=>SH E V [(0,vp b0 0),(5,vp ah 0),(8,ad),(11,aj),(12,vp al 0),(36,ao),(37,vi ai.length),(38,vi aq)] [bc 79 b0 [v0_0,v0_1,v0_2,v0_3,v0_4,v0_5,v0_6,v0_7,v0_8,v0_9,v0_10,v0_11],rd v0_6 p0_6,bx 38 ah p2,mp ad aa,own 38 aj ag.1,bx 38 al af,own 38 ao ai]) (fun(af:bE)=>SH E V [(0,vp b0 0),(5,vp ah 0),(8,ad),(11,aj),(12,vp al 0)] [bc 79 b0 [v0_0,v0_1,v0_2,v0_3,v0_4,v0_5,v0_6,v0_7,v0_8,v0_9,v0_10,v0_11],rd v0_6 p0_6,bx 38 ah p2,mp ad aa,own 38 aj ag.1,bx 38 al af,own 38 ao ai]) (fun(r:Empty) _ _=>r.elim) hN ?_ ?_ ?_ ?_ ?_
  ·exact j.sp 11 [1,6,7,8,9,10,0]
  ·rintro hm af _ w ⟨O,rfl,j⟩
   refine RC.sr (ic ((ai.length:Int)) ((ai.length:Int)) (RL.nq (RC.cX mT (RC.ex ?_))))
   exact⟨rfl,j.sp 7 [0,1,2,3,4,5,6]⟩
  ·rintro hm aq af fl _ w hk ⟨O,rfl,j⟩ o
   refine RC.sr (ic ((aq:Int)) ((ai.length:Int)) (RL.nq (RC.cW (mS hk) (RC.ss (RC.bs ?_)))))
   obtain⟨ae,av,o⟩:=bd o
   refine RL.bL 6 j zr zr mw av (RL.gJ (f:=(fun x=>x)) 6 j (jr 6 j av 0) (aZ av).2.1 Fd.self dD fun bp j=>?_)
   refine RL.alloc j nz.z fun a2 w j=>?_
   refine RL.bC 0 j 1 zr dD fun w j=>?_
   refine RL.ns (mv ad (RL.aR (f:=(fun x=>x)) 0 j zr Fd.self dD fun bq j=>(RL.nL 6 ae j (lO 0 j) vG (mv (.tuple #[(vi (cL aa ae (0:Int))),(vb (dM aa ae))]) (RL.extract (vi (cL aa ae (0:Int))) (RL.extract (vb (dM aa ae)) (aM (vi (cL aa ae (0:Int))) (aM (vb (dM aa ae)) ?_))))))))
   refine RL.nq ?_
   obtain⟨aw,hj,o⟩:=bd o
   refine RC.jn (fun(aw:Bool)=>SH E V [(0,vp b0 0),(5,vp ah 0),(8,ad),(11,aj),(12,vp al 0),(14,vp a2 0),(36,ao),(37,vi ai.length),(38,vi aq),(56,vb aw)] [bc 79 b0 [v0_0,v0_1,v0_2,v0_3,v0_4,v0_5,v0_6,v0_7,v0_8,v0_9,v0_10,v0_11],rd v0_6 p0_6,bx 38 ah p2,mp ad aa,own 38 aj ag.1,bx 38 al af,bx 38 a2 ae,own 38 ao ai]) aw ?_ ?_
   ·refine RC.region (mv (vb (dM aa ae)) (mv (vb (dM aa ae)) (gv hj (fun ab hj=>?_) fun ab hj=>?_)))
    ·refine RL.move (vi (cL aa ae (0:Int))) (cg ab) (RL.move ad (cg ab) (RL.aR (hg:=(cg ab)) (f:=(fun x=>x)) 8 j zr Fd.self dD fun br j=>(RL.lP (hg:=(cg ab)) 7 af j (lO 0 j) vG (RL.jo (hg:=(cg ab)) (cL aa af (0:Int)) 1 (RL.kz (cL aa ae (0:Int)) (IntKind.wrap .i64 ((cL aa af (0:Int)) - 1)) (cg ab) (gw ab (vb ((cL aa ae (0:Int))==(IntKind.wrap .i64 ((cL aa af (0:Int)) - 1)))) (RL.nil ?_)))))))
     obtain rfl:=oi hj
     exact⟨rfl,j.sp 11 [4,5,6,7,8,9,2,10]⟩
    refine cA ab (cA ab (cA ab (cA ab (cA ab (cA ab (gw ab (vb false) (RL.nil ?_)))))))
    obtain rfl:=oi hj
    exact⟨rfl,j.sp 10 [3,4,5,6,7,8,1,9]⟩
   rintro _ w ⟨O,rfl,j⟩
   refine aG (fy o (fun hc o=>?_) fun hc o=>?_)
   rotate_left
   ·refine RC.skip (bQ (aG (RC.region (RL.inc hk hm (mv (vi ((aq+1:Nat):Int)) (RL.nil ?_))))))
    obtain rfl:=oi o
    exact⟨rfl,j.sp 8 [0,1,2,3,4,5,7]⟩
   refine RC.sr (RL.aR (f:=(fun x=>x)) 6 j zr Fd.self dD fun bt j=>(RL.tf 6 j zr zr zr 0 zr dD fun w j=>?_))
   refine RL.nt (RC.exit (DL (BU ?_)))
   obtain rfl:=oi o
   exact⟨rfl,j.sp 9 [1,2,3,4,5,6,8]⟩
  ·intro r _ _ _ _
   exact r.elim
  rintro af _ w rfl ⟨O,rfl,j⟩
  rw [Fo.fW] at o
  refine aG (RC.region (mv aj (RL.aR (f:=(fun x=>x)) 5 j zr Fd.self dD fun bb j=>(RL.eH ([af]: (List bE)) j [bb] mw nz (fun M hs g=>⟨(g.sat 0 _ zr).1,zt⟩) fun bu w j=>?_))))
  have j:=j.freeze 0
  obtain⟨bw,bf,o⟩:=bd o
  refine RL.app 6 0 j Bl bf fun a3 w j=>?_
  refine aM a3 (RL.nil (bQ (aG (RC.sr (RL.aR (f:=(fun x=>x)) 7 j zr Fd.self dD fun bz j=>(RL.nt (RC.region (RL.alloc j nz.z fun bg w j=>?_))))))))
  refine RL.bC 0 j 1 zr dD fun w j=>?_
  refine RL.nil ?_
  obtain rfl:=oi o
  exact⟨rfl,a3,bg,j.sp 11 [4,5,6,7,8,0]⟩
 ·intro r _ _ _ _
  exact r.elim
 rintro ag _ w rfl ⟨ak,O,rfl,j⟩
 rw [Fo.fW] at o
 refine aG (RC.sr (mv ak (aM ak (aM (vb true) (RL.nt (RC.ret ?_))))))
 obtain rfl:=oi o
 exact lM ⟨ak,zr,j.pk 5 [4,0]⟩
def yW (E:World) (V:List HP) (res: (List bE)×Bool×Int) (v:Value) (w:World):Prop:=∃u0:Value,v = .tuple #[u0,(vb res.2.1),(vi res.2.2)]/\Holds E w ([own 38 u0 res.1]++V)
theorem xA {p0:iW} {p1 p2:fX} {res: (List bE)×Bool×Int} (j:Holds E w V) (h0:V[i0]? =some (rd v0 p0)) (h1:V[i1]? =some (rd v1 p1)) (h2:V[i2]? =some (rd v2 p2)) (o:iZ N p0 p1 p2=some res):
    Calls bH 4 [v0,v1,v2].toArray w (gI (yW E V res)):=by
 unfold iZ at o
 refine enter Tryz.func4 zr zr ?_
 have j:=((j.dup (i0+0) h0).dup (i1+1) h1).dup (i2+2) h2
 refine RC.sr (RL.cR 2 v0 j zr fun aw w j=>?_)
 refine RL.cR 2 v1 j zr fun ax w j=>?_
 refine RL.cR 2 v2 j zr fun ay w j=>?_
 refine aM (.slice none 0 0) (aM (vb false) (aM (vi 0) (RL.ns (RL.aR (f:=(fun x=>x)) 2 j zr Fd.self tD fun ak j=>?_))))
 obtain⟨ab,al,o⟩:=bd o
 refine RL.call zt zr JU [ak] zr (aF (nX N (i0:=0) j zr al) ?_)
 rintro _ w hK51
 rcases ah:ab.1 with _ | az
 ·replace o:=GH ah o
  obtain⟨rfl,j⟩:=DS ah hK51
  refine mv (.tuple #[(.pointer none),(vi ab.2)]) (RL.extract (.pointer none) (RL.extract (vi ab.2) (aM (.pointer none) (aM (vi ab.2) (RL.nq (RC.sr (mv (vi ab.2) (ic ab.2 0 ?_))))))))
  refine RL.nt (fy o (fun hc o=>?_) fun hc o=>?_)
  rotate_left
  ·cases o
  refine RC.sr (mv (vi ab.2) (aM (.slice none 0 0) (aM (vb false) (aM (vi ab.2) (RL.nt (RC.rt ?_))))))
  obtain rfl:=oi o
  have j:=j.cV bE 38
  exact Fh zr zr zr zr ⟨(.slice none 0 0),zr,j.pk 8 [0]⟩
 replace o:=GI ah o
 obtain⟨ad,a0,a1,a2,a3,a4,a5,a6,a7,a8,a9,ba,bb,rfl,j⟩:=DT ah hK51
 refine mv (.tuple #[(vp ad 0),(vi ab.2)]) (RL.extract (vp ad 0) (RL.extract (vi ab.2) (aM (vp ad 0) (aM (vi ab.2) (RL.nq (RC.sr (mv (vi ab.2) (ic ab.2 0 ?_))))))))
 refine RL.nt (fy o (fun hc o=>?_) fun hc o=>?_)
 ·refine RC.sr (mv (vi ab.2) (aM (.slice none 0 0) (aM (vb false) (aM (vi ab.2) (RL.nt (RC.rt ?_))))))
  obtain rfl:=oi o
  have j:=j.cV bE 38
  exact Fh zr zr zr zr ⟨(.slice none 0 0),zr,j.pk 21 [0]⟩
 refine RC.sx (mv (vp ad 0) (RL.aR (f:=(fun x=>x)) 15 j zr Fd.self oj fun an j=>(RL.aR (f:=(fun x=>x)) 15 j zr Fd.self oj fun ao j=>?_)))
 have j:=((((((((j.freeze 13).freeze 14).dup 14 rfl).dup 14 rfl).dup 8 rfl).dup 8 rfl).dup 8 rfl).dup 8 rfl).pull 8
 obtain⟨aa,aq,o⟩:=bd o
 refine RL.call zt zr Ig [(vp ad 0),an,ao] zr (aF (mP N (i1:=1) (i2:=0) j zr zr aq) ?_)
 rintro _ w ⟨ai,aj,rfl,j⟩
 refine mv (.tuple #[ai,aj,(vb aa.2.2.1),(vi aa.2.2.2)]) (RL.extract ai (RL.extract aj (RL.extract (vb aa.2.2.1) (RL.extract (vi aa.2.2.2) (RL.alloc j nz.z fun bc w j=>?_)))))
 refine RL.alloc j nz.z fun bf w j=>?_
 refine RL.bC 1 j 2 zr dD fun w j=>?_
 refine RL.bC 0 j 3 zr dD fun w j=>?_
 refine aM (vb aa.2.2.1) (aM (vi aa.2.2.2) (RL.nq (RC.sr (mv (vi aa.2.2.2) (ic aa.2.2.2 0 (mv (vb (aa.2.2.2 != 0)) (RL.gs true (aa.2.2.2 != 0) (vb aa.2.2.1) rfl rfl rfl dE (RL.gs true (aa.2.2.2 != 0) (vb (!aa.2.2.1)) rfl rfl rfl (yn aa.2.2.1 rfl (fun h=>by exact(cY h:cv (true&&((aa.2.2.2 != 0)==false)) (vb aa.2.2.1)= (vb aa.2.2.1)))) ?_))))))))
 refine RL.pick (aa.2.2.2 != 0) (vb ((aa.2.2.2 != 0)||(!aa.2.2.1))) (mH true zr) (RL.nt (fy o (fun hc o=>?_) fun hc o=>?_))
 ·refine RC.sr (mv (vi aa.2.2.2) (aM (.slice none 0 0) (aM (vb false) (aM (vi aa.2.2.2) (RL.nt (RC.rt ?_))))))
  obtain rfl:=oi o
  have j:=j.cV bE 38
  exact Fh zr zr zr zr ⟨(.slice none 0 0),zr,j.pk 28 [0]⟩
 refine RC.sx (mv (vp ad 0) (RL.aR (f:=(fun x=>x)) 1 j zr Fd.self dD fun ar j=>(RL.aR (f:=(fun x=>x)) 1 j zr Fd.self dD fun au j=>?_)))
 have j:=(j.dup 16 rfl).pull 7
 obtain⟨ag,av,o⟩:=bd o
 refine RL.call zt zr Ik [(vp ad 0),ar,au] zr (aF (na N (i1:=1) (i2:=0) j zr zr av) ?_)
 rintro _ w ⟨ae,rfl,j⟩
 refine mv (.tuple #[ae,(vb ag.2)]) (RL.extract ae (RL.extract (vb ag.2) (aM ae (aM (vb ag.2) (RL.ns (mv ae (mv (vb ag.2) (aM ae ?_))))))))
 refine aM (vb ag.2) (aM (vi 0) (RL.nt (RC.ret ?_)))
 obtain rfl:=oi o
 exact Fh zr zr zr zr ⟨ae,zr,j.pk 31 [0]⟩
theorem vL {p0: (List aI)} (j:Holds E w V) (h0:V[i0]? =some (rd v0 p0)) (hb:lT N p0=some res):
    Calls bH 27 [v0].toArray w (gI (aT E V res)):=by
 unfold lT at hb
 refine enter Tryz.func27 zr zr ?_
 have j:=j.dup (i0+0) h0
 refine RC.sr (aM (vi 0) (RL.ns (aM (vi 0) (RL.nq (RC.sr (mv v0 (RL.bK 0 p0 j qg (mv (vi 0) ?_))))))))
 refine RL.nt ?_
 obtain⟨aa,hN,hb⟩:=bd hb
 refine RC.fold (fun(ad:Nat) (aa:Int)=>SH E V [(3,vi aa),(6,v0),(7,vi p0.length),(8,vi ad)] [rd v0 p0]) (fun(aa:Int)=>SH E V [(3,vi aa)] [rd v0 p0]) hN ?_ ?_ ?_ ?_
 ·exact j.sp 1 [0]
 ·rintro hm aa _ w ⟨O,rfl,j⟩
  refine RC.sr (ic ((p0.length:Int)) ((p0.length:Int)) (RL.nq (RC.cX mT (RC.ex ?_))))
  exact⟨rfl,j.sp 1 [0]⟩
 ·rintro hm ad aa s' _ w hk ⟨O,rfl,j⟩ hb
  refine RC.sr (ic ((ad:Int)) ((p0.length:Int)) (RL.nq (RC.cW (mS hk) (RC.ss (RC.bs ?_)))))
  obtain⟨o,ah,hb⟩:=bd hb
  refine RL.cG 0 j lx ah fun ai j=>(RL.bU 0 o j iC fun aj j=>(RL.alloc j oq.z fun ak w j=>?_))
  refine RL.bC 0 j 1 zr iC fun w j=>?_
  refine RL.nt (RC.region (mv (vi aa) (RL.bF zr jW (RL.aO 0 j zr fU cP (RL.bF zr ji (RL.aO 0 j zr fu cP (RL.jo o.X1 o.X0 (RL.bF zr mZ ?_))))))))
  refine RL.aO 0 j zr iM cP (RL.bF zr jV (RL.aO 0 j zr fG cP (RL.jo o.Y1 o.Y0 (RL.jo (IntKind.wrap .i64 (o.X1 - o.X0)) (IntKind.wrap .i64 (o.Y1 - o.Y0)) (RL.jo aa (IntKind.wrap .i64 ((IntKind.wrap .i64 (o.X1 - o.X0))* (IntKind.wrap .i64 (o.Y1 - o.Y0)))) (aM (vi (IntKind.wrap .i64 (aa+ (IntKind.wrap .i64 ((IntKind.wrap .i64 (o.X1 - o.X0))* (IntKind.wrap .i64 (o.Y1 - o.Y0))))))) (RL.nil (bQ ?_))))))))
  refine aG (RC.region (RL.inc hk hm (mv (vi ((ad+1:Nat):Int)) (RL.nil ?_))))
  obtain rfl:=oi hb
  exact⟨rfl,j.sp 4 [3]⟩
 rintro _ w ⟨O,rfl,j⟩
 refine aG (RC.sr (mv (vi aa) (aM (vi aa) (RL.nt (RC.ret ?_)))))
 obtain rfl:=oi hb
 exact cH ⟨rfl,j.drop 1⟩
def yX (E:World) (V:List HP) (res:Int×Int) (v:Value) (w:World):Prop:=v = .tuple #[(vi res.1),(vi res.2)]/\Holds E w V
theorem xB {p0: (List aI)} {res:Int×Int} (o:Holds E w V) (h0:V[i0]? =some (rd v0 p0)) (j:nO N p0=some res):
    Calls bH 12 [v0].toArray w (gI (yX E V res)):=by
 unfold nO at j
 refine enter Tryz.func12 zr zr ?_
 have o:=o.dup (i0+0) h0
 refine RC.sr (aM (vi 0) (aM (vi 0) (RL.nq (RC.sr (mv v0 ?_)))))
 obtain⟨aa,ab,j⟩:=bd j
 refine RL.call zt zr GQ [v0] zr (aF (km N (i0:=0) o zr ab) ?_)
 rintro _ w ⟨rfl,o⟩
 refine aM (vi aa) (RL.ns (mv (vi aa) (ic aa 0 (RL.nt (fy j (fun hc j=>?_) fun hc j=>?_)))))
 ·refine RC.sr (mv (vi aa) (aM (vi 0) (aM (vi aa) (RL.nt (RC.rt ?_)))))
  obtain rfl:=oi j
  exact lM ⟨rfl,o.drop 1⟩
 refine RC.sx (mv v0 ?_)
 obtain⟨ae,af,j⟩:=bd j
 refine RL.call zt zr JZ [v0] zr (aF (vL N (i0:=0) o zr af) ?_)
 rintro _ w ⟨rfl,o⟩
 refine aM (vi ae) (aM (vi 0) (RL.nt (RC.ret ?_)))
 obtain rfl:=oi j
 exact lM ⟨rfl,o.drop 1⟩
theorem mi {res:Bool} (o:Holds E w V) (hb:gG N=some res):
    Calls bH 5 [].toArray w (gI (bB E V res)):=by
 unfold gG at hb
 refine enter Tryz.func5 zr zr (RC.sr (aM (vb false) (RL.ns ?_)))
 have o:=(o.sc Int 2).sc Int 3
 refine RL.build (⟨0,0,2,3⟩:aI) trivial rfl o [(2,vi 2),(3,vi 3)] rfl CX rfl (fun M hs g=>by have h:=sF M;exact dO.cons (f:=fun(x:aI) y=>{x with X1:=y}) h oZ (g.sat 1 _ rfl).1 fun _ h=>dO.cons (f:=fun(x:aI) y=>{x with Y1:=y}) h ru (g.sat 0 _ rfl).1 fun _ h=>dO.nil h) fun ab o=>?_
 refine RL.eH ([(⟨0,0,2,3⟩:aI)]: (List aI)) o [ab] lx oq (fun M hs g=>⟨(g.sat 0 _ zr).1,zt⟩) fun ad w o=>?_
 have o:=o.freeze 0
 obtain⟨j,ae,hb⟩:=bd hb
 refine RL.call zt zr J0 [ad] zr (aF (xB N (i0:=0) o zr ae) ?_)
 rintro _ w ⟨rfl,o⟩
 refine mv (.tuple #[(vi j.1),(vi j.2)]) (RL.extract (vi j.1) (RL.extract (vi j.2) (aM (vi j.1) (aM (vi j.2) (RL.ns (mv (vi j.2) (ic j.2 0 (mv (vb (j.2==0)) ?_))))))))
 refine RL.gs true (j.2==0) (vi j.1) rfl rfl rfl dE (RL.gs true (j.2==0) (vb (j.1==6)) rfl rfl rfl (eG .eql .i64 j.1 6 rfl (fun h=>by exact(cY h:cv (true&&((j.2==0)==true)) (vi j.1)= (vi j.1))) (fun _=>rfl) rfl) (RL.pick (j.2==0) (vb ((j.2==0)&&(j.1==6))) (iX true) (aM (vb ((j.2==0)&&(j.1==6))) (RL.nt (RC.ret ?_)))))
 obtain rfl:=oi hb
 exact cH ⟨rfl,o.drop 4⟩
theorem r5 {p0_6: (List (List Int))} {p1 p2:bE} {res: (List (bE×Int))} (j:Holds E w (bc 79 b0 [v0_0,v0_1,v0_2,v0_3,v0_4,v0_5,v0_6,v0_7,v0_8,v0_9,v0_10,v0_11]::rd v0_6 p0_6::V)) (h1:V[i1]? =some (rd v1 p1)) (h2:V[i2]? =some (pt v2 p2)) (o:kG N p0_6 p1 p2=some res):
    Calls bH 13 [(vp b0 0),v1,v2].toArray w (gI (l4 E V b0 v0_0 v0_1 v0_2 v0_3 v0_4 v0_5 v0_6 v0_7 v0_8 v0_9 v0_10 v0_11 res)):=by
 unfold kG at o
 refine enter Tryz.func13 zr zr ?_
 have j:=(j.dup (i1+2) h1).uA (i:=i2+3) h2
 refine RC.sr (RL.cR 1 v1 j zr fun bj w j=>?_)
 refine aM (.map none) (RL.ns (RL.makeMap (κ:=bE) (ν:=Int) j fun ab w j=>(RL.aR (f:=(fun x=>x)) 1 j zr Fd.self dD fun bk j=>?_)))
 have j:=j.sc Int 0
 refine RL.insert 2 0 p1 zt j zr (lO 1 j) zr zr zr vG fun w j=>(mv ab (aM ab (RL.nq (RC.sr (RL.aR (f:=(fun x=>x)) 3 j zr Fd.self dD fun a8 j=>(RL.eH ([p1]: (List bE)) j [a8] mw nz (fun M hs g=>⟨(g.sat 0 _ zr).1,zt⟩) fun a0 w j=>(aM a0 (RL.nt ?_))))))))
 obtain⟨bl,hN,o⟩:=bd o
 refine RC.iter (fun(ah: (List (bE×Int))×(List bE)) U w=>∃a1:Value,SH E V [(0,vp b0 0),(2,v2),(7,ab),(8,a1)] [bc 79 b0 [v0_0,v0_1,v0_2,v0_3,v0_4,v0_5,v0_6,v0_7,v0_8,v0_9,v0_10,v0_11],rd v0_6 p0_6,pt v2 p2,mp ab ah.1,own 38 a1 ah.2] U w) (fun(ah: (List (bE×Int))×(List bE))=>SH E V [(0,vp b0 0),(7,ab)] [bc 79 b0 [v0_0,v0_1,v0_2,v0_3,v0_4,v0_5,v0_6,v0_7,v0_8,v0_9,v0_10,v0_11],rd v0_6 p0_6,pt v2 p2,mp ab ah.1]) (fun(r:Empty) _ _=>r.elim) hN ?_ ?_ ?_ ?_
 ·exact⟨a0,j.sp 10 [8,9,6,4,0]⟩
 ·rintro ah fl _ w ⟨ar,O,rfl,j⟩ o
  refine RC.seq (RC.sr (mv ar (RL.eK 4 ah.2 j xx (ic ((ah.2.length:Int)) 0 (RL.nt (fy o (fun hc o=>?_) fun hc o=>?_))))))
  rotate_left
  ·refine RC.ex ?_
   obtain rfl:=oi o
   exact⟨rfl,j.sp 5 [0,1,2,3]⟩
  refine RC.ss (RC.bs (mv (vp b0 0) (mv ar ?_)))
  obtain⟨bn,av,o⟩:=bd o
  refine RL.bL 4 j zr zr mw av (RL.gJ (f:=(fun x=>x)) 4 j (jr 4 j av 0) (aZ av).2.1 Fd.self dD fun a9 j=>?_)
  have j:=(j.dup 2 rfl).pull 2
  obtain⟨af,ba,o⟩:=bd o
  refine RL.call zt zr GW [(vp b0 0),a9] zr (aF (kn N (i1:=0) j zr ba) ?_)
  rintro ai w j
  refine RL.eK 0 af j xx (mv (vi 0) (RL.nt ?_))
  obtain⟨aa,hN,o⟩:=bd o
  refine RC.fold (fun(aj:Nat) (aa: (List (bE×Int))×(List bE)) U w=>∃a2:Value,SH E V [(0,vp b0 0),(2,v2),(7,ab),(8,a2),(27,ai),(28,vi af.length),(29,vi aj)] [bc 79 b0 [v0_0,v0_1,v0_2,v0_3,v0_4,v0_5,v0_6,v0_7,v0_8,v0_9,v0_10,v0_11],rd v0_6 p0_6,pt v2 p2,mp ab aa.1,own 38 ai af,own 38 a2 aa.2] U w) (fun(aa: (List (bE×Int))×(List bE)) U w=>∃al:Value,SH E V [(0,vp b0 0),(2,v2),(7,ab),(8,al)] [bc 79 b0 [v0_0,v0_1,v0_2,v0_3,v0_4,v0_5,v0_6,v0_7,v0_8,v0_9,v0_10,v0_11],rd v0_6 p0_6,pt v2 p2,mp ab aa.1,own 38 ai af,own 38 al aa.2] U w) hN ?_ ?_ ?_ ?_
  ·exact⟨ar,j.sp 8 [1,4,5,6,0,7]⟩
  ·rintro hm aa _ w ⟨bb,O,rfl,j⟩
   refine RC.sr (ic ((af.length:Int)) ((af.length:Int)) (RL.nq (RC.cX mT (RC.ex ?_))))
   exact⟨rfl,bb,j.sp 6 [0,1,2,3,4,5]⟩
  ·rintro hm aj aa s' _ w hk ⟨ak,O,rfl,j⟩ o
   refine RC.sr (ic ((aj:Int)) ((af.length:Int)) (RL.nq (RC.cW (mS hk) (RC.ss (RC.bs ?_)))))
   obtain⟨ad,aw,o⟩:=bd o
   refine RL.bL 4 j zr zr mw aw (RL.gJ (f:=(fun x=>x)) 4 j (jr 4 j aw 0) (aZ aw).2.1 Fd.self dD fun bo j=>?_)
   refine RL.alloc j nz.z fun a5 w j=>?_
   refine RL.bC 0 j 1 zr dD fun w j=>?_
   refine RL.ns (mv ab (RL.aR (f:=(fun x=>x)) 0 j zr Fd.self dD fun bp j=>(RL.nL 6 ad j (lO 0 j) vG (mv (.tuple #[(vi (cL aa.1 ad (0:Int))),(vb (dM aa.1 ad))]) (RL.extract (vi (cL aa.1 ad (0:Int))) (RL.extract (vb (dM aa.1 ad)) (aM (vi (cL aa.1 ad (0:Int))) (aM (vb (dM aa.1 ad)) ?_))))))))
   refine RL.nq ?_
   obtain⟨ax,hj,o⟩:=bd o
   refine RC.jn (fun(ax:Bool)=>SH E V [(0,vp b0 0),(2,v2),(7,ab),(8,ak),(10,vp a5 0),(27,ai),(28,vi af.length),(29,vi aj),(51,vb ax)] [bc 79 b0 [v0_0,v0_1,v0_2,v0_3,v0_4,v0_5,v0_6,v0_7,v0_8,v0_9,v0_10,v0_11],rd v0_6 p0_6,pt v2 p2,mp ab aa.1,own 38 ak aa.2,bx 38 a5 ad,own 38 ai af]) ax ?_ ?_
   ·refine RC.vQ mixed ?_
    have j:=j.drew
    refine RO.go (mv (vb (dM aa.1 ad)) (RO.nx (RL.not (dM aa.1 ad) (RO.nx (mv (vb (!(dM aa.1 ad))) (gv hj (fun ag hj=>?_) fun ag hj=>?_))))))
    ·refine RO.nx (RL.move v2 (cg ag) (RO.nx (RL.I5 (i:=5) (cg ag) zr j zr zr zr Gj (RO.nx (RL.move (vb false) (cg ag) (RO.nx (RL.aR (hg:=⟨_,zr,zr⟩) (f:=(fun x=>x)) 1 j zr Fd.self dD fun bq j=>(RO.nx ?_))))))))
     refine RL.move v2 ⟨_,zr,zr⟩ (RO.nx (RL.z5 (i:=6) ⟨_,zr,zr⟩ zr j zr zr (RO.nx (RL.bU (hg:=⟨_,zr,zr⟩) 6 p2 j dD fun br j=>(RO.nx (RL.IK 1 0 ad p2 ⟨_,zr,zr⟩ zr j zr zr zr zr wv zr (RO.nx (RL.pick (hg:=(cg ag)) false (vb (!(decide (ad=p2)))) zr ?_))))))))
     refine RO.nx (gw ag (vb (!(decide (ad=p2)))) (RO.last ?_))
     obtain rfl:=oi hj
     exact⟨rfl,j.sp 11 [5,6,7,8,10,3,9]⟩
    refine RO.nx (cA ag (RO.nx (cA ag (RO.nx (cA ag (RO.nx (sg (RO.nx ?_))))))))
    refine sg (RO.nx (sg (RO.nx (sg (RO.nx (sg (RO.nx (cA ag ?_))))))))
    refine RO.nx (gw ag (vb false) (RO.last ?_))
    obtain rfl:=oi hj
    exact⟨rfl,j.sp 9 [3,4,5,6,8,1,7]⟩
   rintro _ w ⟨O,rfl,j⟩
   refine aG ?_
   obtain⟨an,hj,o⟩:=bd o
   refine RC.jn (fun(an: (List (bE×Int))×(List bE)) U w=>∃ao:Value,SH E V [(0,vp b0 0),(2,v2),(7,ab),(8,ao),(27,ai),(28,vi af.length),(29,vi aj)] [bc 79 b0 [v0_0,v0_1,v0_2,v0_3,v0_4,v0_5,v0_6,v0_7,v0_8,v0_9,v0_10,v0_11],rd v0_6 p0_6,pt v2 p2,mp ab an.1,own 38 ai af,own 38 ao an.2] U w) an ?_ ?_
   ·refine fy hj (fun hc hj=>?_) fun hc hj=>?_
    rotate_left
    ·refine RC.skip ?_
     obtain rfl:=oi hj
     exact⟨rfl,ak,j.sp 7 [0,1,2,3,6,4]⟩
    refine RC.seq (RC.yF mixed [0,0,0,0,0,0,0,0,2] [0,1,2,3,4,5,6,7,8] ?_)
    have j:=j.drew
    refine DP.e0 zr (mv ab (cT zr (RL.aR (f:=(fun x=>x)) 5 j zr Fd.self dD fun bt j=>(cT zr (mv ab (cT zr (mv ak (cT zr ?_))))))))
    obtain⟨ay,az,hj⟩:=bd hj
    refine RL.bL 5 j zr zr mw az (cT zr (RL.gJ (f:=(fun x=>x)) 5 j (jr 5 j az 0) (aZ az).2.1 Fd.self dD fun bu j=>?_))
    refine cT zr (RL.lP 5 ay j (lO 0 j) vG (cT zr (RL.jo (cL aa.1 ay (0:Int)) 1 (vF zr ?_))))
    have j:=j.sc Int (IntKind.wrap .i64 ((cL aa.1 ay (0:Int))+1))
    refine RL.mapUpdate 6 0 ad j zr (lO 2 j) zr zr zr vG fun w j=>(DP.d2 zt (DP.z (aG (RC.region (mv ak (RL.aR (f:=(fun x=>x)) 8 j zr Fd.self dD fun bf j=>(RL.eH ([ad]: (List bE)) j [bf] mw nz (fun M hs g=>⟨(g.sat 0 _ zr).1,zt⟩) fun bw w j=>?_)))))))
    have j:=j.freeze 0
    obtain⟨bz,bg,hj⟩:=bd hj
    refine RL.app 9 0 j Bl bg fun a6 w j=>?_
    refine aM a6 (RL.nil ?_)
    obtain rfl:=oi hj
    exact⟨rfl,a6,j.sp 12 [5,6,7,8,11,9]⟩
   rintro _ w ⟨ao,O,rfl,j⟩
   refine bQ (aG (RC.region (RL.inc hk hm (mv (vi ((aj+1:Nat):Int)) (RL.nil ?_)))))
   obtain rfl:=oi o
   exact⟨rfl,ao,j.sp 6 [0,1,2,3,4,5]⟩
  rintro _ w ⟨al,O,rfl,j⟩
  refine bQ (aG (RC.region (mv al ?_)))
  obtain⟨b1,bh,o⟩:=bd o
  refine RL.tk 5 zr j zr zr mw (.inl zr) (.inr ⟨rfl,zr⟩) bh fun a7 j=>(aM a7 (RL.nil ?_))
  obtain rfl:=oi o
  exact⟨rfl,a7,j.sp 6 [0,1,2,3,5]⟩
 ·intro r _ _ _ _
  exact r.elim
 rintro ah _ w rfl ⟨O,rfl,j⟩
 rw [Fo.fW] at o
 refine aG (RC.sr (mv ab (aM ab (RL.nt (RC.ret ?_)))))
 obtain rfl:=oi o
 exact cH (j.pk 4 [3,0])
end Go.Gk
