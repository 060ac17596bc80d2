/-
  Printed texts: Go functions as plain functions, and that they are. No statement of the seed is proved here.
-/
import Derived.Test.YtlffnmkhgkppkaaGreatDoorG1
import Derived.Test.YtlffnmkhgkppkaaGreatDoorG4
import Derived.Test.YtlffnmkhgkppkaaGreatDoorG2
import Derived.Test.YtlffnmkhgkppkaaGreatDoorA2
set_option linter.unusedVariables false
set_option linter.unusedSimpArgs false
set_option linter.unusedSectionVars false
set_option maxRecDepth 100000
set_option maxHeartbeats 4000000
namespace Go.Gk
open Go Go.Proofs
variable (N:Nat) {E w:World} {b0 i0 i1 i2:Nat} {p0 p1:Int} {v0 v0_0 v0_1 v0_10 v0_11 v0_2 v0_3 v0_4 v0_5 v0_6 v0_7 v0_8 v0_9 v1 v2:Value} {V:List HP}
def tZ (E:World) (V:List HP) (b0:Nat) (v0_0 v0_1:Value) (v0_2 v0_3:Value) (v0_4 v0_5:Value) (v0_6 v0_7:Value) (v0_8 v0_9:Value) (v0_10 v0_11:Value) (res:bX×bX×Bool×Int) (v:Value) (w:World):Prop:=∃u0 u1:Value,v = .tuple #[u0,u1,(vb res.2.2.1),(vi res.2.2.2)]/\Holds E w ([rd u0 res.1,rd u1 res.2.1,bc 108 b0 [v0_0,v0_1,v0_2,v0_3,v0_4,v0_5,v0_6,v0_7,v0_8,v0_9,v0_10,v0_11]]++V)
theorem nX {p0_0: (List (List aH))} {p0_1: (List aH)} {p0_2: (List cH)} {p0_3: (List eW)} {p0_10: (List Int)} {p0_11: (List bX)} {p1 p2:fL} {res:bX×bX×Bool×Int} (j:Holds E w (bc 108 b0 [v0_0,v0_1,v0_2,v0_3,v0_4,v0_5,v0_6,v0_7,v0_8,v0_9,v0_10,v0_11]::rd v0_0 p0_0::rd v0_1 p0_1::rd v0_2 p0_2::rd v0_3 p0_3::rd v0_10 p0_10::rd v0_11 p0_11::V)) (h1:V[i1]? =some (rd v1 p1)) (h2:V[i2]? =some (rd v2 p2)) (hb:fQ N p0_0 p0_1 p0_2 p0_3 p0_10 p0_11 p1 p2=some res):
    Calls bN 29 [(vp b0 0),v1,v2].toArray w (iv (tZ E V b0 v0_0 v0_1 v0_2 v0_3 v0_4 v0_5 v0_6 v0_7 v0_8 v0_9 v0_10 v0_11 res)):=by
 unfold fQ at hb
 refine enter Tryz.func29 zr zr ?_
 have j:=(j.dup (i1+7) h1).dup (i2+8) h2
 refine RC.sr (RL.cX 1 v1 j zr fun a7 w j=>?_)
 have j:=j.jw (i:=0) rfl
 refine RL.cX 1 v2 j zr fun a8 w j=>?_
 have j:=j.jw (i:=0) rfl
 refine RL.r8 j Kv fun ao w j=>?_
 refine RL.r8 j Kv fun aq w j=>?_
 refine aR (vb false) (aR (vi 0) (RL.nq ?_))
 have j:=j.drew
 refine RC.FX (fun w=>Holds E w ([bc 108 b0 [v0_0,v0_1,v0_2,v0_3,v0_4,v0_5,v0_6,v0_7,v0_8,v0_9,v0_10,v0_11]]++V)) mixed zr [0,0,0,0,0,2,1,1,1,1,1,2,0,0] [0,1,2,3,4,6,7,8,9,10,5,11,12,13] (j.pk 13 [6]) (DP.e0 zr (mv (vp b0 0) (bR zr (RL.nilCheck zr (bR zr (RL.bT zr m6 (bR zr (RL.BL (cs:=[v0_0,v0_1,v0_2,v0_3]) 6 zt zr j zr zr sA zr zr ?_))))))))
 refine bR zr (RL.cD 3 p1 j qo fun a5 j=>(DP.d0 (DP.e1 (vp b0 0) zr (fun w=>RL.move (vp b0 0) zt DP.d1) (DP.e1 (vp b0 0) zr (fun w=>RL.nilCheck zr DP.d1) (DP.e1 (vp b0 0) zr (fun w=>RL.bT zr m6 DP.d1) (DP.IW (.agg ([v0_0,v0_1,v0_2,v0_3]:List Value).toArray) zr (fun w j=>RL.BL (cs:=[v0_0,v0_1,v0_2,v0_3]) 0 zt zr j zr zr sA zr zr DP.d1) (DP.Ax p2 3 zr j qo fun a6 a37 b5 j=>(DP.e2 zr ?_))))))))
 have j:=j.C5 (cs:=[v0_0,v0_1,v0_2,v0_3]) (x:=(⟨p0_0,p0_1,p0_2,p0_3⟩:iM)) (fun M hs g=>⟨[v0_0],[v0_1,v0_2,v0_3],rfl,(n0 (g.sat 10 _ rfl).1),⟨[v0_1],[v0_2,v0_3],rfl,(n0 (g.sat 11 _ rfl).1),⟨[v0_2],[v0_3],rfl,(n0 (g.sat 12 _ rfl).1),(n0 (g.sat 13 _ rfl).1)⟩⟩⟩) rfl
 obtain⟨ar,bf,hb⟩:=bd hb
 refine RL.call zt zr HC [(.agg ([v0_0,v0_1,v0_2,v0_3]:List Value).toArray),a5] zr (aF (l9 N (i0:=0) (i1:=3) j zr zr bf) ?_)
 rintro _ w ⟨rfl,j⟩
 refine DP.d2 (⟨j.pk 17 [10],j.np 1⟩) (DP.e2 zr ?_)
 have j:=j.C5 (cs:=[v0_0,v0_1,v0_2,v0_3]) (x:=(⟨p0_0,p0_1,p0_2,p0_3⟩:iM)) (fun M hs g=>⟨[v0_0],[v0_1,v0_2,v0_3],rfl,(n0 (g.sat 11 _ rfl).1),⟨[v0_1],[v0_2,v0_3],rfl,(n0 (g.sat 12 _ rfl).1),⟨[v0_2],[v0_3],rfl,(n0 (g.sat 13 _ rfl).1),(n0 (g.sat 14 _ rfl).1)⟩⟩⟩) rfl
 obtain⟨aw,bg,hb⟩:=bd hb
 refine RL.call zt zr HC [(.agg ([v0_0,v0_1,v0_2,v0_3]:List Value).toArray),a6] zr (aF (l9 N (i0:=0) (i1:=3) j zr zr bg) ?_)
 rintro _ w ⟨rfl,j⟩
 refine DP.d2 (⟨j.pk 18 [11],j.np 2⟩) (DP.e0 zr (aR (vi ar) (bR zr (aR (vi aw) (DP.d0 ?_)))))
 have j:=j.pl 18 [0,1,3,4,5,6,7,8,9,10,11,12,13,14,15,16,17]
 refine DP.z (aG (RC.seq (RC.sr (mv (vi ar) (ic ar 0 (mv (vb (decide (ar<0))) (RL.gs true (decide (ar<0)) (vi aw) rfl rfl rfl dW (RL.gs true (decide (ar<0)) (vb (decide (aw<0))) rfl rfl rfl (fN .lss .i64 aw 0 rfl (fun h=>by exact(dN h:cv (true&&((decide (ar<0))==false)) (vi aw)= (vi aw))) (fun _=>rfl) rfl) ?_))))))))
 refine RL.pick (decide (ar<0)) (vb ((decide (ar<0))||(decide (aw<0)))) (oO true) (RL.nt (fU hb (fun hc hb=>?_) fun hc hb=>?_))
 ·refine RC.seq (RC.D3 E V mixed [0,0,0,0,1,1] [0,1] (fun(x:Value×Value)=>(fun ax ay=>[(0,30,ax),(1,31,ay),(4,8,(vb false)),(5,9,(vi 9))]) x.1 x.2) [(0,vp b0 0),(6,vp ao 0),(7,vp aq 0)] [] (fun(D:Nat->Bool) (x:Value×Value)=>(fun ax ay=>[bif D 0 then (rd ax (⟨false,0⟩:bX)) else aW,bif D 1 then (rd ay (⟨false,0⟩:bX)) else aW,rd (.agg ([v0_0,v0_1,v0_2,v0_3]:List Value).toArray) (⟨p0_0,p0_1,p0_2,p0_3⟩:iM),rd (.agg ([v0_0,v0_1,v0_2,v0_3]:List Value).toArray) (⟨p0_0,p0_1,p0_2,p0_3⟩:iM),rd a6 p2,rd a5 p1,bif D 1 then (bx 47 aq (⟨false,0⟩:bX)) else (bc 47 aq [(vb false),(vi 0)]),bif D 0 then (bx 47 ao (⟨false,0⟩:bX)) else (bc 47 ao [(vb false),(vi 0)]),pt (vp a8 0) p2,pt (vp a7 0) p1,rd v2 p2,rd v1 p1,bc 108 b0 [v0_0,v0_1,v0_2,v0_3,v0_4,v0_5,v0_6,v0_7,v0_8,v0_9,v0_10,v0_11],rd v0_0 p0_0,rd v0_1 p0_1,rd v0_2 p0_2,rd v0_3 p0_3,rd v0_10 p0_10,rd v0_11 p0_11]) x.1 x.2) (fun x=>by kernel_rfl) ?_ ⟨?_,?_,?_,?_,fun _=>BT gn,fun _=>BT gn,trivial⟩ ?_)
  ·have j:=((j.drew).aW).aW
   exact⟨(undef,undef),eR.none,(CV zr),zt,j⟩
  ·rintro D U w hD aa ak ⟨⟨ax,ay⟩,o,ha,_,j⟩
   obtain⟨O,rfl⟩:=(ac (ha.at 1 rfl) az).eQ
   have j:=((j.bS 0 hD).bS 7 hD).xS (i:=7) (x:=(⟨false,0⟩:bX)) rfl (fun M hs g=>⟨[(vb false)],[(vi 0)],rfl,rfl,rfl⟩)
   refine RL.aS (f:=(fun x=>x)) 7 j zr Fd.self dM fun bj j=>?_
   have j:=((j.pl 20 [0,2,3,4,5,6,7,8,9,10,11,12,13,14,15,16,17,18,19]).bZ 0 true rfl aW).bZ 7 true rfl (bc 47 ao [(vb false),(vi 0)])
   exact RL.nil ⟨rfl,(bj,ay),o.pu 0,ha.u,zt,j⟩
  ·rintro D U w hD aa ak ⟨⟨ax,ay⟩,o,ha,_,j⟩
   obtain⟨O,rfl⟩:=(ac (ha.at 2 rfl) az).eQ
   have j:=((j.bS 1 hD).bS 6 hD).xS (i:=6) (x:=(⟨false,0⟩:bX)) rfl (fun M hs g=>⟨[(vb false)],[(vi 0)],rfl,rfl,rfl⟩)
   refine RL.aS (f:=(fun x=>x)) 6 j zr Fd.self dM fun bk j=>?_
   have j:=((j.pl 20 [1,0,3,4,5,6,7,8,9,10,11,12,13,14,15,16,17,18,19]).bZ 1 true rfl aW).bZ 6 true rfl (bc 47 aq [(vb false),(vi 0)])
   exact RL.nil ⟨rfl,(ax,bk),o.pu 1,ha.u,zt,j⟩
  ·rintro D U w hD aa ak ⟨⟨ax,ay⟩,o,ha,_,j⟩
   obtain⟨O,rfl⟩:=(ac (o.at 0 rfl (aa.1 rfl)) (ac (ha.at 1 rfl) az)).eQ
   have j:=(j.bY 0 (aa.1 rfl)).bY 7 (aa.1 rfl)
   refine RL.p7 7 j 0 zr dM fun w j=>?_
   have j:=(j.bZ 0 (D 0) (aa.1 rfl) aW).bZ 7 (D 0) (aa.1 rfl) (bc 47 ao [(vb false),(vi 0)])
   exact RL.nil ⟨rfl,(ax,ay),o.n1,ha,zt,j⟩
  ·rintro D U w hD aa ak ⟨⟨ax,ay⟩,o,ha,_,j⟩
   obtain⟨O,rfl⟩:=(ac (o.at 1 rfl (aa.1 rfl)) (ac (ha.at 2 rfl) az)).eQ
   have j:=(j.bY 1 (aa.1 rfl)).bY 6 (aa.1 rfl)
   refine RL.p7 6 j 1 zr dM fun w j=>?_
   have j:=(j.bZ 1 (D 1) (aa.1 rfl) aW).bZ 6 (D 1) (aa.1 rfl) (bc 47 aq [(vb false),(vi 0)])
   exact RL.nil ⟨rfl,(ax,ay),o.n1,ha,zt,j⟩
  rintro D U w al ⟨⟨ax,ay⟩,o,ha,_,j⟩
  have j:=(((j.bY 0 (iT al 0)).bY 1 (iT al 1)).bY 6 (iT al 1)).bY 7 (iT al 0)
  obtain⟨O,rfl⟩:=(ac (o.at 2 rfl (iT al 4)) (ac (o.at 3 rfl (iT al 5)) (ac (ha.at 0 rfl) (ac (ha.at 1 rfl) (ac (ha.at 2 rfl) az))))).eQ
  refine aG (RC.rt ?_)
  obtain rfl:=oi hb
  exact H5 7 6 zr j zr zr zr zr dM dM zr zr fun bl bm j=>⟨bl,bm,zr,j.pk 21 [1,0,14]⟩
 refine RC.ss ?_
 obtain⟨a4,hj,hb⟩:=bd hb
 refine RC.jn (fun(a4:bX×bX×Bool)=>SH E V [(0,vp b0 0),(6,vp ao 0),(7,vp aq 0),(8,vb a4.2.2),(9,vi 0)] [bc 108 b0 [v0_0,v0_1,v0_2,v0_3,v0_4,v0_5,v0_6,v0_7,v0_8,v0_9,v0_10,v0_11],rd v0_0 p0_0,rd v0_1 p0_1,rd v0_2 p0_2,rd v0_3 p0_3,rd v0_10 p0_10,rd v0_11 p0_11,bx 47 ao a4.1,bx 47 aq a4.2.1]) a4 ?_ ?_
 ·obtain⟨a1,a9,hj⟩:=bd hj
  obtain⟨a2,ba,hj⟩:=bd hj
  obtain⟨a0,bb,hj⟩:=bd hj
  refine gG hj (fun an hj=>?_) fun an hj=>?_
  rotate_left
  ·refine RC.D3 E V mixed [1,1,1,0,1,0,0,1,1,1,0,1,0,0,1,1,1,0,1,0,0,1,1,1,1,1,1,1,1,1,1,1,0,0,1,1] [5,6,12,13,19,32,33] (fun(x:Value×Value×Value×Value×Value)=>(fun ad ae af ag ah=>[(0,32,(vp b0 0)),(1,33,(vp b0 0)),(2,34,(vp b0 11)),(3,35,v0_11),(4,36,(vi ar)),(5,37,ad),(6,38,ae),(7,39,(vp b0 0)),(8,40,(vp b0 0)),(9,41,(vp b0 11)),(10,42,v0_11),(11,43,(vi aw)),(12,44,af),(13,45,ag),(14,46,(vp b0 0)),(15,47,(vp b0 0)),(16,48,(vp b0 10)),(17,49,v0_10),(18,50,(vi ar)),(19,51,ah),(20,52,(vi a0)),(21,53,(vb (decide (a0>=0)))),(22,54,(vb (decide (a0>=0)))),(23,55,undef),(24,56,undef),(25,57,undef),(26,58,undef),(27,59,undef),(28,60,undef),(29,61,undef),(30,62,undef),(31,63,(vb false)),(34,8,(vb false)),(35,9,(vi 0))]) x.1 x.2.1 x.2.2.1 x.2.2.2.1 x.2.2.2.2) [(0,vp b0 0),(6,vp ao 0),(7,vp aq 0),(10,vi ar),(11,vi aw)] [] (fun(D:Nat->Bool) (x:Value×Value×Value×Value×Value)=>(fun ad ae af ag ah=>[bif D 0 then (pt ad a1) else aW,bif D 1 then (rd ae a1) else aW,bif D 2 then (pt af a2) else aW,bif D 3 then (rd ag a2) else aW,bif D 4 then (pt ah a0) else aW,rd (.agg ([v0_0,v0_1,v0_2,v0_3]:List Value).toArray) (⟨p0_0,p0_1,p0_2,p0_3⟩:iM),rd (.agg ([v0_0,v0_1,v0_2,v0_3]:List Value).toArray) (⟨p0_0,p0_1,p0_2,p0_3⟩:iM),rd a6 p2,rd a5 p1,bif D 6 then (bx 47 aq a2) else (bc 47 aq [(vb false),(vi 0)]),bif D 5 then (bx 47 ao a1) else (bc 47 ao [(vb false),(vi 0)]),pt (vp a8 0) p2,pt (vp a7 0) p1,rd v2 p2,rd v1 p1,bc 108 b0 [v0_0,v0_1,v0_2,v0_3,v0_4,v0_5,v0_6,v0_7,v0_8,v0_9,v0_10,v0_11],rd v0_0 p0_0,rd v0_1 p0_1,rd v0_2 p0_2,rd v0_3 p0_3,rd v0_10 p0_10,rd v0_11 p0_11]) x.1 x.2.1 x.2.2.1 x.2.2.2.1 x.2.2.2.2) (fun x=>by kernel_rfl) ?_ ⟨fun _=>g8 gn,fun _=>tM gn,fun _=>nn gn tu,?_,fun _=>g8 gn,?_,?_,fun _=>g8 gn,fun _=>tM gn,fun _=>nn gn tu,?_,fun _=>g8 gn,?_,?_,fun _=>g8 gn,fun _=>tM gn,fun _=>nn gn rj,?_,fun _=>g8 gn,?_,?_,fun _=>EP gn,fun _=>g8 gn,fun _=>u4 an,fun _=>u4 an,fun _=>u4 an,fun _=>u4 an,fun _=>u4 an,fun _=>u4 an,fun _=>u4 an,fun _=>u4 an,fun _=>Jx gn an rfl,?_,?_,fun _=>BT gn,fun _=>BT gn,trivial⟩ ?_
   ·have j:=(((((j.drew).aW).aW).aW).aW).aW
    exact⟨(undef,undef,undef,undef,undef),eR.none,(CV zr),zt,j⟩
   ·rintro D U w hD aa ak ⟨⟨ad,ae,af,ag,ah⟩,o,ha,_,j⟩
    obtain⟨O,rfl⟩:=(ac (o.at 2 rfl (aa.1 rfl)) az).eQ
    refine RL.bP 15 v0_11 j E0 ?_
    exact RL.nil ⟨rfl,(ad,ae,af,ag,ah),o.pu 3,ha.u,zt,j⟩
   ·rintro D U w hD aa ak ⟨⟨ad,ae,af,ag,ah⟩,o,ha,_,j⟩
    obtain⟨O,rfl⟩:=(ac (o.at 3 rfl (aa.1 rfl)) (ac (o.at 4 rfl (aa.2.1 rfl)) az)).eQ
    have j:=j.bS 0 hD
    refine RL.cM 21 j l6 a9 fun bn j=>?_
    have j:=(j.pl 23 [0,2,3,4,5,6,7,8,9,10,11,12,13,14,15,16,17,18,19,20,21,22]).bZ 0 true rfl aW
    exact RL.nil ⟨rfl,(bn,ae,af,ag,ah),o.pu 5,ha.u,zt,j⟩
   ·rintro D U w hD aa ak ⟨⟨ad,ae,af,ag,ah⟩,o,ha,_,j⟩
    obtain⟨O,rfl⟩:=(ac (o.at 5 rfl (aa.1 rfl)) az).eQ
    have j:=(j.bY 0 (aa.1 rfl)).bS 1 hD
    refine RL.cD 0 a1 j dM fun bo j=>?_
    have j:=((j.pl 23 [1,0,3,4,5,6,7,8,9,10,11,12,13,14,15,16,17,18,19,20,21,22]).bZ 0 (D 5) (aa.1 rfl) aW).bZ 1 true rfl aW
    exact RL.nil ⟨rfl,(ad,bo,af,ag,ah),o.pu 6,ha.u,zt,j⟩
   ·rintro D U w hD aa ak ⟨⟨ad,ae,af,ag,ah⟩,o,ha,_,j⟩
    obtain⟨O,rfl⟩:=(ac (o.at 9 rfl (aa.1 rfl)) az).eQ
    refine RL.bP 15 v0_11 j E0 ?_
    exact RL.nil ⟨rfl,(ad,ae,af,ag,ah),o.pu 10,ha.u,zt,j⟩
   ·rintro D U w hD aa ak ⟨⟨ad,ae,af,ag,ah⟩,o,ha,_,j⟩
    obtain⟨O,rfl⟩:=(ac (o.at 10 rfl (aa.1 rfl)) (ac (o.at 11 rfl (aa.2.1 rfl)) az)).eQ
    have j:=j.bS 2 hD
    refine RL.cM 21 j l6 ba fun bp j=>?_
    have j:=(j.pl 23 [1,2,0,4,5,6,7,8,9,10,11,12,13,14,15,16,17,18,19,20,21,22]).bZ 2 true rfl aW
    exact RL.nil ⟨rfl,(ad,ae,bp,ag,ah),o.pu 12,ha.u,zt,j⟩
   ·rintro D U w hD aa ak ⟨⟨ad,ae,af,ag,ah⟩,o,ha,_,j⟩
    obtain⟨O,rfl⟩:=(ac (o.at 12 rfl (aa.1 rfl)) az).eQ
    have j:=(j.bY 2 (aa.1 rfl)).bS 3 hD
    refine RL.cD 2 a2 j dM fun bq j=>?_
    have j:=((j.pl 23 [1,2,3,0,5,6,7,8,9,10,11,12,13,14,15,16,17,18,19,20,21,22]).bZ 2 (D 12) (aa.1 rfl) aW).bZ 3 true rfl aW
    exact RL.nil ⟨rfl,(ad,ae,af,bq,ah),o.pu 13,ha.u,zt,j⟩
   ·rintro D U w hD aa ak ⟨⟨ad,ae,af,ag,ah⟩,o,ha,_,j⟩
    obtain⟨O,rfl⟩:=(ac (o.at 16 rfl (aa.1 rfl)) az).eQ
    refine RL.bP 15 v0_10 j fJ ?_
    exact RL.nil ⟨rfl,(ad,ae,af,ag,ah),o.pu 17,ha.u,zt,j⟩
   ·rintro D U w hD aa ak ⟨⟨ad,ae,af,ag,ah⟩,o,ha,_,j⟩
    obtain⟨O,rfl⟩:=(ac (o.at 17 rfl (aa.1 rfl)) (ac (o.at 18 rfl (aa.2.1 rfl)) az)).eQ
    have j:=j.bS 4 hD
    refine RL.cM 20 j fF bb fun br j=>?_
    have j:=(j.pl 23 [1,2,3,4,0,6,7,8,9,10,11,12,13,14,15,16,17,18,19,20,21,22]).bZ 4 true rfl aW
    exact RL.nil ⟨rfl,(ad,ae,af,ag,br),o.pu 19,ha.u,zt,j⟩
   ·rintro D U w hD aa ak ⟨⟨ad,ae,af,ag,ah⟩,o,ha,_,j⟩
    obtain⟨O,rfl⟩:=(ac (o.at 19 rfl (aa.1 rfl)) az).eQ
    have j:=j.bY 4 (aa.1 rfl)
    refine RL.bU a0 4 j dH ?_
    have j:=j.bZ 4 (D 19) (aa.1 rfl) aW
    exact RL.nil ⟨rfl,(ad,ae,af,ag,ah),o.pu 20,ha.u,zt,j⟩
   ·rintro D U w hD aa ak ⟨⟨ad,ae,af,ag,ah⟩,o,ha,_,j⟩
    obtain⟨O,rfl⟩:=(ac (o.at 6 rfl (aa.1 rfl)) (ac (ha.at 1 rfl) az)).eQ
    have j:=(j.bY 1 (aa.1 rfl)).bS 10 hD
    refine RL.tj 10 1 j zr zr zr zr dM zr fun w j=>?_
    have j:=(j.bZ 1 (D 6) (aa.1 rfl) aW).bZ 10 true rfl (bc 47 ao [(vb false),(vi 0)])
    exact RL.nil ⟨rfl,(ad,ae,af,ag,ah),o.n1,ha,zt,j⟩
   ·rintro D U w hD aa ak ⟨⟨ad,ae,af,ag,ah⟩,o,ha,_,j⟩
    obtain⟨O,rfl⟩:=(ac (o.at 13 rfl (aa.1 rfl)) (ac (ha.at 2 rfl) az)).eQ
    have j:=(j.bY 3 (aa.1 rfl)).bS 9 hD
    refine RL.tj 9 3 j zr zr zr zr dM zr fun w j=>?_
    have j:=(j.bZ 3 (D 13) (aa.1 rfl) aW).bZ 9 true rfl (bc 47 aq [(vb false),(vi 0)])
    exact RL.nil ⟨rfl,(ad,ae,af,ag,ah),o.n1,ha,zt,j⟩
   rintro D U w al ⟨⟨ad,ae,af,ag,ah⟩,o,ha,_,j⟩
   have j:=((((((j.bY 0 (iT al 5)).bY 1 (iT al 6)).bY 2 (iT al 12)).bY 3 (iT al 13)).bY 4 (iT al 19)).bY 9 (iT al 33)).bY 10 (iT al 32)
   obtain⟨O,rfl⟩:=(ac (o.at 32 rfl (iT al 34)) (ac (o.at 33 rfl (iT al 35)) (ac (ha.at 0 rfl) (ac (ha.at 1 rfl) (ac (ha.at 2 rfl) (ac (ha.at 3 rfl) (ac (ha.at 4 rfl) az))))))).eQ
   obtain rfl:=oi hj
   exact⟨rfl,j.sp 22 [15,16,17,18,19,20,21,10,9]⟩
  obtain⟨a3,bs,hj⟩:=bd hj
  refine RC.D3 E V mixed [1,1,1,0,1,0,0,1,1,1,0,1,0,0,1,1,1,0,1,0,0,1,1,1,1,1,0,1,0,0,1,1,0,0,1,1] [5,6,12,13,19,28,32,33] (fun(x:Value×Value×Value×Value×Value×Value)=>(fun ad ae af ag ah aj=>[(0,32,(vp b0 0)),(1,33,(vp b0 0)),(2,34,(vp b0 11)),(3,35,v0_11),(4,36,(vi ar)),(5,37,ad),(6,38,ae),(7,39,(vp b0 0)),(8,40,(vp b0 0)),(9,41,(vp b0 11)),(10,42,v0_11),(11,43,(vi aw)),(12,44,af),(13,45,ag),(14,46,(vp b0 0)),(15,47,(vp b0 0)),(16,48,(vp b0 10)),(17,49,v0_10),(18,50,(vi ar)),(19,51,ah),(20,52,(vi a0)),(21,53,(vb (decide (a0>=0)))),(22,54,(vb (decide (a0>=0)))),(23,55,(vp b0 0)),(24,56,(vp b0 0)),(25,57,(vp b0 10)),(26,58,v0_10),(27,59,(vi aw)),(28,60,aj),(29,61,(vi a3)),(30,62,(vb (decide (a3>=0)))),(31,63,(vb (decide (a3>=0)))),(34,8,(vb (decide (a3>=0)))),(35,9,(vi 0))]) x.1 x.2.1 x.2.2.1 x.2.2.2.1 x.2.2.2.2.1 x.2.2.2.2.2) [(0,vp b0 0),(6,vp ao 0),(7,vp aq 0),(10,vi ar),(11,vi aw)] [] (fun(D:Nat->Bool) (x:Value×Value×Value×Value×Value×Value)=>(fun ad ae af ag ah aj=>[bif D 0 then (pt ad a1) else aW,bif D 1 then (rd ae a1) else aW,bif D 2 then (pt af a2) else aW,bif D 3 then (rd ag a2) else aW,bif D 4 then (pt ah a0) else aW,bif D 5 then (pt aj a3) else aW,rd (.agg ([v0_0,v0_1,v0_2,v0_3]:List Value).toArray) (⟨p0_0,p0_1,p0_2,p0_3⟩:iM),rd (.agg ([v0_0,v0_1,v0_2,v0_3]:List Value).toArray) (⟨p0_0,p0_1,p0_2,p0_3⟩:iM),rd a6 p2,rd a5 p1,bif D 7 then (bx 47 aq a2) else (bc 47 aq [(vb false),(vi 0)]),bif D 6 then (bx 47 ao a1) else (bc 47 ao [(vb false),(vi 0)]),pt (vp a8 0) p2,pt (vp a7 0) p1,rd v2 p2,rd v1 p1,bc 108 b0 [v0_0,v0_1,v0_2,v0_3,v0_4,v0_5,v0_6,v0_7,v0_8,v0_9,v0_10,v0_11],rd v0_0 p0_0,rd v0_1 p0_1,rd v0_2 p0_2,rd v0_3 p0_3,rd v0_10 p0_10,rd v0_11 p0_11]) x.1 x.2.1 x.2.2.1 x.2.2.2.1 x.2.2.2.2.1 x.2.2.2.2.2) (fun x=>by kernel_rfl) ?_ ⟨fun _=>g8 gn,fun _=>tM gn,fun _=>nn gn tu,?_,fun _=>g8 gn,?_,?_,fun _=>g8 gn,fun _=>tM gn,fun _=>nn gn tu,?_,fun _=>g8 gn,?_,?_,fun _=>g8 gn,fun _=>tM gn,fun _=>nn gn rj,?_,fun _=>g8 gn,?_,?_,fun _=>EP gn,fun _=>g8 gn,fun _=>g8 (gy an),fun _=>tM (gy an),fun _=>nn (gy an) rj,?_,fun _=>g8 (gy an),?_,?_,fun _=>EP (gy an),fun _=>Jw gn an rfl,?_,?_,fun _=>BT gn,fun _=>BT gn,trivial⟩ ?_
  ·have j:=((((((j.drew).aW).aW).aW).aW).aW).aW
   exact⟨(undef,undef,undef,undef,undef,undef),eR.none,(CV zr),zt,j⟩
  ·rintro D U w hD aa ak ⟨⟨ad,ae,af,ag,ah,aj⟩,o,ha,_,j⟩
   obtain⟨O,rfl⟩:=(ac (o.at 2 rfl (aa.1 rfl)) az).eQ
   refine RL.bP 16 v0_11 j E0 ?_
   exact RL.nil ⟨rfl,(ad,ae,af,ag,ah,aj),o.pu 3,ha.u,zt,j⟩
  ·rintro D U w hD aa ak ⟨⟨ad,ae,af,ag,ah,aj⟩,o,ha,_,j⟩
   obtain⟨O,rfl⟩:=(ac (o.at 3 rfl (aa.1 rfl)) (ac (o.at 4 rfl (aa.2.1 rfl)) az)).eQ
   have j:=j.bS 0 hD
   refine RL.cM 22 j l6 a9 fun bt j=>?_
   have j:=(j.pl 24 [0,2,3,4,5,6,7,8,9,10,11,12,13,14,15,16,17,18,19,20,21,22,23]).bZ 0 true rfl aW
   exact RL.nil ⟨rfl,(bt,ae,af,ag,ah,aj),o.pu 5,ha.u,zt,j⟩
  ·rintro D U w hD aa ak ⟨⟨ad,ae,af,ag,ah,aj⟩,o,ha,_,j⟩
   obtain⟨O,rfl⟩:=(ac (o.at 5 rfl (aa.1 rfl)) az).eQ
   have j:=(j.bY 0 (aa.1 rfl)).bS 1 hD
   refine RL.cD 0 a1 j dM fun bu j=>?_
   have j:=((j.pl 24 [1,0,3,4,5,6,7,8,9,10,11,12,13,14,15,16,17,18,19,20,21,22,23]).bZ 0 (D 5) (aa.1 rfl) aW).bZ 1 true rfl aW
   exact RL.nil ⟨rfl,(ad,bu,af,ag,ah,aj),o.pu 6,ha.u,zt,j⟩
  ·rintro D U w hD aa ak ⟨⟨ad,ae,af,ag,ah,aj⟩,o,ha,_,j⟩
   obtain⟨O,rfl⟩:=(ac (o.at 9 rfl (aa.1 rfl)) az).eQ
   refine RL.bP 16 v0_11 j E0 ?_
   exact RL.nil ⟨rfl,(ad,ae,af,ag,ah,aj),o.pu 10,ha.u,zt,j⟩
  ·rintro D U w hD aa ak ⟨⟨ad,ae,af,ag,ah,aj⟩,o,ha,_,j⟩
   obtain⟨O,rfl⟩:=(ac (o.at 10 rfl (aa.1 rfl)) (ac (o.at 11 rfl (aa.2.1 rfl)) az)).eQ
   have j:=j.bS 2 hD
   refine RL.cM 22 j l6 ba fun bw j=>?_
   have j:=(j.pl 24 [1,2,0,4,5,6,7,8,9,10,11,12,13,14,15,16,17,18,19,20,21,22,23]).bZ 2 true rfl aW
   exact RL.nil ⟨rfl,(ad,ae,bw,ag,ah,aj),o.pu 12,ha.u,zt,j⟩
  ·rintro D U w hD aa ak ⟨⟨ad,ae,af,ag,ah,aj⟩,o,ha,_,j⟩
   obtain⟨O,rfl⟩:=(ac (o.at 12 rfl (aa.1 rfl)) az).eQ
   have j:=(j.bY 2 (aa.1 rfl)).bS 3 hD
   refine RL.cD 2 a2 j dM fun bz j=>?_
   have j:=((j.pl 24 [1,2,3,0,5,6,7,8,9,10,11,12,13,14,15,16,17,18,19,20,21,22,23]).bZ 2 (D 12) (aa.1 rfl) aW).bZ 3 true rfl aW
   exact RL.nil ⟨rfl,(ad,ae,af,bz,ah,aj),o.pu 13,ha.u,zt,j⟩
  ·rintro D U w hD aa ak ⟨⟨ad,ae,af,ag,ah,aj⟩,o,ha,_,j⟩
   obtain⟨O,rfl⟩:=(ac (o.at 16 rfl (aa.1 rfl)) az).eQ
   refine RL.bP 16 v0_10 j fJ ?_
   exact RL.nil ⟨rfl,(ad,ae,af,ag,ah,aj),o.pu 17,ha.u,zt,j⟩
  ·rintro D U w hD aa ak ⟨⟨ad,ae,af,ag,ah,aj⟩,o,ha,_,j⟩
   obtain⟨O,rfl⟩:=(ac (o.at 17 rfl (aa.1 rfl)) (ac (o.at 18 rfl (aa.2.1 rfl)) az)).eQ
   have j:=j.bS 4 hD
   refine RL.cM 21 j fF bb fun b1 j=>?_
   have j:=(j.pl 24 [1,2,3,4,0,6,7,8,9,10,11,12,13,14,15,16,17,18,19,20,21,22,23]).bZ 4 true rfl aW
   exact RL.nil ⟨rfl,(ad,ae,af,ag,b1,aj),o.pu 19,ha.u,zt,j⟩
  ·rintro D U w hD aa ak ⟨⟨ad,ae,af,ag,ah,aj⟩,o,ha,_,j⟩
   obtain⟨O,rfl⟩:=(ac (o.at 19 rfl (aa.1 rfl)) az).eQ
   have j:=j.bY 4 (aa.1 rfl)
   refine RL.bU a0 4 j dH ?_
   have j:=j.bZ 4 (D 19) (aa.1 rfl) aW
   exact RL.nil ⟨rfl,(ad,ae,af,ag,ah,aj),o.pu 20,ha.u,zt,j⟩
  ·rintro D U w hD aa ak ⟨⟨ad,ae,af,ag,ah,aj⟩,o,ha,_,j⟩
   obtain⟨O,rfl⟩:=(ac (o.at 22 rfl (aa.2.1 rfl)) (ac (o.at 25 rfl (aa.1 rfl)) az)).eQ
   refine RL.bP (hg:=(cg an)) 16 v0_10 j fJ ?_
   exact RL.nil ⟨rfl,(ad,ae,af,ag,ah,aj),o.pu 26,ha.u,zt,j⟩
  ·rintro D U w hD aa ak ⟨⟨ad,ae,af,ag,ah,aj⟩,o,ha,_,j⟩
   obtain⟨O,rfl⟩:=(ac (o.at 22 rfl (aa.2.2.1 rfl)) (ac (o.at 26 rfl (aa.1 rfl)) (ac (o.at 27 rfl (aa.2.1 rfl)) az))).eQ
   have j:=j.bS 5 hD
   refine RL.cM (hg:=(cg an)) 21 j fF bs fun b2 j=>?_
   have j:=(j.pl 24 [1,2,3,4,5,0,7,8,9,10,11,12,13,14,15,16,17,18,19,20,21,22,23]).bZ 5 true rfl aW
   exact RL.nil ⟨rfl,(ad,ae,af,ag,ah,b2),o.pu 28,ha.u,zt,j⟩
  ·rintro D U w hD aa ak ⟨⟨ad,ae,af,ag,ah,aj⟩,o,ha,_,j⟩
   obtain⟨O,rfl⟩:=(ac (o.at 22 rfl (aa.2.1 rfl)) (ac (o.at 28 rfl (aa.1 rfl)) az)).eQ
   have j:=j.bY 5 (aa.1 rfl)
   refine RL.bU (hg:=(cg an)) a3 5 j dH ?_
   have j:=j.bZ 5 (D 28) (aa.1 rfl) aW
   exact RL.nil ⟨rfl,(ad,ae,af,ag,ah,aj),o.pu 29,ha.u,zt,j⟩
  ·rintro D U w hD aa ak ⟨⟨ad,ae,af,ag,ah,aj⟩,o,ha,_,j⟩
   obtain⟨O,rfl⟩:=(ac (o.at 6 rfl (aa.1 rfl)) (ac (ha.at 1 rfl) az)).eQ
   have j:=(j.bY 1 (aa.1 rfl)).bS 11 hD
   refine RL.tj 11 1 j zr zr zr zr dM zr fun w j=>?_
   have j:=(j.bZ 1 (D 6) (aa.1 rfl) aW).bZ 11 true rfl (bc 47 ao [(vb false),(vi 0)])
   exact RL.nil ⟨rfl,(ad,ae,af,ag,ah,aj),o.n1,ha,zt,j⟩
  ·rintro D U w hD aa ak ⟨⟨ad,ae,af,ag,ah,aj⟩,o,ha,_,j⟩
   obtain⟨O,rfl⟩:=(ac (o.at 13 rfl (aa.1 rfl)) (ac (ha.at 2 rfl) az)).eQ
   have j:=(j.bY 3 (aa.1 rfl)).bS 10 hD
   refine RL.tj 10 3 j zr zr zr zr dM zr fun w j=>?_
   have j:=(j.bZ 3 (D 13) (aa.1 rfl) aW).bZ 10 true rfl (bc 47 aq [(vb false),(vi 0)])
   exact RL.nil ⟨rfl,(ad,ae,af,ag,ah,aj),o.n1,ha,zt,j⟩
  rintro D U w al ⟨⟨ad,ae,af,ag,ah,aj⟩,o,ha,_,j⟩
  have j:=((((((j.bY 0 (iT al 5)).bY 1 (iT al 6)).bY 2 (iT al 12)).bY 3 (iT al 13)).bY 4 (iT al 19)).bY 5 (iT al 28)).bY 10 (iT al 33)
  have j:=j.bY 11 (iT al 32)
  obtain⟨O,rfl⟩:=(ac (o.at 32 rfl (iT al 34)) (ac (o.at 33 rfl (iT al 35)) (ac (ha.at 0 rfl) (ac (ha.at 1 rfl) (ac (ha.at 2 rfl) (ac (ha.at 3 rfl) (ac (ha.at 4 rfl) az))))))).eQ
  obtain rfl:=oi hj
  exact⟨rfl,j.sp 23 [16,17,18,19,20,21,22,11,10]⟩
 rintro _ w ⟨O,rfl,j⟩
 refine aG (RC.ret ?_)
 obtain rfl:=oi hb
 exact H5 7 8 zr j zr zr zr zr dM dM zr zr fun b3 b4 j=>⟨b3,b4,zr,j.pk 11 [1,0,2]⟩
theorem qA {res:Bool} (o:Holds E w V) (j:ml N p0=some res):
    Calls bN 171 [(vi p0)].toArray w (iv (bH E V res)):=by
 unfold ml at j
 refine enter Tryz.func171 zr zr (RC.sr (aR (vb false) (RL.ns (mv (vi p0) (mv (vi p0) (ic p0 p0 (aR (vb (p0 != p0)) (RL.nt ?_))))))))
 refine RC.ret ?_
 obtain rfl:=oi j
 exact cS ⟨rfl,o.drop 0⟩
theorem xA {res:Bool} (hw:Holds E w V) (hb:mW N p0 p1=some res):
    Calls bN 142 [(vi p0),(vi p1)].toArray w (iv (bH E V res)):=by
 unfold mW at hb
 refine enter Tryz.func142 zr zr (RC.sr (aR (vb false) (RL.nq ?_)))
 obtain⟨ae,o,hb⟩:=bd hb
 refine RC.jn (fun(ae:Bool)=>SH E V [(4,vb ae)] []) ae ?_ ?_
 ·refine RC.region (mv (vi p0) ?_)
  obtain⟨af,ag,o⟩:=bd o
  refine RL.call zt zr Is [(vi p0)] zr (aF (qA N (p0:=p0) hw ag) ?_)
  rintro _ w ⟨rfl,hw⟩
  refine mv (vb af) (gG o (fun aa o=>?_) fun aa o=>?_)
  rotate_left
  ·refine cB aa (cB aa (cB aa (gH aa (vb false) (mv (vb false) (RL.move (vi p0) ⟨_,zr,zr⟩ (RL.move (vi p1) ⟨_,zr,zr⟩ (RL.lr p0 p1 ⟨_,zr,zr⟩ (RL.pick false (vb (decide (p0<p1))) zr ?_))))))))
   refine aR (vb (decide (p0<p1))) (RL.nil ?_)
   obtain rfl:=oi o
   exact⟨rfl,hw.sp 0 []⟩
  refine RL.move (vi p1) (cg aa) ?_
  obtain⟨j,ah,o⟩:=bd o
  refine RL.call (cg aa) zr Is [(vi p1)] zr (aF (qA N (p0:=p1) hw ah) ?_)
  rintro _ w ⟨rfl,hw⟩
  refine RL.not (hg:=(cg aa)) j (gH aa (vb (!j)) (mv (vb (!j)) (RL.gs true (!j) (vi p0) rfl rfl rfl dW (RL.gs true (!j) (vi p1) rfl rfl rfl dW (RL.gs true (!j) (vb (decide (p0<p1))) rfl rfl rfl (fN .lss .i64 p0 p1 rfl (fun h=>by exact(dN h:cv (true&&((!j)==false)) (vi p0)= (vi p0))) (fun h=>by exact(dN h:cv (true&&((!j)==false)) (vi p1)= (vi p1))) rfl) (RL.pick (!j) (vb ((!j)||(decide (p0<p1)))) (oO true) (aR (vb ((!j)||(decide (p0<p1)))) (RL.nil ?_))))))))
  obtain rfl:=oi o
  exact⟨rfl,hw.sp 0 []⟩
 rintro _ w ⟨O,rfl,hw⟩
 refine aG (RC.ret ?_)
 obtain rfl:=oi hb
 exact cS ⟨rfl,hw.drop 0⟩
theorem ou {res:Bool} (o:Holds E w V) (j:kh N p0=some res):
    Calls bN 143 [(vi p0)].toArray w (iv (bH E V res)):=by
 unfold kh at j
 refine enter Tryz.func143 zr zr (RC.sr (aR (vb false) (RL.ns (mv (vi p0) (mv (vi p0) (ic p0 p0 (aR (vb (p0 != p0)) (RL.nt ?_))))))))
 refine RC.ret ?_
 obtain rfl:=oi j
 exact cS ⟨rfl,o.drop 0⟩
theorem o5 {p0: (List Int)} {res:Int×Bool} (o:Holds E w V) (h0:V[i0]? =some (rd v0 p0)) (hb:gr N p0 p1=some res):
    Calls bN 106 [v0,(vi p1)].toArray w (iv (je E V res)):=by
 unfold gr at hb
 refine enter Tryz.func106 zr zr ?_
 have o:=o.dup (i0+0) h0
 refine RC.sr (aR (vi 0) (aR (vb false) (RL.ns (mv v0 (RL.cC 0 p0 o m0 (aR (vi p0.length) (RL.ns (mv (vi p0.length) ?_))))))))
 refine aR (vi 0) (aR (vi p0.length) (RL.nq ?_))
 obtain⟨az,hN,hb⟩:=bd hb
 refine RC.iter (fun(j:Int×Int)=>SH E V [(0,v0),(1,vi p1),(6,vi p0.length),(7,vi j.1),(8,vi j.2)] [rd v0 p0]) (fun(j:Int×Int)=>SH E V [(0,v0),(1,vi p1),(6,vi p0.length),(7,vi j.1)] [rd v0 p0]) (fun(r:Empty) _ _=>r.elim) hN ?_ ?_ ?_ ?_
 ·exact o.sp 1 [0]
 ·rintro j fl _ w ⟨O,rfl,o⟩ hb
  refine RC.seq (RC.sr (mv (vi j.1) (mv (vi j.2) (ic j.1 j.2 (RL.nt (fU hb (fun hc hb=>?_) fun hc hb=>?_))))))
  rotate_left
  ·refine RC.ex ?_
   obtain rfl:=oi hb
   exact⟨rfl,o.sp 1 [0]⟩
  refine RC.sn (RC.bs (mv (vi j.1) (mv (vi j.2) (RL.kr j.1 j.2 (RL.conv (IntKind.wrap .i64 (j.1+j.2)) zr zr ⟨_,F4⟩ Ef (RL.bin (v:=(.int .u64 (IntKind.wrap .u64 (IntKind.wrap .i64 (j.1+j.2))))) (v':=(.int .u64 1)) (u:=(.int .u64 (Int.fdiv (IntKind.wrap .u64 (IntKind.wrap .i64 (j.1+j.2))) 2))) zt zr zr zr (fun _=>zr) (fun _=>zr) (RL.conv (Int.fdiv (IntKind.wrap .u64 (IntKind.wrap .i64 (j.1+j.2))) 2) zr zr ⟨_,Ef⟩ F4 (aR (vi (IntKind.wrap .i64 (Int.fdiv (IntKind.wrap .u64 (IntKind.wrap .i64 (j.1+j.2))) 2))) ?_))))))))
  refine RL.ns (mv v0 (mv (vi (IntKind.wrap .i64 (Int.fdiv (IntKind.wrap .u64 (IntKind.wrap .i64 (j.1+j.2))) 2))) ?_))
  obtain⟨aj,aq,hb⟩:=bd hb
  refine RL.cM 0 o fF aq fun a1 o=>(RL.bU aj 0 o dH (mv (vi p1) ?_))
  obtain⟨a2,ar,hb⟩:=bd hb
  refine RL.call zt zr Ky [(vi aj),(vi p1)] zr (aF (xA N (p0:=aj) (p1:=p1) o ar) ?_)
  rintro _ w ⟨rfl,o⟩
  refine RL.nt ?_
  obtain⟨ag,hj,hb⟩:=bd hb
  refine RC.jn (fun(ag:Int×Int)=>SH E V [(0,v0),(1,vi p1),(6,vi p0.length),(7,vi ag.1),(8,vi ag.2)] [rd v0 p0]) ag ?_ ?_
  ·refine fU hj (fun hc hj=>?_) fun hc hj=>?_
   rotate_left
   ·refine RC.region (mv (vi (IntKind.wrap .i64 (Int.fdiv (IntKind.wrap .u64 (IntKind.wrap .i64 (j.1+j.2))) 2))) (aR (vi (IntKind.wrap .i64 (Int.fdiv (IntKind.wrap .u64 (IntKind.wrap .i64 (j.1+j.2))) 2))) (RL.nil ?_)))
    obtain rfl:=oi hj
    exact⟨rfl,o.sp 2 [1]⟩
   refine RC.region (mv (vi (IntKind.wrap .i64 (Int.fdiv (IntKind.wrap .u64 (IntKind.wrap .i64 (j.1+j.2))) 2))) (RL.kr (IntKind.wrap .i64 (Int.fdiv (IntKind.wrap .u64 (IntKind.wrap .i64 (j.1+j.2))) 2)) 1 (aR (vi (IntKind.wrap .i64 ((IntKind.wrap .i64 (Int.fdiv (IntKind.wrap .u64 (IntKind.wrap .i64 (j.1+j.2))) 2))+1))) (RL.nil ?_))))
   obtain rfl:=oi hj
   exact⟨rfl,o.sp 2 [1]⟩
  rintro _ w ⟨O,rfl,o⟩
  refine cG ?_
  obtain rfl:=oi hb
  exact⟨rfl,o.sp 1 [0]⟩
 ·intro r _ _ _ _
  exact r.elim
 rintro j _ w rfl ⟨O,rfl,o⟩
 rw [Fo.gw] at hb
 refine aG (RC.seq ?_)
 obtain⟨ak,hj,hb⟩:=bd hb
 refine RC.jn (fun(ak:Bool)=>SH E V [(4,vi j.1),(5,vb ak)] []) ak ?_ ?_
 ·refine RC.region (mv (vi j.1) (mv (vi j.1) (mv (vi p0.length) (ic j.1 ((p0.length:Int)) (mv (vb (decide (j.1< (p0.length:Int)))) (gG hj (fun ab hj=>?_) fun ab hj=>?_))))))
  rotate_left
  ·refine cB ab (cB ab (cB ab (cB ab (cB ab (cB ab (cB ab (pF (pF ?_))))))))
   refine pF (pF (pF (pF (pF (pF (pF (cB ab (gH ab (vb false) ?_))))))))
   refine aR (vi j.1) (aR (vb false) (RL.nil ?_))
   obtain rfl:=oi hj
   exact⟨rfl,o.sp 1 []⟩
  refine RL.move v0 (cg ab) (RL.move (vi j.1) (cg ab) ?_)
  obtain⟨al,au,hj⟩:=bd hj
  refine RL.cM (hg:=(cg ab)) 0 o fF au fun a3 o=>(RL.bU (hg:=(cg ab)) al 0 o dH (RL.move (vi p1) (cg ab) (RL.lr al p1 (cg ab) (RL.move (vb (al==p1)) (cg ab) (gG hj (fun ae hj=>?_) fun ae hj=>?_)))))
  ·refine cB ae (cB ae (cB ae (cB ae (cB ae (cB ae (pF (pF (cB ae ?_))))))))
   refine gH ae (vb true) (hg:=(cg ab)) (gH ab (vb true) (aR (vi j.1) (aR (vb true) (RL.nil ?_))))
   obtain rfl:=oi hj
   exact⟨rfl,o.sp 2 []⟩
  refine RL.move v0 (cg ae) (RL.move (vi j.1) (cg ae) ?_)
  obtain⟨an,av,hj⟩:=bd hj
  refine RL.cM (hg:=(cg ae)) 1 o fF av fun a4 o=>(RL.bU (hg:=(cg ae)) an 0 o dH ?_)
  obtain⟨aw,ax,hj⟩:=bd hj
  refine RL.call (cg ae) zr It [(vi an)] zr (aF (ou N (p0:=an) o ax) ?_)
  rintro _ w ⟨rfl,o⟩
  refine RL.move (vb aw) (cg ae) (gG hj (fun af hj=>?_) fun af hj=>?_)
  rotate_left
  ·refine cB af (cB af (gH af (vb false) (hg:=(cg ae)) (gH ae (vb false) (hg:=(cg ab)) (gH ab (vb false) (aR (vi j.1) (aR (vb false) (RL.nil ?_)))))))
   obtain rfl:=oi hj
   exact⟨rfl,o.sp 3 []⟩
  refine RL.move (vi p1) (cg af) ?_
  obtain⟨ah,ay,hj⟩:=bd hj
  refine RL.call (cg af) zr It [(vi p1)] zr (aF (ou N (p0:=p1) o ay) ?_)
  rintro _ w ⟨rfl,o⟩
  refine gH af (vb ah) (hg:=(cg ae)) (gH ae (vb ah) (hg:=(cg ab)) (gH ab (vb ah) (aR (vi j.1) (aR (vb ah) (RL.nil ?_)))))
  obtain rfl:=oi hj
  exact⟨rfl,o.sp 3 []⟩
 rintro _ w ⟨O,rfl,o⟩
 refine aG (RC.ret ?_)
 obtain rfl:=oi hb
 exact nO ⟨rfl,o.drop 0⟩
def t3 (E:World) (V:List HP) (b0:Nat) (v0_0 v0_1:Value) (v0_2 v0_3:Value) (v0_4 v0_5:Value) (v0_6 v0_7:Value) (v0_8 v0_9:Value) (v0_10 v0_11:Value) (res: (List bX)) (v:Value) (w:World):Prop:=Holds E w ([own 47 v res,bc 108 b0 [v0_0,v0_1,v0_2,v0_3,v0_4,v0_5,v0_6,v0_7,v0_8,v0_9,v0_10,v0_11]]++V)
theorem lK {p0_6: (List (List Int))} {p1:bX} {res: (List bX)} (j:Holds E w (bc 108 b0 [v0_0,v0_1,v0_2,v0_3,v0_4,v0_5,v0_6,v0_7,v0_8,v0_9,v0_10,v0_11]::rd v0_6 p0_6::V)) (h1:V[i1]? =some (rd v1 p1)) (o:fR N p0_6 p1=some res):
    Calls bN 58 [(vp b0 0),v1].toArray w (iv (t3 E V b0 v0_0 v0_1 v0_2 v0_3 v0_4 v0_5 v0_6 v0_7 v0_8 v0_9 v0_10 v0_11 res)):=by
 unfold fR at o
 refine enter Tryz.func58 zr zr ?_
 have j:=j.dup (i1+2) h1
 refine RC.sr (RL.cX 0 v1 j zr fun ai w j=>?_)
 refine aR (.slice none 0 0) (RL.ns (aR (.slice none 0 0) (RL.nq (RC.sr (RL.bT zr x9 (RL.aX 0 j zr su Gh (RL.nt (fU o (fun hc o=>?_) fun hc o=>?_))))))))
 ·refine RC.seq (RC.seq (RC.y5 mixed ?_))
  have j:=j.drew
  refine RO.go (mv (vp b0 0) (RO.nx (RL.nilCheck zr (RO.nx (RL.bT zr tr (RO.nx (RL.bP 2 v0_6 j zJ (RO.nx ?_))))))))
  refine RL.bT zr wz (RO.nx (RL.aX 0 j zr qm dH (RO.nx ?_)))
  obtain⟨ab,a3,o⟩:=bd o
  refine RL.cM 3 j vj a3 fun bj j=>(RO.nx (RL.cD 0 ab j fJ fun au j=>(RO.nx (RL.cC 0 ab j m0 (RO.nx (mv (vi 0) (RO.last (aG ?_))))))))
  obtain⟨ag,hN,o⟩:=bd o
  refine RC.fold (fun(ao:Nat) (ag: (List bX)) U w=>∃ay:Value,SH E V [(0,vp b0 0),(5,ay),(21,au),(22,vi ab.length),(23,vi ao)] [bc 108 b0 [v0_0,v0_1,v0_2,v0_3,v0_4,v0_5,v0_6,v0_7,v0_8,v0_9,v0_10,v0_11],rd v0_6 p0_6,rd au ab,own 47 ay ag] U w) (fun(ag: (List bX)) U w=>∃aj:Value,SH E V [(0,vp b0 0),(5,aj)] [bc 108 b0 [v0_0,v0_1,v0_2,v0_3,v0_4,v0_5,v0_6,v0_7,v0_8,v0_9,v0_10,v0_11],rd v0_6 p0_6,rd au ab,own 47 aj ag] U w) hN ?_ ?_ ?_ ?_
  ·have j:=j.dC bX 47
   exact⟨(.slice none 0 0),j.sp 7 [5,6,1,0]⟩
  ·rintro hm ag _ w ⟨a4,O,rfl,j⟩
   refine RC.sr (ic ((ab.length:Int)) ((ab.length:Int)) (RL.nq (RC.dS pD (RC.ex ?_))))
   exact⟨rfl,a4,j.sp 4 [0,1,2,3]⟩
  ·rintro hm ao ag s' _ w hk ⟨a5,O,rfl,j⟩ o
   refine RC.sr (ic ((ao:Int)) ((ab.length:Int)) (RL.nq (RC.dR (pC hk) (RC.ss (RC.bs ?_)))))
   obtain⟨ad,a6,o⟩:=bd o
   refine RL.cM 2 j fF a6 fun bk j=>(RL.bU ad 0 j dH (aR (vi ad) (RL.nt (RC.region (mv a5 (mv (vi ad) ?_))))))
   have j:=j.sc Int ad
   refine RL.build (⟨false,ad⟩:bX) trivial rfl j [(1,vi ad)] rfl Gj rfl (fun M hs g=>by have h:=B3 M;exact dY.cons (f:=fun(x:bX) y=>{x with Number:=y}) h ve (g.sat 0 _ rfl).1 fun _ h=>dY.nil h) fun a7 j=>?_
   refine RL.fD ([(⟨false,ad⟩:bX)]: (List bX)) j [a7] l6 pr (fun M hs g=>⟨(g.sat 0 _ zr).1,zt⟩) fun bl w j=>?_
   have j:=j.freeze 0
   obtain⟨bm,a8,o⟩:=bd o
   refine RL.app 7 0 j Dd a8 fun az w j=>?_
   refine aR az (RL.nil (cG (aG (RC.region (RL.inc hk hm (mv (vi ((ao+1:Nat):Int)) (RL.nil ?_)))))))
   obtain rfl:=oi o
   exact⟨rfl,az,j.sp 8 [4,5,6,7]⟩
  rintro _ w ⟨aj,O,rfl,j⟩
  refine aG (RC.sr (mv aj (aR aj (RL.nt (RC.rt ?_)))))
  obtain rfl:=oi o
  exact cS (j.pk 4 [3,0])
 refine RC.ss (RC.sr (mv (vp b0 0) (RL.nilCheck zr (RL.bT zr tr (RL.bP 2 v0_6 j zJ (RL.cC 3 p0_6 j Ed (mv (vi 0) (RL.nt ?_))))))))
 obtain⟨ah,hN,o⟩:=bd o
 refine RC.fold (fun(aa:Nat) (ah: (List bX)) U w=>∃a0:Value,SH E V [(0,vp b0 0),(3,vp ai 0),(5,a0),(37,v0_6),(38,vi p0_6.length),(39,vi aa)] [bc 108 b0 [v0_0,v0_1,v0_2,v0_3,v0_4,v0_5,v0_6,v0_7,v0_8,v0_9,v0_10,v0_11],rd v0_6 p0_6,bx 47 ai p1,own 47 a0 ah] U w) (fun(ah: (List bX)) U w=>∃an:Value,SH E V [(0,vp b0 0),(5,an)] [bc 108 b0 [v0_0,v0_1,v0_2,v0_3,v0_4,v0_5,v0_6,v0_7,v0_8,v0_9,v0_10,v0_11],rd v0_6 p0_6,bx 47 ai p1,own 47 an ah] U w) hN ?_ ?_ ?_ ?_
 ·have j:=j.dC bX 47
  exact⟨(.slice none 0 0),j.sp 5 [3,4,1,0]⟩
 ·rintro hm ah _ w ⟨a9,O,rfl,j⟩
  refine RC.sr (ic ((p0_6.length:Int)) ((p0_6.length:Int)) (RL.nq (RC.dS pD (RC.ex ?_))))
  exact⟨rfl,a9,j.sp 4 [0,1,2,3]⟩
 ·rintro hm aa ah s' _ w hk ⟨a1,O,rfl,j⟩ o
  refine RC.sr (ic ((aa:Int)) ((p0_6.length:Int)) (RL.nq (RC.dR (pC hk) (RC.ss (RC.bs (mv (vi aa) ?_))))))
  obtain⟨ba,bb,o⟩:=bd o
  refine RL.cM 1 j vj bb fun bn j=>(RL.cD 0 ba j fJ fun aw j=>(aR (vi aa) (aR aw (RL.ns (mv aw (RL.bT zr wz (RL.aX 4 j zr qm dH ?_)))))))
  obtain⟨ae,bf,o⟩:=bd o
  refine RL.call zt zr Kz [aw,(vi p1.Number)] zr (aF (o5 N (p1:=p1.Number) (i0:=0) j zr bf) ?_)
  rintro _ w ⟨rfl,j⟩
  refine mv (.tuple #[(vi ae.1),(vb ae.2)]) (RL.extract (vi ae.1) (RL.extract (vb ae.2) (aR (vi ae.1) (aR (vb ae.2) (RL.ns (mv (vb ae.2) (RL.nt ?_)))))))
  obtain⟨ax,hj,o⟩:=bd o
  refine RC.jn (fun(ax: (List bX)) U w=>∃aq:Value,SH E V [(0,vp b0 0),(3,vp ai 0),(5,aq),(37,v0_6),(38,vi p0_6.length),(39,vi aa)] [bc 108 b0 [v0_0,v0_1,v0_2,v0_3,v0_4,v0_5,v0_6,v0_7,v0_8,v0_9,v0_10,v0_11],rd v0_6 p0_6,bx 47 ai p1,own 47 aq ax] U w) ax ?_ ?_
  ·refine fU hj (fun hc hj=>?_) fun hc hj=>?_
   rotate_left
   ·refine RC.skip ?_
    obtain rfl:=oi hj
    exact⟨rfl,a1,j.sp 6 [2,3,4,5]⟩
   refine RC.region (mv a1 (mv (vi aa) ?_))
   have j:=(j.sc Bool true).sc Int (aa:Int)
   refine RL.build (⟨true,(aa:Int)⟩:bX) trivial rfl j [(0,vb true),(1,vi aa)] rfl Gj rfl (fun M hs g=>by have h:=B3 M;exact dY.cons (f:=fun(x:bX) y=>{x with cH:=y}) h B2 (g.sat 1 _ rfl).1 fun _ h=>dY.cons (f:=fun(x:bX) y=>{x with Number:=y}) h ve (g.sat 0 _ rfl).1 fun _ h=>dY.nil h) fun bg j=>?_
   refine RL.fD ([(⟨true,(aa:Int)⟩:bX)]: (List bX)) j [bg] l6 pr (fun M hs g=>⟨(g.sat 0 _ zr).1,zt⟩) fun bo w j=>?_
   have j:=j.freeze 0
   obtain⟨bp,bh,hj⟩:=bd hj
   refine RL.app 9 0 j Dd bh fun a2 w j=>?_
   refine aR a2 (RL.nil ?_)
   obtain rfl:=oi hj
   exact⟨rfl,a2,j.sp 10 [6,7,8,9]⟩
  rintro _ w ⟨aq,O,rfl,j⟩
  refine cG (aG (RC.region (RL.inc hk hm (mv (vi ((aa+1:Nat):Int)) (RL.nil ?_)))))
  obtain rfl:=oi o
  exact⟨rfl,aq,j.sp 4 [0,1,2,3]⟩
 rintro _ w ⟨an,O,rfl,j⟩
 refine aG (RC.sr (mv an (aR an (RL.nt (RC.ret ?_)))))
 obtain rfl:=oi o
 exact cS (j.pk 4 [3,0])
theorem qB {p0_6: (List (List Int))} {p1:bX} {res: (List (bX×Int))} (j:Holds E w (bc 108 b0 [v0_0,v0_1,v0_2,v0_3,v0_4,v0_5,v0_6,v0_7,v0_8,v0_9,v0_10,v0_11]::rd v0_6 p0_6::V)) (h1:V[i1]? =some (rd v1 p1)) (o:jJ N p0_6 p1=some res):
    Calls bN 35 [(vp b0 0),v1,(.pointer none)].toArray w (iv (m7 E V b0 v0_0 v0_1 v0_2 v0_3 v0_4 v0_5 v0_6 v0_7 v0_8 v0_9 v0_10 v0_11 res)):=by
 unfold jJ at o
 refine enter Tryz.func35 zr zr ?_
 have j:=j.dup (i1+2) h1
 refine RC.sr (RL.cX 0 v1 j zr fun bj w j=>?_)
 refine aR (.map none) (RL.ns (RL.makeMap (κ:=bX) (ν:=Int) zr j fun ab w j=>(RL.aS (f:=(fun x=>x)) 1 j zr Fd.self dM fun bk j=>?_)))
 have j:=j.sc Int 0
 refine RL.insert 2 0 p1 zt j zr (mT 1 j) zr zr zr xw fun w j=>(mv ab (aR ab (RL.nq (RC.sr (RL.aS (f:=(fun x=>x)) 3 j zr Fd.self dM fun a8 j=>(RL.fD ([p1]: (List bX)) j [a8] l6 pr (fun M hs g=>⟨(g.sat 0 _ zr).1,zt⟩) fun a0 w j=>(aR a0 (RL.nt ?_))))))))
 obtain⟨bl,hN,o⟩:=bd o
 refine RC.iter (fun(ah: (List (bX×Int))×(List bX)) U w=>∃a1:Value,SH E V [(0,vp b0 0),(2,(.pointer none)),(7,ab),(8,a1)] [bc 108 b0 [v0_0,v0_1,v0_2,v0_3,v0_4,v0_5,v0_6,v0_7,v0_8,v0_9,v0_10,v0_11],rd v0_6 p0_6,mp ab ah.1,own 47 a1 ah.2] U w) (fun(ah: (List (bX×Int))×(List bX))=>SH E V [(0,vp b0 0),(7,ab)] [bc 108 b0 [v0_0,v0_1,v0_2,v0_3,v0_4,v0_5,v0_6,v0_7,v0_8,v0_9,v0_10,v0_11],rd v0_6 p0_6,mp ab ah.1]) (fun(r:Empty) _ _=>r.elim) hN ?_ ?_ ?_ ?_
 ·exact⟨a0,j.sp 9 [7,8,4,0]⟩
 ·rintro ah fl _ w ⟨ar,O,rfl,j⟩ o
  refine RC.seq (RC.sr (mv ar (RL.eH 3 ah.2 j vk (ic ((ah.2.length:Int)) 0 (RL.nt (fU o (fun hc o=>?_) fun hc o=>?_))))))
  rotate_left
  ·refine RC.ex ?_
   obtain rfl:=oi o
   exact⟨rfl,j.sp 4 [0,1,2]⟩
  refine RC.ss (RC.bs (mv (vp b0 0) (mv ar ?_)))
  obtain⟨bn,av,o⟩:=bd o
  refine RL.bO 3 j zr zr l6 av (RL.gA (f:=(fun x=>x)) 3 j (ku 3 j av 0) (bC av).2.1 Fd.self dM fun a9 j=>?_)
  have j:=(j.dup 2 rfl).pull 2
  obtain⟨af,ba,o⟩:=bd o
  refine RL.call zt zr I4 [(vp b0 0),a9] zr (aF (lK N (i1:=0) j zr ba) ?_)
  rintro ai w j
  refine RL.eH 0 af j vk (mv (vi 0) (RL.nt ?_))
  obtain⟨aa,hN,o⟩:=bd o
  refine RC.fold (fun(aj:Nat) (aa: (List (bX×Int))×(List bX)) U w=>∃a2:Value,SH E V [(0,vp b0 0),(2,(.pointer none)),(7,ab),(8,a2),(27,ai),(28,vi af.length),(29,vi aj)] [bc 108 b0 [v0_0,v0_1,v0_2,v0_3,v0_4,v0_5,v0_6,v0_7,v0_8,v0_9,v0_10,v0_11],rd v0_6 p0_6,mp ab aa.1,own 47 ai af,own 47 a2 aa.2] U w) (fun(aa: (List (bX×Int))×(List bX)) U w=>∃al:Value,SH E V [(0,vp b0 0),(2,(.pointer none)),(7,ab),(8,al)] [bc 108 b0 [v0_0,v0_1,v0_2,v0_3,v0_4,v0_5,v0_6,v0_7,v0_8,v0_9,v0_10,v0_11],rd v0_6 p0_6,mp ab aa.1,own 47 ai af,own 47 al aa.2] U w) hN ?_ ?_ ?_ ?_
  ·exact⟨ar,j.sp 7 [1,4,5,0,6]⟩
  ·rintro hm aa _ w ⟨bb,O,rfl,j⟩
   refine RC.sr (ic ((af.length:Int)) ((af.length:Int)) (RL.nq (RC.dS pD (RC.ex ?_))))
   exact⟨rfl,bb,j.sp 5 [0,1,2,3,4]⟩
  ·rintro hm aj aa s' _ w hk ⟨ak,O,rfl,j⟩ o
   refine RC.sr (ic ((aj:Int)) ((af.length:Int)) (RL.nq (RC.dR (pC hk) (RC.ss (RC.bs ?_)))))
   obtain⟨ae,aw,o⟩:=bd o
   refine RL.bO 3 j zr zr l6 aw (RL.gA (f:=(fun x=>x)) 3 j (ku 3 j aw 0) (bC aw).2.1 Fd.self dM fun bo j=>?_)
   refine RL.alloc j pr.z fun a5 w j=>?_
   refine RL.bM 0 j 1 zr dM fun w j=>?_
   refine RL.ns (mv ab (RL.aS (f:=(fun x=>x)) 0 j zr Fd.self dM fun bp j=>(RL.qc 5 ae j (mT 0 j) xw (mv (.tuple #[(vi (dL aa.1 ae (0:Int))),(vb (fH aa.1 ae))]) (RL.extract (vi (dL aa.1 ae (0:Int))) (RL.extract (vb (fH aa.1 ae)) (aR (vi (dL aa.1 ae (0:Int))) (aR (vb (fH aa.1 ae)) ?_))))))))
   refine RL.nq ?_
   obtain⟨ax,hj,o⟩:=bd o
   refine RC.jn (fun(ax:Bool)=>SH E V [(0,vp b0 0),(2,(.pointer none)),(7,ab),(8,ak),(10,vp a5 0),(27,ai),(28,vi af.length),(29,vi aj),(51,vb ax)] [bc 108 b0 [v0_0,v0_1,v0_2,v0_3,v0_4,v0_5,v0_6,v0_7,v0_8,v0_9,v0_10,v0_11],rd v0_6 p0_6,mp ab aa.1,own 47 ak aa.2,bx 47 a5 ae,own 47 ai af]) ax ?_ ?_
   ·refine RC.y5 mixed ?_
    have j:=j.drew
    refine RO.go (mv (vb (fH aa.1 ae)) (RO.nx (RL.not (fH aa.1 ae) (RO.nx (mv (vb (!(fH aa.1 ae))) (gG hj (fun ag hj=>?_) fun ag hj=>?_))))))
    ·refine RO.nx (RL.move (.pointer none) (cg ag) (RO.nx (RL.L1 (b:=true) (cg ag) zr zr zr Iu zr (RO.nx (RL.move (vb true) (cg ag) (RO.nx (jA (RO.nx ?_))))))))
     refine jA (RO.nx (jA (RO.nx (jA (RO.nx (jA (RO.nx (RL.pick (hg:=(cg ag)) true (vb true) zr ?_))))))))
     refine RO.nx (gH ag (vb true) (RO.last ?_))
     obtain rfl:=oi hj
     exact⟨rfl,j.sp 8 [3,4,5,7,1,6]⟩
    refine RO.nx (cB ag (RO.nx (cB ag (RO.nx (cB ag (RO.nx (pF (RO.nx ?_))))))))
    refine pF (RO.nx (pF (RO.nx (pF (RO.nx (pF (RO.nx (cB ag ?_))))))))
    refine RO.nx (gH ag (vb false) (RO.last ?_))
    obtain rfl:=oi hj
    exact⟨rfl,j.sp 8 [3,4,5,7,1,6]⟩
   rintro _ w ⟨O,rfl,j⟩
   refine aG ?_
   obtain⟨an,hj,o⟩:=bd o
   refine RC.jn (fun(an: (List (bX×Int))×(List bX)) U w=>∃ao:Value,SH E V [(0,vp b0 0),(2,(.pointer none)),(7,ab),(8,ao),(27,ai),(28,vi af.length),(29,vi aj)] [bc 108 b0 [v0_0,v0_1,v0_2,v0_3,v0_4,v0_5,v0_6,v0_7,v0_8,v0_9,v0_10,v0_11],rd v0_6 p0_6,mp ab an.1,own 47 ai af,own 47 ao an.2] U w) an ?_ ?_
   ·refine fU hj (fun hc hj=>?_) fun hc hj=>?_
    rotate_left
    ·refine RC.skip ?_
     obtain rfl:=oi hj
     exact⟨rfl,ak,j.sp 6 [0,1,2,5,3]⟩
    refine RC.seq (RC.Bj mixed [0,0,0,0,0,0,0,0,2] [0,1,2,3,4,5,6,7,8] ?_)
    have j:=j.drew
    refine DP.e0 zr (mv ab (bR zr (RL.aS (f:=(fun x=>x)) 4 j zr Fd.self dM fun bq j=>(bR zr (mv ab (bR zr (mv ak (bR zr ?_))))))))
    obtain⟨ay,az,hj⟩:=bd hj
    refine RL.bO 4 j zr zr l6 az (bR zr (RL.gA (f:=(fun x=>x)) 4 j (ku 4 j az 0) (bC az).2.1 Fd.self dM fun br j=>?_))
    refine bR zr (RL.r7 4 ay zr j zr (mT 0 j) zr xw (bR zr (RL.kr (dL aa.1 ay (0:Int)) 1 (u6 zr ?_))))
    have j:=j.sc Int (IntKind.wrap .i64 ((dL aa.1 ay (0:Int))+1))
    refine RL.mapUpdate 5 0 ae j zr (mT 2 j) zr zr zr xw fun w j=>(DP.d2 zt (DP.z (aG (RC.region (mv ak (RL.aS (f:=(fun x=>x)) 7 j zr Fd.self dM fun bf j=>(RL.fD ([ae]: (List bX)) j [bf] l6 pr (fun M hs g=>⟨(g.sat 0 _ zr).1,zt⟩) fun bt w j=>?_)))))))
    have j:=j.freeze 0
    obtain⟨bu,bg,hj⟩:=bd hj
    refine RL.app 8 0 j Dd bg fun a6 w j=>?_
    refine aR a6 (RL.nil ?_)
    obtain rfl:=oi hj
    exact⟨rfl,a6,j.sp 11 [5,6,7,10,8]⟩
   rintro _ w ⟨ao,O,rfl,j⟩
   refine cG (aG (RC.region (RL.inc hk hm (mv (vi ((aj+1:Nat):Int)) (RL.nil ?_)))))
   obtain rfl:=oi o
   exact⟨rfl,ao,j.sp 5 [0,1,2,3,4]⟩
  rintro _ w ⟨al,O,rfl,j⟩
  refine cG (aG (RC.region (mv al ?_)))
  obtain⟨bw,bh,o⟩:=bd o
  refine RL.uW 4 zr j zr zr l6 (.inl zr) (.inr ⟨rfl,zr⟩) bh fun a7 j=>(aR a7 (RL.nil ?_))
  obtain rfl:=oi o
  exact⟨rfl,a7,j.sp 5 [0,1,2,4]⟩
 ·intro r _ _ _ _
  exact r.elim
 rintro ah _ w rfl ⟨O,rfl,j⟩
 rw [Fo.gw] at o
 refine aG (RC.sr (mv ab (aR ab (RL.nt (RC.ret ?_)))))
 obtain rfl:=oi o
 exact cS (j.pk 3 [2,0])
def uC (E:World) (V:List HP) (b0:Nat) (v0_0 v0_1:Value) (v0_2 v0_3:Value) (v0_4 v0_5:Value) (v0_6 v0_7:Value) (v0_8 v0_9:Value) (v0_10 v0_11:Value) (res: (List bX)×Bool) (v:Value) (w:World):Prop:=∃u0:Value,v = .tuple #[u0,(vb res.2)]/\Holds E w ([own 47 u0 res.1,bc 108 b0 [v0_0,v0_1,v0_2,v0_3,v0_4,v0_5,v0_6,v0_7,v0_8,v0_9,v0_10,v0_11]]++V)
theorem ov {p0_6: (List (List Int))} {p1 p2:bX} {res: (List bX)×Bool} (j:Holds E w (bc 108 b0 [v0_0,v0_1,v0_2,v0_3,v0_4,v0_5,v0_6,v0_7,v0_8,v0_9,v0_10,v0_11]::rd v0_6 p0_6::V)) (h1:V[i1]? =some (rd v1 p1)) (h2:V[i2]? =some (rd v2 p2)) (o:gZ N p0_6 p1 p2=some res):
    Calls bN 30 [(vp b0 0),v1,v2].toArray w (iv (uC E V b0 v0_0 v0_1 v0_2 v0_3 v0_4 v0_5 v0_6 v0_7 v0_8 v0_9 v0_10 v0_11 res)):=by
 unfold gZ at o
 refine enter Tryz.func30 zr zr ?_
 have j:=(j.dup (i1+2) h1).dup (i2+3) h2
 refine RC.sr (RL.cX 1 v1 j zr fun bh w j=>?_)
 refine RL.cX 1 v2 j zr fun ah w j=>?_
 refine aR (.slice none 0 0) (aR (vb false) (RL.ns (mv (vp b0 0) (RL.aS (f:=(fun x=>x)) 0 j zr Fd.self dM fun a4 j=>?_))))
 have j:=(j.dup 6 rfl).pull 6
 obtain⟨aa,a5,o⟩:=bd o
 refine RL.call zt zr KA [(vp b0 0),a4,(.pointer none)] zr (aF (qB N (i1:=0) j zr a5) ?_)
 rintro ad w j
 refine aR ad (RL.nq (RC.sr (mv ad (RL.aS (f:=(fun x=>x)) 4 j zr Fd.self dM fun bj j=>(RL.qc 1 p1 j (mT 0 j) xw (mv (.tuple #[(vi (dL aa p1 (0:Int))),(vb (fH aa p1))]) (RL.extract (vi (dL aa p1 (0:Int))) (RL.extract (vb (fH aa p1)) ?_))))))))
 refine aR (vi (dL aa p1 (0:Int))) (aR (vb (fH aa p1)) (RL.ns (mv (vb (fH aa p1)) (RL.not (fH aa p1) (RL.nt (fU o (fun hc o=>?_) fun hc o=>?_))))))
 ·refine RC.sr (aR (.slice none 0 0) (aR (vb false) (RL.nt (RC.rt ?_))))
  obtain rfl:=oi o
  have j:=j.dC bX 47
  exact nO ⟨(.slice none 0 0),zr,j.pk 11 [0,3]⟩
 refine RC.sx (RL.aS (f:=(fun x=>x)) 5 j zr Fd.self dM fun a6 j=>(RL.fD ([p1]: (List bX)) j [a6] l6 pr (fun M hs g=>⟨(g.sat 0 _ zr).1,zt⟩) fun ax w j=>(aR ax (RL.nq (RC.sr (RL.aS (f:=(fun x=>x)) 7 j zr Fd.self dM fun bk j=>(RL.alloc j pr.z fun a7 w j=>?_)))))))
 refine RL.bM 0 j 1 zr dM fun w j=>?_
 refine RL.nt ?_
 obtain⟨bl,hN,o⟩:=bd o
 refine RC.iter (fun(ag: (List bX)×bX) U w=>∃(ay:Value) (az:Nat),SH E V [(0,vp b0 0),(5,vp ah 0),(8,ad),(11,ay),(12,vp az 0)] [bc 108 b0 [v0_0,v0_1,v0_2,v0_3,v0_4,v0_5,v0_6,v0_7,v0_8,v0_9,v0_10,v0_11],rd v0_6 p0_6,bx 47 ah p2,mp ad aa,own 47 ay ag.1,bx 47 az ag.2] U w) (fun(ag: (List bX)×bX) U w=>∃ak:Value,SH E V [(0,vp b0 0),(11,ak)] [bc 108 b0 [v0_0,v0_1,v0_2,v0_3,v0_4,v0_5,v0_6,v0_7,v0_8,v0_9,v0_10,v0_11],rd v0_6 p0_6,bx 47 ah p2,mp ad aa,own 47 ak ag.1] U w) (fun(r:Empty) _ _=>r.elim) hN ?_ ?_ ?_ ?_
 ·exact⟨ax,a7,j.sp 14 [6,13,8,5,2,0]⟩
 ·rintro ag fl _ w ⟨aj,al,O,rfl,j⟩ o
  refine RC.seq (RC.sr (RL.aS (f:=(fun x=>x)) 5 j zr Fd.self dM fun bm j=>(RL.aS (f:=(fun x=>x)) 3 j zr Fd.self dM fun bn j=>(RL.K9 1 0 ag.2 p2 j wY (RL.nt (fU o (fun hc o=>?_) fun hc o=>?_))))))
  rotate_left
  ·refine RC.ex ?_
   obtain rfl:=oi o
   exact⟨rfl,aj,j.sp 8 [2,3,4,5,6]⟩
  refine RC.ss (RC.block (RC.seq (RC.sr (mv (vp b0 0) (RL.aS (f:=(fun x=>x)) 7 j zr Fd.self dM fun a9 j=>?_)))))
  have j:=(j.dup 4 rfl).pull 4
  obtain⟨ai,ba,o⟩:=bd o
  refine RL.call zt zr I4 [(vp b0 0),a9] zr (aF (lK N (i1:=0) j zr ba) ?_)
  rintro ao w j
  refine RL.eH 0 ai j vk (mv (vi 0) (RL.nt ?_))
  obtain⟨bo,hN,o⟩:=bd o
  refine RC.range (fun(aq:Nat) (af:bX)=>SH E V [(0,vp b0 0),(5,vp ah 0),(8,ad),(11,aj),(12,vp al 0),(36,ao),(37,vi ai.length),(38,vi aq)] [bc 108 b0 [v0_0,v0_1,v0_2,v0_3,v0_4,v0_5,v0_6,v0_7,v0_8,v0_9,v0_10,v0_11],rd v0_6 p0_6,bx 47 ah p2,mp ad aa,own 47 aj ag.1,bx 47 al af,own 47 ao ai]) (fun(af:bX)=>SH E V [(0,vp b0 0),(5,vp ah 0),(8,ad),(11,aj),(12,vp al 0)] [bc 108 b0 [v0_0,v0_1,v0_2,v0_3,v0_4,v0_5,v0_6,v0_7,v0_8,v0_9,v0_10,v0_11],rd v0_6 p0_6,bx 47 ah p2,mp ad aa,own 47 aj ag.1,bx 47 al af,own 47 ao ai]) (fun(r:Empty) _ _=>r.elim) hN ?_ ?_ ?_ ?_ ?_
  ·exact j.sp 11 [1,6,7,8,9,10,0]
  ·rintro hm af _ w ⟨O,rfl,j⟩
   refine RC.sr (ic ((ai.length:Int)) ((ai.length:Int)) (RL.nq (RC.dS pD (RC.ex ?_))))
   exact⟨rfl,j.sp 7 [0,1,2,3,4,5,6]⟩
  ·rintro hm aq af fl _ w hk ⟨O,rfl,j⟩ o
   refine RC.sr (ic ((aq:Int)) ((ai.length:Int)) (RL.nq (RC.dR (pC hk) (RC.ss (RC.bs ?_)))))
   obtain⟨ae,av,o⟩:=bd o
   refine RL.bO 6 j zr zr l6 av (RL.gA (f:=(fun x=>x)) 6 j (ku 6 j av 0) (bC av).2.1 Fd.self dM fun bp j=>?_)
   refine RL.alloc j pr.z fun a2 w j=>?_
   refine RL.bM 0 j 1 zr dM fun w j=>?_
   refine RL.ns (mv ad (RL.aS (f:=(fun x=>x)) 0 j zr Fd.self dM fun bq j=>(RL.qc 6 ae j (mT 0 j) xw (mv (.tuple #[(vi (dL aa ae (0:Int))),(vb (fH aa ae))]) (RL.extract (vi (dL aa ae (0:Int))) (RL.extract (vb (fH aa ae)) (aR (vi (dL aa ae (0:Int))) (aR (vb (fH aa ae)) ?_))))))))
   refine RL.nq ?_
   obtain⟨aw,hj,o⟩:=bd o
   refine RC.jn (fun(aw:Bool)=>SH E V [(0,vp b0 0),(5,vp ah 0),(8,ad),(11,aj),(12,vp al 0),(14,vp a2 0),(36,ao),(37,vi ai.length),(38,vi aq),(56,vb aw)] [bc 108 b0 [v0_0,v0_1,v0_2,v0_3,v0_4,v0_5,v0_6,v0_7,v0_8,v0_9,v0_10,v0_11],rd v0_6 p0_6,bx 47 ah p2,mp ad aa,own 47 aj ag.1,bx 47 al af,bx 47 a2 ae,own 47 ao ai]) aw ?_ ?_
   ·refine RC.region (mv (vb (fH aa ae)) (mv (vb (fH aa ae)) (gG hj (fun ab hj=>?_) fun ab hj=>?_)))
    ·refine RL.move (vi (dL aa ae (0:Int))) (cg ab) (RL.move ad (cg ab) (RL.aS (hg:=(cg ab)) (f:=(fun x=>x)) 8 j zr Fd.self dM fun br j=>(RL.r7 (hg:=(cg ab)) 7 af zr j zr (mT 0 j) zr xw (RL.kr (hg:=(cg ab)) (dL aa af (0:Int)) 1 (RL.lr (dL aa ae (0:Int)) (IntKind.wrap .i64 ((dL aa af (0:Int)) - 1)) (cg ab) (gH ab (vb ((dL aa ae (0:Int))==(IntKind.wrap .i64 ((dL aa af (0:Int)) - 1)))) (RL.nil ?_)))))))
     obtain rfl:=oi hj
     exact⟨rfl,j.sp 11 [4,5,6,7,8,9,2,10]⟩
    refine cB ab (cB ab (cB ab (cB ab (cB ab (cB ab (gH ab (vb false) (RL.nil ?_)))))))
    obtain rfl:=oi hj
    exact⟨rfl,j.sp 10 [3,4,5,6,7,8,1,9]⟩
   rintro _ w ⟨O,rfl,j⟩
   refine aG (fU o (fun hc o=>?_) fun hc o=>?_)
   rotate_left
   ·refine RC.skip (cG (aG (RC.region (RL.inc hk hm (mv (vi ((aq+1:Nat):Int)) (RL.nil ?_))))))
    obtain rfl:=oi o
    exact⟨rfl,j.sp 8 [0,1,2,3,4,5,7]⟩
   refine RC.sr (RL.aS (f:=(fun x=>x)) 6 j zr Fd.self dM fun bt j=>(RL.p7 6 j 0 zr dM fun w j=>?_))
   refine RL.nt (RC.exit (FM (DO ?_)))
   obtain rfl:=oi o
   exact⟨rfl,j.sp 9 [1,2,3,4,5,6,8]⟩
  ·intro r _ _ _ _
   exact r.elim
  rintro af _ w rfl ⟨O,rfl,j⟩
  rw [Fo.gw] at o
  refine aG (RC.region (mv aj (RL.aS (f:=(fun x=>x)) 5 j zr Fd.self dM fun bb j=>(RL.fD ([af]: (List bX)) j [bb] l6 pr (fun M hs g=>⟨(g.sat 0 _ zr).1,zt⟩) fun bu w j=>?_))))
  have j:=j.freeze 0
  obtain⟨bw,bf,o⟩:=bd o
  refine RL.app 6 0 j Dd bf fun a3 w j=>?_
  refine aR a3 (RL.nil (cG (aG (RC.sr (RL.aS (f:=(fun x=>x)) 7 j zr Fd.self dM fun bz j=>(RL.nt (RC.region (RL.alloc j pr.z fun bg w j=>?_))))))))
  refine RL.bM 0 j 1 zr dM fun w j=>?_
  refine RL.nil ?_
  obtain rfl:=oi o
  exact⟨rfl,a3,bg,j.sp 11 [4,5,6,7,8,0]⟩
 ·intro r _ _ _ _
  exact r.elim
 rintro ag _ w rfl ⟨ak,O,rfl,j⟩
 rw [Fo.gw] at o
 refine aG (RC.sr (mv ak (aR ak (aR (vb true) (RL.nt (RC.ret ?_))))))
 obtain rfl:=oi o
 exact nO ⟨ak,zr,j.pk 5 [4,0]⟩
theorem zg {p0:iM} {p1 p2:fL} {res: (List bX)×Bool×Int} (j:Holds E w V) (h0:V[i0]? =some (rd v0 p0)) (h1:V[i1]? =some (rd v1 p1)) (h2:V[i2]? =some (rd v2 p2)) (o:kH N p0 p1 p2=some res):
    Calls bN 12 [v0,v1,v2].toArray w (iv (AJ E V res)):=by
 unfold kH at o
 refine enter Tryz.func12 zr zr ?_
 have j:=((j.dup (i0+0) h0).dup (i1+1) h1).dup (i2+2) h2
 refine RC.sr (RL.cX 2 v0 j zr fun aw w j=>?_)
 refine RL.cX 2 v1 j zr fun ax w j=>?_
 refine RL.cX 2 v2 j zr fun ay w j=>?_
 refine aR (.slice none 0 0) (aR (vb false) (aR (vi 0) (RL.ns (RL.aS (f:=(fun x=>x)) 2 j zr Fd.self sA fun ak j=>?_))))
 obtain⟨ab,al,o⟩:=bd o
 refine RL.call zt zr HB [ak] zr (aF (na N (i0:=0) j zr al) ?_)
 rintro _ w hK51
 rcases ah:ab.1 with _ | az
 ·replace o:=Hs ah o
  obtain⟨rfl,j⟩:=DZ ah hK51
  refine mv (.tuple #[(.pointer none),(vi ab.2)]) (RL.extract (.pointer none) (RL.extract (vi ab.2) (aR (.pointer none) (aR (vi ab.2) (RL.nq (RC.sr (mv (vi ab.2) (ic ab.2 0 ?_))))))))
  refine RL.nt (fU o (fun hc o=>?_) fun hc o=>?_)
  rotate_left
  ·cases o
  refine RC.sr (mv (vi ab.2) (aR (.slice none 0 0) (aR (vb false) (aR (vi ab.2) (RL.nt (RC.rt ?_))))))
  obtain rfl:=oi o
  have j:=j.dC bX 47
  exact y8 ⟨(.slice none 0 0),zr,j.pk 8 [0]⟩
 replace o:=Ht ah o
 obtain⟨ad,a0,a1,a2,a3,a4,a5,a6,a7,a8,a9,ba,bb,rfl,j⟩:=D0 ah hK51
 refine mv (.tuple #[(vp ad 0),(vi ab.2)]) (RL.extract (vp ad 0) (RL.extract (vi ab.2) (aR (vp ad 0) (aR (vi ab.2) (RL.nq (RC.sr (mv (vi ab.2) (ic ab.2 0 ?_))))))))
 refine RL.nt (fU o (fun hc o=>?_) fun hc o=>?_)
 ·refine RC.sr (mv (vi ab.2) (aR (.slice none 0 0) (aR (vb false) (aR (vi ab.2) (RL.nt (RC.rt ?_))))))
  obtain rfl:=oi o
  have j:=j.dC bX 47
  exact y8 ⟨(.slice none 0 0),zr,j.pk 21 [0]⟩
 refine RC.sx (mv (vp ad 0) (RL.aS (f:=(fun x=>x)) 15 j zr Fd.self qo fun an j=>(RL.aS (f:=(fun x=>x)) 15 j zr Fd.self qo fun ao j=>?_)))
 have j:=((((((((j.freeze 13).freeze 14).dup 14 rfl).dup 14 rfl).dup 8 rfl).dup 8 rfl).dup 8 rfl).dup 8 rfl).pull 8
 obtain⟨aa,aq,o⟩:=bd o
 refine RL.call zt zr Kw [(vp ad 0),an,ao] zr (aF (nX N (i1:=1) (i2:=0) j zr zr aq) ?_)
 rintro _ w ⟨ai,aj,rfl,j⟩
 refine mv (.tuple #[ai,aj,(vb aa.2.2.1),(vi aa.2.2.2)]) (RL.extract ai (RL.extract aj (RL.extract (vb aa.2.2.1) (RL.extract (vi aa.2.2.2) (RL.alloc j pr.z fun bc w j=>?_)))))
 refine RL.alloc j pr.z fun bf w j=>?_
 refine RL.bM 1 j 2 zr dM fun w j=>?_
 refine RL.bM 0 j 3 zr dM fun w j=>?_
 refine aR (vb aa.2.2.1) (aR (vi aa.2.2.2) (RL.nq (RC.sr (mv (vi aa.2.2.2) (ic aa.2.2.2 0 (mv (vb (aa.2.2.2 != 0)) (RL.gs true (aa.2.2.2 != 0) (vb aa.2.2.1) rfl rfl rfl dW (RL.gs true (aa.2.2.2 != 0) (vb (!aa.2.2.1)) rfl rfl rfl (Ag aa.2.2.1 rfl (fun h=>by exact(dN h:cv (true&&((aa.2.2.2 != 0)==false)) (vb aa.2.2.1)= (vb aa.2.2.1)))) ?_))))))))
 refine RL.pick (aa.2.2.2 != 0) (vb ((aa.2.2.2 != 0)||(!aa.2.2.1))) (oO true) (RL.nt (fU o (fun hc o=>?_) fun hc o=>?_))
 ·refine RC.sr (mv (vi aa.2.2.2) (aR (.slice none 0 0) (aR (vb false) (aR (vi aa.2.2.2) (RL.nt (RC.rt ?_))))))
  obtain rfl:=oi o
  have j:=j.dC bX 47
  exact y8 ⟨(.slice none 0 0),zr,j.pk 28 [0]⟩
 refine RC.sx (mv (vp ad 0) (RL.aS (f:=(fun x=>x)) 1 j zr Fd.self dM fun ar j=>(RL.aS (f:=(fun x=>x)) 1 j zr Fd.self dM fun au j=>?_)))
 have j:=(j.dup 16 rfl).pull 7
 obtain⟨ag,av,o⟩:=bd o
 refine RL.call zt zr KB [(vp ad 0),ar,au] zr (aF (ov N (i1:=1) (i2:=0) j zr zr av) ?_)
 rintro _ w ⟨ae,rfl,j⟩
 refine mv (.tuple #[ae,(vb ag.2)]) (RL.extract ae (RL.extract (vb ag.2) (aR ae (aR (vb ag.2) (RL.ns (mv ae (mv (vb ag.2) (aR ae ?_))))))))
 refine aR (vb ag.2) (aR (vi 0) (RL.nt (RC.ret ?_)))
 obtain rfl:=oi o
 exact y8 ⟨ae,zr,j.pk 31 [0]⟩
theorem t4 {p0_6: (List (List Int))} {p1 p2:bX} {res: (List (bX×Int))} (j:Holds E w (bc 108 b0 [v0_0,v0_1,v0_2,v0_3,v0_4,v0_5,v0_6,v0_7,v0_8,v0_9,v0_10,v0_11]::rd v0_6 p0_6::V)) (h1:V[i1]? =some (rd v1 p1)) (h2:V[i2]? =some (pt v2 p2)) (o:l4 N p0_6 p1 p2=some res):
    Calls bN 35 [(vp b0 0),v1,v2].toArray w (iv (m7 E V b0 v0_0 v0_1 v0_2 v0_3 v0_4 v0_5 v0_6 v0_7 v0_8 v0_9 v0_10 v0_11 res)):=by
 unfold l4 at o
 refine enter Tryz.func35 zr zr ?_
 have j:=(j.dup (i1+2) h1).xO (i:=i2+3) h2
 refine RC.sr (RL.cX 1 v1 j zr fun bj w j=>?_)
 refine aR (.map none) (RL.ns (RL.makeMap (κ:=bX) (ν:=Int) zr j fun ab w j=>(RL.aS (f:=(fun x=>x)) 1 j zr Fd.self dM fun bk j=>?_)))
 have j:=j.sc Int 0
 refine RL.insert 2 0 p1 zt j zr (mT 1 j) zr zr zr xw fun w j=>(mv ab (aR ab (RL.nq (RC.sr (RL.aS (f:=(fun x=>x)) 3 j zr Fd.self dM fun a8 j=>(RL.fD ([p1]: (List bX)) j [a8] l6 pr (fun M hs g=>⟨(g.sat 0 _ zr).1,zt⟩) fun a0 w j=>(aR a0 (RL.nt ?_))))))))
 obtain⟨bl,hN,o⟩:=bd o
 refine RC.iter (fun(ah: (List (bX×Int))×(List bX)) U w=>∃a1:Value,SH E V [(0,vp b0 0),(2,v2),(7,ab),(8,a1)] [bc 108 b0 [v0_0,v0_1,v0_2,v0_3,v0_4,v0_5,v0_6,v0_7,v0_8,v0_9,v0_10,v0_11],rd v0_6 p0_6,pt v2 p2,mp ab ah.1,own 47 a1 ah.2] U w) (fun(ah: (List (bX×Int))×(List bX))=>SH E V [(0,vp b0 0),(7,ab)] [bc 108 b0 [v0_0,v0_1,v0_2,v0_3,v0_4,v0_5,v0_6,v0_7,v0_8,v0_9,v0_10,v0_11],rd v0_6 p0_6,pt v2 p2,mp ab ah.1]) (fun(r:Empty) _ _=>r.elim) hN ?_ ?_ ?_ ?_
 ·exact⟨a0,j.sp 10 [8,9,6,4,0]⟩
 ·rintro ah fl _ w ⟨ar,O,rfl,j⟩ o
  refine RC.seq (RC.sr (mv ar (RL.eH 4 ah.2 j vk (ic ((ah.2.length:Int)) 0 (RL.nt (fU o (fun hc o=>?_) fun hc o=>?_))))))
  rotate_left
  ·refine RC.ex ?_
   obtain rfl:=oi o
   exact⟨rfl,j.sp 5 [0,1,2,3]⟩
  refine RC.ss (RC.bs (mv (vp b0 0) (mv ar ?_)))
  obtain⟨bn,av,o⟩:=bd o
  refine RL.bO 4 j zr zr l6 av (RL.gA (f:=(fun x=>x)) 4 j (ku 4 j av 0) (bC av).2.1 Fd.self dM fun a9 j=>?_)
  have j:=(j.dup 2 rfl).pull 2
  obtain⟨af,ba,o⟩:=bd o
  refine RL.call zt zr I4 [(vp b0 0),a9] zr (aF (lK N (i1:=0) j zr ba) ?_)
  rintro ai w j
  refine RL.eH 0 af j vk (mv (vi 0) (RL.nt ?_))
  obtain⟨aa,hN,o⟩:=bd o
  refine RC.fold (fun(aj:Nat) (aa: (List (bX×Int))×(List bX)) U w=>∃a2:Value,SH E V [(0,vp b0 0),(2,v2),(7,ab),(8,a2),(27,ai),(28,vi af.length),(29,vi aj)] [bc 108 b0 [v0_0,v0_1,v0_2,v0_3,v0_4,v0_5,v0_6,v0_7,v0_8,v0_9,v0_10,v0_11],rd v0_6 p0_6,pt v2 p2,mp ab aa.1,own 47 ai af,own 47 a2 aa.2] U w) (fun(aa: (List (bX×Int))×(List bX)) U w=>∃al:Value,SH E V [(0,vp b0 0),(2,v2),(7,ab),(8,al)] [bc 108 b0 [v0_0,v0_1,v0_2,v0_3,v0_4,v0_5,v0_6,v0_7,v0_8,v0_9,v0_10,v0_11],rd v0_6 p0_6,pt v2 p2,mp ab aa.1,own 47 ai af,own 47 al aa.2] U w) hN ?_ ?_ ?_ ?_
  ·exact⟨ar,j.sp 8 [1,4,5,6,0,7]⟩
  ·rintro hm aa _ w ⟨bb,O,rfl,j⟩
   refine RC.sr (ic ((af.length:Int)) ((af.length:Int)) (RL.nq (RC.dS pD (RC.ex ?_))))
   exact⟨rfl,bb,j.sp 6 [0,1,2,3,4,5]⟩
  ·rintro hm aj aa s' _ w hk ⟨ak,O,rfl,j⟩ o
   refine RC.sr (ic ((aj:Int)) ((af.length:Int)) (RL.nq (RC.dR (pC hk) (RC.ss (RC.bs ?_)))))
   obtain⟨ad,aw,o⟩:=bd o
   refine RL.bO 4 j zr zr l6 aw (RL.gA (f:=(fun x=>x)) 4 j (ku 4 j aw 0) (bC aw).2.1 Fd.self dM fun bo j=>?_)
   refine RL.alloc j pr.z fun a5 w j=>?_
   refine RL.bM 0 j 1 zr dM fun w j=>?_
   refine RL.ns (mv ab (RL.aS (f:=(fun x=>x)) 0 j zr Fd.self dM fun bp j=>(RL.qc 6 ad j (mT 0 j) xw (mv (.tuple #[(vi (dL aa.1 ad (0:Int))),(vb (fH aa.1 ad))]) (RL.extract (vi (dL aa.1 ad (0:Int))) (RL.extract (vb (fH aa.1 ad)) (aR (vi (dL aa.1 ad (0:Int))) (aR (vb (fH aa.1 ad)) ?_))))))))
   refine RL.nq ?_
   obtain⟨ax,hj,o⟩:=bd o
   refine RC.jn (fun(ax:Bool)=>SH E V [(0,vp b0 0),(2,v2),(7,ab),(8,ak),(10,vp a5 0),(27,ai),(28,vi af.length),(29,vi aj),(51,vb ax)] [bc 108 b0 [v0_0,v0_1,v0_2,v0_3,v0_4,v0_5,v0_6,v0_7,v0_8,v0_9,v0_10,v0_11],rd v0_6 p0_6,pt v2 p2,mp ab aa.1,own 47 ak aa.2,bx 47 a5 ad,own 47 ai af]) ax ?_ ?_
   ·refine RC.y5 mixed ?_
    have j:=j.drew
    refine RO.go (mv (vb (fH aa.1 ad)) (RO.nx (RL.not (fH aa.1 ad) (RO.nx (mv (vb (!(fH aa.1 ad))) (gG hj (fun ag hj=>?_) fun ag hj=>?_))))))
    ·refine RO.nx (RL.move v2 (cg ag) (RO.nx (RL.Lg (i:=5) (cg ag) zr j zr zr zr Iu (RO.nx (RL.move (vb false) (cg ag) (RO.nx (RL.aS (hg:=⟨_,zr,zr⟩) (f:=(fun x=>x)) 1 j zr Fd.self dM fun bq j=>(RO.nx ?_))))))))
     refine RL.move v2 ⟨_,zr,zr⟩ (RO.nx (RL.BZ (i:=6) ⟨_,zr,zr⟩ zr j zr zr (RO.nx (RL.cD (hg:=⟨_,zr,zr⟩) 6 p2 j dM fun br j=>(RO.nx (RL.K9 (hg:=⟨_,zr,zr⟩) 1 0 ad p2 j wY (RO.nx (RL.pick (hg:=(cg ag)) false (vb (!(decide (ad=p2)))) zr ?_))))))))
     refine RO.nx (gH ag (vb (!(decide (ad=p2)))) (RO.last ?_))
     obtain rfl:=oi hj
     exact⟨rfl,j.sp 11 [5,6,7,8,10,3,9]⟩
    refine RO.nx (cB ag (RO.nx (cB ag (RO.nx (cB ag (RO.nx (pF (RO.nx ?_))))))))
    refine pF (RO.nx (pF (RO.nx (pF (RO.nx (pF (RO.nx (cB ag ?_))))))))
    refine RO.nx (gH ag (vb false) (RO.last ?_))
    obtain rfl:=oi hj
    exact⟨rfl,j.sp 9 [3,4,5,6,8,1,7]⟩
   rintro _ w ⟨O,rfl,j⟩
   refine aG ?_
   obtain⟨an,hj,o⟩:=bd o
   refine RC.jn (fun(an: (List (bX×Int))×(List bX)) U w=>∃ao:Value,SH E V [(0,vp b0 0),(2,v2),(7,ab),(8,ao),(27,ai),(28,vi af.length),(29,vi aj)] [bc 108 b0 [v0_0,v0_1,v0_2,v0_3,v0_4,v0_5,v0_6,v0_7,v0_8,v0_9,v0_10,v0_11],rd v0_6 p0_6,pt v2 p2,mp ab an.1,own 47 ai af,own 47 ao an.2] U w) an ?_ ?_
   ·refine fU hj (fun hc hj=>?_) fun hc hj=>?_
    rotate_left
    ·refine RC.skip ?_
     obtain rfl:=oi hj
     exact⟨rfl,ak,j.sp 7 [0,1,2,3,6,4]⟩
    refine RC.seq (RC.Bj mixed [0,0,0,0,0,0,0,0,2] [0,1,2,3,4,5,6,7,8] ?_)
    have j:=j.drew
    refine DP.e0 zr (mv ab (bR zr (RL.aS (f:=(fun x=>x)) 5 j zr Fd.self dM fun bt j=>(bR zr (mv ab (bR zr (mv ak (bR zr ?_))))))))
    obtain⟨ay,az,hj⟩:=bd hj
    refine RL.bO 5 j zr zr l6 az (bR zr (RL.gA (f:=(fun x=>x)) 5 j (ku 5 j az 0) (bC az).2.1 Fd.self dM fun bu j=>?_))
    refine bR zr (RL.r7 5 ay zr j zr (mT 0 j) zr xw (bR zr (RL.kr (dL aa.1 ay (0:Int)) 1 (u6 zr ?_))))
    have j:=j.sc Int (IntKind.wrap .i64 ((dL aa.1 ay (0:Int))+1))
    refine RL.mapUpdate 6 0 ad j zr (mT 2 j) zr zr zr xw fun w j=>(DP.d2 zt (DP.z (aG (RC.region (mv ak (RL.aS (f:=(fun x=>x)) 8 j zr Fd.self dM fun bf j=>(RL.fD ([ad]: (List bX)) j [bf] l6 pr (fun M hs g=>⟨(g.sat 0 _ zr).1,zt⟩) fun bw w j=>?_)))))))
    have j:=j.freeze 0
    obtain⟨bz,bg,hj⟩:=bd hj
    refine RL.app 9 0 j Dd bg fun a6 w j=>?_
    refine aR a6 (RL.nil ?_)
    obtain rfl:=oi hj
    exact⟨rfl,a6,j.sp 12 [5,6,7,8,11,9]⟩
   rintro _ w ⟨ao,O,rfl,j⟩
   refine cG (aG (RC.region (RL.inc hk hm (mv (vi ((aj+1:Nat):Int)) (RL.nil ?_)))))
   obtain rfl:=oi o
   exact⟨rfl,ao,j.sp 6 [0,1,2,3,4,5]⟩
  rintro _ w ⟨al,O,rfl,j⟩
  refine cG (aG (RC.region (mv al ?_)))
  obtain⟨b1,bh,o⟩:=bd o
  refine RL.uW 5 zr j zr zr l6 (.inl zr) (.inr ⟨rfl,zr⟩) bh fun a7 j=>(aR a7 (RL.nil ?_))
  obtain rfl:=oi o
  exact⟨rfl,a7,j.sp 6 [0,1,2,3,5]⟩
 ·intro r _ _ _ _
  exact r.elim
 rintro ah _ w rfl ⟨O,rfl,j⟩
 rw [Fo.gw] at o
 refine aG (RC.sr (mv ab (aR ab (RL.nt (RC.ret ?_)))))
 obtain rfl:=oi o
 exact cS (j.pk 4 [3,0])
end Go.Gk
namespace Go.Gk
open Go Go.Proofs
variable (N:Nat) {E w:World} {i0 i1 i2:Nat} {v0 v1 v2:Value} {V:List HP}
theorem vz {p0:iM} {p1 p2:fL} {res: (List bX)×Int} (j:Holds E w V) (h0:V[i0]? =some (rd v0 p0)) (h1:V[i1]? =some (rd v1 p1)) (h2:V[i2]? =some (rd v2 p2)) (hb:eX N p0 p1 p2=some res):
    Calls bN 14 [v0,v1,v2].toArray w (iv (qp E V res)):=by
 unfold eX at hb
 refine enter Tryz.func14 zr zr ?_
 have j:=((j.dup (i0+0) h0).dup (i1+1) h1).dup (i2+2) h2
 refine RC.sr (RL.cX 2 v0 j zr fun cp w j=>?_)
 refine RL.cX 2 v1 j zr fun cq w j=>?_
 refine RL.cX 2 v2 j zr fun cr w j=>?_
 refine aR (.slice none 0 0) (aR (vi 0) (RL.ns (RL.aS (f:=(fun x=>x)) 2 j zr Fd.self sA fun b4 j=>?_)))
 obtain⟨ai,b5,hb⟩:=bd hb
 refine RL.call zt zr HB [b4] zr (aF (na N (i0:=0) j zr b5) ?_)
 rintro _ w hK51
 rcases bm:ai.1 with _ | o
 ·replace hb:=Hs bm hb
  obtain⟨rfl,j⟩:=DZ bm hK51
  refine mv (.tuple #[(.pointer none),(vi ai.2)]) (RL.extract (.pointer none) (RL.extract (vi ai.2) (aR (.pointer none) (aR (vi ai.2) (RL.nq (RC.sr (mv (vi ai.2) (ic ai.2 0 ?_))))))))
  refine RL.nt (fU hb (fun hc hb=>?_) fun hc hb=>?_)
  rotate_left
  ·cases hb
  refine RC.sr (mv (vi ai.2) (aR (.slice none 0 0) (aR (vi ai.2) (RL.nt (RC.rt ?_)))))
  obtain rfl:=oi hb
  have j:=j.dC bX 47
  exact nO ⟨(.slice none 0 0),zr,j.pk 8 [0]⟩
 replace hb:=Ht bm hb
 obtain⟨ae,ao,aq,ar,au,av,aw,ax,ay,a0,a1,a2,a3,rfl,j⟩:=D0 bm hK51
 refine mv (.tuple #[(vp ae 0),(vi ai.2)]) (RL.extract (vp ae 0) (RL.extract (vi ai.2) (aR (vp ae 0) (aR (vi ai.2) (RL.nq (RC.sr (mv (vi ai.2) (ic ai.2 0 ?_))))))))
 refine RL.nt (fU hb (fun hc hb=>?_) fun hc hb=>?_)
 ·refine RC.sr (mv (vi ai.2) (aR (.slice none 0 0) (aR (vi ai.2) (RL.nt (RC.rt ?_)))))
  obtain rfl:=oi hb
  have j:=j.dC bX 47
  exact nO ⟨(.slice none 0 0),zr,j.pk 21 [0]⟩
 refine RC.sx (mv (vp ae 0) (RL.aS (f:=(fun x=>x)) 15 j zr Fd.self qo fun b6 j=>(RL.aS (f:=(fun x=>x)) 15 j zr Fd.self qo fun b7 j=>?_)))
 have j:=((((((((j.freeze 13).freeze 14).dup 14 rfl).dup 14 rfl).dup 8 rfl).dup 8 rfl).dup 8 rfl).dup 8 rfl).pull 8
 obtain⟨aa,b8,hb⟩:=bd hb
 refine RL.call zt zr Kw [(vp ae 0),b6,b7] zr (aF (nX N (i1:=1) (i2:=0) j zr zr b8) ?_)
 rintro _ w ⟨bw,bz,rfl,j⟩
 refine mv (.tuple #[bw,bz,(vb aa.2.2.1),(vi aa.2.2.2)]) (RL.extract bw (RL.extract bz (RL.extract (vb aa.2.2.1) (RL.extract (vi aa.2.2.2) (RL.alloc j pr.z fun a6 w j=>?_)))))
 refine RL.alloc j pr.z fun a7 w j=>?_
 refine RL.bM 1 j 2 zr dM fun w j=>?_
 refine RL.bM 0 j 3 zr dM fun w j=>?_
 refine aR (vb aa.2.2.1) (aR (vi aa.2.2.2) (RL.nq (RC.sr (mv (vi aa.2.2.2) (ic aa.2.2.2 0 (RL.nt (fU hb (fun hc hb=>?_) fun hc hb=>?_)))))))
 ·refine RC.sr (mv (vi aa.2.2.2) (aR (.slice none 0 0) (aR (vi aa.2.2.2) (RL.nt (RC.rt ?_)))))
  obtain rfl:=oi hb
  have j:=j.dC bX 47
  exact nO ⟨(.slice none 0 0),zr,j.pk 28 [0]⟩
 refine RC.sx (aR (.slice none 0 0) (aR (vb false) (RL.nq (RC.sr (mv (vb aa.2.2.1) (RL.nt ?_))))))
 obtain⟨af,hj,hb⟩:=bd hb
 refine RC.jn (fun(af: (List bX)×Bool) U w=>∃ak:Value,SH E V [(8,vp ae 0),(10,vp a6 0),(11,vp a7 0),(13,ak),(14,vb af.2)] [bc 108 ae [ao,aq,ar,au,av,aw,ax,ay,a0,a1,a2,a3],rd ao o.1,rd aq o.2.1,rd ar o.2.2.1,rd au o.2.2.2.1,own 137 av o.2.2.2.2.1,rd aw o.2.2.2.2.2.1,rd ax o.2.2.2.2.2.2.1,own 172 ay o.2.2.2.2.2.2.2.1,rd a0 o.2.2.2.2.2.2.2.2.1,rd a1 o.2.2.2.2.2.2.2.2.2.1,rd a2 o.2.2.2.2.2.2.2.2.2.2.1,rd a3 o.2.2.2.2.2.2.2.2.2.2.2,bx 47 a6 aa.1,bx 47 a7 aa.2.1,own 47 ak af.1] U w) af ?_ ?_
 ·refine fU hj (fun hc hj=>?_) fun hc hj=>?_
  rotate_left
  ·refine RC.skip ?_
   obtain rfl:=oi hj
   have j:=j.dC bX 47
   exact⟨rfl,(.slice none 0 0),j.sp 28 [5,9,10,11,12,13,14,15,16,17,18,19,20,2,1,0]⟩
  refine RC.region (mv (vp ae 0) (RL.aS (f:=(fun x=>x)) 1 j zr Fd.self dM fun b9 j=>(RL.aS (f:=(fun x=>x)) 1 j zr Fd.self dM fun ca j=>?_)))
  have j:=(j.dup 16 rfl).pull 7
  obtain⟨bp,cb,hj⟩:=bd hj
  refine RL.call zt zr KB [(vp ae 0),b9,ca] zr (aF (ov N (i1:=1) (i2:=0) j zr zr cb) ?_)
  rintro _ w ⟨bn,rfl,j⟩
  refine mv (.tuple #[bn,(vb bp.2)]) (RL.extract bn (RL.extract (vb bp.2) (aR bn (aR (vb bp.2) (RL.nil ?_)))))
  obtain rfl:=oi hj
  exact⟨rfl,bn,j.sp 31 [1,12,13,14,15,16,17,18,19,20,21,22,23,5,4,0]⟩
 rintro _ w ⟨ak,O,rfl,j⟩
 refine aG (RC.seq (RC.sr (mv (vb af.2) (RL.not af.2 (RL.nt (fU hb (fun hc hb=>?_) fun hc hb=>?_))))))
 ·refine RC.sr (aR (.slice none 0 0) (aR (vi 9) (RL.nt (RC.rt ?_))))
  obtain rfl:=oi hb
  have j:=j.dC bX 47
  exact nO ⟨(.slice none 0 0),zr,j.pk 17 [0]⟩
 refine RC.sx (aR (.slice none 0 0) (RL.nq (RC.sr (mv ak (RL.eH 15 af.1 j vk (mv (vi 0) (RL.nt ?_)))))))
 obtain⟨bb,hN,hb⟩:=bd hb
 refine RC.fold (fun(bf:Nat) (bb: (List bX)) U w=>∃b0:Value,SH E V [(8,vp ae 0),(10,vp a6 0),(11,vp a7 0),(15,b0),(50,ak),(51,vi af.1.length),(52,vi bf)] [bc 108 ae [ao,aq,ar,au,av,aw,ax,ay,a0,a1,a2,a3],rd ao o.1,rd aq o.2.1,rd ar o.2.2.1,rd au o.2.2.2.1,own 137 av o.2.2.2.2.1,rd aw o.2.2.2.2.2.1,rd ax o.2.2.2.2.2.2.1,own 172 ay o.2.2.2.2.2.2.2.1,rd a0 o.2.2.2.2.2.2.2.2.1,rd a1 o.2.2.2.2.2.2.2.2.2.1,rd a2 o.2.2.2.2.2.2.2.2.2.2.1,rd a3 o.2.2.2.2.2.2.2.2.2.2.2,bx 47 a6 aa.1,bx 47 a7 aa.2.1,own 47 ak af.1,own 47 b0 bb] U w) (fun(bb: (List bX)) U w=>∃bj:Value,SH E V [(15,bj)] [bc 108 ae [ao,aq,ar,au,av,aw,ax,ay,a0,a1,a2,a3],rd ao o.1,rd aq o.2.1,rd ar o.2.2.1,rd au o.2.2.2.1,own 137 av o.2.2.2.2.1,rd aw o.2.2.2.2.2.1,rd ax o.2.2.2.2.2.2.1,own 172 ay o.2.2.2.2.2.2.2.1,rd a0 o.2.2.2.2.2.2.2.2.1,rd a1 o.2.2.2.2.2.2.2.2.2.1,rd a2 o.2.2.2.2.2.2.2.2.2.2.1,rd a3 o.2.2.2.2.2.2.2.2.2.2.2,bx 47 a6 aa.1,bx 47 a7 aa.2.1,own 47 ak af.1,own 47 bj bb] U w) hN ?_ ?_ ?_ ?_
 ·have j:=j.dC bX 47
  exact⟨(.slice none 0 0),j.sp 17 [1,2,3,4,5,6,7,8,9,10,11,12,13,14,15,16,0]⟩
 ·rintro hm bb _ w ⟨cd,O,rfl,j⟩
  refine RC.sr (ic ((af.1.length:Int)) ((af.1.length:Int)) (RL.nq (RC.dS pD (RC.ex ?_))))
  exact⟨rfl,cd,j.sp 17 [0,1,2,3,4,5,6,7,8,9,10,11,12,13,14,15,16]⟩
 ·rintro hm bf bb s' _ w hk ⟨bk,O,rfl,j⟩ hb
  refine RC.sr (ic ((bf:Int)) ((af.1.length:Int)) (RL.nq (RC.dR (pC hk) (RC.ss (RC.bs ?_)))))
  obtain⟨ag,bq,hb⟩:=bd hb
  refine RL.bO 15 j zr zr l6 bq (RL.gA (f:=(fun x=>x)) 15 j (ku 15 j bq 0) (bC bq).2.1 Fd.self dM fun cf j=>?_)
  refine RL.alloc j pr.z fun bg w j=>?_
  refine RL.bM 0 j 1 zr dM fun w j=>?_
  refine RL.nq ?_
  obtain⟨aj,ch,hb⟩:=bd hb
  refine RC.D3 E V mixed [1,0,0,0,0,1,1,1,1,1] [1,2,3] (fun(x:Value×Value×Value)=>(fun a4 a8 a9=>[(0,57,(vp ae 0)),(1,58,a4),(2,59,a8),(3,60,a9),(4,61,(.tuple #[(vi (dL aj aa.1 (0:Int))),(vb (fH aj aa.1))])),(5,56,(.tuple #[(vi (dL aj aa.1 (0:Int))),(vb (fH aj aa.1))])),(6,62,(vi (dL aj aa.1 (0:Int)))),(7,63,(vb (fH aj aa.1))),(8,18,(vi (dL aj aa.1 (0:Int)))),(9,19,(vb (fH aj aa.1)))]) x.1 x.2.1 x.2.2) [(8,vp ae 0),(10,vp a6 0),(11,vp a7 0),(15,bk),(17,vp bg 0),(50,ak),(51,vi af.1.length),(52,vi bf)] [] (fun(D:Nat->Bool) (x:Value×Value×Value)=>(fun a4 a8 a9=>[bif D 0 then (rd a4 aa.2.1) else aW,bif D 1 then (mp a8 aj) else aW,bif D 2 then (rd a9 aa.1) else aW,bif D 1 then (pt (vp bg 0) ag) else (bx 47 bg ag),rd cf ag,bc 108 ae [ao,aq,ar,au,av,aw,ax,ay,a0,a1,a2,a3],rd ao o.1,rd aq o.2.1,rd ar o.2.2.1,rd au o.2.2.2.1,own 137 av o.2.2.2.2.1,rd aw o.2.2.2.2.2.1,rd ax o.2.2.2.2.2.2.1,own 172 ay o.2.2.2.2.2.2.2.1,rd a0 o.2.2.2.2.2.2.2.2.1,rd a1 o.2.2.2.2.2.2.2.2.2.1,rd a2 o.2.2.2.2.2.2.2.2.2.2.1,rd a3 o.2.2.2.2.2.2.2.2.2.2.2,bx 47 a6 aa.1,bx 47 a7 aa.2.1,own 47 ak af.1,own 47 bk bb]) x.1 x.2.1 x.2.2) (fun x=>by kernel_rfl) ?_ ⟨fun _=>g8 gn,?_,?_,?_,?_,fun _=>g8 gn,fun _=>Jv gn rfl,fun _=>Jv gn rfl,fun _=>BT gn,fun _=>BT gn,trivial⟩ ?_
  ·have j:=(((j.drew).aW).aW).aW
   exact⟨(undef,undef,undef),eR.none,(CV zr),zt,j⟩
  ·rintro D U w hD al br ⟨⟨a4,a8,a9⟩,hv,ha,_,j⟩
   obtain⟨O,rfl⟩:=(ac (ha.at 2 rfl) az).eQ
   have j:=j.bS 0 hD
   refine RL.aS (f:=(fun x=>x)) 19 j zr Fd.self dM fun cj j=>?_
   have j:=(j.pl 23 [0,2,3,4,5,6,7,8,9,10,11,12,13,14,15,16,17,18,19,20,21,22]).bZ 0 true rfl aW
   exact RL.nil ⟨rfl,(cj,a8,a9),hv.pu 1,ha.u,zt,j⟩
  ·rintro D U w hD al br ⟨⟨a4,a8,a9⟩,hv,ha,_,j⟩
   obtain⟨O,rfl⟩:=(ac (hv.at 0 rfl (al.1 rfl)) (ac (hv.at 1 rfl (al.2.1 rfl)) (ac (ha.at 4 rfl) az))).eQ
   have j:=(((((j.bY 0 (al.2.1 rfl)).bS 1 hD).bS 3 hD).jw (i:=3) rfl).dup 12 rfl).pull 6
   refine RL.call zt zr KA [(vp ae 0),a4,(vp bg 0)] zr (aF (t4 N (i1:=0) (i2:=3) j zr zr ch) ?_)
   rintro ck w j
   have j:=(((j.pl 24 [2,0,4,5,6,1,8,9,10,11,12,13,14,15,16,17,18,19,20,21,22,23]).bZ 0 (D 1) (al.2.1 rfl) aW).bZ 1 true rfl aW).bZ 3 true rfl (bx 47 bg ag)
   exact RL.nil ⟨rfl,(a4,ck,a9),hv.pu 2,ha.u,zt,j⟩
  ·rintro D U w hD al br ⟨⟨a4,a8,a9⟩,hv,ha,_,j⟩
   obtain⟨O,rfl⟩:=(ac (ha.at 1 rfl) az).eQ
   have j:=j.bS 2 hD
   refine RL.aS (f:=(fun x=>x)) 18 j zr Fd.self dM fun cl j=>?_
   have j:=(j.pl 23 [1,2,0,4,5,6,7,8,9,10,11,12,13,14,15,16,17,18,19,20,21,22]).bZ 2 true rfl aW
   exact RL.nil ⟨rfl,(a4,a8,cl),hv.pu 3,ha.u,zt,j⟩
  ·rintro D U w hD al br ⟨⟨a4,a8,a9⟩,hv,ha,_,j⟩
   obtain⟨O,rfl⟩:=(ac (hv.at 2 rfl (al.1 rfl)) (ac (hv.at 3 rfl (al.2.1 rfl)) az)).eQ
   have j:=(j.bY 1 (al.1 rfl)).bY 2 (al.2.1 rfl)
   refine RL.qc 1 aa.1 j (mT 2 j) xw ?_
   have j:=(j.bZ 1 (D 2) (al.1 rfl) aW).bZ 2 (D 3) (al.2.1 rfl) aW
   exact RL.nil ⟨rfl,(a4,a8,a9),hv.pu 4,ha.u,zt,j⟩
  rintro D U w bl ⟨⟨a4,a8,a9⟩,hv,ha,_,j⟩
  have j:=(((j.bY 0 (iT bl 1)).bY 1 (iT bl 2)).bY 2 (iT bl 3)).bY 3 (iT bl 2)
  obtain⟨O,rfl⟩:=(ac (hv.at 9 rfl (iT bl 9)) (ac (ha.at 0 rfl) (ac (ha.at 1 rfl) (ac (ha.at 2 rfl) (ac (ha.at 3 rfl) (ac (ha.at 4 rfl) (ac (ha.at 5 rfl) (ac (ha.at 6 rfl) (ac (ha.at 7 rfl) az))))))))).eQ
  refine aG (RC.seq ?_)
  obtain⟨bt,hj,hb⟩:=bd hb
  refine RC.jn (fun(bt:Bool)=>SH E V [(8,vp ae 0),(10,vp a6 0),(11,vp a7 0),(15,bk),(17,vp bg 0),(50,ak),(51,vi af.1.length),(52,vi bf),(75,vb bt)] [bc 108 ae [ao,aq,ar,au,av,aw,ax,ay,a0,a1,a2,a3],rd ao o.1,rd aq o.2.1,rd ar o.2.2.1,rd au o.2.2.2.1,own 137 av o.2.2.2.2.1,rd aw o.2.2.2.2.2.1,rd ax o.2.2.2.2.2.2.1,own 172 ay o.2.2.2.2.2.2.2.1,rd a0 o.2.2.2.2.2.2.2.2.1,rd a1 o.2.2.2.2.2.2.2.2.2.1,rd a2 o.2.2.2.2.2.2.2.2.2.2.1,rd a3 o.2.2.2.2.2.2.2.2.2.2.2,bx 47 a6 aa.1,bx 47 a7 aa.2.1,own 47 bk bb,pt (vp bg 0) ag,own 47 ak af.1]) bt ?_ ?_
  ·refine RC.region (RL.cD 3 ag j dM fun ct j=>(RL.aS (f:=(fun x=>x)) 19 j zr Fd.self dM fun cu j=>(RL.seq 1 0 ag aa.1 zt j wY (mv (vb (decide (ag=aa.1))) (gG hj (fun ba hj=>?_) fun ba hj=>?_)))))
   ·refine cB ba (cB ba (cB ba (gH ba (vb true) (mv (vb true) (jA (jA (RL.pick true (vb true) zr (RL.nil ?_))))))))
    obtain rfl:=oi hj
    exact⟨rfl,j.sp 24 [7,8,9,10,11,12,13,14,15,16,17,18,19,20,21,23,5,22]⟩
   refine RL.cD (hg:=(cg ba)) 5 ag j dM fun cw j=>(RL.aS (hg:=(cg ba)) (f:=(fun x=>x)) 22 j rfl Fd.self dM fun cx j=>(RL.seq 1 0 ag aa.2.1 (cg ba) j wY (gH ba (vb (decide (ag=aa.2.1))) (mv (vb (decide (ag=aa.2.1))) (RL.gs true (decide (ag=aa.2.1)) (vb (fH aj aa.1)) rfl rfl rfl dW (RL.gs true (decide (ag=aa.2.1)) (vb (!(fH aj aa.1))) rfl rfl rfl (Ag (fH aj aa.1) rfl (fun h=>by exact(dN h:cv (true&&((decide (ag=aa.2.1))==false)) (vb (fH aj aa.1))= (vb (fH aj aa.1))))) (RL.pick (decide (ag=aa.2.1)) (vb ((decide (ag=aa.2.1))||(!(fH aj aa.1)))) (oO true) (RL.nil ?_))))))))
   obtain rfl:=oi hj
   exact⟨rfl,j.sp 26 [9,10,11,12,13,14,15,16,17,18,19,20,21,22,23,25,7,24]⟩
  rintro _ w ⟨O,rfl,j⟩
  refine aG ?_
  obtain⟨bu,hj,hb⟩:=bd hb
  refine RC.jn (fun(bu: (List bX)) U w=>∃bo:Value,SH E V [(8,vp ae 0),(10,vp a6 0),(11,vp a7 0),(15,bo),(50,ak),(51,vi af.1.length),(52,vi bf)] [bc 108 ae [ao,aq,ar,au,av,aw,ax,ay,a0,a1,a2,a3],rd ao o.1,rd aq o.2.1,rd ar o.2.2.1,rd au o.2.2.2.1,own 137 av o.2.2.2.2.1,rd aw o.2.2.2.2.2.1,rd ax o.2.2.2.2.2.2.1,own 172 ay o.2.2.2.2.2.2.2.1,rd a0 o.2.2.2.2.2.2.2.2.1,rd a1 o.2.2.2.2.2.2.2.2.2.1,rd a2 o.2.2.2.2.2.2.2.2.2.2.1,rd a3 o.2.2.2.2.2.2.2.2.2.2.2,bx 47 a6 aa.1,bx 47 a7 aa.2.1,own 47 ak af.1,own 47 bo bu] U w) bu ?_ ?_
  ·refine fU hj (fun hc hj=>?_) fun hc hj=>?_
   rotate_left
   ·refine RC.skip ?_
    obtain rfl:=oi hj
    exact⟨rfl,bk,j.sp 18 [0,1,2,3,4,5,6,7,8,9,10,11,12,13,14,17,15]⟩
   refine RC.region (mv bk (RL.cD 16 ag j dM fun cm j=>(RL.fD ([ag]: (List bX)) j [cm] l6 pr (fun M hs g=>⟨(g.sat 0 _ zr).1,zt⟩) fun cy w j=>?_)))
   have j:=j.freeze 0
   obtain⟨cz,cn,hj⟩:=bd hj
   refine RL.app 17 0 j Dd cn fun b3 w j=>?_
   refine aR b3 (RL.nil ?_)
   obtain rfl:=oi hj
   exact⟨rfl,b3,j.sp 20 [2,3,4,5,6,7,8,9,10,11,12,13,14,15,16,19,17]⟩
  rintro _ w ⟨bo,O,rfl,j⟩
  refine cG (aG (RC.region (RL.inc hk hm (mv (vi ((bf+1:Nat):Int)) (RL.nil ?_)))))
  obtain rfl:=oi hb
  exact⟨rfl,bo,j.sp 17 [0,1,2,3,4,5,6,7,8,9,10,11,12,13,14,15,16]⟩
 rintro _ w ⟨bj,O,rfl,j⟩
 refine aG (RC.sr (mv bj (aR bj (aR (vi 0) (RL.nt (RC.ret ?_))))))
 obtain rfl:=oi hb
 exact nO ⟨bj,zr,j.pk 17 [16]⟩
theorem kK {res:Bool} (j:Holds E w V) (hb:eB N=some res):
    Calls bN 17 [].toArray w (iv (bH E V res)):=by
 unfold eB at hb
 refine enter Tryz.func17 zr zr (RC.sr (aR (vb false) (RL.ns ?_)))
 have j:=j.sc Int 2
 refine RL.build (⟨⟨0,0⟩,2,0,0,false⟩:cH) trivial rfl j [(1,vi 2)] rfl KC rfl (fun M hs g=>by have h:=I0 M;exact dY.cons (f:=fun(x:cH) y=>{x with eI:=y}) h ET (g.sat 0 _ rfl).1 fun _ h=>dY.nil h) fun ag j=>?_
 obtain⟨o,ah,hb⟩:=bd hb
 refine RL.call zt zr JS [ag] zr (aF (qx N (i0:=0) j zr ah) ?_)
 rintro _ w ⟨af,rfl,j⟩
 refine mv (.tuple #[af,(vi o.2)]) (RL.extract af (RL.extract (vi o.2) (RL.alloc j pT.z fun ai w j=>?_)))
 refine RL.bM 0 j 1 zr jd fun w j=>?_
 refine aR (vi o.2) (RL.nq ?_)
 obtain⟨ae,hj,hb⟩:=bd hb
 refine RC.jn (fun(ae:Bool)=>SH E V [(0,vb ae)] []) ae ?_ ?_
 ·refine RC.region (mv (vi o.2) (ic o.2 0 (mv (vb (o.2==0)) (gG hj (fun aa hj=>?_) fun aa hj=>?_))))
  rotate_left
  ·refine cB aa (cB aa (cB aa (gH aa (vb false) (aR (vb false) (RL.nil ?_)))))
   obtain rfl:=oi hj
   exact⟨rfl,j.sp 4 []⟩
  refine RL.aS (hg:=(cg aa)) (f:=(fun x=>x)) 0 j zr Fd.self jd fun aj j=>?_
  have j:=(((j.sc Int (-1)).sc Int (-1)).sc Int 1).sc Int 1
  refine RL.build (⟨(-1),(-1),1,1⟩:aH) (cg aa) rfl j [(0,(vi (-1))),(1,(vi (-1))),(2,vi 1),(3,vi 1)] rfl EY rfl (fun M hs g=>by have h:=uu M;exact dY.cons (f:=fun(x:aH) y=>{x with X0:=y}) h qg (g.sat 3 _ rfl).1 fun _ h=>dY.cons (f:=fun(x:aH) y=>{x with Y0:=y}) h tk (g.sat 2 _ rfl).1 fun _ h=>dY.cons (f:=fun(x:aH) y=>{x with X1:=y}) h qh (g.sat 1 _ rfl).1 fun _ h=>dY.cons (f:=fun(x:aH) y=>{x with Y1:=y}) h tm (g.sat 0 _ rfl).1 fun _ h=>dY.nil h) fun ak j=>?_
  refine RL.seq 5 0 o.1 (⟨(-1),(-1),1,1⟩:aH) (cg aa) j Ib (gH aa (vb (decide (o.1= (⟨(-1),(-1),1,1⟩:aH)))) (aR (vb (decide (o.1= (⟨(-1),(-1),1,1⟩:aH)))) (RL.nil ?_)))
  obtain rfl:=oi hj
  exact⟨rfl,j.sp 10 []⟩
 rintro _ w ⟨O,rfl,j⟩
 refine aG (RC.ret ?_)
 obtain rfl:=oi hb
 exact cS ⟨rfl,j.drop 0⟩
end Go.Gk
namespace Go.Gk
open Go Go.Proofs
variable (N:Nat) {E w:World} {i0 i1 i2:Nat} {p1 res:Int} {v0 v1 v2:Value} {V:List HP}
def wF (E:World) (V:List HP) (res:Int×Bool×Int) (v:Value) (w:World):Prop:=v = .tuple #[(vi res.1),(vb res.2.1),(vi res.2.2)]/\Holds E w V
theorem pL {p0:iM} {p1:fL} {res:Int×Bool×Int} (j:Holds E w V) (h0:V[i0]? =some (rd v0 p0)) (h1:V[i1]? =some (rd v1 p1)) (o:kl N p0 p1=some res):
    Calls bN 18 [v0,v1].toArray w (iv (wF E V res)):=by
 unfold kl at o
 refine enter Tryz.func18 zr zr ?_
 have j:=(j.dup (i0+0) h0).dup (i1+1) h1
 refine RC.sr (RL.cX 1 v0 j zr fun ay w j=>?_)
 refine RL.cX 1 v1 j zr fun az w j=>?_
 refine aR (vi 0) (aR (vb false) (aR (vi 0) (RL.ns (RL.aS (f:=(fun x=>x)) 1 j zr Fd.self sA fun ak j=>?_))))
 obtain⟨aa,al,o⟩:=bd o
 refine RL.call zt zr HB [ak] zr (aF (na N (i0:=0) j zr al) ?_)
 rintro _ w hK50
 rcases af:aa.1 with _ | a0
 ·replace o:=Hs af o
  obtain⟨rfl,j⟩:=DZ af hK50
  refine mv (.tuple #[(.pointer none),(vi aa.2)]) (RL.extract (.pointer none) (RL.extract (vi aa.2) (aR (.pointer none) (aR (vi aa.2) (RL.nq (RC.sr (mv (vi aa.2) (ic aa.2 0 ?_))))))))
  refine RL.nt (fU o (fun hc o=>?_) fun hc o=>?_)
  ·refine RC.sr (mv (vi aa.2) (aR (vi 0) (aR (vb false) (aR (vi aa.2) (RL.nt (RC.rt ?_))))))
   obtain rfl:=oi o
   exact y8 ⟨rfl,j.drop 5⟩
  refine RC.sx (RL.aS (f:=(fun x=>x)) 2 j zr Fd.self sA fun an j=>(RL.aS (f:=(fun x=>x)) 2 j zr Fd.self qo fun ao j=>?_))
  obtain⟨ag,aq,o⟩:=bd o
  refine RL.call zt zr HC [an,ao] zr (aF (l9 N (i0:=1) (i1:=0) j zr zr aq) ?_)
  rintro _ w ⟨rfl,j⟩
  refine aR (vi ag) (RL.nq (RC.sr (mv (vi ag) (ic ag 0 (RL.nt (fU o (fun hc o=>?_) fun hc o=>?_))))))
  rotate_left
  ·cases o
  refine RC.sr (aR (vi 0) (aR (vb false) (aR (vi 9) (RL.nt (RC.rt ?_)))))
  obtain rfl:=oi o
  exact y8 ⟨rfl,j.drop 7⟩
 replace o:=Ht af o
 obtain⟨ad,a1,a2,a3,a4,a5,a6,a7,a8,a9,ba,aj,bb,rfl,j⟩:=D0 af hK50
 refine mv (.tuple #[(vp ad 0),(vi aa.2)]) (RL.extract (vp ad 0) (RL.extract (vi aa.2) (aR (vp ad 0) (aR (vi aa.2) (RL.nq (RC.sr (mv (vi aa.2) (ic aa.2 0 ?_))))))))
 refine RL.nt (fU o (fun hc o=>?_) fun hc o=>?_)
 ·refine RC.sr (mv (vi aa.2) (aR (vi 0) (aR (vb false) (aR (vi aa.2) (RL.nt (RC.rt ?_))))))
  obtain rfl:=oi o
  exact y8 ⟨rfl,j.drop 18⟩
 refine RC.sx (RL.aS (f:=(fun x=>x)) 15 j zr Fd.self sA fun ar j=>(RL.aS (f:=(fun x=>x)) 15 j zr Fd.self qo fun au j=>?_))
 obtain⟨ae,av,o⟩:=bd o
 refine RL.call zt zr HC [ar,au] zr (aF (l9 N (i0:=1) (i1:=0) j zr zr av) ?_)
 rintro _ w ⟨rfl,j⟩
 refine aR (vi ae) (RL.nq (RC.sr (mv (vi ae) (ic ae 0 (RL.nt (fU o (fun hc o=>?_) fun hc o=>?_))))))
 ·refine RC.sr (aR (vi 0) (aR (vb false) (aR (vi 9) (RL.nt (RC.rt ?_)))))
  obtain rfl:=oi o
  exact y8 ⟨rfl,j.drop 20⟩
 refine RC.ss (RC.sr (mv (vp ad 0) (RL.nilCheck zr (RL.bT zr rj (RL.bP 2 aj j fJ (mv (vi ae) ?_))))))
 obtain⟨aw,ah,o⟩:=bd o
 refine RL.bO 13 j zr zr fF ah (RL.eJ (f:=(fun x=>x)) 13 j (ku 13 j ah 0) (bC ah).2.1 Fd.self dH (ic aw 0 (RL.nt (fU o (fun hc o=>?_) fun hc o=>?_))))
 ·refine RC.sr (aR (vi 0) (aR (vb false) (aR (vi 0) (RL.nt (RC.rt ?_)))))
  obtain rfl:=oi o
  exact y8 ⟨rfl,j.drop 20⟩
 refine RC.sx (mv (vp ad 0) (RL.nilCheck zr (RL.bT zr rj (RL.bP 2 aj j fJ (mv (vi ae) ?_)))))
 obtain⟨ax,ai,o⟩:=bd o
 refine RL.bO 13 j zr zr fF ai (RL.eJ (f:=(fun x=>x)) 13 j (ku 13 j ai 0) (bC ai).2.1 Fd.self dH (aR (vi ax) (aR (vb true) (aR (vi 0) (RL.nt (RC.ret ?_))))))
 obtain rfl:=oi o
 exact y8 ⟨rfl,j.drop 20⟩
def uD (E:World) (V:List HP) (r:Int) (U:Nat->Value) (w:World):Prop:=nB bN 19 Tryz.f39 (aV E V r) .ret U w
theorem t5 {p0: (List bX)} {p1:bX} (j:Holds E w V) (h0:V[i0]? =some (rd v0 p0)) (h1:V[i1]? =some (rd v1 p1)) (o:nD N p0 p1=some res):
    Calls bN 39 [v0,v1].toArray w (iv (aV E V res)):=by
 unfold nD at o
 refine enter Tryz.func39 zr zr ?_
 have j:=(j.dup (i0+0) h0).dup (i1+1) h1
 refine RC.sr (RL.cX 0 v1 j zr fun ad w j=>?_)
 refine aR (vi 0) (RL.nq (RC.sr (mv v0 (RL.cC 2 p0 j vk (mv (vi 0) (RL.nt ?_))))))
 obtain⟨al,hN,o⟩:=bd o
 refine RC.range (fun(aa:Nat) (ab:Unit)=>SH E V [(0,v0),(3,vp ad 0),(7,vi p0.length),(8,vi aa)] [rd v0 p0,bx 47 ad p1]) (fun(ab:Unit)=>SH E V [] [rd v0 p0,bx 47 ad p1]) (uD E V) hN ?_ ?_ ?_ ?_ ?_
 ·exact j.sp 3 [2,0]
 ·rintro hm ab _ w ⟨O,rfl,j⟩
  refine RC.sr (ic ((p0.length:Int)) ((p0.length:Int)) (RL.nq (RC.dS pD (RC.ex ?_))))
  exact⟨rfl,j.sp 2 [0,1]⟩
 ·rintro hm aa ab fl _ w hk ⟨O,rfl,j⟩ o
  refine RC.sr (ic ((aa:Int)) ((p0.length:Int)) (RL.nq (RC.dR (pC hk) (RC.ss (RC.bs (mv (vi aa) (aR (vi aa) (RL.nq ?_))))))))
  refine RC.y5 mixed ?_
  have j:=j.drew
  refine RO.go (RL.aS (f:=(fun x=>x)) 1 j zr Fd.self dM fun ao j=>(RO.nx (mv v0 (RO.nx (mv (vi aa) (RO.nx ?_))))))
  obtain⟨ag,ai,o⟩:=bd o
  refine RL.cM 1 j l6 ai fun aq j=>(RO.nx (RL.cD 0 ag j dM fun ar j=>(RO.nx (RL.seq 2 0 p1 ag zt j wY (RO.last (aG (fU o (fun hc o=>?_) fun hc o=>?_)))))))
  rotate_left
  ·refine RC.skip (cG (aG (RC.region (RL.inc hk hm (mv (vi ((aa+1:Nat):Int)) (RL.nil ?_))))))
   obtain rfl:=oi o
   exact⟨rfl,j.sp 5 [3,4]⟩
  refine RC.sr (mv (vi aa) (aR (vi aa) (RL.nt (RC.rb (cO ?_)))))
  obtain rfl:=oi o
  exact⟨rfl,cS ⟨rfl,j.drop 5⟩⟩
 ·intro r U w e hK
  subst e
  refine cO ?_
  obtain rfl:=oi o
  exact hK
 rintro ab _ w rfl ⟨O,rfl,j⟩
 rw [Fo.gw] at o
 refine aG (RC.sr (aR (vi (-1)) (RL.nt (RC.ret ?_))))
 obtain rfl:=oi o
 exact cS ⟨rfl,j.drop 2⟩
theorem nc {p0: (List bX)} {p1:bX} {res:Bool} (j:Holds E w V) (h0:V[i0]? =some (rd v0 p0)) (h1:V[i1]? =some (rd v1 p1)) (o:gK N p0 p1=some res):
    Calls bN 19 [v0,v1].toArray w (iv (bH E V res)):=by
 unfold gK at o
 refine enter Tryz.func19 zr zr ?_
 have j:=(j.dup (i0+0) h0).dup (i1+1) h1
 refine RC.sr (RL.cX 0 v1 j zr fun ae w j=>?_)
 refine aR (vb false) (RL.ns (mv v0 (RL.aS (f:=(fun x=>x)) 0 j zr Fd.self dM fun ab j=>?_)))
 obtain⟨aa,ad,o⟩:=bd o
 refine RL.call zt zr LI [v0,ab] zr (aF (t5 N (i0:=3) (i1:=0) j zr zr ad) ?_)
 rintro _ w ⟨rfl,j⟩
 refine ic aa 0 (aR (vb (decide (aa>=0))) (RL.nt (RC.ret ?_)))
 obtain rfl:=oi o
 exact cS ⟨rfl,j.drop 4⟩
theorem vA {p0:iM} {res: (List Int)×Int} (j:Holds E w V) (h0:V[i0]? =some (rd v0 p0)) (o:ja N p0 p1=some res):
    Calls bN 40 [v0,(vi p1)].toArray w (iv (sC E V res)):=by
 unfold ja at o
 refine enter Tryz.func40 zr zr ?_
 have j:=j.dup (i0+0) h0
 refine RC.sr (RL.cX 0 v0 j zr fun ar w j=>?_)
 refine aR (.slice none 0 0) (aR (vi 0) (RL.ns (RL.aS (f:=(fun x=>x)) 0 j zr Fd.self sA fun ah j=>?_)))
 obtain⟨aa,ai,o⟩:=bd o
 refine RL.call zt zr HB [ah] zr (aF (na N (i0:=0) j zr ai) ?_)
 rintro _ w hK49
 rcases ae:aa.1 with _ | af
 ·replace o:=Hs ae o
  obtain⟨rfl,j⟩:=DZ ae hK49
  refine mv (.tuple #[(.pointer none),(vi aa.2)]) (RL.extract (.pointer none) (RL.extract (vi aa.2) (aR (.pointer none) (aR (vi aa.2) (RL.nq (RC.sr (mv (vi aa.2) (ic aa.2 0 ?_))))))))
  refine RL.nt (fU o (fun hc o=>?_) fun hc o=>?_)
  rotate_left
  ·cases o
  refine RC.sr (mv (vi aa.2) (aR (.slice none 0 0) (aR (vi aa.2) (RL.nt (RC.rt ?_)))))
  obtain rfl:=oi o
  have j:=j.xM Int
  exact nO ⟨(.slice none 0 0),zr,j.pk 4 [0]⟩
 replace o:=Ht ae o
 obtain⟨ad,au,av,aj,aw,ax,ay,ak,az,a0,a1,a2,a3,rfl,j⟩:=D0 ae hK49
 refine mv (.tuple #[(vp ad 0),(vi aa.2)]) (RL.extract (vp ad 0) (RL.extract (vi aa.2) (aR (vp ad 0) (aR (vi aa.2) (RL.nq (RC.sr (mv (vi aa.2) (ic aa.2 0 ?_))))))))
 refine RL.nt (fU o (fun hc o=>?_) fun hc o=>?_)
 ·refine RC.sr (mv (vi aa.2) (aR (.slice none 0 0) (aR (vi aa.2) (RL.nt (RC.rt ?_)))))
  obtain rfl:=oi o
  have j:=j.xM Int
  exact nO ⟨(.slice none 0 0),zr,j.pk 17 [0]⟩
 refine RC.ss (RC.sr (mv (vi p1) (mv (vp ad 0) (RL.nilCheck zr (RL.bT zr m6 (RL.bT zr oU (RL.bP 0 aj j x5 (RL.cC 3 af.2.2.1 j ze ?_))))))))
 refine RL.kr (af.2.2.1.length:Int) 1 ?_
 obtain⟨al,an,o⟩:=bd o
 refine RL.call zt zr F5 [(vi p1),(vi 0),(vi (IntKind.wrap .i64 ((af.2.2.1.length:Int) - 1)))] zr (aF (ko N (p0:=p1) (p1:=0) (p2:=(IntKind.wrap .i64 ((af.2.2.1.length:Int) - 1))) j an) ?_)
 rintro _ w ⟨rfl,j⟩
 refine RL.not al (RL.nt (fU o (fun hc o=>?_) fun hc o=>?_))
 ·refine RC.sr (aR (.slice none 0 0) (aR (vi 9) (RL.nt (RC.rt ?_))))
  obtain rfl:=oi o
  have j:=j.xM Int
  exact nO ⟨(.slice none 0 0),zr,j.pk 17 [0]⟩
 refine RC.sx (mv (vp ad 0) (RL.nilCheck zr (RL.bT zr tr (RL.bP 0 ak j zJ (mv (vi p1) ?_)))))
 obtain⟨ao,aq,o⟩:=bd o
 refine RL.cM 7 j vj aq fun a4 j=>(RL.cD 0 ao j fJ fun ag j=>(aR ag (aR (vi 0) (RL.nt (RC.ret ?_)))))
 obtain rfl:=oi o
 exact nO ⟨ag,zr,j.pk 18 [0]⟩
def uE (E:World) (V:List HP) (r:Int) (U:Nat->Value) (w:World):Prop:=nB bN 19 Tryz.f79 (aV E V r) .ret U w
theorem t6 {p0: (List Int)} (j:Holds E w V) (h0:V[i0]? =some (rd v0 p0)) (o:l5 N p0 p1=some res):
    Calls bN 79 [v0,(vi p1)].toArray w (iv (aV E V res)):=by
 unfold l5 at o
 refine enter Tryz.func79 zr zr ?_
 have j:=j.dup (i0+0) h0
 refine RC.sr (aR (vi 0) (RL.nq (RC.sr (mv v0 (RL.cC 0 p0 j m0 (mv (vi 0) (RL.nt ?_)))))))
 obtain⟨ak,hN,o⟩:=bd o
 refine RC.range (fun(aa:Nat) (ab:Unit)=>SH E V [(0,v0),(1,vi p1),(7,vi p0.length),(8,vi aa)] [rd v0 p0]) (fun(ab:Unit)=>SH E V [] [rd v0 p0]) (uE E V) hN ?_ ?_ ?_ ?_ ?_
 ·exact j.sp 1 [0]
 ·rintro hm ab _ w ⟨O,rfl,j⟩
  refine RC.sr (ic ((p0.length:Int)) ((p0.length:Int)) (RL.nq (RC.dS pD (RC.ex ?_))))
  exact⟨rfl,j.sp 1 [0]⟩
 ·rintro hm aa ab fl _ w hk ⟨O,rfl,j⟩ o
  refine RC.sr (ic ((aa:Int)) ((p0.length:Int)) (RL.nq (RC.dR (pC hk) (RC.ss (RC.bs (mv (vi aa) (aR (vi aa) (RL.ns ?_))))))))
  refine mv (vi p1) (mv v0 (mv (vi aa) ?_))
  obtain⟨af,ah,o⟩:=bd o
  refine RL.cM 0 j fF ah fun an j=>(RL.bU af 0 j dH (ic p1 af (RL.nt (fU o (fun hc o=>?_) fun hc o=>?_))))
  rotate_left
  ·refine RC.skip (cG (aG (RC.region (RL.inc hk hm (mv (vi ((aa+1:Nat):Int)) (RL.nil ?_))))))
   obtain rfl:=oi o
   exact⟨rfl,j.sp 2 [1]⟩
  refine RC.sr (mv (vi aa) (aR (vi aa) (RL.nt (RC.rb (cO ?_)))))
  obtain rfl:=oi o
  exact⟨rfl,cS ⟨rfl,j.drop 2⟩⟩
 ·intro r U w e hK
  subst e
  refine cO ?_
  obtain rfl:=oi o
  exact hK
 rintro ab _ w rfl ⟨O,rfl,j⟩
 rw [Fo.gw] at o
 refine aG (RC.sr (aR (vi (-1)) (RL.nt (RC.ret ?_))))
 obtain rfl:=oi o
 exact cS ⟨rfl,j.drop 1⟩
theorem rm {p0: (List Int)} {res:Bool} (j:Holds E w V) (h0:V[i0]? =some (rd v0 p0)) (o:fw N p0 p1=some res):
    Calls bN 41 [v0,(vi p1)].toArray w (iv (bH E V res)):=by
 unfold fw at o
 refine enter Tryz.func41 zr zr ?_
 have j:=j.dup (i0+0) h0
 refine RC.sr (aR (vb false) (RL.ns (mv v0 (mv (vi p1) ?_))))
 obtain⟨aa,ab,o⟩:=bd o
 refine RL.call zt zr LK [v0,(vi p1)] zr (aF (t6 N (p1:=p1) (i0:=0) j zr ab) ?_)
 rintro _ w ⟨rfl,j⟩
 refine ic aa 0 (aR (vb (decide (aa>=0))) (RL.nt (RC.ret ?_)))
 obtain rfl:=oi o
 exact cS ⟨rfl,j.drop 1⟩
theorem p4 {p0:iM} {p1 p2:bX} {res:Bool} (j:Holds E w V) (h0:V[i0]? =some (rd v0 p0)) (h1:V[i1]? =some (rd v1 p1)) (h2:V[i2]? =some (rd v2 p2)) (hb:gU N p0 p1 p2=some res):
    Calls bN 20 [v0,v1,v2].toArray w (iv (bH E V res)):=by
 unfold gU at hb
 refine enter Tryz.func20 zr zr ?_
 have j:=((j.dup (i0+0) h0).dup (i1+1) h1).dup (i2+2) h2
 refine RC.sr (RL.cX 2 v0 j zr fun ai w j=>?_)
 refine RL.cX 2 v1 j zr fun aj w j=>?_
 refine RL.cX 2 v2 j zr fun ak w j=>?_
 refine aR (vb false) (RL.nq (RC.sr (RL.bT zr x9 (RL.aX 1 j zr su Gh (RL.bT zr x9 (RL.aX 0 j zr su Gh (RL.Hm p1.cH p2.cH zt zr zr zr Jj (RL.nt ?_))))))))
 refine fU hb (fun hc hb=>?_) fun hc hb=>?_
 ·refine RC.sr (aR (vb false) (RL.nt (RC.rt ?_)))
  obtain rfl:=oi hb
  exact cS ⟨rfl,j.drop 6⟩
 refine RC.ss (RC.sr (RL.bT zr x9 (RL.aX 0 j zr su Gh (RL.nt ?_))))
 obtain⟨ad,o,hb⟩:=bd hb
 refine RC.jn (fun(ad:bX×bX)=>SH E V [(3,vp ai 0),(4,vp aj 0),(5,vp ak 0)] [bx 27 ai p0,bx 47 aj ad.1,bx 47 ak ad.2]) ad ?_ ?_
 ·refine fU o (fun hc o=>?_) fun hc o=>?_
  rotate_left
  ·refine RC.skip ?_
   obtain rfl:=oi o
   exact⟨rfl,j.sp 6 [2,1,0]⟩
  refine RC.region (RL.aS (f:=(fun x=>x)) 0 j zr Fd.self dM fun ar j=>(RL.aS (f:=(fun x=>x)) 2 j zr Fd.self dM fun au j=>(RL.p7 3 j 1 zr dM fun w j=>?_)))
  refine RL.p7 2 j 0 zr dM fun w j=>?_
  refine RL.nil ?_
  obtain rfl:=oi o
  exact⟨rfl,j.sp 8 [4,3,2]⟩
 rintro _ w ⟨O,rfl,j⟩
 refine aG (RC.sr (RL.aS (f:=(fun x=>x)) 0 j zr Fd.self sA fun an j=>(RL.bT zr wz (RL.aX 2 j zr qm dH ?_))))
 obtain⟨ae,ao,hb⟩:=bd hb
 refine RL.call zt zr LJ [an,(vi ad.1.Number)] zr (aF (vA N (p1:=ad.1.Number) (i0:=0) j zr ao) ?_)
 rintro _ w ⟨af,rfl,j⟩
 refine mv (.tuple #[af,(vi ae.2)]) (RL.extract af (RL.extract (vi ae.2) (aR af (aR (vi ae.2) (RL.nq ?_)))))
 obtain⟨ah,o,hb⟩:=bd hb
 refine RC.jn (fun(ah:Bool)=>SH E V [(6,vb ah)] []) ah ?_ ?_
 ·refine RC.region (mv (vi ae.2) (ic ae.2 0 (mv (vb (ae.2==0)) (gG o (fun ab o=>?_) fun ab o=>?_))))
  rotate_left
  ·refine cB ab (cB ab (cB ab (cB ab (gH ab (vb false) (aR (vb false) (RL.nil ?_))))))
   obtain rfl:=oi o
   exact⟨rfl,j.sp 5 []⟩
  refine RL.move af (cg ab) (RL.bT (hg:=(cg ab)) zr wz (RL.aX (hg:=(cg ab)) 4 j zr qm dH ?_))
  obtain⟨al,aq,o⟩:=bd o
  refine RL.call (cg ab) zr LL [af,(vi ad.2.Number)] zr (aF (rm N (p1:=ad.2.Number) (i0:=0) j zr aq) ?_)
  rintro _ w ⟨rfl,j⟩
  refine gH ab (vb al) (aR (vb al) (RL.nil ?_))
  obtain rfl:=oi o
  exact⟨rfl,j.sp 5 []⟩
 rintro _ w ⟨O,rfl,j⟩
 refine aG (RC.ret ?_)
 obtain rfl:=oi hb
 exact cS ⟨rfl,j.drop 0⟩
def ln (E:World) (V:List HP) (r:Bool) (U:Nat->Value) (w:World):Prop:=nB bN 171 Tryz.f5 (bH E V r) .ret U w
theorem oe {p0:iM} {p1 p2:fL} {res:Bool} (j:Holds E w V) (h0:V[i0]? =some (rd v0 p0)) (h1:V[i1]? =some (rd v1 p1)) (h2:V[i2]? =some (rd v2 p2)) (hb:gO N p0 p1 p2=some res):
    Calls bN 5 [v0,v1,v2].toArray w (iv (bH E V res)):=by
 unfold gO at hb
 refine enter Tryz.func5 zr zr ?_
 have j:=((j.dup (i0+0) h0).dup (i1+1) h1).dup (i2+2) h2
 refine RC.sr (RL.cX 2 v0 j zr fun ax w j=>?_)
 refine RL.cX 2 v1 j zr fun ay w j=>?_
 refine RL.cX 2 v2 j zr fun az w j=>?_
 refine aR (vb false) (RL.ns (RL.aS (f:=(fun x=>x)) 2 j zr Fd.self sA fun bq j=>(RL.aS (f:=(fun x=>x)) 2 j zr Fd.self qo fun br j=>(RL.aS (f:=(fun x=>x)) 2 j zr Fd.self qo fun bt j=>?_))))
 obtain⟨ad,bu,hb⟩:=bd hb
 refine RL.call zt zr LG [bq,br,bt] zr (aF (zg N (i0:=2) (i1:=1) (i2:=0) j zr zr zr bu) ?_)
 rintro _ w ⟨a0,rfl,j⟩
 refine mv (.tuple #[a0,(vb ad.2.1),(vi ad.2.2)]) (RL.extract a0 (RL.extract (vb ad.2.1) (RL.extract (vi ad.2.2) (aR a0 (aR (vb ad.2.1) (aR (vi ad.2.2) (RL.nq (RC.sr ?_))))))))
 refine mv (vi ad.2.2) (ic ad.2.2 0 (RL.nt (fU hb (fun hc hb=>?_) fun hc hb=>?_)))
 ·refine RC.seq ?_
  obtain⟨a6,o,hb⟩:=bd hb
  refine RC.jn (fun(a6:Bool)=>SH E V [(6,vb a6)] []) a6 ?_ ?_
  ·refine RC.region (mv a0 (RL.eH 0 ad.1 j vk (ic ((ad.1.length:Int)) 0 (mv (vb ((ad.1.length:Int)==0)) (RL.gs true ((ad.1.length:Int)==0) (vb ad.2.1) rfl rfl rfl dW (RL.gs true ((ad.1.length:Int)==0) (vb (!ad.2.1)) rfl rfl rfl (Ag ad.2.1 rfl (fun h=>by exact(dN h:cv (true&&(((ad.1.length:Int)==0)==true)) (vb ad.2.1)= (vb ad.2.1)))) (RL.pick ((ad.1.length:Int)==0) (vb (((ad.1.length:Int)==0)&&(!ad.2.1))) (k7 true) (mv (vb (((ad.1.length:Int)==0)&&(!ad.2.1))) ?_))))))))
   refine gG o (fun a1 o=>?_) fun a1 o=>?_
   rotate_left
   ·refine cB a1 (gH a1 (vb false) (aR (vb false) (RL.nil ?_)))
    obtain rfl:=oi o
    exact⟨rfl,j.sp 10 []⟩
   obtain⟨bm,bw,o⟩:=bd o
   refine RL.call (cg a1) zr I5 [] zr (aF (kK N j bw) ?_)
   rintro _ w ⟨rfl,j⟩
   refine gH a1 (vb bm) (aR (vb bm) (RL.nil ?_))
   obtain rfl:=oi o
   exact⟨rfl,j.sp 10 []⟩
  rintro _ w ⟨O,rfl,j⟩
  refine aG (RC.rt ?_)
  obtain rfl:=oi hb
  exact cS ⟨rfl,j.drop 0⟩
 refine RC.sx (RL.aS (f:=(fun x=>x)) 6 j zr Fd.self sA fun bz j=>(RL.aS (f:=(fun x=>x)) 6 j zr Fd.self qo fun b0 j=>?_))
 obtain⟨ab,b1,hb⟩:=bd hb
 refine RL.call zt zr KD [bz,b0] zr (aF (pL N (i0:=1) (i1:=0) j zr zr b1) ?_)
 rintro _ w ⟨rfl,j⟩
 refine mv (.tuple #[(vi ab.1),(vb ab.2.1),(vi ab.2.2)]) (RL.extract (vi ab.1) (RL.extract (vb ab.2.1) (RL.extract (vi ab.2.2) (aR (vi ab.1) (aR (vb ab.2.1) (aR (vi ab.2.2) (RL.ns (RL.aS (f:=(fun x=>x)) 8 j zr Fd.self sA fun b2 j=>?_))))))))
 refine RL.aS (f:=(fun x=>x)) 7 j zr Fd.self qo fun b3 j=>?_
 obtain⟨ae,b4,hb⟩:=bd hb
 refine RL.call zt zr KD [b2,b3] zr (aF (pL N (i0:=1) (i1:=0) j zr zr b4) ?_)
 rintro _ w ⟨rfl,j⟩
 refine mv (.tuple #[(vi ae.1),(vb ae.2.1),(vi ae.2.2)]) (RL.extract (vi ae.1) (RL.extract (vb ae.2.1) (RL.extract (vi ae.2.2) (aR (vi ae.1) (aR (vb ae.2.1) (aR (vi ae.2.2) (RL.nq (RC.seq ?_))))))))
 obtain⟨a7,o,hb⟩:=bd hb
 refine RC.jn (fun(a7:Bool)=>SH E V [(3,vp ax 0),(4,vp ay 0),(5,vp az 0),(7,a0),(8,vb ad.2.1),(77,vb a7)] [bx 27 ax p0,bx 39 ay p1,bx 39 az p2,own 47 a0 ad.1]) a7 ?_ ?_
 ·refine RC.region (mv (vi ab.2.2) (ic ab.2.2 0 (mv (vb (ab.2.2 != 0)) (RL.gs true (ab.2.2 != 0) (vi ae.2.2) rfl rfl rfl dW (RL.gs true (ab.2.2 != 0) (vb (ae.2.2 != 0)) rfl rfl rfl (fN .neq .i64 ae.2.2 0 rfl (fun h=>by exact(dN h:cv (true&&((ab.2.2 != 0)==false)) (vi ae.2.2)= (vi ae.2.2))) (fun _=>rfl) rfl) (RL.pick (ab.2.2 != 0) (vb ((ab.2.2 != 0)||(ae.2.2 != 0))) (oO true) (mv (vb ((ab.2.2 != 0)||(ae.2.2 != 0))) (gG o (fun aj o=>?_) fun aj o=>?_))))))))
  ·refine cB aj (cB aj (cB aj (pF (cB aj (cB aj (pF (pF (pF ?_))))))))
   refine cB aj (cB aj (gH aj (vb true) (mv (vb true) (jA (jA (jA (jA (jA ?_))))))))
   refine RL.pick true (vb true) zr (RL.nil ?_)
   obtain rfl:=oi o
   exact⟨rfl,j.sp 14 [10,9,8,4]⟩
  refine RL.move (vb ad.2.1) (cg aj) (RL.move (vb ab.2.1) (cg aj) (RL.move (vb ab.2.1) (cg aj) (RL.gs true ab.2.1 (vb ae.2.1) rfl rfl rfl dW (RL.pick (hg:=(cg aj)) ab.2.1 (vb (ab.2.1&&ae.2.1)) (k7 true) (RL.move (vb (ab.2.1&&ae.2.1)) (cg aj) (RL.gs true (ab.2.1&&ae.2.1) (vi ab.1) rfl rfl rfl dW (RL.gs true (ab.2.1&&ae.2.1) (vi ae.1) rfl rfl rfl dW (RL.gs true (ab.2.1&&ae.2.1) (vb (ab.1==ae.1)) rfl rfl rfl (fN .eql .i64 ab.1 ae.1 rfl (fun h=>by exact(dN h:cv (true&&((ab.2.1&&ae.2.1)==true)) (vi ab.1)= (vi ab.1))) (fun h=>by exact(dN h:cv (true&&((ab.2.1&&ae.2.1)==true)) (vi ae.1)= (vi ae.1))) rfl) ?_))))))))
  refine RL.pick (hg:=(cg aj)) (ab.2.1&&ae.2.1) (vb ((ab.2.1&&ae.2.1)&&(ab.1==ae.1))) (k7 true) (RL.Ak ad.2.1 ((ab.2.1&&ae.2.1)&&(ab.1==ae.1)) (cg aj) zr zr zr Jj (gH aj (vb (ad.2.1 != ((ab.2.1&&ae.2.1)&&(ab.1==ae.1)))) (mv (vb (ad.2.1 != ((ab.2.1&&ae.2.1)&&(ab.1==ae.1)))) (gG o (fun an o=>?_) fun an o=>?_))))
  ·refine cB an (cB an (cB an (cB an (cB an (gH an (vb true) (RL.nil ?_))))))
   obtain rfl:=oi o
   exact⟨rfl,j.sp 14 [10,9,8,4]⟩
  refine RL.move (vb ad.2.1) (cg an) (RL.move a0 (cg an) (RL.eH (hg:=(cg an)) 4 ad.1 j vk (RL.lr (ad.1.length:Int) 0 (cg an) (RL.Ak ad.2.1 (decide ((ad.1.length:Int)>0)) (cg an) zr zr zr Jj (gH an (vb (ad.2.1 != (decide ((ad.1.length:Int)>0)))) (RL.nil ?_))))))
  obtain rfl:=oi o
  exact⟨rfl,j.sp 14 [10,9,8,4]⟩
 rintro _ w ⟨O,rfl,j⟩
 refine aG (fU hb (fun hc hb=>?_) fun hc hb=>?_)
 ·refine RC.sr (aR (vb false) (RL.nt (RC.rt ?_)))
  obtain rfl:=oi hb
  exact cS ⟨rfl,j.drop 4⟩
 refine RC.ss (RC.sr (aR (vi 0) (RL.nt ?_)))
 obtain⟨c2,hN,hb⟩:=bd hb
 refine RC.iter (fun(ag: (List bX)×Int) U w=>∃bn:Value,SH E V [(3,vp ax 0),(4,vp ay 0),(5,vp az 0),(7,bn),(8,vb ad.2.1),(15,vi ag.2)] [bx 27 ax p0,bx 39 ay p1,bx 39 az p2,rd bn ag.1] U w) (fun(ag: (List bX)×Int) U w=>∃ar:Value,SH E V [(3,vp ax 0),(4,vp ay 0),(5,vp az 0),(7,ar),(8,vb ad.2.1)] [bx 27 ax p0,bx 39 ay p1,bx 39 az p2,rd ar ag.1] U w) (ln E V) hN ?_ ?_ ?_ ?_
 ·have j:=j.freeze 3
  exact⟨a0,j.sp 4 [0,1,2,3]⟩
 ·rintro ag fl _ w ⟨av,O,rfl,j⟩ hb
  refine RC.seq (RC.sr (mv (vi ag.2) (mv av (RL.cC 3 ag.1 j vk (ic ag.2 ((ag.1.length:Int)) (RL.nt (fU hb (fun hc hb=>?_) fun hc hb=>?_)))))))
  rotate_left
  ·refine RC.ex ?_
   obtain rfl:=oi hb
   exact⟨rfl,av,j.sp 4 [0,1,2,3]⟩
  refine RC.ss (RC.block (RC.seq ?_))
  obtain⟨a9,o,hb⟩:=bd hb
  refine RC.jn (fun(a9:Bool)=>SH E V [(3,vp ax 0),(4,vp ay 0),(5,vp az 0),(7,av),(8,vb ad.2.1),(15,vi ag.2),(109,vb a9)] [bx 27 ax p0,bx 39 ay p1,bx 39 az p2,rd av ag.1]) a9 ?_ ?_
  ·refine RC.Bj mixed [0,0,0,0,0,0,0,2,0,0,0,0,0,0,0,0,0,0,0,0,0,0,2,0,0,0] [0,1,2,3,4,5,6,7,8,9,10,11,12,13,14,15,16,17,18,19,20,21,22,23,24,25] ?_
   have j:=j.drew
   refine DP.e0 zr (mv av (bR zr (mv (vi ag.2) (bR zr ?_))))
   obtain⟨c3,b6,o⟩:=bd o
   refine RL.cut (hl:= .inr ⟨rfl,zr⟩) 3 j l6 (.inl zr) b6 fun b7 j=>(bR zr (mv av (bR zr (mv (vi ag.2) (bR zr ?_)))))
   obtain⟨b8,b9,o⟩:=bd o
   refine RL.cM 4 j l6 b9 fun c4 j=>(bR zr (RL.cD 0 b8 j dM fun ca j=>(u6 zr ?_)))
   obtain⟨cb,cc,o⟩:=bd o
   refine RL.call zt zr KE [b7,ca] zr (aF (nc N (i0:=2) (i1:=0) j zr zr cc) ?_)
   rintro _ w ⟨rfl,j⟩
   refine zb zr (mv (vb cb) (DP.d0 (gG o (fun ao o=>?_) fun ao o=>?_)))
   ·refine DP.e0 zr (cB ao (bR zr (cB ao (bR zr (cB ao (bR zr (pF (bR zr ?_))))))))
    refine pF (bR zr (pF (bR zr (pF (bR zr (pF (bR zr (pF ?_))))))))
    refine bR zr (pF (bR zr (pF (bR zr (pF (bR zr (pF (u6 zr ?_))))))))
    refine pF (zb zr (pF (bR zr (cB ao (bR zr (gH ao (vb true) (DP.d0 (DP.z ?_))))))))
    obtain rfl:=oi o
    exact⟨rfl,j.sp 7 [3,4,5,6]⟩
   refine DP.e0 zr (RL.move (vi ag.2) (cg ao) (bR zr (RL.lr ag.2 0 (cg ao) (bR zr (RL.move (vb (decide (ag.2>0))) (cg ao) (DP.d0 (gG o (fun ah o=>?_) fun ah o=>?_)))))))
   rotate_left
   ·refine DP.e0 zr (cB ah (bR zr (cB ah (bR zr (cB ah (bR zr (cB ah (bR zr ?_))))))))
    refine cB ah (bR zr (cB ah (bR zr (cB ah (bR zr (cB ah (bR zr (cB ah ?_))))))))
    refine bR zr (cB ah (u6 zr (cB ah (zb zr (cB ah (bR zr (gH ah (vb false) (hg:=(cg ao)) (bR zr ?_))))))))
    refine gH ao (vb false) (DP.d0 (DP.z ?_))
    obtain rfl:=oi o
    exact⟨rfl,j.sp 7 [3,4,5,6]⟩
   refine DP.e0 zr (RL.aS (hg:=(cg ah)) (f:=(fun x=>x)) 3 j zr Fd.self sA fun cd j=>(bR zr (RL.move av (cg ah) (bR zr (RL.move (vi ag.2) (cg ah) (bR zr (RL.kr (hg:=(cg ah)) ag.2 1 (bR zr ?_))))))))
   obtain⟨cf,ch,o⟩:=bd o
   refine RL.cM (hg:=(cg ah)) 7 j l6 ch fun c5 j=>(bR zr (RL.cD (hg:=(cg ah)) 0 cf j dM fun cj j=>(bR zr (RL.move av (cg ah) (bR zr (RL.move (vi ag.2) (cg ah) (bR zr ?_)))))))
   obtain⟨ck,cl,o⟩:=bd o
   refine RL.cM (hg:=(cg ah)) 9 j l6 cl fun c6 j=>(bR zr (RL.cD (hg:=(cg ah)) 0 ck j dM fun cm j=>(u6 zr ?_)))
   obtain⟨ba,cn,o⟩:=bd o
   refine RL.call (cg ah) zr LM [cd,cj,cm] zr (aF (p4 N (i0:=4) (i1:=2) (i2:=0) j zr zr zr cn) ?_)
   rintro _ w ⟨rfl,j⟩
   refine zb zr (RL.not (hg:=(cg ah)) ba (bR zr (gH ah (vb (!ba)) (hg:=(cg ao)) (bR zr (gH ao (vb (!ba)) (DP.d0 (DP.z ?_)))))))
   obtain rfl:=oi o
   exact⟨rfl,j.sp 12 [8,9,10,11]⟩
  rintro _ w ⟨O,rfl,j⟩
  refine aG (fU hb (fun hc hb=>?_) fun hc hb=>?_)
  ·refine RC.sr (aR (vb false) (RL.nt (RC.rb (cO ?_))))
   obtain rfl:=oi hb
   exact⟨rfl,cS ⟨rfl,j.drop 4⟩⟩
  refine RC.skip (cG (aG (RC.region (mv (vi ag.2) (RL.kr ag.2 1 (aR (vi (IntKind.wrap .i64 (ag.2+1))) (RL.nil ?_)))))))
  obtain rfl:=oi hb
  exact⟨rfl,av,j.sp 4 [0,1,2,3]⟩
 ·intro r U w e hK
  subst e
  refine cO ?_
  obtain rfl:=oi hb
  exact hK
 rintro ag _ w rfl ⟨ar,O,rfl,j⟩
 rw [Fo.gw] at hb
 refine aG (RC.sr (RL.aS (f:=(fun x=>x)) 0 j zr Fd.self sA fun cp j=>(RL.aS (f:=(fun x=>x)) 2 j zr Fd.self qo fun cq j=>(RL.aS (f:=(fun x=>x)) 4 j zr Fd.self qo fun cr j=>?_))))
 obtain⟨ai,ct,hb⟩:=bd hb
 refine RL.call zt zr LH [cp,cq,cr] zr (aF (vz N (i0:=2) (i1:=1) (i2:=0) j zr zr zr ct) ?_)
 rintro _ w ⟨aq,rfl,j⟩
 refine mv (.tuple #[aq,(vi ai.2)]) (RL.extract aq (RL.extract (vi ai.2) (aR aq (aR (vi ai.2) (RL.nq (RC.sr (mv (vb ad.2.1) (RL.not ad.2.1 ?_))))))))
 refine RL.nt (fU hb (fun hc hb=>?_) fun hc hb=>?_)
 ·refine RC.seq ?_
  obtain⟨bc,o,hb⟩:=bd hb
  refine RC.jn (fun(bc:Bool)=>SH E V [(6,vb bc)] []) bc ?_ ?_
  ·refine RC.region (mv (vi ai.2) (ic ai.2 9 (mv (vb (ai.2==9)) (gG o (fun a2 o=>?_) fun a2 o=>?_))))
   rotate_left
   ·refine cB a2 (gH a2 (vb false) (aR (vb false) (RL.nil ?_)))
    obtain rfl:=oi o
    exact⟨rfl,j.sp 8 []⟩
   obtain⟨bo,cu,o⟩:=bd o
   refine RL.call (cg a2) zr I5 [] zr (aF (kK N j cu) ?_)
   rintro _ w ⟨rfl,j⟩
   refine gH a2 (vb bo) (aR (vb bo) (RL.nil ?_))
   obtain rfl:=oi o
   exact⟨rfl,j.sp 8 []⟩
  rintro _ w ⟨O,rfl,j⟩
  refine aG (RC.rt ?_)
  obtain rfl:=oi hb
  exact cS ⟨rfl,j.drop 0⟩
 refine RC.ss (RC.sr (aR (vi 0) (RL.nt ?_)))
 obtain⟨c7,hN,hb⟩:=bd hb
 refine RC.iter (fun(au:Int)=>SH E V [(7,ar),(9,vi ai.2),(16,aq),(17,vi au)] [rd ar ag.1,own 47 aq ai.1]) (fun(au:Int)=>SH E V [(7,ar),(9,vi ai.2),(16,aq)] [rd ar ag.1,own 47 aq ai.1]) (ln E V) hN ?_ ?_ ?_ ?_
 ·exact j.sp 8 [7,0]
 ·rintro au fl _ w ⟨O,rfl,j⟩ hb
  refine RC.seq (RC.sr (mv (vi au) (mv aq (RL.eH 1 ai.1 j vk (ic au ((ai.1.length:Int)) (RL.nt (fU hb (fun hc hb=>?_) fun hc hb=>?_)))))))
  rotate_left
  ·refine RC.ex ?_
   obtain rfl:=oi hb
   exact⟨rfl,j.sp 2 [0,1]⟩
  refine RC.ss (RC.bs (mv ar (mv aq (mv (vi au) ?_))))
  obtain⟨c8,bf,hb⟩:=bd hb
  refine RL.bO 1 j zr zr l6 bf (RL.gA (f:=(fun x=>x)) 1 j (ku 1 j bf 0) (bC bf).2.1 Fd.self dM fun cw j=>?_)
  obtain⟨cx,cy,hb⟩:=bd hb
  refine RL.call zt zr KE [ar,cw] zr (aF (nc N (i0:=1) (i1:=0) j zr zr cy) ?_)
  rintro _ w ⟨rfl,j⟩
  refine RL.not cx (RL.nt (fU hb (fun hc hb=>?_) fun hc hb=>?_))
  ·refine RC.sr (aR (vb false) (RL.nt (RC.rb (cO ?_))))
   obtain rfl:=oi hb
   exact⟨rfl,cS ⟨rfl,j.drop 3⟩⟩
  refine RC.skip (cG (aG (RC.region (mv (vi au) (RL.kr au 1 (aR (vi (IntKind.wrap .i64 (au+1))) (RL.nil ?_)))))))
  obtain rfl:=oi hb
  exact⟨rfl,j.sp 3 [1,2]⟩
 ·intro r U w e hK
  subst e
  refine cO ?_
  obtain rfl:=oi hb
  exact hK
 rintro au _ w rfl ⟨O,rfl,j⟩
 rw [Fo.gw] at hb
 refine aG (RC.seq ?_)
 obtain⟨bg,o,hb⟩:=bd hb
 refine RC.jn (fun(bg:Bool)=>SH E V [(6,vb bg)] []) bg ?_ ?_
 ·refine RC.Bj mixed [0,0,0,0,0,0,0,0,0,0,0,0,0,0,0,0,0,0,0,0,0,0,0,0,0,0,0,0,0,0,0,0,2,0,0] [0,1,2,3,4,5,6,7,8,9,10,11,12,13,14,15,16,17,18,19,20,21,22,23,24,25,26,27,28,29,30,31,32,33,34] ?_
  have j:=j.drew
  refine DP.e0 zr (mv (vi ai.2) (bR zr (ic ai.2 0 (bR zr (mv (vb (ai.2==0)) (DP.d0 (gG o (fun aw o=>?_) fun aw o=>?_)))))))
  rotate_left
  ·refine DP.e0 zr (cB aw (bR zr (cB aw (bR zr (cB aw (bR zr (gH aw (vb false) (bR zr ?_))))))))
   refine mv (vb false) (bR zr (jA (bR zr (jA (bR zr (jA (bR zr (jA ?_))))))))
   refine bR zr (jA (bR zr (jA (bR zr (jA (bR zr (RL.pick false (vb false) zr (bR zr ?_))))))))
   refine mv (vb false) (bR zr (jA (bR zr (jA (bR zr (jA (bR zr (jA ?_))))))))
   refine bR zr (jA (bR zr (jA (bR zr (jA (bR zr (jA (bR zr ?_))))))))
   refine jA (bR zr (jA (bR zr (jA (bR zr (jA (bR zr (jA ?_))))))))
   refine bR zr (RL.pick false (vb false) zr (bR zr (mv (vb false) (u6 zr (jA (zb zr (RL.pick false (vb false) zr (bR zr ?_))))))))
   refine aR (vb false) (DP.d0 (DP.z ?_))
   obtain rfl:=oi o
   exact⟨rfl,j.sp 2 []⟩
  refine DP.e0 zr (RL.move aq (cg aw) (bR zr (RL.eH (hg:=(cg aw)) 1 ai.1 j vk (bR zr (RL.lr (ai.1.length:Int) 0 (cg aw) (bR zr (gH aw (vb (decide ((ai.1.length:Int)>0))) (bR zr ?_))))))))
  refine mv (vb (decide ((ai.1.length:Int)>0))) (DP.d0 (gG o (fun ak o=>?_) fun ak o=>?_))
  rotate_left
  ·refine DP.e0 zr (cB ak (bR zr (cB ak (bR zr (cB ak (bR zr (cB ak (bR zr ?_))))))))
   refine cB ak (bR zr (cB ak (bR zr (cB ak (bR zr (gH ak (vb false) (bR zr (mv (vb false) ?_))))))))
   refine bR zr (jA (bR zr (jA (bR zr (jA (bR zr (jA (bR zr ?_))))))))
   refine jA (bR zr (jA (bR zr (jA (bR zr (jA (bR zr (jA ?_))))))))
   refine bR zr (jA (bR zr (jA (bR zr (jA (bR zr (jA (bR zr ?_))))))))
   refine RL.pick false (vb false) zr (bR zr (mv (vb false) (u6 zr (jA (zb zr (RL.pick false (vb false) zr (bR zr (aR (vb false) ?_))))))))
   refine DP.d0 (DP.z ?_)
   obtain rfl:=oi o
   exact⟨rfl,j.sp 2 []⟩
  refine DP.e0 zr (RL.move aq (cg ak) (bR zr ?_))
  obtain⟨bh,bj,o⟩:=bd o
  refine RL.bO (hg:=(cg ak)) 1 j zr zr l6 bj (bR zr (RL.gA (hg:=(cg ak)) (f:=(fun x=>x)) 1 j (ku 1 j bj 0) (bC bj).2.1 Fd.self dM fun c9 j=>?_))
  refine bR zr (RL.move ar (cg ak) (bR zr ?_))
  obtain⟨a4,cz,o⟩:=bd o
  refine RL.cM (hg:=(cg ak)) 1 j l6 cz fun da j=>(bR zr (RL.cD (hg:=(cg ak)) 0 a4 j dM fun db j=>(bR zr (RL.seq 2 0 bh a4 (cg ak) j wY (bR zr (gH ak (vb (decide (bh=a4))) (bR zr (mv (vb (decide (bh=a4))) ?_))))))))
  refine DP.d0 (gG o (fun af o=>?_) fun af o=>?_)
  rotate_left
  ·refine DP.e0 zr (cB af (bR zr (cB af (bR zr (cB af (bR zr (cB af (bR zr ?_))))))))
   refine cB af (bR zr (cB af (bR zr (cB af (bR zr (cB af (bR zr (cB af ?_))))))))
   refine bR zr (cB af (bR zr (cB af (bR zr (cB af (bR zr (cB af (bR zr ?_))))))))
   refine gH af (vb false) (bR zr (mv (vb false) (u6 zr (jA (zb zr (RL.pick false (vb false) zr (bR zr (aR (vb false) ?_))))))))
   refine DP.d0 (DP.z ?_)
   obtain rfl:=oi o
   exact⟨rfl,j.sp 5 []⟩
  refine DP.e0 zr (RL.move aq (cg af) (bR zr (RL.move aq (cg af) (bR zr (RL.eH (hg:=(cg af)) 4 ai.1 j vk (bR zr (RL.kr (hg:=(cg af)) (ai.1.length:Int) 1 (bR zr ?_))))))))
  obtain⟨bk,bl,o⟩:=bd o
  refine RL.bO (hg:=(cg af)) 4 j zr zr l6 bl (bR zr (RL.gA (hg:=(cg af)) (f:=(fun x=>x)) 4 j (ku 4 j bl 0) (bC bl).2.1 Fd.self dM fun dc j=>?_))
  refine bR zr (RL.move ar (cg af) (bR zr (RL.move ar (cg af) (bR zr (RL.cC (hg:=(cg af)) 4 ag.1 j vk (bR zr (RL.kr (hg:=(cg af)) (ag.1.length:Int) 1 (bR zr ?_))))))))
  obtain⟨a5,c0,o⟩:=bd o
  refine RL.cM (hg:=(cg af)) 4 j l6 c0 fun dd j=>(bR zr (RL.cD (hg:=(cg af)) 0 a5 j dM fun de j=>(bR zr (RL.seq 2 0 bk a5 (cg af) j wY (bR zr (gH af (vb (decide (bk=a5))) (bR zr (mv (vb (decide (bk=a5))) ?_))))))))
  refine DP.d0 (gG o (fun a3 o=>?_) fun a3 o=>?_)
  rotate_left
  ·refine DP.e2 zr (cB a3 (zb zr (gH a3 (vb false) (bR zr (aR (vb false) (DP.d0 (DP.z ?_)))))))
   obtain rfl:=oi o
   exact⟨rfl,j.sp 8 []⟩
  refine DP.e2 zr ?_
  obtain⟨bp,c1,o⟩:=bd o
  refine RL.call (cg a3) zr I5 [] zr (aF (kK N j c1) ?_)
  rintro _ w ⟨rfl,j⟩
  refine zb zr (gH a3 (vb bp) (bR zr (aR (vb bp) (DP.d0 (DP.z ?_)))))
  obtain rfl:=oi o
  exact⟨rfl,j.sp 8 []⟩
 rintro _ w ⟨O,rfl,j⟩
 refine aG (RC.ret ?_)
 obtain rfl:=oi hb
 exact cS ⟨rfl,j.drop 0⟩
end Go.Gk
