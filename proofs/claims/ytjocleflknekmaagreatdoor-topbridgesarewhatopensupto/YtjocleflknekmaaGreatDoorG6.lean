/-
  Printed texts: Go functions as plain functions, and that they are. No statement of the seed is proved here.
-/
import Derived.Test.YtjocleflknekmaaGreatDoorG1
import Derived.Test.YtjocleflknekmaaGreatDoorG3
import Derived.Test.YtjocleflknekmaaGreatDoorG4
import Derived.Test.YtjocleflknekmaaGreatDoorG5
import Derived.Test.YtjocleflknekmaaGreatDoorA2
set_option linter.unusedVariables false
set_option linter.unusedSimpArgs false
set_option linter.unusedSectionVars false
set_option maxRecDepth 100000
set_option maxHeartbeats 40000000
namespace Go.Gk
open Go Go.Proofs
variable (N:Nat) {E w:World} {b0 b1 b1h b2 b3 b3h i0 i1 i2 i3:Nat} {p0 p1 p2 res:Int} {v0 v0_0 v0_1 v0_10 v0_11 v0_2 v0_3 v0_4 v0_5 v0_6 v0_7 v0_8 v0_9 v1 v1h_0 v1h_1 v1h_10 v1h_11 v1h_2 v1h_3 v1h_4 v1h_5 v1h_6 v1h_7 v1h_8 v1h_9 v2 v2_0 v3 v3h_0:Value} {V:List HP}
def uY (E:World) (V:List HP) (res: (List bE)×Int) (v:Value) (w:World):Prop:=∃u0:Value,v = .tuple #[u0,(vi res.2)]/\Holds E w ([own 38 u0 res.1]++V)
theorem tR {p0:iW} {p1 p2:fX} {res: (List bE)×Int} (j:Holds E w V) (h0:V[i0]? =some (rd v0 p0)) (h1:V[i1]? =some (rd v1 p1)) (h2:V[i2]? =some (rd v2 p2)) (hb:eD N p0 p1 p2=some res):
    Calls bH 6 [v0,v1,v2].toArray w (gI (uY E V res)):=by
 unfold eD at hb
 refine enter Tryz.func6 zr zr ?_
 have j:=((j.dup (i0+0) h0).dup (i1+1) h1).dup (i2+2) h2
 refine RC.sr (RL.cR 2 v0 j zr fun cp w j=>?_)
 refine RL.cR 2 v1 j zr fun cq w j=>?_
 refine RL.cR 2 v2 j zr fun cr w j=>?_
 refine aM (.slice none 0 0) (aM (vi 0) (RL.ns (RL.aR (f:=(fun x=>x)) 2 j zr Fd.self tD fun b4 j=>?_)))
 obtain⟨ai,b5,hb⟩:=bd hb
 refine RL.call zt zr JU [b4] zr (aF (nX N (i0:=0) j zr b5) ?_)
 rintro _ w hK51
 rcases bm:ai.1 with _ | o
 ·replace hb:=GH bm hb
  obtain⟨rfl,j⟩:=DS bm hK51
  refine mv (.tuple #[(.pointer none),(vi ai.2)]) (RL.extract (.pointer none) (RL.extract (vi ai.2) (aM (.pointer none) (aM (vi ai.2) (RL.nq (RC.sr (mv (vi ai.2) (ic ai.2 0 ?_))))))))
  refine RL.nt (fy hb (fun hc hb=>?_) fun hc hb=>?_)
  rotate_left
  ·cases hb
  refine RC.sr (mv (vi ai.2) (aM (.slice none 0 0) (aM (vi ai.2) (RL.nt (RC.rt ?_)))))
  obtain rfl:=oi hb
  have j:=j.cV bE 38
  exact lM ⟨(.slice none 0 0),zr,j.pk 8 [0]⟩
 replace hb:=GI bm hb
 obtain⟨ae,ao,aq,ar,au,av,aw,ax,ay,a0,a1,a2,a3,rfl,j⟩:=DT bm hK51
 refine mv (.tuple #[(vp ae 0),(vi ai.2)]) (RL.extract (vp ae 0) (RL.extract (vi ai.2) (aM (vp ae 0) (aM (vi ai.2) (RL.nq (RC.sr (mv (vi ai.2) (ic ai.2 0 ?_))))))))
 refine RL.nt (fy hb (fun hc hb=>?_) fun hc hb=>?_)
 ·refine RC.sr (mv (vi ai.2) (aM (.slice none 0 0) (aM (vi ai.2) (RL.nt (RC.rt ?_)))))
  obtain rfl:=oi hb
  have j:=j.cV bE 38
  exact lM ⟨(.slice none 0 0),zr,j.pk 21 [0]⟩
 refine RC.sx (mv (vp ae 0) (RL.aR (f:=(fun x=>x)) 15 j zr Fd.self oj fun b6 j=>(RL.aR (f:=(fun x=>x)) 15 j zr Fd.self oj fun b7 j=>?_)))
 have j:=((((((((j.freeze 13).freeze 14).dup 14 rfl).dup 14 rfl).dup 8 rfl).dup 8 rfl).dup 8 rfl).dup 8 rfl).pull 8
 obtain⟨aa,b8,hb⟩:=bd hb
 refine RL.call zt zr Ig [(vp ae 0),b6,b7] zr (aF (mP N (i1:=1) (i2:=0) j zr zr b8) ?_)
 rintro _ w ⟨bw,bz,rfl,j⟩
 refine mv (.tuple #[bw,bz,(vb aa.2.2.1),(vi aa.2.2.2)]) (RL.extract bw (RL.extract bz (RL.extract (vb aa.2.2.1) (RL.extract (vi aa.2.2.2) (RL.alloc j nz.z fun a6 w j=>?_)))))
 refine RL.alloc j nz.z fun a7 w j=>?_
 refine RL.bC 1 j 2 zr dD fun w j=>?_
 refine RL.bC 0 j 3 zr dD fun w j=>?_
 refine aM (vb aa.2.2.1) (aM (vi aa.2.2.2) (RL.nq (RC.sr (mv (vi aa.2.2.2) (ic aa.2.2.2 0 (RL.nt (fy hb (fun hc hb=>?_) fun hc hb=>?_)))))))
 ·refine RC.sr (mv (vi aa.2.2.2) (aM (.slice none 0 0) (aM (vi aa.2.2.2) (RL.nt (RC.rt ?_)))))
  obtain rfl:=oi hb
  have j:=j.cV bE 38
  exact lM ⟨(.slice none 0 0),zr,j.pk 28 [0]⟩
 refine RC.sx (aM (.slice none 0 0) (aM (vb false) (RL.nq (RC.sr (mv (vb aa.2.2.1) (RL.nt ?_))))))
 obtain⟨af,hj,hb⟩:=bd hb
 refine RC.jn (fun(af: (List bE)×Bool) U w=>∃ak:Value,SH E V [(8,vp ae 0),(10,vp a6 0),(11,vp a7 0),(13,ak),(14,vb af.2)] [bc 79 ae [ao,aq,ar,au,av,aw,ax,ay,a0,a1,a2,a3],rd ao o.1,rd aq o.2.1,rd ar o.2.2.1,rd au o.2.2.2.1,own 100 av o.2.2.2.2.1,rd aw o.2.2.2.2.2.1,rd ax o.2.2.2.2.2.2.1,own 120 ay o.2.2.2.2.2.2.2.1,rd a0 o.2.2.2.2.2.2.2.2.1,rd a1 o.2.2.2.2.2.2.2.2.2.1,rd a2 o.2.2.2.2.2.2.2.2.2.2.1,rd a3 o.2.2.2.2.2.2.2.2.2.2.2,bx 38 a6 aa.1,bx 38 a7 aa.2.1,own 38 ak af.1] U w) af ?_ ?_
 ·refine fy hj (fun hc hj=>?_) fun hc hj=>?_
  rotate_left
  ·refine RC.skip ?_
   obtain rfl:=oi hj
   have j:=j.cV bE 38
   exact⟨rfl,(.slice none 0 0),j.sp 28 [5,9,10,11,12,13,14,15,16,17,18,19,20,2,1,0]⟩
  refine RC.region (mv (vp ae 0) (RL.aR (f:=(fun x=>x)) 1 j zr Fd.self dD fun b9 j=>(RL.aR (f:=(fun x=>x)) 1 j zr Fd.self dD fun ca j=>?_)))
  have j:=(j.dup 16 rfl).pull 7
  obtain⟨bp,cb,hj⟩:=bd hj
  refine RL.call zt zr Ik [(vp ae 0),b9,ca] zr (aF (na N (i1:=1) (i2:=0) j zr zr cb) ?_)
  rintro _ w ⟨bn,rfl,j⟩
  refine mv (.tuple #[bn,(vb bp.2)]) (RL.extract bn (RL.extract (vb bp.2) (aM bn (aM (vb bp.2) (RL.nil ?_)))))
  obtain rfl:=oi hj
  exact⟨rfl,bn,j.sp 31 [1,12,13,14,15,16,17,18,19,20,21,22,23,5,4,0]⟩
 rintro _ w ⟨ak,O,rfl,j⟩
 refine aG (RC.seq (RC.sr (mv (vb af.2) (RL.not af.2 (RL.nt (fy hb (fun hc hb=>?_) fun hc hb=>?_))))))
 ·refine RC.sr (aM (.slice none 0 0) (aM (vi 9) (RL.nt (RC.rt ?_))))
  obtain rfl:=oi hb
  have j:=j.cV bE 38
  exact lM ⟨(.slice none 0 0),zr,j.pk 17 [0]⟩
 refine RC.sx (aM (.slice none 0 0) (RL.nq (RC.sr (mv ak (RL.eK 15 af.1 j xx (mv (vi 0) (RL.nt ?_)))))))
 obtain⟨bb,hN,hb⟩:=bd hb
 refine RC.fold (fun(bf:Nat) (bb: (List bE)) U w=>∃b0:Value,SH E V [(8,vp ae 0),(10,vp a6 0),(11,vp a7 0),(15,b0),(50,ak),(51,vi af.1.length),(52,vi bf)] [bc 79 ae [ao,aq,ar,au,av,aw,ax,ay,a0,a1,a2,a3],rd ao o.1,rd aq o.2.1,rd ar o.2.2.1,rd au o.2.2.2.1,own 100 av o.2.2.2.2.1,rd aw o.2.2.2.2.2.1,rd ax o.2.2.2.2.2.2.1,own 120 ay o.2.2.2.2.2.2.2.1,rd a0 o.2.2.2.2.2.2.2.2.1,rd a1 o.2.2.2.2.2.2.2.2.2.1,rd a2 o.2.2.2.2.2.2.2.2.2.2.1,rd a3 o.2.2.2.2.2.2.2.2.2.2.2,bx 38 a6 aa.1,bx 38 a7 aa.2.1,own 38 ak af.1,own 38 b0 bb] U w) (fun(bb: (List bE)) U w=>∃bj:Value,SH E V [(15,bj)] [bc 79 ae [ao,aq,ar,au,av,aw,ax,ay,a0,a1,a2,a3],rd ao o.1,rd aq o.2.1,rd ar o.2.2.1,rd au o.2.2.2.1,own 100 av o.2.2.2.2.1,rd aw o.2.2.2.2.2.1,rd ax o.2.2.2.2.2.2.1,own 120 ay o.2.2.2.2.2.2.2.1,rd a0 o.2.2.2.2.2.2.2.2.1,rd a1 o.2.2.2.2.2.2.2.2.2.1,rd a2 o.2.2.2.2.2.2.2.2.2.2.1,rd a3 o.2.2.2.2.2.2.2.2.2.2.2,bx 38 a6 aa.1,bx 38 a7 aa.2.1,own 38 ak af.1,own 38 bj bb] U w) hN ?_ ?_ ?_ ?_
 ·have j:=j.cV bE 38
  exact⟨(.slice none 0 0),j.sp 17 [1,2,3,4,5,6,7,8,9,10,11,12,13,14,15,16,0]⟩
 ·rintro hm bb _ w ⟨cd,O,rfl,j⟩
  refine RC.sr (ic ((af.1.length:Int)) ((af.1.length:Int)) (RL.nq (RC.cX mT (RC.ex ?_))))
  exact⟨rfl,cd,j.sp 17 [0,1,2,3,4,5,6,7,8,9,10,11,12,13,14,15,16]⟩
 ·rintro hm bf bb s' _ w hk ⟨bk,O,rfl,j⟩ hb
  refine RC.sr (ic ((bf:Int)) ((af.1.length:Int)) (RL.nq (RC.cW (mS hk) (RC.ss (RC.bs ?_)))))
  obtain⟨ag,bq,hb⟩:=bd hb
  refine RL.bL 15 j zr zr mw bq (RL.gJ (f:=(fun x=>x)) 15 j (jr 15 j bq 0) (aZ bq).2.1 Fd.self dD fun cf j=>?_)
  refine RL.alloc j nz.z fun bg w j=>?_
  refine RL.bC 0 j 1 zr dD fun w j=>?_
  refine RL.nq ?_
  obtain⟨aj,ch,hb⟩:=bd hb
  refine RC.Ba E V mixed [1,0,0,0,0,1,1,1,1,1] [1,2,3] (fun(x:Value×Value×Value)=>(fun a4 a8 a9=>[(0,57,(vp ae 0)),(1,58,a4),(2,59,a8),(3,60,a9),(4,61,(.tuple #[(vi (cL aj aa.1 (0:Int))),(vb (dM aj aa.1))])),(5,56,(.tuple #[(vi (cL aj aa.1 (0:Int))),(vb (dM aj aa.1))])),(6,62,(vi (cL aj aa.1 (0:Int)))),(7,63,(vb (dM aj aa.1))),(8,18,(vi (cL aj aa.1 (0:Int)))),(9,19,(vb (dM aj aa.1)))]) x.1 x.2.1 x.2.2) [(8,vp ae 0),(10,vp a6 0),(11,vp a7 0),(15,bk),(17,vp bg 0),(50,ak),(51,vi af.1.length),(52,vi bf)] [] (fun(D:Nat->Bool) (x:Value×Value×Value)=>(fun a4 a8 a9=>[bif D 0 then (rd a4 aa.2.1) else aU,bif D 1 then (mp a8 aj) else aU,bif D 2 then (rd a9 aa.1) else aU,bif D 1 then (pt (vp bg 0) ag) else (bx 38 bg ag),rd cf ag,bc 79 ae [ao,aq,ar,au,av,aw,ax,ay,a0,a1,a2,a3],rd ao o.1,rd aq o.2.1,rd ar o.2.2.1,rd au o.2.2.2.1,own 100 av o.2.2.2.2.1,rd aw o.2.2.2.2.2.1,rd ax o.2.2.2.2.2.2.1,own 120 ay o.2.2.2.2.2.2.2.1,rd a0 o.2.2.2.2.2.2.2.2.1,rd a1 o.2.2.2.2.2.2.2.2.2.1,rd a2 o.2.2.2.2.2.2.2.2.2.2.1,rd a3 o.2.2.2.2.2.2.2.2.2.2.2,bx 38 a6 aa.1,bx 38 a7 aa.2.1,own 38 ak af.1,own 38 bk bb]) x.1 x.2.1 x.2.2) (fun x=>by kernel_rfl) ?_ ⟨fun _=>gA gn,?_,?_,?_,?_,fun _=>gA gn,fun _=>Hs gn rfl,fun _=>Hs gn rfl,fun _=>zU gn,fun _=>zU gn,trivial⟩ ?_
  ·have j:=(((j.drew).aU).aU).aU
   exact⟨(undef,undef,undef),dX.none,(zZ zr),zt,j⟩
  ·rintro D U w hD al br ⟨⟨a4,a8,a9⟩,hv,ha,_,j⟩
   obtain⟨O,rfl⟩:=(ac (ha.at 2 rfl) az).dT
   have j:=j.bM 0 hD
   refine RL.aR (f:=(fun x=>x)) 19 j zr Fd.self dD fun cj j=>?_
   have j:=(j.pl 23 [0,2,3,4,5,6,7,8,9,10,11,12,13,14,15,16,17,18,19,20,21,22]).bS 0 true rfl aU
   exact RL.nil ⟨rfl,(cj,a8,a9),hv.pu 1,ha.u,zt,j⟩
  ·rintro D U w hD al br ⟨⟨a4,a8,a9⟩,hv,ha,_,j⟩
   obtain⟨O,rfl⟩:=(ac (hv.at 0 rfl (al.1 rfl)) (ac (hv.at 1 rfl (al.2.1 rfl)) (ac (ha.at 4 rfl) az))).dT
   have j:=(((((j.bR 0 (al.2.1 rfl)).bM 1 hD).bM 3 hD).gm (i:=3) rfl).dup 12 rfl).pull 6
   refine RL.call zt zr Ij [(vp ae 0),a4,(vp bg 0)] zr (aF (r5 N (i1:=0) (i2:=3) j zr zr ch) ?_)
   rintro ck w j
   have j:=(((j.pl 24 [2,0,4,5,6,1,8,9,10,11,12,13,14,15,16,17,18,19,20,21,22,23]).bS 0 (D 1) (al.2.1 rfl) aU).bS 1 true rfl aU).bS 3 true rfl (bx 38 bg ag)
   exact RL.nil ⟨rfl,(a4,ck,a9),hv.pu 2,ha.u,zt,j⟩
  ·rintro D U w hD al br ⟨⟨a4,a8,a9⟩,hv,ha,_,j⟩
   obtain⟨O,rfl⟩:=(ac (ha.at 1 rfl) az).dT
   have j:=j.bM 2 hD
   refine RL.aR (f:=(fun x=>x)) 18 j zr Fd.self dD fun cl j=>?_
   have j:=(j.pl 23 [1,2,0,4,5,6,7,8,9,10,11,12,13,14,15,16,17,18,19,20,21,22]).bS 2 true rfl aU
   exact RL.nil ⟨rfl,(a4,a8,cl),hv.pu 3,ha.u,zt,j⟩
  ·rintro D U w hD al br ⟨⟨a4,a8,a9⟩,hv,ha,_,j⟩
   obtain⟨O,rfl⟩:=(ac (hv.at 2 rfl (al.1 rfl)) (ac (hv.at 3 rfl (al.2.1 rfl)) az)).dT
   have j:=(j.bR 1 (al.1 rfl)).bR 2 (al.2.1 rfl)
   refine RL.nL 1 aa.1 j (lO 2 j) vG ?_
   have j:=(j.bS 1 (D 2) (al.1 rfl) aU).bS 2 (D 3) (al.2.1 rfl) aU
   exact RL.nil ⟨rfl,(a4,a8,a9),hv.pu 4,ha.u,zt,j⟩
  rintro D U w bl ⟨⟨a4,a8,a9⟩,hv,ha,_,j⟩
  have j:=(((j.bR 0 (gR bl 1)).bR 1 (gR bl 2)).bR 2 (gR bl 3)).bR 3 (gR bl 2)
  obtain⟨O,rfl⟩:=(ac (hv.at 9 rfl (gR bl 9)) (ac (ha.at 0 rfl) (ac (ha.at 1 rfl) (ac (ha.at 2 rfl) (ac (ha.at 3 rfl) (ac (ha.at 4 rfl) (ac (ha.at 5 rfl) (ac (ha.at 6 rfl) (ac (ha.at 7 rfl) az))))))))).dT
  refine aG (RC.seq ?_)
  obtain⟨bt,hj,hb⟩:=bd hb
  refine RC.jn (fun(bt:Bool)=>SH E V [(8,vp ae 0),(10,vp a6 0),(11,vp a7 0),(15,bk),(17,vp bg 0),(50,ak),(51,vi af.1.length),(52,vi bf),(75,vb bt)] [bc 79 ae [ao,aq,ar,au,av,aw,ax,ay,a0,a1,a2,a3],rd ao o.1,rd aq o.2.1,rd ar o.2.2.1,rd au o.2.2.2.1,own 100 av o.2.2.2.2.1,rd aw o.2.2.2.2.2.1,rd ax o.2.2.2.2.2.2.1,own 120 ay o.2.2.2.2.2.2.2.1,rd a0 o.2.2.2.2.2.2.2.2.1,rd a1 o.2.2.2.2.2.2.2.2.2.1,rd a2 o.2.2.2.2.2.2.2.2.2.2.1,rd a3 o.2.2.2.2.2.2.2.2.2.2.2,bx 38 a6 aa.1,bx 38 a7 aa.2.1,own 38 bk bb,pt (vp bg 0) ag,own 38 ak af.1]) bt ?_ ?_
  ·refine RC.region (RL.bU 3 ag j dD fun ct j=>(RL.aR (f:=(fun x=>x)) 19 j zr Fd.self dD fun cu j=>(RL.seq 1 0 ag aa.1 zt zr j zr zr zr zr wv zr (mv (vb (decide (ag=aa.1))) (gv hj (fun ba hj=>?_) fun ba hj=>?_)))))
   ·refine cA ba (cA ba (cA ba (gw ba (vb true) (mv (vb true) (nr (nr (RL.pick true (vb true) zr (RL.nil ?_))))))))
    obtain rfl:=oi hj
    exact⟨rfl,j.sp 24 [7,8,9,10,11,12,13,14,15,16,17,18,19,20,21,23,5,22]⟩
   refine RL.bU (hg:=(cg ba)) 5 ag j dD fun cw j=>(RL.aR (hg:=(cg ba)) (f:=(fun x=>x)) 22 j rfl Fd.self dD fun cx j=>(RL.seq 1 0 ag aa.2.1 (cg ba) rfl j rfl rfl rfl rfl wv rfl (gw ba (vb (decide (ag=aa.2.1))) (mv (vb (decide (ag=aa.2.1))) (RL.gs true (decide (ag=aa.2.1)) (vb (dM aj aa.1)) rfl rfl rfl dE (RL.gs true (decide (ag=aa.2.1)) (vb (!(dM aj aa.1))) rfl rfl rfl (yn (dM aj aa.1) rfl (fun h=>by exact(cY h:cv (true&&((decide (ag=aa.2.1))==false)) (vb (dM aj aa.1))= (vb (dM aj aa.1))))) (RL.pick (decide (ag=aa.2.1)) (vb ((decide (ag=aa.2.1))||(!(dM aj aa.1)))) (mH true rfl) (RL.nil ?_))))))))
   obtain rfl:=oi hj
   exact⟨rfl,j.sp 26 [9,10,11,12,13,14,15,16,17,18,19,20,21,22,23,25,7,24]⟩
  rintro _ w ⟨O,rfl,j⟩
  refine aG ?_
  obtain⟨bu,hj,hb⟩:=bd hb
  refine RC.jn (fun(bu: (List bE)) U w=>∃bo:Value,SH E V [(8,vp ae 0),(10,vp a6 0),(11,vp a7 0),(15,bo),(50,ak),(51,vi af.1.length),(52,vi bf)] [bc 79 ae [ao,aq,ar,au,av,aw,ax,ay,a0,a1,a2,a3],rd ao o.1,rd aq o.2.1,rd ar o.2.2.1,rd au o.2.2.2.1,own 100 av o.2.2.2.2.1,rd aw o.2.2.2.2.2.1,rd ax o.2.2.2.2.2.2.1,own 120 ay o.2.2.2.2.2.2.2.1,rd a0 o.2.2.2.2.2.2.2.2.1,rd a1 o.2.2.2.2.2.2.2.2.2.1,rd a2 o.2.2.2.2.2.2.2.2.2.2.1,rd a3 o.2.2.2.2.2.2.2.2.2.2.2,bx 38 a6 aa.1,bx 38 a7 aa.2.1,own 38 ak af.1,own 38 bo bu] U w) bu ?_ ?_
  ·refine fy hj (fun hc hj=>?_) fun hc hj=>?_
   rotate_left
   ·refine RC.skip ?_
    obtain rfl:=oi hj
    exact⟨rfl,bk,j.sp 18 [0,1,2,3,4,5,6,7,8,9,10,11,12,13,14,17,15]⟩
   refine RC.region (mv bk (RL.bU 16 ag j dD fun cm j=>(RL.eH ([ag]: (List bE)) j [cm] mw nz (fun M hs g=>⟨(g.sat 0 _ zr).1,zt⟩) fun cy w j=>?_)))
   have j:=j.freeze 0
   obtain⟨cz,cn,hj⟩:=bd hj
   refine RL.app 17 0 j Bl cn fun b3 w j=>?_
   refine aM b3 (RL.nil ?_)
   obtain rfl:=oi hj
   exact⟨rfl,b3,j.sp 20 [2,3,4,5,6,7,8,9,10,11,12,13,14,15,16,19,17]⟩
  rintro _ w ⟨bo,O,rfl,j⟩
  refine bQ (aG (RC.region (RL.inc hk hm (mv (vi ((bf+1:Nat):Int)) (RL.nil ?_)))))
  obtain rfl:=oi hb
  exact⟨rfl,bo,j.sp 17 [0,1,2,3,4,5,6,7,8,9,10,11,12,13,14,15,16]⟩
 rintro _ w ⟨bj,O,rfl,j⟩
 refine aG (RC.sr (mv bj (aM bj (aM (vi 0) (RL.nt (RC.ret ?_))))))
 obtain rfl:=oi hb
 exact lM ⟨bj,zr,j.pk 17 [16]⟩
theorem qd {res:Bool} (o:Holds E w V) (j:lU N p0 p1 p2=some res):
    Calls bH 29 [(vi p0),(vi p1),(vi p2)].toArray w (gI (bB E V res)):=by
 unfold lU at j
 refine enter Tryz.func29 zr zr (RC.sr (aM (vb false) (RL.ns (mv (vi p0) (mv (vi p1) (ic p0 p1 (mv (vb (decide (p0>=p1))) (RL.gs true (decide (p0>=p1)) (vi p0) zr zr zr dE ?_))))))))
 refine RL.gs true (decide (p0>=p1)) (vi p2) rfl rfl rfl dE (RL.gs true (decide (p0>=p1)) (vb (decide (p0<=p2))) rfl rfl rfl (eG .leq .i64 p0 p2 rfl (fun h=>by exact(cY h:cv (true&&((decide (p0>=p1))==true)) (vi p0)= (vi p0))) (fun h=>by exact(cY h:cv (true&&((decide (p0>=p1))==true)) (vi p2)= (vi p2))) rfl) (RL.pick (decide (p0>=p1)) (vb ((decide (p0>=p1))&&(decide (p0<=p2)))) (iX true) (aM (vb ((decide (p0>=p1))&&(decide (p0<=p2)))) (RL.nt (RC.ret ?_)))))
 obtain rfl:=oi j
 exact cH ⟨rfl,o.drop 0⟩
def qs (E:World) (V:List HP) (b1 b1h:Nat) (v1h_0 v1h_1:Value) (v1h_2 v1h_3:Value) (v1h_4 v1h_5:Value) (v1h_6 v1h_7:Value) (v1h_8 v1h_9:Value) (v1h_10 v1h_11:Value) (res:Bool) (v:Value) (w:World):Prop:=v= (vb res)/\Holds E w ([bc 46 b1 [(vp b1h 0)],bc 79 b1h [v1h_0,v1h_1,v1h_2,v1h_3,v1h_4,v1h_5,v1h_6,v1h_7,v1h_8,v1h_9,v1h_10,v1h_11]]++V)
theorem jD {p1h_5: (List aH)} {res:Bool} (j:Holds E w (bc 46 b1 [(vp b1h 0)]::bc 79 b1h [v1h_0,v1h_1,v1h_2,v1h_3,v1h_4,v1h_5,v1h_6,v1h_7,v1h_8,v1h_9,v1h_10,v1h_11]::rd v1h_5 p1h_5::V)) (o:fA N p0 p1h_5=some res):
    Calls bH 28 [(vi p0),(vp b1 0)].toArray w (gI (qs E V b1 b1h v1h_0 v1h_1 v1h_2 v1h_3 v1h_4 v1h_5 v1h_6 v1h_7 v1h_8 v1h_9 v1h_10 v1h_11 res)):=by
 unfold fA at o
 refine enter Tryz.func28 zr zr (RC.sr (aM (vb false) (RL.ns (mv (vi p0) (RL.bA 0 (vp b1h 0) j GX (RL.nilCheck zr (RL.bF zr qG (RL.bA 1 v1h_5 j Ad ?_))))))))
 refine RL.bK 2 p1h_5 j C1 (RL.jo (p1h_5.length:Int) 1 ?_)
 obtain⟨aa,ab,o⟩:=bd o
 refine RL.call zt zr Il [(vi p0),(vi 0),(vi (IntKind.wrap .i64 ((p1h_5.length:Int) - 1)))] zr (aF (qd N (p0:=p0) (p1:=0) (p2:=(IntKind.wrap .i64 ((p1h_5.length:Int) - 1))) j ab) ?_)
 rintro _ w ⟨rfl,j⟩
 refine aM (vb aa) (RL.nt (RC.ret ?_))
 obtain rfl:=oi o
 exact cH ⟨rfl,j.pk 3 [0,1]⟩
def r6 (E:World) (V:List HP) (r:Int) (U:Nat->Value) (w:World):Prop:=mc bH 19 Tryz.f61 (aT E V r) .ret U w
theorem qX {p0: (List fM)} {p1:fM} (j:Holds E w V) (h0:V[i0]? =some (rd v0 p0)) (h1:V[i1]? =some (rd v1 p1)) (o:lV N p0 p1=some res):
    Calls bH 61 [v0,v1].toArray w (gI (aT E V res)):=by
 unfold lV at o
 refine enter Tryz.func61 zr zr ?_
 have j:=(j.dup (i0+0) h0).dup (i1+1) h1
 refine RC.sr (RL.cR 0 v1 j zr fun ad w j=>?_)
 refine aM (vi 0) (RL.nq (RC.sr (mv v0 (RL.bK 2 p0 j Ef (mv (vi 0) (RL.nt ?_))))))
 obtain⟨al,hN,o⟩:=bd o
 refine RC.range (fun(aa:Nat) (ab:Unit)=>SH E V [(0,v0),(3,vp ad 0),(7,vi p0.length),(8,vi aa)] [rd v0 p0,bx 42 ad p1]) (fun(ab:Unit)=>SH E V [] [rd v0 p0,bx 42 ad p1]) (r6 E V) hN ?_ ?_ ?_ ?_ ?_
 ·exact j.sp 3 [2,0]
 ·rintro hm ab _ w ⟨O,rfl,j⟩
  refine RC.sr (ic ((p0.length:Int)) ((p0.length:Int)) (RL.nq (RC.cX mT (RC.ex ?_))))
  exact⟨rfl,j.sp 2 [0,1]⟩
 ·rintro hm aa ab fl _ w hk ⟨O,rfl,j⟩ o
  refine RC.sr (ic ((aa:Int)) ((p0.length:Int)) (RL.nq (RC.cW (mS hk) (RC.ss (RC.bs (mv (vi aa) (aM (vi aa) (RL.nq ?_))))))))
  refine RC.vQ mixed ?_
  have j:=j.drew
  refine RO.go (RL.aR (f:=(fun x=>x)) 1 j zr Fd.self xy fun ao j=>(RO.nx (mv v0 (RO.nx (mv (vi aa) (RO.nx ?_))))))
  obtain⟨ag,ai,o⟩:=bd o
  refine RL.cG 1 j C6 ai fun aq j=>(RO.nx (RL.bU 0 ag j xy fun ar j=>(RO.nx (RL.seq 2 0 p1 ag zt zr j zr zr zr zr Im zr (RO.last (aG (fy o (fun hc o=>?_) fun hc o=>?_)))))))
  rotate_left
  ·refine RC.skip (bQ (aG (RC.region (RL.inc hk hm (mv (vi ((aa+1:Nat):Int)) (RL.nil ?_))))))
   obtain rfl:=oi o
   exact⟨rfl,j.sp 5 [3,4]⟩
  refine RC.sr (mv (vi aa) (aM (vi aa) (RL.nt (RC.rb (cF ?_)))))
  obtain rfl:=oi o
  exact⟨rfl,cH ⟨rfl,j.drop 5⟩⟩
 ·intro r U w e hK
  subst e
  refine cF ?_
  obtain rfl:=oi o
  exact hK
 rintro ab _ w rfl ⟨O,rfl,j⟩
 rw [Fo.fW] at o
 refine aG (RC.sr (aM (vi (-1)) (RL.nt (RC.ret ?_))))
 obtain rfl:=oi o
 exact cH ⟨rfl,j.drop 2⟩
theorem pj {p0: (List fM)} {p1:fM} {res:Bool} (j:Holds E w V) (h0:V[i0]? =some (rd v0 p0)) (h1:V[i1]? =some (rd v1 p1)) (o:gO N p0 p1=some res):
    Calls bH 30 [v0,v1].toArray w (gI (bB E V res)):=by
 unfold gO at o
 refine enter Tryz.func30 zr zr ?_
 have j:=(j.dup (i0+0) h0).dup (i1+1) h1
 refine RC.sr (RL.cR 0 v1 j zr fun ae w j=>?_)
 refine aM (vb false) (RL.ns (mv v0 (RL.aR (f:=(fun x=>x)) 0 j zr Fd.self xy fun ab j=>?_)))
 obtain⟨aa,ad,o⟩:=bd o
 refine RL.call zt zr J4 [v0,ab] zr (aF (qX N (i0:=3) (i1:=0) j zr zr ad) ?_)
 rintro _ w ⟨rfl,j⟩
 refine ic aa 0 (aM (vb (decide (aa>=0))) (RL.nt (RC.ret ?_)))
 obtain rfl:=oi o
 exact cH ⟨rfl,j.drop 4⟩
def sR (E:World) (V:List HP) (b0:Nat) (v0_0 v0_1:Value) (v0_2 v0_3:Value) (v0_4 v0_5:Value) (v0_6 v0_7:Value) (v0_8 v0_9:Value) (v0_10 v0_11:Value) (r:Int) (U:Nat->Value) (w:World):Prop:=mc bH 112 Tryz.f14 (iJ E V b0 v0_0 v0_1 v0_2 v0_3 v0_4 v0_5 v0_6 v0_7 v0_8 v0_9 v0_10 v0_11 r) .ret U w
theorem r7 {p0_0: (List (List aI))} {p0_1: (List aI)} {p0_2: (List bW)} {p0_3: (List dL)} {p0_4: (List (List aA))} {p0_5: (List aH)} {p0_6: (List (List Int))} {p0_7: (List cU)} {p0_8: (List Int)} {p0_9: (List Int)} {p0_10: (List Int)} {p0_11: (List bE)} {p1: (List fM)} (o:Holds E w (bc 79 b0 [v0_0,v0_1,v0_2,v0_3,v0_4,v0_5,v0_6,v0_7,v0_8,v0_9,v0_10,v0_11]::rd v0_0 p0_0::rd v0_1 p0_1::rd v0_2 p0_2::rd v0_3 p0_3::rd v0_4 p0_4::rd v0_5 p0_5::rd v0_6 p0_6::rd v0_7 p0_7::rd v0_8 p0_8::rd v0_9 p0_9::rd v0_10 p0_10::rd v0_11 p0_11::V)) (h1:V[i1]? =some (rd v1 p1)) (hb:jh N p0_0 p0_1 p0_2 p0_3 p0_4 p0_5 p0_6 p0_7 p0_8 p0_9 p0_10 p0_11 p1=some res):
    Calls bH 14 [(vp b0 0),v1].toArray w (gI (iJ E V b0 v0_0 v0_1 v0_2 v0_3 v0_4 v0_5 v0_6 v0_7 v0_8 v0_9 v0_10 v0_11 res)):=by
 unfold jh at hb
 refine enter Tryz.func14 zr zr ?_
 have o:=o.dup (i1+13) h1
 refine RC.sr (RL.GB (v:=(vp b0 0)) zt zr o zr zr fun ae w o=>?_)
 refine aM (vi 0) (RL.nq (RC.sr (mv v1 (RL.bK 1 p1 o Ef (ic ((p1.length:Int)) 20 (RL.nt (fy hb (fun hc hb=>?_) fun hc hb=>?_)))))))
 ·refine RC.sr (aM (vi 2) (RL.nt (RC.rt ?_)))
  obtain rfl:=oi hb
  exact cH ⟨rfl,o.pk 15 [2]⟩
 refine RC.sx (RL.makeFunc [(vp ae 0)] (aM (.func (.func 28) #[] #[(vp ae 0)]) (RL.nq (RC.sr (mv v1 (RL.bK 1 p1 o Ef (mv (vi 0) (RL.nt ?_))))))))
 obtain⟨bj,hN,hb⟩:=bd hb
 refine RC.range (fun(ag:Nat) (an:Unit)=>SH E V [(0,vp b0 0),(1,v1),(2,vp ae 0),(5,(.func (.func 28) #[] #[(vp ae 0)])),(13,v1),(14,vi p1.length),(15,vi ag)] [bc 79 b0 [v0_0,v0_1,v0_2,v0_3,v0_4,v0_5,v0_6,v0_7,v0_8,v0_9,v0_10,v0_11],rd v0_0 p0_0,rd v0_1 p0_1,rd v0_2 p0_2,rd v0_3 p0_3,rd v0_4 p0_4,rd v0_5 p0_5,rd v0_6 p0_6,rd v0_7 p0_7,rd v0_8 p0_8,rd v0_9 p0_9,rd v0_10 p0_10,rd v0_11 p0_11,rd v1 p1,bc 46 ae [(vp b0 0)]]) (fun(an:Unit)=>SH E V [(0,vp b0 0)] [bc 79 b0 [v0_0,v0_1,v0_2,v0_3,v0_4,v0_5,v0_6,v0_7,v0_8,v0_9,v0_10,v0_11],rd v0_0 p0_0,rd v0_1 p0_1,rd v0_2 p0_2,rd v0_3 p0_3,rd v0_4 p0_4,rd v0_5 p0_5,rd v0_6 p0_6,rd v0_7 p0_7,rd v0_8 p0_8,rd v0_9 p0_9,rd v0_10 p0_10,rd v0_11 p0_11,rd v1 p1,bc 46 ae [(vp b0 0)]]) (sR E V b0 v0_0 v0_1 v0_2 v0_3 v0_4 v0_5 v0_6 v0_7 v0_8 v0_9 v0_10 v0_11) hN ?_ ?_ ?_ ?_ ?_
 ·exact o.sp 15 [2,3,4,5,6,7,8,9,10,11,12,13,14,1,0]
 ·rintro hm an _ w ⟨O,rfl,o⟩
  refine RC.sr (ic ((p1.length:Int)) ((p1.length:Int)) (RL.nq (RC.cX mT (RC.ex ?_))))
  exact⟨rfl,o.sp 15 [0,1,2,3,4,5,6,7,8,9,10,11,12,13,14]⟩
 ·rintro hm ag an fl _ w hk ⟨O,rfl,o⟩ hb
  refine RC.sr (ic ((ag:Int)) ((p1.length:Int)) (RL.nq (RC.cW (mS hk) (RC.ss (RC.bs (mv (vi ag) ?_))))))
  obtain⟨j,a0,hb⟩:=bd hb
  refine RL.cG 13 o C6 a0 fun bl o=>(RL.bU 0 j o xy fun bm o=>(RL.alloc o FF.z fun ad w o=>?_))
  refine aM (vi ag) (RL.bC 0 o 1 zr xy fun w o=>?_)
  refine RL.nq (RC.seq ?_)
  obtain⟨ao,hj,hb⟩:=bd hb
  refine RC.jn (fun(ao:Bool)=>SH E V [(0,vp b0 0),(1,v1),(2,vp ae 0),(5,(.func (.func 28) #[] #[(vp ae 0)])),(6,vi ag),(7,vp ad 0),(13,v1),(14,vi p1.length),(15,vi ag),(42,vb ao)] [bc 79 b0 [v0_0,v0_1,v0_2,v0_3,v0_4,v0_5,v0_6,v0_7,v0_8,v0_9,v0_10,v0_11],rd v0_0 p0_0,rd v0_1 p0_1,rd v0_2 p0_2,rd v0_3 p0_3,rd v0_4 p0_4,rd v0_5 p0_5,rd v0_6 p0_6,rd v0_7 p0_7,rd v0_8 p0_8,rd v0_9 p0_9,rd v0_10 p0_10,rd v0_11 p0_11,rd v1 p1,bc 46 ae [(vp b0 0)],bx 42 ad j]) ao ?_ ?_
  ·refine RC.region (RL.bF rfl sI (RL.aO 0 o rfl mq xo (mv (vb j.Open) (RL.gs true j.Open (vp ad 3) rfl rfl rfl (dZ yR) (RL.gs true j.Open (vi j.A) rfl rfl rfl (cD 0 rfl o (fun h=>by exact(cY h:cv (true&&(j.Open==true)) (vp ad 3)= (vp ad 3))) rfl rz cP) (RL.gs true j.Open (vb (j.A != 0)) rfl rfl rfl (eG .neq .i64 j.A 0 rfl (fun h=>by exact(cY h:cv (true&&(j.Open==true)) (vi j.A)= (vi j.A))) (fun _=>rfl) rfl) (RL.gs true j.Open (vb (j.A != 0)) rfl rfl rfl (dE (hx:=fun h=>by exact(cY h:cv (true&&(j.Open==true)) (vb (j.A != 0))= (vb (j.A != 0))))) (RL.gs (true&&(j.Open==true)) (j.A != 0) (vp ad 4) rfl rfl rfl (dZ yS) ?_))))))))
   refine RL.gs (true&&(j.Open==true)) (j.A != 0) (vi j.B) rfl rfl rfl (cD 0 rfl o (fun h=>by exact(cY h:cv ((true&&(j.Open==true))&&((j.A != 0)==false)) (vp ad 4)= (vp ad 4))) rfl rA cP) (RL.gs (true&&(j.Open==true)) (j.A != 0) (vb (j.B != 0)) rfl rfl rfl (eG .neq .i64 j.B 0 rfl (fun h=>by exact(cY h:cv ((true&&(j.Open==true))&&((j.A != 0)==false)) (vi j.B)= (vi j.B))) (fun _=>rfl) rfl) (RL.gs true j.Open (vb ((j.A != 0)||(j.B != 0))) rfl rfl rfl (pE (j.A != 0) rfl (fun h=>by exact(cY h:cv (true&&(j.Open==true)) (vb (j.A != 0))= (vb (j.A != 0)))) (fun h=>by exact mH (true&&(j.Open==true)) h)) (RL.pick j.Open (vb (j.Open&&((j.A != 0)||(j.B != 0)))) (iX true) (mv (vb (j.Open&&((j.A != 0)||(j.B != 0)))) (gv hj (fun ah hj=>?_) fun ah hj=>?_)))))
   ·refine cA ah (cA ah (cA ah (cA ah (sg (sg (sg (sg (cA ah ?_))))))))
    refine gw ah (vb true) (RL.nil ?_)
    obtain rfl:=oi hj
    exact⟨rfl,o.sp 18 [3,4,5,6,7,8,9,10,11,12,13,14,15,16,17,0]⟩
   refine RL.bF (hg:=(cg ah)) zr sI (RL.aO (hg:=(cg ah)) 0 o zr mq xo (RL.not (hg:=(cg ah)) j.Open (RL.move (vb (!j.Open)) (cg ah) (gv hj (fun aj hj=>?_) fun aj hj=>?_))))
   ·refine RL.bF (hg:=(cg aj)) rfl uR (RL.aR (hg:=(cg aj)) 0 o rfl nH dD fun bn o=>(RL.build (⟨false,0⟩:bE) (cg aj) rfl o [] rfl C5 rfl (fun M hs g=>by have h:=wm M;exact dO.nil h) fun bo o=>?_))
    refine RL.IK 1 0 j.bE (⟨false,0⟩:bE) (cg aj) zr o zr zr zr zr wv zr (gw aj (vb (!(decide (j.bE= (⟨false,0⟩:bE))))) (hg:=(cg ah)) (gw ah (vb (!(decide (j.bE= (⟨false,0⟩:bE))))) (RL.nil ?_)))
    obtain rfl:=oi hj
    exact⟨rfl,o.sp 20 [5,6,7,8,9,10,11,12,13,14,15,16,17,18,19,2]⟩
   refine cA aj (cA aj (cA aj (cA aj (gw aj (vb false) (hg:=(cg ah)) (gw ah (vb false) (RL.nil ?_))))))
   obtain rfl:=oi hj
   exact⟨rfl,o.sp 18 [3,4,5,6,7,8,9,10,11,12,13,14,15,16,17,0]⟩
  rintro _ w ⟨O,rfl,o⟩
  refine aG (fy hb (fun hc hb=>?_) fun hc hb=>?_)
  ·refine RC.sr (aM (vi 3) (RL.nt (RC.rt (mn (cF ?_)))))
   obtain rfl:=oi hb
   exact⟨rfl,cH ⟨rfl,o.pk 16 [0]⟩⟩
  refine RC.ss ?_
  obtain⟨aq,hj,hb⟩:=bd hb
  refine RC.jn (fun(aq:Bool)=>SH E V [(0,vp b0 0),(1,v1),(2,vp ae 0),(5,(.func (.func 28) #[] #[(vp ae 0)])),(6,vi ag),(7,vp ad 0),(8,vb aq),(13,v1),(14,vi p1.length),(15,vi ag)] [bc 79 b0 [v0_0,v0_1,v0_2,v0_3,v0_4,v0_5,v0_6,v0_7,v0_8,v0_9,v0_10,v0_11],rd v0_0 p0_0,rd v0_1 p0_1,rd v0_2 p0_2,rd v0_3 p0_3,rd v0_4 p0_4,rd v0_5 p0_5,rd v0_6 p0_6,rd v0_7 p0_7,rd v0_8 p0_8,rd v0_9 p0_9,rd v0_10 p0_10,rd v0_11 p0_11,rd v1 p1,bc 46 ae [(vp b0 0)],bx 42 ad j]) aq ?_ ?_
  ·refine RC.region (mv (.func (.func 28) #[] #[(vp ae 0)]) (RL.bF zr yR (RL.aO 15 o zr rz cP ?_)))
   have o:=((o.dup 6 rfl).pull 1).pull 16
   obtain⟨a1,a2,hj⟩:=bd hj
   refine RL.p5 [(vp ae 0)] GY [(vi j.A)] (aF (jD N (p0:=j.A) o a2) ?_)
   rintro _ w ⟨rfl,o⟩
   refine mv (vb a1) (gv hj (fun ak hj=>?_) fun ak hj=>?_)
   rotate_left
   ·refine cA ak (cA ak (cA ak (cA ak (gw ak (vb false) (aM (vb false) (RL.nil ?_))))))
    obtain rfl:=oi hj
    exact⟨rfl,o.sp 18 [1,3,4,5,6,7,8,9,10,11,12,13,14,15,0,17]⟩
   refine RL.move (.func (.func 28) #[] #[(vp ae 0)]) (cg ak) (RL.bF (hg:=(cg ak)) zr yS (RL.aO (hg:=(cg ak)) 17 o zr rA cP ?_))
   have o:=((o.dup 8 rfl).pull 2).pull 2
   obtain⟨ay,a3,hj⟩:=bd hj
   refine RL.p5 (hg:=(cg ak)) [(vp ae 0)] GY [(vi j.B)] (aF (jD N (p0:=j.B) o a3) ?_)
   rintro _ w ⟨rfl,o⟩
   refine gw ak (vb ay) (aM (vb ay) (RL.nil ?_))
   obtain rfl:=oi hj
   exact⟨rfl,o.sp 20 [1,5,6,7,8,9,10,11,12,13,14,15,16,17,0,19]⟩
  rintro _ w ⟨O,rfl,o⟩
  refine aG (RC.seq (RC.sr (RL.bF zr sI (RL.aO 15 o zr mq xo (RL.nt ?_)))))
  obtain⟨ar,hj,hb⟩:=bd hb
  refine RC.jn (fun(ar:Bool)=>SH E V [(0,vp b0 0),(1,v1),(2,vp ae 0),(5,(.func (.func 28) #[] #[(vp ae 0)])),(6,vi ag),(7,vp ad 0),(8,vb ar),(13,v1),(14,vi p1.length),(15,vi ag)] [bc 79 b0 [v0_0,v0_1,v0_2,v0_3,v0_4,v0_5,v0_6,v0_7,v0_8,v0_9,v0_10,v0_11],rd v0_0 p0_0,rd v0_1 p0_1,rd v0_2 p0_2,rd v0_3 p0_3,rd v0_4 p0_4,rd v0_5 p0_5,rd v0_6 p0_6,rd v0_7 p0_7,rd v0_8 p0_8,rd v0_9 p0_9,rd v0_10 p0_10,rd v0_11 p0_11,rd v1 p1,bc 46 ae [(vp b0 0)],bx 42 ad j]) ar ?_ ?_
  ·refine fy hj (fun hc hj=>?_) fun hc hj=>?_
   rotate_left
   ·refine RC.skip ?_
    obtain rfl:=oi hj
    exact⟨rfl,o.sp 16 [0,1,2,3,4,5,6,7,8,9,10,11,12,13,14,15]⟩
   refine RC.region (mv (.func (.func 28) #[] #[(vp ae 0)]) (RL.bF zr uR (RL.bF zr pP (RL.aO (f:=(fun x=>x.bE.Number)) 15 o zr (Fd.comp (f:=fun(x:fM)=>x.bE) (fun(x:bE)=>x.Number) nH lY) cP ?_))))
   have o:=((o.dup 6 rfl).pull 1).pull 16
   obtain⟨a4,a5,hj⟩:=bd hj
   refine RL.p5 [(vp ae 0)] GY [(vi j.bE.Number)] (aF (jD N (p0:=j.bE.Number) o a5) ?_)
   rintro _ w ⟨rfl,o⟩
   refine aM (vb a4) (RL.nil ?_)
   obtain rfl:=oi hj
   exact⟨rfl,o.sp 18 [1,3,4,5,6,7,8,9,10,11,12,13,14,15,0,17]⟩
  rintro _ w ⟨O,rfl,o⟩
  refine aG (RC.seq (RC.sr (RL.bF rfl sI (RL.aO 15 o rfl mq xo (mv (vb j.Open) (RL.gs true j.Open (vp ad 1) rfl rfl rfl (dZ uR) (RL.gs true j.Open (vp ad 1) rfl rfl rfl (dZ (hx:=fun h=>by exact(cY h:cv (true&&(j.Open==true)) (vp ad 1)= (vp ad 1))) yQ) (RL.gs true j.Open (vb j.bE.bW) rfl rfl rfl (cD (f:=(fun x=>x.bE.bW)) 15 rfl o (fun h=>by exact(cY h:cv (true&&(j.Open==true)) (vp ad 1)= (vp ad 1))) rfl (Fd.comp (f:=fun(x:fM)=>x.bE) (fun(x:bE)=>x.bW) nH tA) xo) ?_))))))))
  refine RL.pick j.Open (vb (j.Open&&j.bE.bW)) (iX true) (RL.nt ?_)
  obtain⟨al,hj,hb⟩:=bd hb
  refine RC.jn (fun(al:Bool)=>SH E V [(0,vp b0 0),(1,v1),(2,vp ae 0),(5,(.func (.func 28) #[] #[(vp ae 0)])),(6,vi ag),(7,vp ad 0),(8,vb al),(13,v1),(14,vi p1.length),(15,vi ag)] [bc 79 b0 [v0_0,v0_1,v0_2,v0_3,v0_4,v0_5,v0_6,v0_7,v0_8,v0_9,v0_10,v0_11],rd v0_0 p0_0,rd v0_1 p0_1,rd v0_2 p0_2,rd v0_3 p0_3,rd v0_4 p0_4,rd v0_5 p0_5,rd v0_6 p0_6,rd v0_7 p0_7,rd v0_8 p0_8,rd v0_9 p0_9,rd v0_10 p0_10,rd v0_11 p0_11,rd v1 p1,bc 46 ae [(vp b0 0)],bx 42 ad j]) al ?_ ?_
  ·refine fy hj (fun hc hj=>?_) fun hc hj=>?_
   rotate_left
   ·refine RC.skip ?_
    obtain rfl:=oi hj
    exact⟨rfl,o.sp 16 [0,1,2,3,4,5,6,7,8,9,10,11,12,13,14,15]⟩
   obtain⟨au,hjj,hj⟩:=bd hj
   refine RC.jn (fun(au:Bool)=>SH E V [(0,vp b0 0),(1,v1),(2,vp ae 0),(5,(.func (.func 28) #[] #[(vp ae 0)])),(6,vi ag),(7,vp ad 0),(8,vb au),(13,v1),(14,vi p1.length),(15,vi ag)] [bc 79 b0 [v0_0,v0_1,v0_2,v0_3,v0_4,v0_5,v0_6,v0_7,v0_8,v0_9,v0_10,v0_11],rd v0_0 p0_0,rd v0_1 p0_1,rd v0_2 p0_2,rd v0_3 p0_3,rd v0_4 p0_4,rd v0_5 p0_5,rd v0_6 p0_6,rd v0_7 p0_7,rd v0_8 p0_8,rd v0_9 p0_9,rd v0_10 p0_10,rd v0_11 p0_11,rd v1 p1,bc 46 ae [(vp b0 0)],bx 42 ad j]) au ?_ ?_
   ·refine RC.yF mixed [0,0,0,0,0,0,0,0,0,0,2,0,0,0,0,0,0,0,0,0,0,0,0,0,0] [0,1,2,3,4,5,6,7,8,9,10,11,12,13,14,15,16,17,18,19,20,21,22,23,24] ?_
    have o:=o.drew
    refine DP.e0 zr (RL.bF zr uR (cT zr (RL.bF zr pP (cT zr (RL.aO (f:=(fun x=>x.bE.Number)) 15 o zr (Fd.comp (f:=fun(x:fM)=>x.bE) (fun(x:bE)=>x.Number) nH lY) cP (cT zr (RL.bA 14 (vp b0 0) o GX (cT zr ?_))))))))
    refine RL.nilCheck zr (cT zr (RL.bF zr l3 (cT zr (RL.bF zr mu (cT zr (RL.bA 0 v0_2 o uL (cT zr (RL.bK 3 p0_2 o wq ?_))))))))
    refine cT zr (RL.jo (p0_2.length:Int) 1 (vF zr ?_))
    obtain⟨a6,a7,hjj⟩:=bd hjj
    refine RL.call zt zr Il [(vi j.bE.Number),(vi 0),(vi (IntKind.wrap .i64 ((p0_2.length:Int) - 1)))] zr (aF (qd N (p0:=j.bE.Number) (p1:=0) (p2:=(IntKind.wrap .i64 ((p0_2.length:Int) - 1))) o a7) ?_)
    rintro _ w ⟨rfl,o⟩
    refine B8 zr (mv (vb a6) (DP.d0 (gv hjj (fun af hjj=>?_) fun af hjj=>?_)))
    rotate_left
    ·refine DP.e0 zr (cA af (cT zr (cA af (cT zr (cA af (cT zr (cA af (cT zr ?_))))))))
     refine cA af (cT zr (cA af (cT zr (cA af (cT zr (cA af (cT zr (cA af ?_))))))))
     refine cT zr (cA af (cT zr (cA af (cT zr (gw af (vb false) (cT zr (aM (vb false) (DP.d0 ?_))))))))
     refine DP.z ?_
     obtain rfl:=oi hjj
     exact⟨rfl,o.sp 16 [0,1,2,3,4,5,6,7,8,9,10,11,12,13,14,15]⟩
    refine DP.e0 zr (RL.bA (hg:=(cg af)) 14 (vp b0 0) o GX (cT zr (RL.nilCheck (hg:=(cg af)) zr (cT zr (RL.bF (hg:=(cg af)) zr l3 (cT zr (RL.bF (hg:=(cg af)) zr mu (cT zr ?_))))))))
    refine RL.bA (hg:=(cg af)) 0 v0_2 o uL (cT zr (RL.bF (hg:=(cg af)) zr uR (cT zr (RL.bF (hg:=(cg af)) zr pP (cT zr (RL.aO (hg:=(cg af)) (f:=(fun x=>x.bE.Number)) 15 o zr (Fd.comp (f:=fun(x:fM)=>x.bE) (fun(x:bE)=>x.Number) nH lY) cP (cT zr ?_)))))))
    obtain⟨av,a8,hjj⟩:=bd hjj
    refine RL.cG (hg:=(cg af)) 3 o yI a8 fun bp o=>(cT zr (RL.i7 (hg:=(cg af)) 0 o zr yL ry fun bq o=>(cT zr (RL.bJ (hg:=(cg af)) av.gD 0 o xo (cT zr (gw af (vb av.gD) (cT zr (aM (vb av.gD) ?_))))))))
    refine DP.d0 (DP.z ?_)
    obtain rfl:=oi hjj
    exact⟨rfl,o.sp 18 [2,3,4,5,6,7,8,9,10,11,12,13,14,15,16,17]⟩
   rintro _ w ⟨O,rfl,o⟩
   obtain rfl:=oi hj
   exact⟨rfl,o.sp 16 [0,1,2,3,4,5,6,7,8,9,10,11,12,13,14,15]⟩
  rintro _ w ⟨O,rfl,o⟩
  refine aG (RC.bs (mv (vb al) (RL.not al (aM (vb (!al)) (RL.nt (fy hb (fun hc hb=>?_) fun hc hb=>?_))))))
  ·refine RC.sr (aM (vi 9) (RL.nt (RC.rb (mn (cF ?_)))))
   obtain rfl:=oi hb
   exact⟨rfl,cH ⟨rfl,o.pk 16 [0]⟩⟩
  refine RC.sr (RL.bF rfl sI (RL.aO 15 o rfl mq xo (RL.not j.Open (mv (vb (!j.Open)) (RL.gs true (!j.Open) (vp ad 4) rfl rfl rfl (dZ yS) (RL.gs true (!j.Open) (vi j.B) rfl rfl rfl (cD 15 rfl o (fun h=>by exact(cY h:cv (true&&((!j.Open)==true)) (vp ad 4)= (vp ad 4))) rfl rA cP) (RL.gs true (!j.Open) (vp ad 3) rfl rfl rfl (dZ yR) (RL.gs true (!j.Open) (vi j.A) rfl rfl rfl (cD 15 rfl o (fun h=>by exact(cY h:cv (true&&((!j.Open)==true)) (vp ad 3)= (vp ad 3))) rfl rz cP) ?_))))))))
  refine RL.gs true (!j.Open) (vb (decide (j.B<=j.A))) rfl rfl rfl (eG .leq .i64 j.B j.A rfl (fun h=>by exact(cY h:cv (true&&((!j.Open)==true)) (vi j.B)= (vi j.B))) (fun h=>by exact(cY h:cv (true&&((!j.Open)==true)) (vi j.A)= (vi j.A))) rfl) (RL.pick (!j.Open) (vb ((!j.Open)&&(decide (j.B<=j.A)))) (iX true) (aM (vb ((!j.Open)&&(decide (j.B<=j.A)))) (RL.nt (fy hb (fun hc hb=>?_) fun hc hb=>?_))))
  ·refine RC.sr (aM (vi 8) (RL.nt (RC.rb (mn (cF ?_)))))
   obtain rfl:=oi hb
   exact⟨rfl,cH ⟨rfl,o.pk 16 [0]⟩⟩
  refine RC.seq (RC.yF mixed [0,0,0,0,2,0] [0,1,2,3,4,5] ?_)
  have o:=o.drew
  refine DP.e0 zr (mv v1 (cT zr (mv (vi ag) (cT zr ?_))))
  obtain⟨br,a9,hb⟩:=bd hb
  refine RL.cut (hl:= .inr ⟨rfl,zr⟩) 13 o C6 (.inl zr) a9 fun ba o=>(cT zr (RL.aR (f:=(fun x=>x)) 16 o zr Fd.self xy fun bb o=>(vF zr ?_)))
  obtain⟨bf,bg,hb⟩:=bd hb
  refine RL.call zt zr J5 [ba,bb] zr (aF (pj N (i0:=1) (i1:=0) o zr zr bg) ?_)
  rintro _ w ⟨rfl,o⟩
  refine B8 zr (aM (vb bf) (DP.d0 (DP.z (aG (fy hb (fun hc hb=>?_) fun hc hb=>?_)))))
  rotate_left
  ·refine RC.skip (bQ (bQ (aG (RC.region (RL.inc hk hm (mv (vi ((ag+1:Nat):Int)) (RL.nil ?_)))))))
   obtain rfl:=oi hb
   exact⟨rfl,o.sp 18 [2,3,4,5,6,7,8,9,10,11,12,13,14,15,16]⟩
  refine RC.sr (aM (vi 7) (RL.nt (RC.rb (mn (cF ?_)))))
  obtain rfl:=oi hb
  exact⟨rfl,cH ⟨rfl,o.pk 18 [2]⟩⟩
 ·intro r U w e hK
  subst e
  refine cF ?_
  obtain rfl:=oi hb
  exact hK
 rintro an _ w rfl ⟨O,rfl,o⟩
 rw [Fo.fW] at hb
 refine aG (RC.sr (aM (vi 0) (RL.nt (RC.ret ?_))))
 obtain rfl:=oi hb
 exact cH ⟨rfl,o.pk 15 [0]⟩
theorem nc {p0:bE} (j:Holds E w V) (h0:V[i0]? =some (rd v0 p0)) (h1:V[i1]? =some (pt v1 p1)) (o:fT N p0 p1=some res):
    Calls bH 35 [v0,v1].toArray w (gI (aT E V res)):=by
 unfold fT at o
 refine enter Tryz.func35 zr zr ?_
 have j:=(j.dup (i0+0) h0).uA (i:=i1+1) h1
 refine RC.sr (RL.cR 1 v0 j zr fun ab w j=>?_)
 refine aM (vi 0) (RL.nq (RC.sr (RL.bF zr yQ (RL.aO 0 j zr tA xo (RL.nt (fy o (fun hc o=>?_) fun hc o=>?_))))))
 rotate_left
 ·refine RC.sx (RL.bF zr pP (RL.aO 0 j zr lY cP (aM (vi p0.Number) (RL.nt (RC.ret ?_)))))
  obtain rfl:=oi o
  exact cH ⟨rfl,j.drop 3⟩
 refine RC.sr (RL.bJ p1 1 j cP (RL.bF zr pP (RL.aO 0 j zr lY cP (RL.jo p1 p0.Number (aM (vi (IntKind.wrap .i64 (p1+p0.Number))) (RL.nt (RC.rt ?_)))))))
 obtain rfl:=oi o
 exact cH ⟨rfl,j.drop 3⟩
def sS (E:World) (V:List HP) (b2:Nat) (v2_0:Value) (p2_0: (List (Int×Bool))) (b3 b3h:Nat) (res: (List Int)) (v:Value) (w:World):Prop:=∃u3h_0:Value,v = .tuple #[]/\Holds E w ([bc 92 b2 [v2_0],mp v2_0 p2_0,bc 93 b3 [(vp b3h 0)],bc 128 b3h [u3h_0],own 3 u3h_0 res]++V)
theorem ng {p2_0: (List (Int×Bool))} {p3h_0: (List Int)} {res: (List Int)} (j:Holds E w (bc 92 b2 [v2_0]::mp v2_0 p2_0::bc 93 b3 [(vp b3h 0)]::bc 128 b3h [v3h_0]::own 3 v3h_0 p3h_0::V)) (hb:ik N p0 p1 p2_0 p3h_0=some res):
    Calls bH 37 [(vi p0),(vi p1),(vp b2 0),(vp b3 0)].toArray w (gI (sS E V b2 v2_0 p2_0 b3 b3h res)):=by
 unfold ik at hb
 refine enter Tryz.func37 zr zr (RC.seq ?_)
 obtain⟨ae,o,hb⟩:=bd hb
 refine RC.jn (fun(ae:Bool)=>SH E V [(0,vi p0),(1,vi p1),(2,vp b2 0),(3,vp b3 0),(15,vb ae)] [bc 92 b2 [v2_0],mp v2_0 p2_0,bc 93 b3 [(vp b3h 0)],bc 128 b3h [v3h_0],own 3 v3h_0 p3h_0]) ae ?_ ?_
 ·refine RC.region (RL.bA 0 v2_0 j Eg (mv (vi p0) (RL.lP 1 p0 j zr FG (RL.not (cL p2_0 p0 (false:Bool)) (mv (vb (!(cL p2_0 p0 (false:Bool)))) (gv o (fun aa o=>?_) fun aa o=>?_))))))
  ·refine RL.bA (hg:=(cg aa)) 0 v2_0 j Eg (RL.move (vi p1) (cg aa) (RL.lP (hg:=(cg aa)) 1 p1 j zr FG (RL.not (hg:=(cg aa)) (cL p2_0 p1 (false:Bool)) (gw aa (vb (!(cL p2_0 p1 (false:Bool)))) (RL.nil ?_)))))
   obtain rfl:=oi o
   exact⟨rfl,j.sp 5 [0,1,2,3,4]⟩
  refine cA aa (cA aa (cA aa (cA aa (gw aa (vb false) (RL.nil ?_)))))
  obtain rfl:=oi o
  exact⟨rfl,j.sp 5 [0,1,2,3,4]⟩
 rintro _ w ⟨O,rfl,j⟩
 refine aG ?_
 obtain⟨af,o,hb⟩:=bd hb
 refine RC.jn (fun(af: (List Int)) U w=>∃ad:Value,SH E V [(2,vp b2 0),(3,vp b3 0)] [bc 92 b2 [v2_0],mp v2_0 p2_0,bc 93 b3 [(vp b3h 0)],bc 128 b3h [ad],own 3 ad af] U w) af ?_ ?_
 ·refine fy o (fun hc o=>?_) fun hc o=>?_
  rotate_left
  ·refine RC.skip ?_
   obtain rfl:=oi o
   exact⟨rfl,v3h_0,j.sp 5 [0,1,2,3,4]⟩
  refine RC.region (RL.bA 2 (vp b3h 0) j Eh (mv (vi p0) (mv (vi p1) ?_)))
  have j:=(j.pull 4).pull 4
  obtain⟨aj,ah,o⟩:=bd o
  refine RL.call zt zr H5 [(vp b3h 0),(vi p0),(vi p1)] zr (aF (mh N (p1:=p0) (p2:=p1) j ah) ?_)
  rintro _ w ⟨ai,rfl,j⟩
  refine RL.nil ?_
  obtain rfl:=oi o
  exact⟨rfl,ai,j.sp 7 [2,3,4,0,1]⟩
 rintro _ w ⟨ad,O,rfl,j⟩
 obtain rfl:=oi hb
 refine zn ?_
 exact Fi zr ⟨ad,zr,j.pk 5 [0,1,2,3,4]⟩
def vM (E:World) (V:List HP) (b0:Nat) (v0_0 v0_1:Value) (v0_2 v0_3:Value) (v0_4 v0_5:Value) (v0_6 v0_7:Value) (v0_8 v0_9:Value) (v0_10 v0_11:Value) (res: (List Int)) (v:Value) (w:World):Prop:=Holds E w ([own 3 v res,bc 79 b0 [v0_0,v0_1,v0_2,v0_3,v0_4,v0_5,v0_6,v0_7,v0_8,v0_9,v0_10,v0_11]]++V)
theorem uZ {p0_2: (List bW)} {p0_3: (List dL)} {p0_5: (List aH)} {p0_6: (List (List Int))} {p0_10: (List Int)} {p0_11: (List bE)} {p1: (List fM)} {res: (List Int)} (j:Holds E w (bc 79 b0 [v0_0,v0_1,v0_2,v0_3,v0_4,v0_5,v0_6,v0_7,v0_8,v0_9,v0_10,v0_11]::rd v0_2 p0_2::rd v0_3 p0_3::rd v0_5 p0_5::rd v0_6 p0_6::rd v0_10 p0_10::rd v0_11 p0_11::V)) (h1:V[i1]? =some (rd v1 p1)) (o:fZ N p0_2 p0_3 p0_5 p0_6 p0_10 p0_11 p1=some res):
    Calls bH 16 [(vp b0 0),v1].toArray w (gI (vM E V b0 v0_0 v0_1 v0_2 v0_3 v0_4 v0_5 v0_6 v0_7 v0_8 v0_9 v0_10 v0_11 res)):=by
 unfold fZ at o
 refine enter Tryz.func16 zr zr ?_
 have j:=j.dup (i1+7) h1
 refine RC.sr (aM (.slice none 0 0) (RL.ns (mv (vp b0 0) (RL.nilCheck zr (RL.bF zr qG (RL.bA 1 v0_5 j Ad (RL.bK 4 p0_5 j C1 (RL.alloc j D1.z fun ad w j=>?_))))))))
 have j:=j.sc Int (p0_5.length:Int)
 refine RL.bC 1 j 0 zr cP fun w j=>?_
 refine RL.ns ?_
 have j:=j.gm (i:=1) rfl
 refine RL.makeFunc [(vp ad 0)] (aM (.func (.func 35) #[] #[(vp ad 0)]) (RL.ns (RL.makeMap (κ:=Int) (ν:=Bool) j fun af w j=>(RL.nM j J7 fun ae w j=>?_))))
 refine RL.ir 0 af j zr zr (GA j (i:=1) zr) Eg fun w j=>?_
 refine RL.nq (RC.sr (mv v1 (RL.bK 4 p1 j Ef (mv (vi 0) (RL.nt ?_)))))
 obtain⟨ai,hN,o⟩:=bd o
 refine RC.fold (fun(ba:Nat) (ai: (List (Int×Bool)))=>SH E V [(0,vp b0 0),(1,v1),(5,vp ad 0),(6,(.func (.func 35) #[] #[(vp ad 0)])),(7,vp ae 0),(32,v1),(33,vi p1.length),(34,vi ba)] [bc 79 b0 [v0_0,v0_1,v0_2,v0_3,v0_4,v0_5,v0_6,v0_7,v0_8,v0_9,v0_10,v0_11],rd v0_2 p0_2,rd v0_3 p0_3,rd v0_5 p0_5,rd v0_6 p0_6,rd v0_10 p0_10,rd v0_11 p0_11,rd v1 p1,pt (vp ad 0) (p0_5.length:Int),bc 92 ae [af],mp af ai]) (fun(ai: (List (Int×Bool)))=>SH E V [(0,vp b0 0),(1,v1),(5,vp ad 0),(6,(.func (.func 35) #[] #[(vp ad 0)])),(7,vp ae 0)] [bc 79 b0 [v0_0,v0_1,v0_2,v0_3,v0_4,v0_5,v0_6,v0_7,v0_8,v0_9,v0_10,v0_11],rd v0_2 p0_2,rd v0_3 p0_3,rd v0_5 p0_5,rd v0_6 p0_6,rd v0_10 p0_10,rd v0_11 p0_11,rd v1 p1,pt (vp ad 0) (p0_5.length:Int),bc 92 ae [af],mp af ai]) hN ?_ ?_ ?_ ?_
 ·exact j.sp 12 [5,6,7,8,9,10,11,4,3,0,1]
 ·rintro hm ai _ w ⟨O,rfl,j⟩
  refine RC.sr (ic ((p1.length:Int)) ((p1.length:Int)) (RL.nq (RC.cX mT (RC.ex ?_))))
  exact⟨rfl,j.sp 11 [0,1,2,3,4,5,6,7,8,9,10]⟩
 ·rintro hm ba ai s' _ w hk ⟨O,rfl,j⟩ o
  refine RC.sr (ic ((ba:Int)) ((p1.length:Int)) (RL.nq (RC.cW (mS hk) (RC.ss (RC.bs ?_)))))
  obtain⟨b9,ca,o⟩:=bd o
  refine RL.cG 7 j C6 ca fun dc j=>(RL.bU 0 b9 j xy fun dd j=>(RL.alloc j FF.z fun de w j=>?_))
  refine RL.bC 0 j 1 zr xy fun w j=>?_
  refine RL.ns (RL.bF zr sI (RL.aO 0 j zr mq xo (RL.nt ?_)))
  obtain⟨bp,hj,o⟩:=bd o
  refine RC.jn (fun(bp: (List (Int×Bool)))=>SH E V [(0,vp b0 0),(1,v1),(5,vp ad 0),(6,(.func (.func 35) #[] #[(vp ad 0)])),(7,vp ae 0),(32,v1),(33,vi p1.length),(34,vi ba)] [bc 79 b0 [v0_0,v0_1,v0_2,v0_3,v0_4,v0_5,v0_6,v0_7,v0_8,v0_9,v0_10,v0_11],rd v0_2 p0_2,rd v0_3 p0_3,rd v0_5 p0_5,rd v0_6 p0_6,rd v0_10 p0_10,rd v0_11 p0_11,rd v1 p1,pt (vp ad 0) (p0_5.length:Int),bc 92 ae [af],mp af bp]) bp ?_ ?_
  ·refine fy hj (fun hc hj=>?_) fun hc hj=>?_
   rotate_left
   ·refine RC.skip ?_
    obtain rfl:=oi hj
    exact⟨rfl,j.sp 14 [3,4,5,6,7,8,9,10,11,12,13]⟩
   have j:=j.drew
   refine RC.CN (fun w=>Holds E w ([bc 92 ae [af]]++V)) mixed zr [1,0,0,0,2,2] [0,1,2,3,4,5] (j.pk 14 [12]) (DP.Gc af zr (fun w j=>RL.bA 0 af j Eg DP.d1) (DP.e0 zr (mv (.func (.func 35) #[] #[(vp ad 0)]) (cT zr (RL.bF zr uR (cT zr (RL.aR 0 j zr nH dD fun cb j=>(vF zr ?_))))))))
   obtain⟨cc,cd,hj⟩:=bd hj
   refine RL.p5 [(vp ad 0)] Io [cb] (aF (nc N (i0:=0) (i1:=12) j zr zr cd) ?_)
   rintro _ w ⟨rfl,j⟩
   refine DP.d2 (j.pk 15 [13]) (DP.e2 zr ?_)
   have j:=j.sc Bool true
   refine RL.mapUpdate 15 0 cc j zr zr zr zr zr FG fun w j=>(DP.d2 (j.pk 16 [14]) (DP.z ?_))
   obtain rfl:=oi hj
   exact⟨rfl,j.sp 16 [5,6,7,8,9,10,11,12,13,14,15]⟩
  rintro _ w ⟨O,rfl,j⟩
  refine bQ (aG (RC.region (RL.inc hk hm (mv (vi ((ba+1:Nat):Int)) (RL.nil ?_)))))
  obtain rfl:=oi o
  exact⟨rfl,j.sp 11 [0,1,2,3,4,5,6,7,8,9,10]⟩
 rintro _ w ⟨O,rfl,j⟩
 refine aG (RC.seq ?_)
 obtain⟨cf,ch,o⟩:=bd o
 refine RC.Ba E V mixed [0,1,1,1,1,0,0,1,0,0,0] [8,9,10] (fun(x:Nat×Value×Nat)=>(fun ab al aa=>[(0,46,(vi p0_5.length)),(1,47,(vp b0 0)),(2,48,(vp b0 0)),(3,49,(vp b0 0)),(4,50,(vp b0 2)),(5,51,v0_2),(6,52,(vi p0_2.length)),(7,53,(vi (IntKind.wrap .i64 ((p0_5.length:Int)+ (p0_2.length:Int))))),(8,54,(vp ab 0)),(9,10,(vp aa 0))]) x.1 x.2.1 x.2.2) [(0,vp b0 0),(1,v1),(5,vp ad 0),(6,(.func (.func 35) #[] #[(vp ad 0)])),(7,vp ae 0)] [] (fun(D:Nat->Bool) (x:Nat×Value×Nat)=>(fun ab al aa=>[bif D 0 then (bc 128 ab [al]) else aU,bif D 0 then (own 3 al cf) else aU,bif D 2 then (bc 93 aa [(vp ab 0)]) else (bif D 1 then (bc 93 aa [(.pointer none)]) else aU),bc 79 b0 [v0_0,v0_1,v0_2,v0_3,v0_4,v0_5,v0_6,v0_7,v0_8,v0_9,v0_10,v0_11],rd v0_2 p0_2,rd v0_3 p0_3,rd v0_5 p0_5,rd v0_6 p0_6,rd v0_10 p0_10,rd v0_11 p0_11,rd v1 p1,pt (vp ad 0) (p0_5.length:Int),bc 92 ae [af],mp af ai]) x.1 x.2.1 x.2.2) (fun x=>by kernel_rfl) ?_ ⟨?_,fun _=>gA gn,fun _=>qB gn,fun _=>lH gn l3,fun _=>lH gn mu,?_,?_,fun _=>FA gn rfl,?_,?_,?_,trivial⟩ ?_
 ·have j:=(((j.drew).aU).aU).aU
  exact⟨(0,undef,0),dX.none,(zZ zr),zt,j⟩
 ·rintro D U w hD av a1 ⟨⟨ab,al,aa⟩,hv,ha,_,j⟩
  obtain⟨O,rfl⟩:=(ac (ha.at 2 rfl) az).dT
  refine RL.bJ (p0_5.length:Int) 11 j cP ?_
  exact RL.nil ⟨rfl,(ab,al,aa),hv.pu 0,ha.u,zt,j⟩
 ·rintro D U w hD av a1 ⟨⟨ab,al,aa⟩,hv,ha,_,j⟩
  obtain⟨O,rfl⟩:=(ac (hv.at 4 rfl (av.1 rfl)) az).dT
  refine RL.bA 3 v0_2 j uL ?_
  exact RL.nil ⟨rfl,(ab,al,aa),hv.pu 5,ha.u,zt,j⟩
 ·rintro D U w hD av a1 ⟨⟨ab,al,aa⟩,hv,ha,_,j⟩
  obtain⟨O,rfl⟩:=(ac (hv.at 5 rfl (av.1 rfl)) az).dT
  refine RL.bK 4 p0_2 j wq ?_
  exact RL.nil ⟨rfl,(ab,al,aa),hv.pu 6,ha.u,zt,j⟩
 ·rintro D U w hD av a1 ⟨⟨ab,al,aa⟩,hv,ha,_,j⟩
  obtain⟨O,rfl⟩:=(ac (hv.at 7 rfl (av.1 rfl)) az).dT
  have j:=((j.bM 0 hD).bM 1 hD).bM 2 (nh a1 hD 10)
  refine RL.call zt zr H4 [(vi (IntKind.wrap .i64 ((p0_5.length:Int)+ (p0_2.length:Int))))] zr (aF (m8 N (p0:=(IntKind.wrap .i64 ((p0_5.length:Int)+ (p0_2.length:Int)))) j ch) ?_)
  rintro _ w ⟨b2,cj,rfl,j⟩
  have j:=(((j.pl 16 [0,1,4,5,6,7,8,9,10,11,12,13,14,15]).bS 0 true rfl aU).bS 1 true rfl aU).fw 2 (D 10) (nh a1 hD 10) (bc 93 aa [(vp b2 0)])
  exact RL.nil ⟨rfl,(b2,cj,aa),hv.pu 8,ha.u,zt,j⟩
 ·rintro D U w hD av a1 ⟨⟨ab,al,aa⟩,hv,ha,_,j⟩
  obtain⟨O,rfl⟩:=(az (U:=U)).dT
  have j:=(j.bM 2 (nh a1 hD 10)).bM 2 hD
  refine RL.nM j J8 fun b3 w j=>?_
  have j:=((j.pl 15 [1,2,0,4,5,6,7,8,9,10,11,12,13,14]).bS 2 true rfl aU).fw 2 (D 10) (nh a1 hD 10) (bc 93 b3 [(vp ab 0)])
  exact RL.nil ⟨rfl,(ab,al,b3),hv.pu 9,ha.u,zt,j⟩
 ·rintro D U w hD av a1 ⟨⟨ab,al,aa⟩,hv,ha,_,j⟩
  obtain⟨O,rfl⟩:=(ac (hv.at 8 rfl (av.2.1 rfl)) (ac (hv.at 9 rfl (av.1 rfl)) az)).dT
  have j:=((j.bR 0 (av.2.1 rfl)).bM 2 hD).bR 2 (av.1 rfl)
  refine RL.ir 2 (vp ab 0) j zr zr zr Eh fun w j=>?_
  have j:=(j.bS 0 (D 8) (av.2.1 rfl) aU).bS 2 true rfl (bif D 9 then (bc 93 aa [(.pointer none)]) else aU)
  exact RL.nil ⟨rfl,(ab,al,aa),hv.n1,ha,zt,j⟩
 rintro D U w bj ⟨⟨ab,al,aa⟩,hv,ha,_,j⟩
 have j:=((j.bR 0 (gR bj 8)).bR 1 (gR bj 8)).bR 2 (gR bj 10)
 obtain⟨O,rfl⟩:=(ac (hv.at 9 rfl (gR bj 9)) (ac (ha.at 0 rfl) (ac (ha.at 1 rfl) (ac (ha.at 2 rfl) (ac (ha.at 3 rfl) (ac (ha.at 4 rfl) az)))))).dT
 refine aG (RC.sr (RL.makeFunc [(vp ae 0),(vp aa 0)] (aM (.func (.func 37) #[] #[(vp ae 0),(vp aa 0)]) (RL.nq (RC.sr (mv (vp b0 0) (RL.nilCheck zr (RL.bF zr uO ?_))))))))
 refine RL.bA 3 v0_6 j C2 (RL.bK 7 p0_6 j Ee (mv (vi 0) (RL.nt ?_)))
 obtain⟨a6,hN,o⟩:=bd o
 refine RC.fold (fun(aw:Nat) (a6: (List Int)) U w=>∃b4:Value,SH E V [(0,vp b0 0),(1,v1),(5,vp ad 0),(6,(.func (.func 35) #[] #[(vp ad 0)])),(7,vp ae 0),(10,vp aa 0),(11,(.func (.func 37) #[] #[(vp ae 0),(vp aa 0)])),(59,v0_6),(60,vi p0_6.length),(61,vi aw)] [bc 79 b0 [v0_0,v0_1,v0_2,v0_3,v0_4,v0_5,v0_6,v0_7,v0_8,v0_9,v0_10,v0_11],rd v0_2 p0_2,rd v0_3 p0_3,rd v0_5 p0_5,rd v0_6 p0_6,rd v0_10 p0_10,rd v0_11 p0_11,rd v1 p1,pt (vp ad 0) (p0_5.length:Int),bc 92 ae [af],mp af ai,bc 93 aa [(vp ab 0)],bc 128 ab [b4],own 3 b4 a6] U w) (fun(a6: (List Int)) U w=>∃bk:Value,SH E V [(0,vp b0 0),(1,v1),(6,(.func (.func 35) #[] #[(vp ad 0)])),(7,vp ae 0),(10,vp aa 0),(11,(.func (.func 37) #[] #[(vp ae 0),(vp aa 0)]))] [bc 79 b0 [v0_0,v0_1,v0_2,v0_3,v0_4,v0_5,v0_6,v0_7,v0_8,v0_9,v0_10,v0_11],rd v0_2 p0_2,rd v0_3 p0_3,rd v0_5 p0_5,rd v0_6 p0_6,rd v0_10 p0_10,rd v0_11 p0_11,rd v1 p1,pt (vp ad 0) (p0_5.length:Int),bc 92 ae [af],mp af ai,bc 93 aa [(vp ab 0)],bc 128 ab [bk],own 3 bk a6] U w) hN ?_ ?_ ?_ ?_
 ·exact⟨al,j.sp 14 [3,4,5,6,7,8,9,10,11,12,13,2,0,1]⟩
 ·rintro hm a6 _ w ⟨ck,O,rfl,j⟩
  refine RC.sr (ic ((p0_6.length:Int)) ((p0_6.length:Int)) (RL.nq (RC.cX mT (RC.ex ?_))))
  exact⟨rfl,ck,j.sp 14 [0,1,2,3,4,5,6,7,8,9,10,11,12,13]⟩
 ·rintro hm aw a6 s' _ w hk ⟨cl,O,rfl,j⟩ o
  refine RC.sr (ic ((aw:Int)) ((p0_6.length:Int)) (RL.nq (RC.cW (mS hk) (RC.ss (RC.bs (mv (vi aw) ?_))))))
  obtain⟨a4,cm,o⟩:=bd o
  refine RL.cG 4 j yM cm fun df j=>(RL.bU 0 a4 j fx fun bb j=>(aM (vi aw) (aM bb (RL.ns (mv bb (RL.bK 0 a4 j lZ (mv (vi 0) (RL.nt ?_))))))))
  obtain⟨a7,hN,o⟩:=bd o
  refine RC.fold (fun(bl:Nat) (a7: (List Int)) U w=>∃b5:Value,SH E V [(0,vp b0 0),(1,v1),(5,vp ad 0),(6,(.func (.func 35) #[] #[(vp ad 0)])),(7,vp ae 0),(10,vp aa 0),(11,(.func (.func 37) #[] #[(vp ae 0),(vp aa 0)])),(12,vi aw),(59,v0_6),(60,vi p0_6.length),(61,vi aw),(66,bb),(67,vi a4.length),(68,vi bl)] [bc 79 b0 [v0_0,v0_1,v0_2,v0_3,v0_4,v0_5,v0_6,v0_7,v0_8,v0_9,v0_10,v0_11],rd v0_2 p0_2,rd v0_3 p0_3,rd v0_5 p0_5,rd v0_6 p0_6,rd v0_10 p0_10,rd v0_11 p0_11,rd v1 p1,pt (vp ad 0) (p0_5.length:Int),bc 92 ae [af],mp af ai,bc 93 aa [(vp ab 0)],bc 128 ab [b5],own 3 b5 a7,rd bb a4] U w) (fun(a7: (List Int)) U w=>∃bm:Value,SH E V [(0,vp b0 0),(1,v1),(5,vp ad 0),(6,(.func (.func 35) #[] #[(vp ad 0)])),(7,vp ae 0),(10,vp aa 0),(11,(.func (.func 37) #[] #[(vp ae 0),(vp aa 0)])),(59,v0_6),(60,vi p0_6.length),(61,vi aw)] [bc 79 b0 [v0_0,v0_1,v0_2,v0_3,v0_4,v0_5,v0_6,v0_7,v0_8,v0_9,v0_10,v0_11],rd v0_2 p0_2,rd v0_3 p0_3,rd v0_5 p0_5,rd v0_6 p0_6,rd v0_10 p0_10,rd v0_11 p0_11,rd v1 p1,pt (vp ad 0) (p0_5.length:Int),bc 92 ae [af],mp af ai,bc 93 aa [(vp ab 0)],bc 128 ab [bm],own 3 bm a7,rd bb a4] U w) hN ?_ ?_ ?_ ?_
  ·exact⟨cl,j.sp 16 [2,3,4,5,6,7,8,9,10,11,12,13,14,15,0]⟩
  ·rintro hm a7 _ w ⟨cn,O,rfl,j⟩
   refine RC.sr (ic ((a4.length:Int)) ((a4.length:Int)) (RL.nq (RC.cX mT (RC.ex ?_))))
   exact⟨rfl,cn,j.sp 15 [0,1,2,3,4,5,6,7,8,9,10,11,12,13,14]⟩
  ·rintro hm bl a7 s' _ w hk ⟨dg,O,rfl,j⟩ o
   refine RC.sr (ic ((bl:Int)) ((a4.length:Int)) (RL.nq (RC.cW (mS hk) (RC.ss (RC.bs ?_)))))
   obtain⟨bf,cp,o⟩:=bd o
   refine RL.cG 14 j eI cp fun dh j=>(RL.bJ bf 0 j cP (aM (vi bf) (RL.nt (RC.region (mv (.func (.func 37) #[] #[(vp ae 0),(vp aa 0)]) (mv (vi bf) (RL.bJ (p0_5.length:Int) 9 j cP (mv (vi aw) ?_))))))))
   refine RL.jo (p0_5.length:Int) (aw:Int) ?_
   have j:=((((j.pull 14).pull 14).pull 14).pull 14).pull 14
   obtain⟨di,cq,o⟩:=bd o
   refine RL.p5 [(vp ae 0),(vp aa 0)] Ip [(vi bf),(vi (IntKind.wrap .i64 ((p0_5.length:Int)+ (aw:Int))))] (aF (ng N (p0:=bf) (p1:=(IntKind.wrap .i64 ((p0_5.length:Int)+ (aw:Int)))) j cq) ?_)
   rintro _ w ⟨cr,rfl,j⟩
   refine RL.nil (bQ (aG (RC.region (RL.inc hk hm (mv (vi ((bl+1:Nat):Int)) (RL.nil ?_))))))
   obtain rfl:=oi o
   exact⟨rfl,cr,j.sp 21 [6,7,8,9,10,11,12,13,14,0,1,2,3,4,20]⟩
  rintro _ w ⟨bm,O,rfl,j⟩
  refine bQ (aG (RC.region (RL.inc hk hm (mv (vi ((aw+1:Nat):Int)) (RL.nil ?_)))))
  obtain rfl:=oi o
  exact⟨rfl,bm,j.sp 15 [0,1,2,3,4,5,6,7,8,9,10,11,12,13]⟩
 rintro _ w ⟨bk,O,rfl,j⟩
 refine aG (RC.seq (RC.sr (mv v1 (RL.bK 7 p1 j Ef (mv (vi 0) (RL.nt ?_))))))
 obtain⟨a8,hN,o⟩:=bd o
 refine RC.fold (fun(bg:Nat) (a8: (List Int)) U w=>∃b6:Value,SH E V [(0,vp b0 0),(6,(.func (.func 35) #[] #[(vp ad 0)])),(7,vp ae 0),(10,vp aa 0),(11,(.func (.func 37) #[] #[(vp ae 0),(vp aa 0)])),(80,v1),(81,vi p1.length),(82,vi bg)] [bc 79 b0 [v0_0,v0_1,v0_2,v0_3,v0_4,v0_5,v0_6,v0_7,v0_8,v0_9,v0_10,v0_11],rd v0_2 p0_2,rd v0_3 p0_3,rd v0_5 p0_5,rd v0_6 p0_6,rd v0_10 p0_10,rd v0_11 p0_11,pt (vp ad 0) (p0_5.length:Int),bc 92 ae [af],mp af ai,bc 93 aa [(vp ab 0)],bc 128 ab [b6],own 3 b6 a8,rd v1 p1] U w) (fun(a8: (List Int)) U w=>∃bn:Value,SH E V [(0,vp b0 0),(6,(.func (.func 35) #[] #[(vp ad 0)])),(7,vp ae 0),(10,vp aa 0)] [bc 79 b0 [v0_0,v0_1,v0_2,v0_3,v0_4,v0_5,v0_6,v0_7,v0_8,v0_9,v0_10,v0_11],rd v0_2 p0_2,rd v0_3 p0_3,rd v0_5 p0_5,rd v0_6 p0_6,rd v0_10 p0_10,rd v0_11 p0_11,pt (vp ad 0) (p0_5.length:Int),bc 92 ae [af],mp af ai,bc 93 aa [(vp ab 0)],bc 128 ab [bn],own 3 bn a8,rd v1 p1] U w) hN ?_ ?_ ?_ ?_
 ·exact⟨bk,j.sp 14 [0,1,2,3,4,5,6,8,9,10,11,12,13,7]⟩
 ·rintro hm a8 _ w ⟨ct,O,rfl,j⟩
  refine RC.sr (ic ((p1.length:Int)) ((p1.length:Int)) (RL.nq (RC.cX mT (RC.ex ?_))))
  exact⟨rfl,ct,j.sp 14 [0,1,2,3,4,5,6,7,8,9,10,11,12,13]⟩
 ·rintro hm bg a8 s' _ w hk ⟨cu,O,rfl,j⟩ o
  refine RC.sr (ic ((bg:Int)) ((p1.length:Int)) (RL.nq (RC.cW (mS hk) (RC.ss (RC.bs ?_)))))
  obtain⟨a9,cv,o⟩:=bd o
  refine RL.cG 13 j C6 cv fun dj j=>(RL.bU 0 a9 j xy fun dk j=>(RL.alloc j FF.z fun dm w j=>?_))
  refine RL.bC 0 j 1 zr xy fun w j=>?_
  refine RL.ns (RL.bF zr sI (RL.aO 0 j zr mq xo (RL.not a9.Open (RL.nt ?_))))
  obtain⟨bq,hj,o⟩:=bd o
  refine RC.jn (fun(bq: (List Int)) U w=>∃bo:Value,SH E V [(0,vp b0 0),(6,(.func (.func 35) #[] #[(vp ad 0)])),(7,vp ae 0),(10,vp aa 0),(11,(.func (.func 37) #[] #[(vp ae 0),(vp aa 0)])),(80,v1),(81,vi p1.length),(82,vi bg)] [bc 79 b0 [v0_0,v0_1,v0_2,v0_3,v0_4,v0_5,v0_6,v0_7,v0_8,v0_9,v0_10,v0_11],rd v0_2 p0_2,rd v0_3 p0_3,rd v0_5 p0_5,rd v0_6 p0_6,rd v0_10 p0_10,rd v0_11 p0_11,pt (vp ad 0) (p0_5.length:Int),bc 92 ae [af],mp af ai,bc 93 aa [(vp ab 0)],bc 128 ab [bo],own 3 bo bq,rd v1 p1] U w) bq ?_ ?_
  ·refine fy hj (fun hc hj=>?_) fun hc hj=>?_
   rotate_left
   ·refine RC.skip ?_
    obtain rfl:=oi hj
    exact⟨rfl,cu,j.sp 17 [3,4,5,6,7,8,9,10,11,12,13,14,15,16]⟩
   refine RC.region (mv (.func (.func 37) #[] #[(vp ae 0),(vp aa 0)]) (RL.bF zr yR (RL.aO 0 j zr rz cP (RL.bF zr yS (RL.aO 0 j zr rA cP ?_)))))
   have j:=((((j.pull 15).pull 15).pull 15).pull 15).pull 15
   obtain⟨dn,cw,hj⟩:=bd hj
   refine RL.p5 [(vp ae 0),(vp aa 0)] Ip [(vi a9.A),(vi a9.B)] (aF (ng N (p0:=a9.A) (p1:=a9.B) j cw) ?_)
   rintro _ w ⟨cx,rfl,j⟩
   refine RL.nil ?_
   obtain rfl:=oi hj
   exact⟨rfl,cx,j.sp 22 [8,9,10,11,12,13,14,15,0,1,2,3,4,21]⟩
  rintro _ w ⟨bo,O,rfl,j⟩
  refine bQ (aG (RC.region (RL.inc hk hm (mv (vi ((bg+1:Nat):Int)) (RL.nil ?_)))))
  obtain rfl:=oi o
  exact⟨rfl,bo,j.sp 14 [0,1,2,3,4,5,6,7,8,9,10,11,12,13]⟩
 rintro _ w ⟨bn,O,rfl,j⟩
 refine aG (RC.sr (RL.makeMap (κ:=Int) (ν:=Int) j fun ay w j=>(aM ay (RL.ns (mv (vp b0 0) (RL.nilCheck zr (RL.bF zr l3 (RL.bF zr uN ?_))))))))
 refine RL.bA 1 v0_3 j C0 (RL.bK 3 p0_3 j D3 ?_)
 obtain⟨dp,cy,o⟩:=bd o
 refine RL.mk (p0_3.length:Int) j tE Hg cy fun ax w j=>?_
 refine aM ax (RL.nq (RC.sr (mv (vp b0 0) (RL.nilCheck zr (RL.bF zr sH (RL.bA 2 v0_11 j Bj (RL.bK 8 p0_11 j xx (mv (vi 0) ?_))))))))
 refine RL.nt ?_
 obtain⟨ah,hN,o⟩:=bd o
 refine RC.fold (fun(an:Nat) (ah: (List Int)×(List (Int×Int))×(List Int)) U w=>∃b7:Value,SH E V [(0,vp b0 0),(6,(.func (.func 35) #[] #[(vp ad 0)])),(7,vp ae 0),(10,vp aa 0),(18,ay),(19,ax),(107,v0_11),(108,vi p0_11.length),(109,vi an)] [bc 79 b0 [v0_0,v0_1,v0_2,v0_3,v0_4,v0_5,v0_6,v0_7,v0_8,v0_9,v0_10,v0_11],rd v0_2 p0_2,rd v0_3 p0_3,rd v0_5 p0_5,rd v0_6 p0_6,rd v0_10 p0_10,rd v0_11 p0_11,pt (vp ad 0) (p0_5.length:Int),bc 92 ae [af],mp af ai,bc 93 aa [(vp ab 0)],bc 128 ab [b7],own 3 b7 ah.1,mp ay ah.2.1,own 3 ax ah.2.2] U w) (fun(ah: (List Int)×(List (Int×Int))×(List Int)) U w=>∃br:Value,SH E V [(0,vp b0 0),(19,ax)] [bc 79 b0 [v0_0,v0_1,v0_2,v0_3,v0_4,v0_5,v0_6,v0_7,v0_8,v0_9,v0_10,v0_11],rd v0_2 p0_2,rd v0_3 p0_3,rd v0_5 p0_5,rd v0_6 p0_6,rd v0_10 p0_10,rd v0_11 p0_11,pt (vp ad 0) (p0_5.length:Int),bc 92 ae [af],mp af ai,bc 93 aa [(vp ab 0)],bc 128 ab [br],own 3 br ah.1,mp ay ah.2.1,own 3 ax ah.2.2] U w) hN ?_ ?_ ?_ ?_
 ·exact⟨bn,j.sp 16 [2,3,4,5,6,7,8,9,10,11,12,13,14,1,0]⟩
 ·rintro hm ah _ w ⟨cz,O,rfl,j⟩
  refine RC.sr (ic ((p0_11.length:Int)) ((p0_11.length:Int)) (RL.nq (RC.cX mT (RC.ex ?_))))
  exact⟨rfl,cz,j.sp 15 [0,1,2,3,4,5,6,7,8,9,10,11,12,13,14]⟩
 ·rintro hm an ah s' _ w hk ⟨bt,O,rfl,j⟩ o
  refine RC.sr (ic ((an:Int)) ((p0_11.length:Int)) (RL.nq (RC.cW (mS hk) (RC.ss (RC.bs (mv (vi an) ?_))))))
  obtain⟨c0,c1,o⟩:=bd o
  refine RL.cG 6 j mw c1 fun dq j=>(RL.bU 0 c0 j dD fun dr j=>(RL.alloc j nz.z fun ds w j=>?_))
  refine aM (vi an) (RL.bC 0 j 1 zr dD fun w j=>?_)
  refine RL.ns (mv (.func (.func 35) #[] #[(vp ad 0)]) (RL.aR (f:=(fun x=>x)) 0 j zr Fd.self dD fun c2 j=>?_))
  obtain⟨ar,c3,o⟩:=bd o
  refine RL.p5 [(vp ad 0)] Io [c2] (aF (nc N (i0:=0) (i1:=11) j zr zr c3) ?_)
  rintro _ w ⟨rfl,j⟩
  refine aM (vi ar) (RL.nq (RC.seq ?_))
  obtain⟨bu,hj,o⟩:=bd o
  refine RC.jn (fun(bu:Bool)=>SH E V [(0,vp b0 0),(6,(.func (.func 35) #[] #[(vp ad 0)])),(7,vp ae 0),(10,vp aa 0),(18,ay),(19,ax),(20,vi an),(22,vi ar),(107,v0_11),(108,vi p0_11.length),(109,vi an),(129,vb bu)] [bc 79 b0 [v0_0,v0_1,v0_2,v0_3,v0_4,v0_5,v0_6,v0_7,v0_8,v0_9,v0_10,v0_11],rd v0_2 p0_2,rd v0_3 p0_3,rd v0_5 p0_5,rd v0_6 p0_6,rd v0_10 p0_10,rd v0_11 p0_11,pt (vp ad 0) (p0_5.length:Int),bc 92 ae [af],mp af ai,bc 93 aa [(vp ab 0)],bc 128 ab [bt],own 3 bt ah.1,mp ay ah.2.1,own 3 ax ah.2.2]) bu ?_ ?_
  ·refine RC.region (mv (vp b0 0) (RL.nilCheck zr (RL.bF zr uQ (RL.bA 4 v0_10 j fx (mv (vi an) ?_)))))
   obtain⟨bw,c4,hj⟩:=bd hj
   refine RL.cG 9 j eI c4 fun dt j=>(RL.bJ bw 0 j cP (ic bw 0 (mv (vb (decide (bw<0))) (gv hj (fun a2 hj=>?_) fun a2 hj=>?_))))
   ·refine cA a2 (cA a2 (cA a2 (gw a2 (vb true) (RL.nil ?_))))
    obtain rfl:=oi hj
    exact⟨rfl,j.sp 20 [5,6,7,8,9,10,11,12,13,14,15,16,17,18,19]⟩
   refine RL.bA (hg:=(cg a2)) 13 af j Eg (RL.move (vi ar) (cg a2) (RL.lP (hg:=(cg a2)) 14 ar j zr FG (gw a2 (vb (cL ai ar (false:Bool))) (RL.nil ?_))))
   obtain rfl:=oi hj
   exact⟨rfl,j.sp 20 [5,6,7,8,9,10,11,12,13,14,15,16,17,18,19]⟩
  rintro _ w ⟨O,rfl,j⟩
  refine aG (fy o (fun hc o=>?_) fun hc o=>?_)
  ·refine RC.sr (mv ax (mv (vi an) ?_))
   obtain⟨du,bx,o⟩:=bd o
   refine RL.bL 14 j zr zr eI bx ?_
   have j:=j.sc Int (-1)
   refine RL.gx (f:=(fun _ y=>y)) 15 0 j (jr 15 j bx 0) (aZ bx).2.1 zr Fs.self cP fun w j=>?_
   refine RL.nt (RC.ex (Gr (aG (RC.region (RL.inc hk hm (mv (vi ((an+1:Nat):Int)) (RL.nil ?_)))))))
   obtain rfl:=oi o
   exact⟨rfl,bt,j.sp 16 [1,2,3,4,5,6,7,8,9,10,11,12,13,14,15]⟩
  refine RC.ss (RC.sr (mv ay (RL.bA 10 (vp ab 0) j Eh (mv (vi ar) ?_))))
  have j:=(j.pull 12).pull 12
  obtain⟨a3,c5,o⟩:=bd o
  refine RL.call zt zr C3 [(vp ab 0),(vi ar)] zr (aF (fV N (p1:=ar) j c5) ?_)
  rintro _ w ⟨c6,rfl,j⟩
  refine RL.nL 15 a3.1 j zr Ac (mv (.tuple #[(vi (cL ah.2.1 a3.1 (0:Int))),(vb (dM ah.2.1 a3.1))]) (RL.extract (vi (cL ah.2.1 a3.1 (0:Int))) (RL.extract (vb (dM ah.2.1 a3.1)) (aM (vi (cL ah.2.1 a3.1 (0:Int))) (aM (vb (dM ah.2.1 a3.1)) (RL.ns (mv (vb (dM ah.2.1 a3.1)) (RL.not (dM ah.2.1 a3.1) ?_))))))))
  refine RL.nt ?_
  obtain⟨bh,hj,o⟩:=bd o
  refine RC.jn (fun(bh: (List Int)×(List (Int×Int))) U w=>∃bz:Value,SH E V [(0,vp b0 0),(6,(.func (.func 35) #[] #[(vp ad 0)])),(7,vp ae 0),(10,vp aa 0),(18,ay),(19,ax),(20,vi an),(22,vi ar),(107,v0_11),(108,vi p0_11.length),(109,vi an)] [bc 79 b0 [v0_0,v0_1,v0_2,v0_3,v0_4,v0_5,v0_6,v0_7,v0_8,v0_9,v0_10,v0_11],rd v0_2 p0_2,rd v0_3 p0_3,rd v0_5 p0_5,rd v0_6 p0_6,rd v0_10 p0_10,rd v0_11 p0_11,pt (vp ad 0) (p0_5.length:Int),bc 92 ae [af],mp af ai,bc 93 aa [(vp ab 0)],bc 128 ab [bz],own 3 bz bh.1,mp ay bh.2,own 3 ax ah.2.2] U w) bh ?_ ?_
  ·refine fy hj (fun hc hj=>?_) fun hc hj=>?_
   rotate_left
   ·refine RC.skip ?_
    obtain rfl:=oi hj
    exact⟨rfl,c6,j.sp 17 [2,3,4,5,6,7,8,9,10,11,12,0,1,15,16]⟩
   refine RC.region (mv ay (RL.bA 12 (vp ab 0) j Eh (mv (vi ar) ?_)))
   have j:=(j.pull 1).pull 1
   obtain⟨c7,c8,hj⟩:=bd hj
   refine RL.call zt zr C3 [(vp ab 0),(vi ar)] zr (aF (fV N (p1:=ar) j c8) ?_)
   rintro _ w ⟨c9,rfl,j⟩
   refine mv (vi an) ?_
   have j:=j.sc Int (an:Int)
   refine RL.mapUpdate 18 0 c7.1 j zr zr zr zr zr Ac fun w j=>(RL.nil ?_)
   obtain rfl:=oi hj
   exact⟨rfl,c9,j.sp 20 [5,6,7,8,9,10,11,12,13,14,15,1,2,18,19]⟩
  rintro _ w ⟨bz,O,rfl,j⟩
  refine aG (RC.region (mv ax (mv (vi an) (mv ay (RL.bA 10 (vp ab 0) j Eh (mv (vi ar) ?_))))))
  have j:=(j.pull 12).pull 12
  obtain⟨b8,da,o⟩:=bd o
  refine RL.call zt zr C3 [(vp ab 0),(vi ar)] zr (aF (fV N (p1:=ar) j da) ?_)
  rintro _ w ⟨db,rfl,j⟩
  refine RL.lP 15 b8.1 j zr Ac ?_
  obtain⟨dv,b1,o⟩:=bd o
  refine RL.bL 16 j zr zr eI b1 ?_
  have j:=j.sc Int (cL bh.2 b8.1 (0:Int))
  refine RL.gx (f:=(fun _ y=>y)) 17 0 j (jr 17 j b1 0) (aZ b1).2.1 zr Fs.self cP fun w j=>?_
  refine RL.nil (bQ (aG (RC.region (RL.inc hk hm (mv (vi ((an+1:Nat):Int)) (RL.nil ?_))))))
  obtain rfl:=oi o
  exact⟨rfl,db,j.sp 18 [3,4,5,6,7,8,9,10,11,12,13,1,2,16,17]⟩
 rintro _ w ⟨br,O,rfl,j⟩
 refine aG (RC.sr (mv ax (aM ax (RL.nt (RC.ret ?_)))))
 obtain rfl:=oi o
 exact cH (j.pk 15 [14,0])
def tS (E:World) (V:List HP) (res:Bool×Int) (v:Value) (w:World):Prop:=v = .tuple #[(vb res.1),(vi res.2)]/\Holds E w V
theorem nZ {p0:iW} {p1: (List fM)} {p2 p3:fX} {res:Bool×Int} (j:Holds E w V) (h0:V[i0]? =some (rd v0 p0)) (h1:V[i1]? =some (rd v1 p1)) (h2:V[i2]? =some (rd v2 p2)) (h3:V[i3]? =some (rd v3 p3)) (o:g8 N p0 p1 p2 p3=some res):
    Calls bH 7 [v0,v1,v2,v3].toArray w (gI (tS E V res)):=by
 unfold g8 at o
 refine enter Tryz.func7 zr zr ?_
 have j:=(((j.dup (i0+0) h0).dup (i1+1) h1).dup (i2+2) h2).dup (i3+3) h3
 refine RC.sr (RL.cR 3 v0 j zr fun a6 w j=>?_)
 have j:=j.gm (i:=0) rfl
 refine RL.cR 2 v2 j zr fun a7 w j=>?_
 have j:=j.gm (i:=0) rfl
 refine RL.cR 2 v3 j zr fun a8 w j=>?_
 have j:=j.gm (i:=0) rfl
 refine aM (vb false) (aM (vi 0) (RL.ns (RL.bU 2 p0 j tD fun aw j=>?_)))
 obtain⟨ab,ax,o⟩:=bd o
 refine RL.call zt zr JU [aw] zr (aF (nX N (i0:=0) j zr ax) ?_)
 rintro _ w hK51
 rcases aj:ab.1 with _ | a9
 ·replace o:=GH aj o
  obtain⟨rfl,j⟩:=DS aj hK51
  refine mv (.tuple #[(.pointer none),(vi ab.2)]) (RL.extract (.pointer none) (RL.extract (vi ab.2) (aM (.pointer none) (aM (vi ab.2) (RL.nq (RC.sr (mv (vi ab.2) (ic ab.2 0 ?_))))))))
  refine RL.nt (fy o (fun hc o=>?_) fun hc o=>?_)
  rotate_left
  ·cases o
  refine RC.sr (mv (vi ab.2) (aM (vb false) (aM (vi ab.2) (RL.nt (RC.rt ?_)))))
  obtain rfl:=oi o
  exact lM ⟨rfl,j.drop 8⟩
 replace o:=GI aj o
 obtain⟨ah,ba,bb,bc,bf,bg,bh,bj,bk,bl,bm,bn,bo,rfl,j⟩:=DT aj hK51
 refine mv (.tuple #[(vp ah 0),(vi ab.2)]) (RL.extract (vp ah 0) (RL.extract (vi ab.2) (aM (vp ah 0) (aM (vi ab.2) (RL.nq (RC.sr (mv (vi ab.2) (ic ab.2 0 ?_))))))))
 refine RL.nt (fy o (fun hc o=>?_) fun hc o=>?_)
 ·refine RC.sr (mv (vi ab.2) (aM (vb false) (aM (vi ab.2) (RL.nt (RC.rt ?_)))))
  obtain rfl:=oi o
  exact lM ⟨rfl,j.drop 21⟩
 refine RC.ss (RC.sr (mv (vp ah 0) (mv v1 ?_)))
 have j:=((((((((((((j.freeze 5).freeze 8).freeze 11).freeze 12).dup 12 rfl).dup 12 rfl).dup 12 rfl).dup 12 rfl).dup 12 rfl).dup 12 rfl).dup 12 rfl).dup 12 rfl).dup 12 rfl
 have j:=(((j.dup 12 rfl).dup 12 rfl).dup 12 rfl).pull 12
 obtain⟨ai,ay,o⟩:=bd o
 refine RL.call zt zr J6 [(vp ah 0),v1] zr (aF (r7 N (i1:=19) j zr ay) ?_)
 rintro _ w ⟨rfl,j⟩
 refine aM (vi ai) (RL.ns (mv (vi ai) (ic ai 0 (RL.nt (fy o (fun hc o=>?_) fun hc o=>?_)))))
 ·refine RC.sr (mv (vi ai) (aM (vb false) (aM (vi ai) (RL.nt (RC.rt ?_)))))
  obtain rfl:=oi o
  exact lM ⟨rfl,j.drop 22⟩
 refine RC.ss (RC.yF mixed [0,0,2,1,1,2,0,0] [0,1,3,4,2,5,6,7] ?_)
 have j:=j.drew
 refine DP.e0 zr (RL.bU 17 p0 j tD fun az j=>(cT zr (RL.bU 17 p2 j oj fun a0 j=>(DP.d0 (DP.wj p0 19 zr j tD fun a1 a56 bp j=>(DP.wj p3 19 zr j oj fun a2 a59 bq j=>(DP.e2 zr ?_)))))))
 obtain⟨ad,a3,o⟩:=bd o
 refine RL.call zt zr FE [az,a0] zr (aF (kM N (i0:=5) (i1:=4) j zr zr a3) ?_)
 rintro _ w ⟨rfl,j⟩
 refine DP.d2 (⟨⟨zt,j.kV 2⟩,j.kV 0⟩) (DP.e2 zr ?_)
 obtain⟨af,a4,o⟩:=bd o
 refine RL.call zt zr FE [a1,a2] zr (aF (kM N (i0:=3) (i1:=1) j zr zr a4) ?_)
 rintro _ w ⟨rfl,j⟩
 refine DP.d2 (⟨⟨zt,j.kV 2⟩,j.kV 0⟩) (DP.e0 zr (aM (vi ad) (cT zr (aM (vi af) (DP.d0 ?_)))))
 have j:=j.pl 28 [1,3,4,5,6,7,8,9,10,11,12,13,14,15,16,17,18,19,20,21,22,23,24,25,26,27]
 refine DP.z (aG (RC.seq (RC.sr (mv (vi ad) (ic ad 0 (mv (vb (decide (ad<0))) (RL.gs true (decide (ad<0)) (vi af) rfl rfl rfl dE (RL.gs true (decide (ad<0)) (vb (decide (af<0))) rfl rfl rfl (eG .lss .i64 af 0 rfl (fun h=>by exact(cY h:cv (true&&((decide (ad<0))==false)) (vi af)= (vi af))) (fun _=>rfl) rfl) ?_))))))))
 refine RL.pick (decide (ad<0)) (vb ((decide (ad<0))||(decide (af<0)))) (mH true zr) (RL.nt (fy o (fun hc o=>?_) fun hc o=>?_))
 ·refine RC.sr (aM (vb false) (aM (vi 9) (RL.nt (RC.rt ?_))))
  obtain rfl:=oi o
  exact lM ⟨rfl,j.drop 26⟩
 refine RC.sx (mv (vp ah 0) (mv v1 ?_))
 have j:=((((((j.dup 17 rfl).dup 17 rfl).dup 14 rfl).dup 14 rfl).dup 13 rfl).dup 13 rfl).pull 10
 obtain⟨br,a5,o⟩:=bd o
 refine RL.call zt zr J9 [(vp ah 0),v1] zr (aF (uZ N (i1:=24) j zr a5) ?_)
 rintro ak w j
 refine aM ak (RL.nq ?_)
 obtain⟨al,hj,o⟩:=bd o
 refine RC.jn (fun(al:Bool)=>SH E V [(8,vb al),(9,vi 0)] []) al ?_ ?_
 ·refine RC.vQ mixed ?_
  have j:=j.drew
  refine RO.go (mv ak (RO.nx (mv (vi ad) (RO.nx ?_))))
  obtain⟨av,an,hj⟩:=bd hj
  refine RL.bL 0 j zr zr eI an (RO.nx (RL.dS (f:=(fun x=>x)) 0 j (jr 0 j an 0) (aZ an).2.1 Fd.self cP (RO.nx (ic av 0 (RO.nx (mv (vb (decide (av>=0))) (gv hj (fun aa hj=>?_) fun aa hj=>?_)))))))
  rotate_left
  ·refine RO.nx (cA aa (RO.nx (cA aa (RO.nx (cA aa (RO.nx (cA aa (RO.nx ?_))))))))
   refine cA aa (RO.nx (cA aa (RO.nx (cA aa (RO.nx (cA aa (RO.nx (cA aa ?_))))))))
   refine RO.nx (gw aa (vb false) (RO.nx (aM (vb false) (RO.nx (aM (vi 0) (RO.last ?_))))))
   obtain rfl:=oi hj
   exact⟨rfl,j.sp 28 []⟩
  refine RO.nx (RL.move ak (cg aa) (RO.nx (RL.move (vi ad) (cg aa) (RO.nx ?_))))
  obtain⟨ao,aq,hj⟩:=bd hj
  refine RL.bL (hg:=(cg aa)) 0 j zr zr eI aq (RO.nx (RL.dS (hg:=(cg aa)) (f:=(fun x=>x)) 0 j (jr 0 j aq 0) (aZ aq).2.1 Fd.self cP (RO.nx (RL.move ak (cg aa) (RO.nx (RL.move (vi af) (cg aa) (RO.nx ?_)))))))
  obtain⟨ar,au,hj⟩:=bd hj
  refine RL.bL (hg:=(cg aa)) 0 j zr zr eI au (RO.nx (RL.dS (hg:=(cg aa)) (f:=(fun x=>x)) 0 j (jr 0 j au 0) (aZ au).2.1 Fd.self cP (RO.nx (RL.kz ao ar (cg aa) (RO.nx (gw aa (vb (ao==ar)) (RO.nx (aM (vb (ao==ar)) ?_))))))))
  refine RO.nx (aM (vi 0) (RO.last ?_))
  obtain rfl:=oi hj
  exact⟨rfl,j.sp 28 []⟩
 rintro _ w ⟨O,rfl,j⟩
 refine aG (RC.ret ?_)
 obtain rfl:=oi o
 exact lM ⟨rfl,j.drop 0⟩
def sT (E:World) (V:List HP) (r:Int) (U:Nat->Value) (w:World):Prop:=mc bH 19 Tryz.f17 (aT E V r) .ret U w
theorem r8 {p0: (List bE)} {p1:bE} (j:Holds E w V) (h0:V[i0]? =some (rd v0 p0)) (h1:V[i1]? =some (rd v1 p1)) (o:kH N p0 p1=some res):
    Calls bH 17 [v0,v1].toArray w (gI (aT E V res)):=by
 unfold kH at o
 refine enter Tryz.func17 zr zr ?_
 have j:=(j.dup (i0+0) h0).dup (i1+1) h1
 refine RC.sr (RL.cR 0 v1 j zr fun ad w j=>?_)
 refine aM (vi 0) (RL.nq (RC.sr (mv v0 (RL.bK 2 p0 j xx (mv (vi 0) (RL.nt ?_))))))
 obtain⟨al,hN,o⟩:=bd o
 refine RC.range (fun(aa:Nat) (ab:Unit)=>SH E V [(0,v0),(3,vp ad 0),(7,vi p0.length),(8,vi aa)] [rd v0 p0,bx 38 ad p1]) (fun(ab:Unit)=>SH E V [] [rd v0 p0,bx 38 ad p1]) (sT E V) hN ?_ ?_ ?_ ?_ ?_
 ·exact j.sp 3 [2,0]
 ·rintro hm ab _ w ⟨O,rfl,j⟩
  refine RC.sr (ic ((p0.length:Int)) ((p0.length:Int)) (RL.nq (RC.cX mT (RC.ex ?_))))
  exact⟨rfl,j.sp 2 [0,1]⟩
 ·rintro hm aa ab fl _ w hk ⟨O,rfl,j⟩ o
  refine RC.sr (ic ((aa:Int)) ((p0.length:Int)) (RL.nq (RC.cW (mS hk) (RC.ss (RC.bs (mv (vi aa) (aM (vi aa) (RL.nq ?_))))))))
  refine RC.vQ mixed ?_
  have j:=j.drew
  refine RO.go (RL.aR (f:=(fun x=>x)) 1 j zr Fd.self dD fun ao j=>(RO.nx (mv v0 (RO.nx (mv (vi aa) (RO.nx ?_))))))
  obtain⟨ag,ai,o⟩:=bd o
  refine RL.cG 1 j mw ai fun aq j=>(RO.nx (RL.bU 0 ag j dD fun ar j=>(RO.nx (RL.seq 2 0 p1 ag zt zr j zr zr zr zr wv zr (RO.last (aG (fy o (fun hc o=>?_) fun hc o=>?_)))))))
  rotate_left
  ·refine RC.skip (bQ (aG (RC.region (RL.inc hk hm (mv (vi ((aa+1:Nat):Int)) (RL.nil ?_))))))
   obtain rfl:=oi o
   exact⟨rfl,j.sp 5 [3,4]⟩
  refine RC.sr (mv (vi aa) (aM (vi aa) (RL.nt (RC.rb (cF ?_)))))
  obtain rfl:=oi o
  exact⟨rfl,cH ⟨rfl,j.drop 5⟩⟩
 ·intro r U w e hK
  subst e
  refine cF ?_
  obtain rfl:=oi o
  exact hK
 rintro ab _ w rfl ⟨O,rfl,j⟩
 rw [Fo.fW] at o
 refine aG (RC.sr (aM (vi (-1)) (RL.nt (RC.ret ?_))))
 obtain rfl:=oi o
 exact cH ⟨rfl,j.drop 2⟩
theorem pS {p0: (List bE)} {p1:bE} {res:Bool} (j:Holds E w V) (h0:V[i0]? =some (rd v0 p0)) (h1:V[i1]? =some (rd v1 p1)) (o:gq N p0 p1=some res):
    Calls bH 8 [v0,v1].toArray w (gI (bB E V res)):=by
 unfold gq at o
 refine enter Tryz.func8 zr zr ?_
 have j:=(j.dup (i0+0) h0).dup (i1+1) h1
 refine RC.sr (RL.cR 0 v1 j zr fun ae w j=>?_)
 refine aM (vb false) (RL.ns (mv v0 (RL.aR (f:=(fun x=>x)) 0 j zr Fd.self dD fun ab j=>?_)))
 obtain⟨aa,ad,o⟩:=bd o
 refine RL.call zt zr Ka [v0,ab] zr (aF (r8 N (i0:=3) (i1:=0) j zr zr ad) ?_)
 rintro _ w ⟨rfl,j⟩
 refine ic aa 0 (aM (vb (decide (aa>=0))) (RL.nt (RC.ret ?_)))
 obtain rfl:=oi o
 exact cH ⟨rfl,j.drop 4⟩
end Go.Gk
namespace Go.Gk
open Go Go.Proofs
variable (N:Nat) {E w:World} {i0 i1 i2:Nat} {v0 v1 v2:Value} {V:List HP}
def kN (E:World) (V:List HP) (r:Bool) (U:Nat->Value) (w:World):Prop:=mc bH 86 Tryz.f3 (bB E V r) .ret U w
theorem ko {p0:iW} {p1 p2:fX} {res:Bool} (j:Holds E w V) (h0:V[i0]? =some (rd v0 p0)) (h1:V[i1]? =some (rd v1 p1)) (h2:V[i2]? =some (rd v2 p2)) (o:cO N p0 p1 p2=some res):
    Calls bH 3 [v0,v1,v2].toArray w (gI (bB E V res)):=by
 unfold cO at o
 refine enter Tryz.func3 zr zr ?_
 have j:=((j.dup (i0+0) h0).dup (i1+1) h1).dup (i2+2) h2
 refine RC.sr (RL.cR 2 v0 j zr fun ah w j=>?_)
 refine RL.cR 2 v1 j zr fun ai w j=>?_
 refine RL.cR 2 v2 j zr fun aj w j=>?_
 refine aM (vb false) (RL.ns (RL.aR (f:=(fun x=>x)) 2 j zr Fd.self tD fun a7 j=>(RL.aR (f:=(fun x=>x)) 2 j zr Fd.self oj fun a8 j=>(RL.aR (f:=(fun x=>x)) 2 j zr Fd.self oj fun a9 j=>?_))))
 obtain⟨aa,ba,o⟩:=bd o
 refine RL.call zt zr KB [a7,a8,a9] zr (aF (xA N (i0:=2) (i1:=1) (i2:=0) j zr zr zr ba) ?_)
 rintro _ w ⟨ag,rfl,j⟩
 refine mv (.tuple #[ag,(vb aa.2.1),(vi aa.2.2)]) (RL.extract ag (RL.extract (vb aa.2.1) (RL.extract (vi aa.2.2) (aM ag (aM (vb aa.2.1) (aM (vi aa.2.2) (RL.nq (RC.sr ?_))))))))
 refine mv (vi aa.2.2) (ic aa.2.2 0 (mv (vb (aa.2.2 != 0)) (RL.gs true (aa.2.2 != 0) (vb aa.2.1) rfl rfl rfl dE (RL.gs true (aa.2.2 != 0) (vb (!aa.2.1)) rfl rfl rfl (yn aa.2.1 rfl (fun h=>by exact(cY h:cv (true&&((aa.2.2 != 0)==false)) (vb aa.2.1)= (vb aa.2.1)))) (RL.pick (aa.2.2 != 0) (vb ((aa.2.2 != 0)||(!aa.2.1))) (mH true rfl) (RL.nt (fy o (fun hc o=>?_) fun hc o=>?_)))))))
 ·refine RC.seq ?_
  obtain⟨aw,hj,o⟩:=bd o
  refine RC.jn (fun(aw:Bool)=>SH E V [(6,vb aw)] []) aw ?_ ?_
  ·refine RC.region (mv ag (RL.eK 0 aa.1 j xx (ic ((aa.1.length:Int)) 0 (mv (vb ((aa.1.length:Int)==0)) (gv hj (fun an hj=>?_) fun an hj=>?_)))))
   rotate_left
   ·refine cA an (gw an (vb false) (aM (vb false) (RL.nil ?_)))
    obtain rfl:=oi hj
    exact⟨rfl,j.sp 10 []⟩
   obtain⟨a0,bb,hj⟩:=bd hj
   refine RL.call (cg an) zr Kq [] zr (aF (mi N j bb) ?_)
   rintro _ w ⟨rfl,j⟩
   refine gw an (vb a0) (aM (vb a0) (RL.nil ?_))
   obtain rfl:=oi hj
   exact⟨rfl,j.sp 10 []⟩
  rintro _ w ⟨O,rfl,j⟩
  refine aG (RC.rt ?_)
  obtain rfl:=oi o
  exact cH ⟨rfl,j.drop 0⟩
 refine RC.sx (RL.aR (f:=(fun x=>x)) 6 j zr Fd.self tD fun bc j=>(RL.aR (f:=(fun x=>x)) 6 j zr Fd.self oj fun bf j=>(RL.aR (f:=(fun x=>x)) 6 j zr Fd.self oj fun bg j=>?_)))
 obtain⟨ao,bh,o⟩:=bd o
 refine RL.call zt zr KC [bc,bf,bg] zr (aF (tR N (i0:=2) (i1:=1) (i2:=0) j zr zr zr bh) ?_)
 rintro _ w ⟨av,rfl,j⟩
 refine mv (.tuple #[av,(vi ao.2)]) (RL.extract av (RL.extract (vi ao.2) (aM av (aM (vi ao.2) (RL.nq (RC.sr (mv (vi ao.2) (ic ao.2 0 ?_))))))))
 refine RL.nt (fy o (fun hc o=>?_) fun hc o=>?_)
 ·refine RC.sr (aM (vb false) (RL.nt (RC.rt ?_)))
  obtain rfl:=oi o
  exact cH ⟨rfl,j.drop 14⟩
 refine RC.ss (RC.sr (mv ag (RL.eK 4 aa.1 j xx (mv (vi 0) (RL.nt ?_)))))
 obtain⟨b3,hN,o⟩:=bd o
 refine RC.range (fun(aq:Nat) (ak: (List bE)) U w=>∃a1:Value,SH E V [(3,vp ah 0),(4,vp ai 0),(5,vp aj 0),(10,a1),(45,ag),(46,vi aa.1.length),(47,vi aq)] [bx 27 ah p0,bx 29 ai p1,bx 29 aj p2,own 38 ag aa.1,rd a1 ak] U w) (fun(ak: (List bE))=>SH E V [(3,vp ah 0),(4,vp ai 0),(5,vp aj 0)] [bx 27 ah p0,bx 29 ai p1,bx 29 aj p2,own 38 ag aa.1]) (kN E V) hN ?_ ?_ ?_ ?_ ?_
 ·have j:=j.freeze 0
  exact⟨av,j.sp 14 [10,9,8,4,0]⟩
 ·rintro hm ak _ w ⟨b4,O,rfl,j⟩
  refine RC.sr (ic ((aa.1.length:Int)) ((aa.1.length:Int)) (RL.nq (RC.cX mT (RC.ex ?_))))
  exact⟨rfl,j.sp 5 [0,1,2,3]⟩
 ·rintro hm aq ak fl _ w hk ⟨ar,O,rfl,j⟩ o
  refine RC.sr (ic ((aq:Int)) ((aa.1.length:Int)) (RL.nq (RC.cW (mS hk) (RC.ss (RC.bs ?_)))))
  obtain⟨a4,ax,o⟩:=bd o
  refine RL.bL 3 j zr zr mw ax (RL.gJ (f:=(fun x=>x)) 3 j (jr 3 j ax 0) (aZ ax).2.1 Fd.self dD fun b6 j=>?_)
  refine RL.alloc j nz.z fun b7 w j=>?_
  refine RL.bC 0 j 1 zr dD fun w j=>?_
  refine RL.ns (RL.aR (f:=(fun x=>x)) 2 j zr Fd.self tD fun bk j=>(RL.aR (f:=(fun x=>x)) 1 j zr Fd.self dD fun bl j=>?_))
  have j:=j.sc Bool true
  refine RL.build (⟨true,a4,0,0⟩:fM) trivial rfl j [(0,vb true),(1,bl)] rfl J3 rfl (fun M hs g=>by have h:=GO M;exact dO.cons (f:=fun(x:fM) y=>{x with Open:=y}) h CR (g.sat 0 _ rfl).1 fun _ h=>dO.cons (f:=fun(x:fM) y=>{x with bE:=y}) h CS (g.sat 1 _ rfl).1 fun _ h=>dO.nil h) fun bm j=>?_
  refine RL.eH ([(⟨true,a4,0,0⟩:fM)]: (List fM)) j [bm] C6 FF (fun M hs g=>⟨(g.sat 0 _ zr).1,zt⟩) fun bn w j=>(RL.aR (f:=(fun x=>x)) 8 j zr Fd.self oj fun bo j=>(RL.aR (f:=(fun x=>x)) 10 j zr Fd.self oj fun bp j=>?_))
  have j:=j.freeze 2
  obtain⟨af,bq,o⟩:=bd o
  refine RL.call zt zr Kr [bk,bn,bo,bp] zr (aF (nZ N (i0:=6) (i1:=2) (i2:=1) (i3:=0) j zr zr zr zr bq) ?_)
  rintro _ w ⟨rfl,j⟩
  refine mv (.tuple #[(vb af.1),(vi af.2)]) (RL.extract (vb af.1) (RL.extract (vi af.2) (aM (vb af.1) (aM (vi af.2) (RL.nq ?_)))))
  obtain⟨ay,hj,o⟩:=bd o
  refine RC.jn (fun(ay:Bool)=>SH E V [(3,vp ah 0),(4,vp ai 0),(5,vp aj 0),(10,ar),(45,ag),(46,vi aa.1.length),(47,vi aq),(69,vb ay)] [bx 27 ah p0,bx 29 ai p1,bx 29 aj p2,rd ar ak,own 38 ag aa.1]) ay ?_ ?_
  ·refine RC.region (mv (vi af.2) (ic af.2 0 (mv (vb (af.2 != 0)) (gv hj (fun ae hj=>?_) fun ae hj=>?_))))
   ·refine cA ae (cA ae (cA ae (cA ae (cA ae (gw ae (vb true) (RL.nil ?_))))))
    obtain rfl:=oi hj
    exact⟨rfl,j.sp 14 [9,10,11,13,12]⟩
   refine RL.move (vb af.1) (cg ae) (RL.move ar (cg ae) (RL.aR (hg:=(cg ae)) (f:=(fun x=>x)) 7 j zr Fd.self dD fun br j=>?_))
   obtain⟨a5,bt,hj⟩:=bd hj
   refine RL.call (cg ae) zr KD [ar,br] zr (aF (pS N (i0:=14) (i1:=0) j zr zr bt) ?_)
   rintro _ w ⟨rfl,j⟩
   refine RL.Fq (a:=af.1) (b:=a5) (cg ae) zr zr zr Hh (gw ae (vb (af.1==a5)) (RL.nil ?_))
   obtain rfl:=oi hj
   exact⟨rfl,j.sp 15 [10,11,12,14,13]⟩
  rintro _ w ⟨O,rfl,j⟩
  refine aG (fy o (fun hc o=>?_) fun hc o=>?_)
  rotate_left
  ·refine RC.skip (bQ (aG (RC.region (RL.inc hk hm (mv (vi ((aq+1:Nat):Int)) (RL.nil ?_))))))
   obtain rfl:=oi o
   exact⟨rfl,ar,j.sp 5 [0,1,2,4,3]⟩
  refine RC.sr (aM (vb false) (RL.nt (RC.rb (cF ?_))))
  obtain rfl:=oi o
  exact⟨rfl,cH ⟨rfl,j.drop 5⟩⟩
 ·intro r U w e hK
  subst e
  refine cF ?_
  obtain rfl:=oi o
  exact hK
 rintro ak _ w rfl ⟨O,rfl,j⟩
 rw [Fo.fW] at o
 refine aG (RC.sr (RL.aR (f:=(fun x=>x)) 0 j zr Fd.self tD fun bw j=>(RL.aR (f:=(fun x=>x)) 2 j zr Fd.self oj fun bz j=>(RL.aR (f:=(fun x=>x)) 4 j zr Fd.self oj fun b0 j=>?_))))
 have j:=j.A2 fM
 obtain⟨ad,b1,o⟩:=bd o
 refine RL.call zt zr Kr [bw,(.slice none 0 0),bz,b0] zr (aF (nZ N (i0:=3) (i1:=0) (i2:=2) (i3:=1) j zr zr zr zr b1) ?_)
 rintro _ w ⟨rfl,j⟩
 refine mv (.tuple #[(vb ad.1),(vi ad.2)]) (RL.extract (vb ad.1) (RL.extract (vi ad.2) (aM (vb ad.1) (aM (vi ad.2) (RL.nq ?_)))))
 obtain⟨az,hj,o⟩:=bd o
 refine RC.jn (fun(az:Bool)=>SH E V [(6,vb az)] []) az ?_ ?_
 ·refine RC.region (mv (vi ad.2) (ic ad.2 0 (mv (vb (ad.2==0)) (RL.gs true (ad.2==0) (vb ad.1) zr zr zr dE (RL.pick (ad.2==0) (vb ((ad.2==0)&&ad.1)) (iX true) (mv (vb ((ad.2==0)&&ad.1)) (gv hj (fun au hj=>?_) fun au hj=>?_)))))))
  rotate_left
  ·refine cA au (gw au (vb false) (aM (vb false) (RL.nil ?_)))
   obtain rfl:=oi hj
   exact⟨rfl,j.sp 8 []⟩
  obtain⟨a6,b2,hj⟩:=bd hj
  refine RL.call (cg au) zr Kq [] zr (aF (mi N j b2) ?_)
  rintro _ w ⟨rfl,j⟩
  refine gw au (vb a6) (aM (vb a6) (RL.nil ?_))
  obtain rfl:=oi hj
  exact⟨rfl,j.sp 8 []⟩
 rintro _ w ⟨O,rfl,j⟩
 refine aG (RC.ret ?_)
 obtain rfl:=oi o
 exact cH ⟨rfl,j.drop 0⟩
end Go.Gk
