/-
  Printed texts: Go functions as plain functions, and that they are. No statement of the seed is proved here.
-/
import Derived.Test.YtjocleflknekmaaGreatDoorG1
import Derived.Test.YtjocleflknekmaaGreatDoorA2
set_option linter.unusedVariables false
set_option linter.unusedSimpArgs false
set_option linter.unusedSectionVars false
set_option maxRecDepth 100000
set_option maxHeartbeats 40000000
namespace Go.Gk
open Go Go.Proofs
variable (N:Nat) {E w:World} {i0 i1:Nat} {p0 p1 p2 p3 res:Int} {v0 v1:Value} {V:List HP}
theorem gH {p0:bW} {res:aI} (j:Holds E w V) (h0:V[i0]? =some (rd v0 p0)) (o:eV N p0=some res):
    Calls bH 22 [v0].toArray w (gI (oD E V res)):=by
 unfold eV at o
 refine enter Tryz.func22 zr zr ?_
 have j:=j.dup (i0+0) h0
 refine RC.sr (RL.cR 0 v0 j zr fun aa w j=>?_)
 refine RL.alloc j oq.z fun ab w j=>?_
 refine RL.nq (RC.vQ mixed ?_)
 have j:=j.drew
 refine RO.go (RL.bF zr Bf (RO.nx (RL.bF zr yJ (RO.nx (RL.aO (f:=(fun x=>x.At.X)) 1 j zr (Fd.comp (f:=fun(x:bW)=>x.At) (fun(x:j6)=>x.X) uH pL) cP (RO.nx (RL.bF zr wt (RO.nx ?_))))))))
 refine RL.aO 1 j zr o4 cP (RO.nx (RL.quo p0.eW 2 zr zr zr zr (RO.nx (RL.jo p0.At.X (IntKind.wrap .i64 (Int.tdiv p0.eW 2)) (RO.nx (RL.bF zr Bf (RO.nx (RL.bF zr yK ?_))))))))
 refine RO.nx (RL.aO (f:=(fun x=>x.At.Y)) 1 j zr (Fd.comp (f:=fun(x:bW)=>x.At) (fun(x:j6)=>x.Y) uH pM) cP (RO.nx (RL.bF zr wt (RO.nx (RL.aO 1 j zr o4 cP (RO.nx (RL.quo p0.eW 2 zr zr zr zr (RO.nx ?_))))))))
 refine RL.jo p0.At.Y (IntKind.wrap .i64 (Int.tdiv p0.eW 2)) (RO.nx (aM (vi (IntKind.wrap .i64 (p0.At.X - (IntKind.wrap .i64 (Int.tdiv p0.eW 2))))) (RO.nx (aM (vi (IntKind.wrap .i64 (p0.At.Y - (IntKind.wrap .i64 (Int.tdiv p0.eW 2))))) (RO.last (aG (RC.sr (mv (vi (IntKind.wrap .i64 (p0.At.X - (IntKind.wrap .i64 (Int.tdiv p0.eW 2))))) ?_))))))))
 refine mv (vi (IntKind.wrap .i64 (p0.At.Y - (IntKind.wrap .i64 (Int.tdiv p0.eW 2))))) (mv (vi (IntKind.wrap .i64 (p0.At.X - (IntKind.wrap .i64 (Int.tdiv p0.eW 2))))) (RL.bF zr wt (RL.aO 1 j zr o4 cP (RL.jo (IntKind.wrap .i64 (p0.At.X - (IntKind.wrap .i64 (Int.tdiv p0.eW 2)))) p0.eW (mv (vi (IntKind.wrap .i64 (p0.At.Y - (IntKind.wrap .i64 (Int.tdiv p0.eW 2))))) (RL.bF zr wt (RL.aO 1 j zr o4 cP (RL.jo (IntKind.wrap .i64 (p0.At.Y - (IntKind.wrap .i64 (Int.tdiv p0.eW 2)))) p0.eW ?_))))))))
 have j:=((j.sc Int (IntKind.wrap .i64 (p0.At.X - (IntKind.wrap .i64 (Int.tdiv p0.eW 2))))).sc Int (IntKind.wrap .i64 (p0.At.Y - (IntKind.wrap .i64 (Int.tdiv p0.eW 2))))).sc Int (IntKind.wrap .i64 ((IntKind.wrap .i64 (p0.At.X - (IntKind.wrap .i64 (Int.tdiv p0.eW 2))))+p0.eW))
 have j:=j.sc Int (IntKind.wrap .i64 ((IntKind.wrap .i64 (p0.At.Y - (IntKind.wrap .i64 (Int.tdiv p0.eW 2))))+p0.eW))
 refine RL.build (⟨(IntKind.wrap .i64 (p0.At.X - (IntKind.wrap .i64 (Int.tdiv p0.eW 2)))),(IntKind.wrap .i64 (p0.At.Y - (IntKind.wrap .i64 (Int.tdiv p0.eW 2)))),(IntKind.wrap .i64 ((IntKind.wrap .i64 (p0.At.X - (IntKind.wrap .i64 (Int.tdiv p0.eW 2))))+p0.eW)),(IntKind.wrap .i64 ((IntKind.wrap .i64 (p0.At.Y - (IntKind.wrap .i64 (Int.tdiv p0.eW 2))))+p0.eW))⟩:aI) trivial rfl j [(0,(vi (IntKind.wrap .i64 (p0.At.X - (IntKind.wrap .i64 (Int.tdiv p0.eW 2)))))),(1,(vi (IntKind.wrap .i64 (p0.At.Y - (IntKind.wrap .i64 (Int.tdiv p0.eW 2)))))),(2,(vi (IntKind.wrap .i64 ((IntKind.wrap .i64 (p0.At.X - (IntKind.wrap .i64 (Int.tdiv p0.eW 2))))+p0.eW)))),(3,(vi (IntKind.wrap .i64 ((IntKind.wrap .i64 (p0.At.Y - (IntKind.wrap .i64 (Int.tdiv p0.eW 2))))+p0.eW))))] rfl CX rfl (fun M hs g=>by have h:=sF M;exact dO.cons (f:=fun(x:aI) y=>{x with X0:=y}) h rq (g.sat 3 _ rfl).1 fun _ h=>dO.cons (f:=fun(x:aI) y=>{x with Y0:=y}) h uF (g.sat 2 _ rfl).1 fun _ h=>dO.cons (f:=fun(x:aI) y=>{x with X1:=y}) h oZ (g.sat 1 _ rfl).1 fun _ h=>dO.cons (f:=fun(x:aI) y=>{x with Y1:=y}) h ru (g.sat 0 _ rfl).1 fun _ h=>dO.nil h) fun ad j=>?_
 refine RL.bC 5 j 0 zr iC fun w j=>?_
 refine RL.nt (RC.ret ?_)
 obtain rfl:=oi o
 exact Gw 5 zr j zr zr iC fun ae j=>(j.pk 9 [0])
theorem rS {p0: (List aA)} {res:aI} (j:Holds E w V) (h0:V[i0]? =some (rd v0 p0)) (hb:kD N p0=some res):
    Calls bH 92 [v0].toArray w (gI (oD E V res)):=by
 unfold kD at hb
 refine enter Tryz.func92 zr zr ?_
 have j:=j.dup (i0+0) h0
 refine RC.sr (RL.alloc j oq.z fun bf w j=>?_)
 refine RL.nq ?_
 obtain⟨bj,bo,hb⟩:=bd hb
 obtain⟨bb,bp,hb⟩:=bd hb
 obtain⟨a8,bq,hb⟩:=bd hb
 obtain⟨bk,br,hb⟩:=bd hb
 obtain⟨bc,bt,hb⟩:=bd hb
 obtain⟨a9,bu,hb⟩:=bd hb
 refine RC.Ba E V mixed [1,0,0,0,0,0,1,0,0,0,1,0,0,0,0,0,1,1,0,1,0,0,0,0,0,0] [1,2,3,4,7,8,11,12,13,14,20,21,23,24,25] (fun(x:Value×Value×Value×Value×Value×Value×Value×Value×Value×Value×Value×Value×Value×Nat)=>(fun ah ai aj ak al an ao aq ar au av aw ax ae=>[(0,6,v0),(1,7,ah),(2,8,ai),(3,9,aj),(4,10,ak),(5,11,(vi bb)),(6,12,v0),(7,13,al),(8,14,an),(9,15,(vi a8.Y0)),(10,16,v0),(11,17,ao),(12,18,aq),(13,19,ar),(14,20,au),(15,21,(vi bc)),(16,22,v0),(17,23,v0),(18,24,(vi p0.length)),(19,25,(vi (IntKind.wrap .i64 ((p0.length:Int) - 1)))),(20,26,av),(21,27,aw),(22,28,(vi a9.Y1)),(23,29,ax),(24,3,(vp ae 0))]) x.1 x.2.1 x.2.2.1 x.2.2.2.1 x.2.2.2.2.1 x.2.2.2.2.2.1 x.2.2.2.2.2.2.1 x.2.2.2.2.2.2.2.1 x.2.2.2.2.2.2.2.2.1 x.2.2.2.2.2.2.2.2.2.1 x.2.2.2.2.2.2.2.2.2.2.1 x.2.2.2.2.2.2.2.2.2.2.2.1 x.2.2.2.2.2.2.2.2.2.2.2.2.1 x.2.2.2.2.2.2.2.2.2.2.2.2.2) [(0,v0),(2,vp bf 0)] [] (fun(D:Nat->Bool) (x:Value×Value×Value×Value×Value×Value×Value×Value×Value×Value×Value×Value×Value×Nat)=>(fun ah ai aj ak al an ao aq ar au av aw ax ae=>[bif D 0 then (pt ah bj) else aU,bif D 1 then (pt ai bj.Xs) else aU,bif D 2 then (rd aj bj.Xs) else aU,bif D 3 then (pt ak bb) else aU,bif D 4 then (pt al a8) else aU,bif D 5 then (pt an a8.Y0) else aU,bif D 6 then (pt ao bk) else aU,bif D 7 then (pt aq bk.Xs) else aU,bif D 8 then (rd ar bk.Xs) else aU,bif D 9 then (pt au bc) else aU,bif D 10 then (pt av a9) else aU,bif D 11 then (pt aw a9.Y1) else aU,bif D 12 then (rd ax (⟨bb,a8.Y0,bc,a9.Y1⟩:aI)) else aU,bif D 14 then (bx 56 ae (⟨bb,a8.Y0,bc,a9.Y1⟩:aI)) else (bif D 13 then (raw 56 ae 4) else aU),raw 56 bf 4,rd v0 p0]) x.1 x.2.1 x.2.2.1 x.2.2.2.1 x.2.2.2.2.1 x.2.2.2.2.2.1 x.2.2.2.2.2.2.1 x.2.2.2.2.2.2.2.1 x.2.2.2.2.2.2.2.2.1 x.2.2.2.2.2.2.2.2.2.1 x.2.2.2.2.2.2.2.2.2.2.1 x.2.2.2.2.2.2.2.2.2.2.2.1 x.2.2.2.2.2.2.2.2.2.2.2.2.1 x.2.2.2.2.2.2.2.2.2.2.2.2.2) (fun x=>by kernel_rfl) ?_ ⟨fun _=>gA gn,?_,?_,?_,?_,?_,fun _=>gA gn,?_,?_,?_,fun _=>gA gn,?_,?_,?_,?_,?_,fun _=>gA gn,fun _=>gA gn,?_,fun _=>FA gn rfl,?_,?_,?_,?_,?_,?_,trivial⟩ ?_
 ·have j:=((((((((((((j.drew).aU).aU).aU).aU).aU).aU).aU).aU).aU).aU).aU).aU
  have j:=(j.aU).aU
  exact⟨(undef,undef,undef,undef,undef,undef,undef,undef,undef,undef,undef,undef,undef,0),dX.none,(zZ zr),zt,j⟩
 ·rintro D U w hD o ag ⟨⟨ah,ai,aj,ak,al,an,ao,aq,ar,au,av,aw,ax,ae⟩,hv,ha,_,j⟩
  obtain⟨O,rfl⟩:=(ac (hv.at 0 rfl (o.1 rfl)) az).dT
  have j:=j.bM 0 hD
  refine RL.cG 15 j jK bo fun bw j=>?_
  have j:=(j.pl 17 [0,2,3,4,5,6,7,8,9,10,11,12,13,14,15,16]).bS 0 true rfl aU
  exact RL.nil ⟨rfl,(bw,ai,aj,ak,al,an,ao,aq,ar,au,av,aw,ax,ae),hv.pu 1,ha.u,zt,j⟩
 ·rintro D U w hD o ag ⟨⟨ah,ai,aj,ak,al,an,ao,aq,ar,au,av,aw,ax,ae⟩,hv,ha,_,j⟩
  obtain⟨O,rfl⟩:=(ac (hv.at 1 rfl (o.1 rfl)) az).dT
  have j:=(j.bR 0 (o.1 rfl)).bM 1 hD
  refine RL.i7 0 j zr j7 dB fun bz j=>?_
  have j:=((j.pl 17 [1,0,3,4,5,6,7,8,9,10,11,12,13,14,15,16]).bS 0 (D 1) (o.1 rfl) aU).bS 1 true rfl aU
  exact RL.nil ⟨rfl,(ah,bz,aj,ak,al,an,ao,aq,ar,au,av,aw,ax,ae),hv.pu 2,ha.u,zt,j⟩
 ·rintro D U w hD o ag ⟨⟨ah,ai,aj,ak,al,an,ao,aq,ar,au,av,aw,ax,ae⟩,hv,ha,_,j⟩
  obtain⟨O,rfl⟩:=(ac (hv.at 2 rfl (o.1 rfl)) az).dT
  have j:=(j.bR 1 (o.1 rfl)).bM 2 hD
  refine RL.bU 1 bj.Xs j fx fun b0 j=>?_
  have j:=((j.pl 17 [1,2,0,4,5,6,7,8,9,10,11,12,13,14,15,16]).bS 1 (D 2) (o.1 rfl) aU).bS 2 true rfl aU
  exact RL.nil ⟨rfl,(ah,ai,b0,ak,al,an,ao,aq,ar,au,av,aw,ax,ae),hv.pu 3,ha.u,zt,j⟩
 ·rintro D U w hD o ag ⟨⟨ah,ai,aj,ak,al,an,ao,aq,ar,au,av,aw,ax,ae⟩,hv,ha,_,j⟩
  obtain⟨O,rfl⟩:=(ac (hv.at 3 rfl (o.1 rfl)) az).dT
  have j:=(j.bR 2 (o.1 rfl)).bM 3 hD
  refine RL.cG 2 j eI bp fun b1 j=>?_
  have j:=((j.pl 17 [1,2,3,0,5,6,7,8,9,10,11,12,13,14,15,16]).bS 2 (D 3) (o.1 rfl) aU).bS 3 true rfl aU
  exact RL.nil ⟨rfl,(ah,ai,aj,b1,al,an,ao,aq,ar,au,av,aw,ax,ae),hv.pu 4,ha.u,zt,j⟩
 ·rintro D U w hD o ag ⟨⟨ah,ai,aj,ak,al,an,ao,aq,ar,au,av,aw,ax,ae⟩,hv,ha,_,j⟩
  obtain⟨O,rfl⟩:=(ac (hv.at 4 rfl (o.1 rfl)) az).dT
  have j:=j.bR 3 (o.1 rfl)
  refine RL.bJ bb 3 j cP ?_
  have j:=j.bS 3 (D 4) (o.1 rfl) aU
  exact RL.nil ⟨rfl,(ah,ai,aj,ak,al,an,ao,aq,ar,au,av,aw,ax,ae),hv.pu 5,ha.u,zt,j⟩
 ·rintro D U w hD o ag ⟨⟨ah,ai,aj,ak,al,an,ao,aq,ar,au,av,aw,ax,ae⟩,hv,ha,_,j⟩
  obtain⟨O,rfl⟩:=(ac (hv.at 6 rfl (o.1 rfl)) az).dT
  have j:=j.bM 4 hD
  refine RL.cG 15 j jK bq fun b2 j=>?_
  have j:=(j.pl 17 [1,2,3,4,0,6,7,8,9,10,11,12,13,14,15,16]).bS 4 true rfl aU
  exact RL.nil ⟨rfl,(ah,ai,aj,ak,b2,an,ao,aq,ar,au,av,aw,ax,ae),hv.pu 7,ha.u,zt,j⟩
 ·rintro D U w hD o ag ⟨⟨ah,ai,aj,ak,al,an,ao,aq,ar,au,av,aw,ax,ae⟩,hv,ha,_,j⟩
  obtain⟨O,rfl⟩:=(ac (hv.at 7 rfl (o.1 rfl)) az).dT
  have j:=(j.bR 4 (o.1 rfl)).bM 5 hD
  refine RL.i7 4 j zr nu fL fun b3 j=>?_
  have j:=((j.pl 17 [1,2,3,4,5,0,7,8,9,10,11,12,13,14,15,16]).bS 4 (D 7) (o.1 rfl) aU).bS 5 true rfl aU
  exact RL.nil ⟨rfl,(ah,ai,aj,ak,al,b3,ao,aq,ar,au,av,aw,ax,ae),hv.pu 8,ha.u,zt,j⟩
 ·rintro D U w hD o ag ⟨⟨ah,ai,aj,ak,al,an,ao,aq,ar,au,av,aw,ax,ae⟩,hv,ha,_,j⟩
  obtain⟨O,rfl⟩:=(ac (hv.at 8 rfl (o.1 rfl)) az).dT
  have j:=j.bR 5 (o.1 rfl)
  refine RL.bJ a8.Y0 5 j cP ?_
  have j:=j.bS 5 (D 8) (o.1 rfl) aU
  exact RL.nil ⟨rfl,(ah,ai,aj,ak,al,an,ao,aq,ar,au,av,aw,ax,ae),hv.pu 9,ha.u,zt,j⟩
 ·rintro D U w hD o ag ⟨⟨ah,ai,aj,ak,al,an,ao,aq,ar,au,av,aw,ax,ae⟩,hv,ha,_,j⟩
  obtain⟨O,rfl⟩:=(ac (hv.at 10 rfl (o.1 rfl)) az).dT
  have j:=j.bM 6 hD
  refine RL.cG 15 j jK br fun b4 j=>?_
  have j:=(j.pl 17 [1,2,3,4,5,6,0,8,9,10,11,12,13,14,15,16]).bS 6 true rfl aU
  exact RL.nil ⟨rfl,(ah,ai,aj,ak,al,an,b4,aq,ar,au,av,aw,ax,ae),hv.pu 11,ha.u,zt,j⟩
 ·rintro D U w hD o ag ⟨⟨ah,ai,aj,ak,al,an,ao,aq,ar,au,av,aw,ax,ae⟩,hv,ha,_,j⟩
  obtain⟨O,rfl⟩:=(ac (hv.at 11 rfl (o.1 rfl)) az).dT
  have j:=(j.bR 6 (o.1 rfl)).bM 7 hD
  refine RL.i7 6 j zr j7 dB fun b5 j=>?_
  have j:=((j.pl 17 [1,2,3,4,5,6,7,0,9,10,11,12,13,14,15,16]).bS 6 (D 11) (o.1 rfl) aU).bS 7 true rfl aU
  exact RL.nil ⟨rfl,(ah,ai,aj,ak,al,an,ao,b5,ar,au,av,aw,ax,ae),hv.pu 12,ha.u,zt,j⟩
 ·rintro D U w hD o ag ⟨⟨ah,ai,aj,ak,al,an,ao,aq,ar,au,av,aw,ax,ae⟩,hv,ha,_,j⟩
  obtain⟨O,rfl⟩:=(ac (hv.at 12 rfl (o.1 rfl)) az).dT
  have j:=(j.bR 7 (o.1 rfl)).bM 8 hD
  refine RL.bU 7 bk.Xs j fx fun b6 j=>?_
  have j:=((j.pl 17 [1,2,3,4,5,6,7,8,0,10,11,12,13,14,15,16]).bS 7 (D 12) (o.1 rfl) aU).bS 8 true rfl aU
  exact RL.nil ⟨rfl,(ah,ai,aj,ak,al,an,ao,aq,b6,au,av,aw,ax,ae),hv.pu 13,ha.u,zt,j⟩
 ·rintro D U w hD o ag ⟨⟨ah,ai,aj,ak,al,an,ao,aq,ar,au,av,aw,ax,ae⟩,hv,ha,_,j⟩
  obtain⟨O,rfl⟩:=(ac (hv.at 13 rfl (o.1 rfl)) az).dT
  have j:=(j.bR 8 (o.1 rfl)).bM 9 hD
  refine RL.cG 8 j eI bt fun b7 j=>?_
  have j:=((j.pl 17 [1,2,3,4,5,6,7,8,9,0,11,12,13,14,15,16]).bS 8 (D 13) (o.1 rfl) aU).bS 9 true rfl aU
  exact RL.nil ⟨rfl,(ah,ai,aj,ak,al,an,ao,aq,ar,b7,av,aw,ax,ae),hv.pu 14,ha.u,zt,j⟩
 ·rintro D U w hD o ag ⟨⟨ah,ai,aj,ak,al,an,ao,aq,ar,au,av,aw,ax,ae⟩,hv,ha,_,j⟩
  obtain⟨O,rfl⟩:=(ac (hv.at 14 rfl (o.1 rfl)) az).dT
  have j:=j.bR 9 (o.1 rfl)
  refine RL.bJ bc 9 j cP ?_
  have j:=j.bS 9 (D 14) (o.1 rfl) aU
  exact RL.nil ⟨rfl,(ah,ai,aj,ak,al,an,ao,aq,ar,au,av,aw,ax,ae),hv.pu 15,ha.u,zt,j⟩
 ·rintro D U w hD o ag ⟨⟨ah,ai,aj,ak,al,an,ao,aq,ar,au,av,aw,ax,ae⟩,hv,ha,_,j⟩
  obtain⟨O,rfl⟩:=(ac (hv.at 17 rfl (o.1 rfl)) az).dT
  refine RL.bK 15 p0 j m7 ?_
  exact RL.nil ⟨rfl,(ah,ai,aj,ak,al,an,ao,aq,ar,au,av,aw,ax,ae),hv.pu 18,ha.u,zt,j⟩
 ·rintro D U w hD o ag ⟨⟨ah,ai,aj,ak,al,an,ao,aq,ar,au,av,aw,ax,ae⟩,hv,ha,_,j⟩
  obtain⟨O,rfl⟩:=(ac (hv.at 16 rfl (o.1 rfl)) (ac (hv.at 19 rfl (o.2.1 rfl)) az)).dT
  have j:=j.bM 10 hD
  refine RL.cG 15 j jK bu fun b8 j=>?_
  have j:=(j.pl 17 [1,2,3,4,5,6,7,8,9,10,0,12,13,14,15,16]).bS 10 true rfl aU
  exact RL.nil ⟨rfl,(ah,ai,aj,ak,al,an,ao,aq,ar,au,b8,aw,ax,ae),hv.pu 20,ha.u,zt,j⟩
 ·rintro D U w hD o ag ⟨⟨ah,ai,aj,ak,al,an,ao,aq,ar,au,av,aw,ax,ae⟩,hv,ha,_,j⟩
  obtain⟨O,rfl⟩:=(ac (hv.at 20 rfl (o.1 rfl)) az).dT
  have j:=(j.bR 10 (o.1 rfl)).bM 11 hD
  refine RL.i7 10 j zr ln eE fun b9 j=>?_
  have j:=((j.pl 17 [1,2,3,4,5,6,7,8,9,10,11,0,13,14,15,16]).bS 10 (D 20) (o.1 rfl) aU).bS 11 true rfl aU
  exact RL.nil ⟨rfl,(ah,ai,aj,ak,al,an,ao,aq,ar,au,av,b9,ax,ae),hv.pu 21,ha.u,zt,j⟩
 ·rintro D U w hD o ag ⟨⟨ah,ai,aj,ak,al,an,ao,aq,ar,au,av,aw,ax,ae⟩,hv,ha,_,j⟩
  obtain⟨O,rfl⟩:=(ac (hv.at 21 rfl (o.1 rfl)) az).dT
  have j:=j.bR 11 (o.1 rfl)
  refine RL.bJ a9.Y1 11 j cP ?_
  have j:=j.bS 11 (D 21) (o.1 rfl) aU
  exact RL.nil ⟨rfl,(ah,ai,aj,ak,al,an,ao,aq,ar,au,av,aw,ax,ae),hv.pu 22,ha.u,zt,j⟩
 ·rintro D U w hD o ag ⟨⟨ah,ai,aj,ak,al,an,ao,aq,ar,au,av,aw,ax,ae⟩,hv,ha,_,j⟩
  obtain⟨O,rfl⟩:=(ac (hv.at 5 rfl (o.1 rfl)) (ac (hv.at 9 rfl (o.2.1 rfl)) (ac (hv.at 15 rfl (o.2.2.1 rfl)) (ac (hv.at 22 rfl (o.2.2.2.1 rfl)) az)))).dT
  have j:=((((j.bM 12 hD).sc Int bb).sc Int a8.Y0).sc Int bc).sc Int a9.Y1
  refine RL.build (⟨bb,a8.Y0,bc,a9.Y1⟩:aI) trivial rfl j [(0,vi bb),(1,vi a8.Y0),(2,vi bc),(3,vi a9.Y1)] rfl CX rfl (fun M hs g=>by have h:=sF M;exact dO.cons (f:=fun(x:aI) y=>{x with X0:=y}) h rq (g.sat 3 _ rfl).1 fun _ h=>dO.cons (f:=fun(x:aI) y=>{x with Y0:=y}) h uF (g.sat 2 _ rfl).1 fun _ h=>dO.cons (f:=fun(x:aI) y=>{x with X1:=y}) h oZ (g.sat 1 _ rfl).1 fun _ h=>dO.cons (f:=fun(x:aI) y=>{x with Y1:=y}) h ru (g.sat 0 _ rfl).1 fun _ h=>dO.nil h) fun ca j=>?_
  have j:=(j.pl 21 [5,6,7,8,9,10,11,12,13,14,15,16,0,18,19,20]).bS 12 true rfl aU
  exact RL.nil ⟨rfl,(ah,ai,aj,ak,al,an,ao,aq,ar,au,av,aw,ca,ae),hv.pu 23,ha.u,zt,j⟩
 ·rintro D U w hD o ag ⟨⟨ah,ai,aj,ak,al,an,ao,aq,ar,au,av,aw,ax,ae⟩,hv,ha,_,j⟩
  obtain⟨O,rfl⟩:=(az (U:=U)).dT
  have j:=(j.bM 13 (nh ag hD 25)).bM 13 hD
  refine RL.alloc j oq.z fun bl w j=>?_
  have j:=((j.pl 17 [1,2,3,4,5,6,7,8,9,10,11,12,13,0,15,16]).bS 13 true rfl aU).fw 13 (D 25) (nh ag hD 25) (bx 56 bl (⟨bb,a8.Y0,bc,a9.Y1⟩:aI))
  exact RL.nil ⟨rfl,(ah,ai,aj,ak,al,an,ao,aq,ar,au,av,aw,ax,bl),hv.pu 24,ha.u,zt,j⟩
 ·rintro D U w hD o ag ⟨⟨ah,ai,aj,ak,al,an,ao,aq,ar,au,av,aw,ax,ae⟩,hv,ha,_,j⟩
  obtain⟨O,rfl⟩:=(ac (hv.at 23 rfl (o.2.1 rfl)) (ac (hv.at 24 rfl (o.1 rfl)) az)).dT
  have j:=((j.bR 12 (o.2.1 rfl)).bM 13 hD).bR 13 (o.1 rfl)
  refine RL.bC 13 j 12 zr iC fun w j=>?_
  have j:=(j.bS 12 (D 23) (o.2.1 rfl) aU).bS 13 true rfl (bif D 24 then (raw 56 ae 4) else aU)
  exact RL.nil ⟨rfl,(ah,ai,aj,ak,al,an,ao,aq,ar,au,av,aw,ax,ae),hv.n1,ha,zt,j⟩
 rintro D U w a6 ⟨⟨ah,ai,aj,ak,al,an,ao,aq,ar,au,av,aw,ax,ae⟩,hv,ha,_,j⟩
 have j:=((((((j.bR 0 (gR a6 1)).bR 1 (gR a6 2)).bR 2 (gR a6 3)).bR 3 (gR a6 4)).bR 4 (gR a6 7)).bR 5 (gR a6 8)).bR 6 (gR a6 11)
 have j:=((((((j.bR 7 (gR a6 12)).bR 8 (gR a6 13)).bR 9 (gR a6 14)).bR 10 (gR a6 20)).bR 11 (gR a6 21)).bR 12 (gR a6 23)).bR 13 (gR a6 25)
 obtain⟨O,rfl⟩:=(ac (hv.at 24 rfl (gR a6 24)) (ac (ha.at 0 rfl) (ac (ha.at 1 rfl) az))).dT
 refine aG (RC.seq (RC.sr (mv v0 (RL.bK 15 p0 j m7 (mv (vi 0) (RL.nt ?_))))))
 obtain⟨af,hN,hb⟩:=bd hb
 refine RC.fold (fun(bg:Nat) (af:aI)=>SH E V [(2,vp bf 0),(3,vp ae 0),(30,v0),(31,vi p0.length),(32,vi bg)] [raw 56 bf 4,bx 56 ae af,rd v0 p0]) (fun(af:aI)=>SH E V [(2,vp bf 0),(3,vp ae 0)] [raw 56 bf 4,bx 56 ae af,rd v0 p0]) hN ?_ ?_ ?_ ?_
 ·exact j.sp 16 [14,13,15]
 ·rintro hm af _ w ⟨O,rfl,j⟩
  refine RC.sr (ic ((p0.length:Int)) ((p0.length:Int)) (RL.nq (RC.cX mT (RC.ex ?_))))
  exact⟨rfl,j.sp 3 [0,1,2]⟩
 ·rintro hm bg af s' _ w hk ⟨O,rfl,j⟩ hb
  refine RC.sr (ic ((bg:Int)) ((p0.length:Int)) (RL.nq (RC.cW (mS hk) (RC.ss (RC.bs ?_)))))
  obtain⟨ba,cc,hb⟩:=bd hb
  refine RL.cG 2 j jK cc fun cd j=>(RL.bU 0 ba j tF fun cf j=>(RL.alloc j Aa.z fun bh w j=>?_))
  refine RL.bC 0 j 1 zr tF fun w j=>?_
  refine RL.nt ?_
  obtain⟨a5,cg,hb⟩:=bd hb
  obtain⟨a7,ch,hb⟩:=bd hb
  refine RC.Ba E V mixed [1,0,1,0,0,0,0,1,0,1,0,1,0,0,1,0,0,0,1,0,1,0] [3,4,10,12,15,19,21] (fun(x:Value×Value×Value×Value×Value)=>(fun ay a0 a1 a2 a3=>[(0,36,(vp ae 0)),(1,37,(vi af.X0)),(2,38,(vp bh 2)),(3,39,ay),(4,40,a0),(5,41,(vi a5)),(6,42,(vi (if a5<af.X0 then a5 else af.X0))),(7,43,(vp ae 2)),(8,44,(vi af.X1)),(9,45,(vp bh 2)),(10,46,a1),(11,47,(vp bh 2)),(12,48,a2),(13,49,(vi ba.Xs.length)),(14,50,(vi (IntKind.wrap .i64 ((ba.Xs.length:Int) - 1)))),(15,51,a3),(16,52,(vi a7)),(17,53,(vi (if af.X1<a7 then a7 else af.X1))),(18,54,(vp ae 0)),(20,55,(vp ae 2))]) x.1 x.2.1 x.2.2.1 x.2.2.2.1 x.2.2.2.2) [(2,vp bf 0),(3,vp ae 0),(5,vp bh 0),(30,v0),(31,vi p0.length),(32,vi bg)] [] (fun(D:Nat->Bool) (x:Value×Value×Value×Value×Value)=>(fun ay a0 a1 a2 a3=>[bif D 0 then (rd ay ba.Xs) else aU,bif D 1 then (pt a0 a5) else aU,bif D 2 then (rd a1 ba.Xs) else aU,bif D 3 then (rd a2 ba.Xs) else aU,bif D 4 then (pt a3 a7) else aU,bx 137 bh ba,rd cf ba,pt cd ba,raw 56 bf 4,bif D 6 then (bx 56 ae {{af with X0:=(if a5<af.X0 then a5 else af.X0)} with X1:=(if af.X1<a7 then a7 else af.X1)}) else (bif D 5 then (bx 56 ae {af with X0:=(if a5<af.X0 then a5 else af.X0)}) else (bx 56 ae af)),rd v0 p0]) x.1 x.2.1 x.2.2.1 x.2.2.2.1 x.2.2.2.2) (fun x=>by kernel_rfl) ?_ ⟨fun _=>lH gn ji,?_,fun _=>lH gn j7,?_,?_,?_,?_,fun _=>lH gn jW,?_,fun _=>lH gn j7,?_,fun _=>lH gn j7,?_,?_,fun _=>FA gn rfl,?_,?_,?_,fun _=>lH gn ji,?_,fun _=>lH gn jW,?_,trivial⟩ ?_
  ·have j:=(((((j.drew).aU).aU).aU).aU).aU
   exact⟨(undef,undef,undef,undef,undef),dX.none,(zZ zr),zt,j⟩
  ·rintro D U w hD o ag ⟨⟨ay,a0,a1,a2,a3⟩,hv,ha,_,j⟩
   obtain⟨O,rfl⟩:=(ac (hv.at 0 rfl (o.1 rfl)) az).dT
   have j:=(j.bM 9 (nh ag hD 21)).bM 9 (nh ag hD 19)
   refine RL.aO 9 j zr fu cP ?_
   have j:=(j.fw 9 (D 19) (nh ag hD 19) (bx 56 ae {af with X0:=(if a5<af.X0 then a5 else af.X0)})).fw 9 (D 21) (nh ag hD 21) (bx 56 ae {{af with X0:=(if a5<af.X0 then a5 else af.X0)} with X1:=(if af.X1<a7 then a7 else af.X1)})
   exact RL.nil ⟨rfl,(ay,a0,a1,a2,a3),hv.pu 1,ha.u,zt,j⟩
  ·rintro D U w hD o ag ⟨⟨ay,a0,a1,a2,a3⟩,hv,ha,_,j⟩
   obtain⟨O,rfl⟩:=(ac (hv.at 2 rfl (o.1 rfl)) az).dT
   have j:=j.bM 0 hD
   refine RL.aR 5 j zr dB fx fun cj j=>?_
   have j:=(j.pl 12 [0,2,3,4,5,6,7,8,9,10,11]).bS 0 true rfl aU
   exact RL.nil ⟨rfl,(cj,a0,a1,a2,a3),hv.pu 3,ha.u,zt,j⟩
  ·rintro D U w hD o ag ⟨⟨ay,a0,a1,a2,a3⟩,hv,ha,_,j⟩
   obtain⟨O,rfl⟩:=(ac (hv.at 3 rfl (o.1 rfl)) az).dT
   have j:=(j.bR 0 (o.1 rfl)).bM 1 hD
   refine RL.cG 0 j eI cg fun ck j=>?_
   have j:=((j.pl 12 [1,0,3,4,5,6,7,8,9,10,11]).bS 0 (D 3) (o.1 rfl) aU).bS 1 true rfl aU
   exact RL.nil ⟨rfl,(ay,ck,a1,a2,a3),hv.pu 4,ha.u,zt,j⟩
  ·rintro D U w hD o ag ⟨⟨ay,a0,a1,a2,a3⟩,hv,ha,_,j⟩
   obtain⟨O,rfl⟩:=(ac (hv.at 4 rfl (o.1 rfl)) az).dT
   have j:=j.bR 1 (o.1 rfl)
   refine RL.bJ a5 1 j cP ?_
   have j:=j.bS 1 (D 4) (o.1 rfl) aU
   exact RL.nil ⟨rfl,(ay,a0,a1,a2,a3),hv.pu 5,ha.u,zt,j⟩
  ·rintro D U w hD o ag ⟨⟨ay,a0,a1,a2,a3⟩,hv,ha,_,j⟩
   obtain⟨O,rfl⟩:=(ac (hv.at 1 rfl (o.1 rfl)) (ac (hv.at 5 rfl (o.2.1 rfl)) az)).dT
   refine RL.min af.X0 a5 ?_
   exact RL.nil ⟨rfl,(ay,a0,a1,a2,a3),hv.pu 6,ha.u,zt,j⟩
  ·rintro D U w hD o ag ⟨⟨ay,a0,a1,a2,a3⟩,hv,ha,_,j⟩
   obtain⟨O,rfl⟩:=(ac (hv.at 7 rfl (o.1 rfl)) az).dT
   have j:=(j.bM 9 (nh ag hD 21)).bM 9 (nh ag hD 19)
   refine RL.aO 9 j zr fU cP ?_
   have j:=(j.fw 9 (D 19) (nh ag hD 19) (bx 56 ae {af with X0:=(if a5<af.X0 then a5 else af.X0)})).fw 9 (D 21) (nh ag hD 21) (bx 56 ae {{af with X0:=(if a5<af.X0 then a5 else af.X0)} with X1:=(if af.X1<a7 then a7 else af.X1)})
   exact RL.nil ⟨rfl,(ay,a0,a1,a2,a3),hv.pu 8,ha.u,zt,j⟩
  ·rintro D U w hD o ag ⟨⟨ay,a0,a1,a2,a3⟩,hv,ha,_,j⟩
   obtain⟨O,rfl⟩:=(ac (hv.at 9 rfl (o.1 rfl)) az).dT
   have j:=j.bM 2 hD
   refine RL.aR 5 j zr dB fx fun cl j=>?_
   have j:=(j.pl 12 [1,2,0,4,5,6,7,8,9,10,11]).bS 2 true rfl aU
   exact RL.nil ⟨rfl,(ay,a0,cl,a2,a3),hv.pu 10,ha.u,zt,j⟩
  ·rintro D U w hD o ag ⟨⟨ay,a0,a1,a2,a3⟩,hv,ha,_,j⟩
   obtain⟨O,rfl⟩:=(ac (hv.at 11 rfl (o.1 rfl)) az).dT
   have j:=j.bM 3 hD
   refine RL.aR 5 j zr dB fx fun cm j=>?_
   have j:=(j.pl 12 [1,2,3,0,5,6,7,8,9,10,11]).bS 3 true rfl aU
   exact RL.nil ⟨rfl,(ay,a0,a1,cm,a3),hv.pu 12,ha.u,zt,j⟩
  ·rintro D U w hD o ag ⟨⟨ay,a0,a1,a2,a3⟩,hv,ha,_,j⟩
   obtain⟨O,rfl⟩:=(ac (hv.at 12 rfl (o.1 rfl)) az).dT
   have j:=j.bR 3 (o.1 rfl)
   refine RL.bK 3 ba.Xs j lZ ?_
   have j:=j.bS 3 (D 12) (o.1 rfl) aU
   exact RL.nil ⟨rfl,(ay,a0,a1,a2,a3),hv.pu 13,ha.u,zt,j⟩
  ·rintro D U w hD o ag ⟨⟨ay,a0,a1,a2,a3⟩,hv,ha,_,j⟩
   obtain⟨O,rfl⟩:=(ac (hv.at 10 rfl (o.1 rfl)) (ac (hv.at 14 rfl (o.2.1 rfl)) az)).dT
   have j:=(j.bR 2 (o.1 rfl)).bM 4 hD
   refine RL.cG 2 j eI ch fun cn j=>?_
   have j:=((j.pl 12 [1,2,3,4,0,6,7,8,9,10,11]).bS 2 (D 10) (o.1 rfl) aU).bS 4 true rfl aU
   exact RL.nil ⟨rfl,(ay,a0,a1,a2,cn),hv.pu 15,ha.u,zt,j⟩
  ·rintro D U w hD o ag ⟨⟨ay,a0,a1,a2,a3⟩,hv,ha,_,j⟩
   obtain⟨O,rfl⟩:=(ac (hv.at 15 rfl (o.1 rfl)) az).dT
   have j:=j.bR 4 (o.1 rfl)
   refine RL.bJ a7 4 j cP ?_
   have j:=j.bS 4 (D 15) (o.1 rfl) aU
   exact RL.nil ⟨rfl,(ay,a0,a1,a2,a3),hv.pu 16,ha.u,zt,j⟩
  ·rintro D U w hD o ag ⟨⟨ay,a0,a1,a2,a3⟩,hv,ha,_,j⟩
   obtain⟨O,rfl⟩:=(ac (hv.at 8 rfl (o.1 rfl)) (ac (hv.at 16 rfl (o.2.1 rfl)) az)).dT
   refine RL.max af.X1 a7 ?_
   exact RL.nil ⟨rfl,(ay,a0,a1,a2,a3),hv.pu 17,ha.u,zt,j⟩
  ·rintro D U w hD o ag ⟨⟨ay,a0,a1,a2,a3⟩,hv,ha,_,j⟩
   obtain⟨O,rfl⟩:=(ac (hv.at 6 rfl (o.2.1 rfl)) (ac (hv.at 18 rfl (o.1 rfl)) az)).dT
   have j:=((j.bM 9 (nh ag hD 21)).bM 9 hD).sc Int (if a5<af.X0 then a5 else af.X0)
   refine RL.zu 10 zt j zr zr zr 0 zr rq cP fun w j=>?_
   have j:=((j.pl 12 [1,2,3,4,5,6,7,8,9,10,11]).bS 9 true rfl (bx 56 ae af)).fw 9 (D 21) (nh ag hD 21) (bx 56 ae {{af with X0:=(if a5<af.X0 then a5 else af.X0)} with X1:=(if af.X1<a7 then a7 else af.X1)})
   exact RL.nil ⟨rfl,(ay,a0,a1,a2,a3),hv.n1,ha,zt,j⟩
  ·rintro D U w hD o ag ⟨⟨ay,a0,a1,a2,a3⟩,hv,ha,_,j⟩
   obtain⟨O,rfl⟩:=(ac (hv.at 17 rfl (o.2.1 rfl)) (ac (hv.at 19 rfl (o.1 rfl)) az)).dT
   have j:=((j.bM 9 hD).bR 9 (o.2.2.1 rfl)).sc Int (if af.X1<a7 then a7 else af.X1)
   refine RL.zu 10 zt j zr zr zr 0 zr oZ cP fun w j=>?_
   have j:=(j.pl 12 [1,2,3,4,5,6,7,8,9,10,11]).bS 9 true rfl (bif D 19 then (bx 56 ae {af with X0:=(if a5<af.X0 then a5 else af.X0)}) else (bx 56 ae af))
   exact RL.nil ⟨rfl,(ay,a0,a1,a2,a3),hv.n1,ha,zt,j⟩
  rintro D U w a6 ⟨⟨ay,a0,a1,a2,a3⟩,hv,ha,_,j⟩
  have j:=(((((j.bR 0 (gR a6 3)).bR 1 (gR a6 4)).bR 2 (gR a6 10)).bR 3 (gR a6 12)).bR 4 (gR a6 15)).bR 9 (gR a6 21)
  obtain⟨O,rfl⟩:=(ac (ha.at 0 rfl) (ac (ha.at 1 rfl) (ac (ha.at 2 rfl) (ac (ha.at 3 rfl) (ac (ha.at 4 rfl) (ac (ha.at 5 rfl) az)))))).dT
  refine bQ (aG (RC.region (RL.inc hk hm (mv (vi ((bg+1:Nat):Int)) (RL.nil ?_)))))
  obtain rfl:=oi hb
  exact⟨rfl,j.sp 11 [8,9,10]⟩
 rintro _ w ⟨O,rfl,j⟩
 refine aG (RC.sr (RL.aR (f:=(fun x=>x)) 1 j zr Fd.self iC fun cp j=>(RL.bC 1 j 0 zr iC fun w j=>?_)))
 refine RL.nt (RC.ret ?_)
 obtain rfl:=oi hb
 exact Gw 1 zr j zr zr iC fun cq j=>(j.pk 5 [0])
theorem tM {p0: (List aA)} {res:Bool} (j:Holds E w V) (h0:V[i0]? =some (rd v0 p0)) (hb:kf N p0=some res):
    Calls bH 73 [v0].toArray w (gI (bB E V res)):=by
 unfold kf at hb
 refine enter Tryz.func73 zr zr ?_
 have j:=j.dup (i0+0) h0
 refine RC.sr (aM (vb false) (RL.nq ?_))
 obtain⟨ad,o,hb⟩:=bd hb
 refine RC.jn (fun(ad:Bool)=>SH E V [(2,vb ad)] []) ad ?_ ?_
 ·refine RC.region (mv v0 (RL.bK 0 p0 j m7 (ic ((p0.length:Int)) 0 (mv (vb ((p0.length:Int)==0)) (gv o (fun aa o=>?_) fun aa o=>?_)))))
  ·refine cA aa (cA aa (cA aa (gw aa (vb true) (aM (vb true) (RL.nil ?_)))))
   obtain rfl:=oi o
   exact⟨rfl,j.sp 1 []⟩
  refine RL.move v0 (cg aa) ?_
  obtain⟨ai,af,o⟩:=bd o
  refine RL.call (cg aa) zr Jj [v0] zr (aF (rS N (i0:=0) j zr af) ?_)
  rintro ag w j
  obtain⟨ae,ah,o⟩:=bd o
  refine RL.call (cg aa) zr HA [ag] zr (aF (p9 N (i0:=0) j zr ah) ?_)
  rintro _ w ⟨rfl,j⟩
  refine gw aa (vb ae) (aM (vb ae) (RL.nil ?_))
  obtain rfl:=oi o
  exact⟨rfl,j.sp 2 []⟩
 rintro _ w ⟨O,rfl,j⟩
 refine aG (RC.ret ?_)
 obtain rfl:=oi hb
 exact cH ⟨rfl,j.drop 0⟩
def vI (E:World) (V:List HP) (res:aI×Int) (v:Value) (w:World):Prop:=∃u0:Value,v = .tuple #[u0,(vi res.2)]/\Holds E w ([rd u0 res.1]++V)
theorem uT {p0:bW} {res:aI×Int} (j:Holds E w V) (h0:V[i0]? =some (rd v0 p0)) (o:jO N p0=some res):
    Calls bH 44 [v0].toArray w (gI (vI E V res)):=by
 unfold jO at o
 refine enter Tryz.func44 zr zr ?_
 have j:=j.dup (i0+0) h0
 refine RC.sr (RL.cR 0 v0 j zr fun af w j=>?_)
 refine RL.alloc j oq.z fun ag w j=>?_
 refine aM (vi 0) (RL.nq (RC.seq ?_))
 obtain⟨ad,hj,o⟩:=bd o
 refine RC.jn (fun(ad:Bool)=>SH E V [(1,vp af 0),(2,vp ag 0),(14,vb ad)] [bx 71 af p0,raw 56 ag 4]) ad ?_ ?_
 ·refine RC.region (RL.bF zr wt (RL.aO 1 j zr o4 cP ?_))
  obtain⟨ah,aj,hj⟩:=bd hj
  refine RL.call zt zr FB [(vi p0.eW),(vi 1),(vi 10000)] zr (aF (kL N (p0:=p0.eW) (p1:=1) (p2:=10000) j aj) ?_)
  rintro _ w ⟨rfl,j⟩
  refine RL.not ah (mv (vb (!ah)) (gv hj (fun aa hj=>?_) fun aa hj=>?_))
  ·refine cA aa (cA aa (cA aa (cA aa (gw aa (vb true) (RL.nil ?_)))))
   obtain rfl:=oi hj
   exact⟨rfl,j.sp 3 [1,0]⟩
  refine RL.bF (hg:=(cg aa)) zr Bf (RL.aR (hg:=(cg aa)) 1 j zr uH FC fun ak j=>?_)
  obtain⟨ai,al,hj⟩:=bd hj
  refine RL.call (cg aa) zr HH [ak] zr (aF (o9 N (i0:=0) j zr al) ?_)
  rintro _ w ⟨rfl,j⟩
  refine RL.not (hg:=(cg aa)) ai (gw aa (vb (!ai)) (RL.nil ?_))
  obtain rfl:=oi hj
  exact⟨rfl,j.sp 4 [2,1]⟩
 rintro _ w ⟨O,rfl,j⟩
 refine aG (fy o (fun hc o=>?_) fun hc o=>?_)
 ·refine RC.sr (RL.build (⟨0,0,0,0⟩:aI) trivial rfl j [] rfl CX rfl (fun M hs g=>by have h:=sF M;exact dO.nil h) fun a2 j=>?_)
  refine RL.bC 2 j 0 zr iC fun w j=>?_
  refine aM (vi 1) (RL.nt (RC.rt ?_))
  obtain rfl:=oi o
  exact xQ 2 j iC fun an j=>⟨an,zr,j.pk 4 [0]⟩
 refine RC.sx (RL.aR (f:=(fun x=>x)) 0 j zr Fd.self ot fun ao j=>?_)
 obtain⟨aq,ar,o⟩:=bd o
 refine RL.call zt zr CZ [ao] zr (aF (gH N (i0:=0) j zr ar) ?_)
 rintro a3 w j
 refine RL.alloc j oq.z fun a4 w j=>?_
 refine RL.bC 0 j 1 zr iC fun w j=>?_
 refine RL.nq (RC.sr (RL.aR (f:=(fun x=>x)) 0 j zr Fd.self iC fun au j=>(RL.eH ([aq]: (List aI)) j [au] lx oq (fun M hs g=>⟨(g.sat 0 _ zr).1,zt⟩) fun av w j=>?_)))
 have j:=j.freeze 0
 obtain⟨a5,aw,o⟩:=bd o
 refine RL.call zt zr D2 [av] zr (aF (kl N (i0:=0) j zr aw) ?_)
 rintro ax w j
 have j:=j.freeze 0
 obtain⟨ay,az,o⟩:=bd o
 refine RL.call zt zr Jk [ax] zr (aF (tM N (i0:=0) j zr az) ?_)
 rintro _ w ⟨rfl,j⟩
 refine RL.not ay (RL.nt (fy o (fun hc o=>?_) fun hc o=>?_))
 ·refine RC.sr (RL.build (⟨0,0,0,0⟩:aI) trivial rfl j [] rfl CX rfl (fun M hs g=>by have h:=sF M;exact dO.nil h) fun a6 j=>?_)
  refine RL.bC 8 j 0 zr iC fun w j=>?_
  refine aM (vi 1) (RL.nt (RC.rt ?_))
  obtain rfl:=oi o
  exact xQ 8 j iC fun a0 j=>⟨a0,zr,j.pk 10 [0]⟩
 refine RC.sx (RL.aR (f:=(fun x=>x)) 3 j zr Fd.self iC fun a7 j=>(RL.bC 8 j 0 zr iC fun w j=>?_))
 refine aM (vi 0) (RL.nt (RC.ret ?_))
 obtain rfl:=oi o
 exact xQ 8 j iC fun a1 j=>⟨a1,zr,j.pk 10 [0]⟩
def rT (E:World) (V:List HP) (r:Int) (U:Nat->Value) (w:World):Prop:=mc bH 47 Tryz.f19 (aT E V r) .ret U w
theorem qM {p0:iW} (j:Holds E w V) (h0:V[i0]? =some (rd v0 p0)) (o:iQ N p0=some res):
    Calls bH 19 [v0].toArray w (gI (aT E V res)):=by
 unfold iQ at o
 refine enter Tryz.func19 zr zr ?_
 have j:=j.dup (i0+0) h0
 refine RC.sr (RL.cR 0 v0 j zr fun a0 w j=>?_)
 refine aM (vi 0) (RL.nq (RC.sr (RL.bF zr mu (RL.aR 0 j zr qD uL fun a1 j=>(RL.bK 0 p0.aL j wq (ic ((p0.aL.length:Int)) 500 (RL.nt (fy o (fun hc o=>?_) fun hc o=>?_))))))))
 ·refine RC.sr (aM (vi 2) (RL.nt (RC.rt ?_)))
  obtain rfl:=oi o
  exact cH ⟨rfl,j.drop 3⟩
 refine RC.sx (RL.bF zr uK (RL.aR 1 j zr o5 CT fun a2 j=>(RL.bK 0 p0.aN j z9 (aM (vi p0.aN.length) (RL.nq (RC.sr (RL.bF zr mu (RL.aR 2 j zr qD uL fun ag j=>?_))))))))
 refine RL.bK 0 p0.aL j wq (mv (vi 0) (RL.nt ?_))
 obtain⟨a3,hN,o⟩:=bd o
 refine RC.range (fun(ah:Nat) (ai:Unit)=>SH E V [(3,vi p0.aN.length),(16,ag),(17,vi p0.aL.length),(18,vi ah)] [rd ag p0.aL]) (fun(ai:Unit)=>SH E V [] [rd ag p0.aL]) (rT E V) hN ?_ ?_ ?_ ?_ ?_
 ·exact j.sp 5 [0]
 ·rintro hm ai _ w ⟨O,rfl,j⟩
  refine RC.sr (ic ((p0.aL.length:Int)) ((p0.aL.length:Int)) (RL.nq (RC.cX mT (RC.ex ?_))))
  exact⟨rfl,j.sp 1 [0]⟩
 ·rintro hm ah ai fl _ w hk ⟨O,rfl,j⟩ o
  refine RC.sr (ic ((ah:Int)) ((p0.aL.length:Int)) (RL.nq (RC.cW (mS hk) (RC.ss (RC.bs ?_)))))
  obtain⟨ad,au,o⟩:=bd o
  refine RL.cG 0 j yI au fun a5 j=>(RL.bU 0 ad j ot fun a6 j=>(RL.alloc j CY.z fun a7 w j=>?_))
  refine RL.bC 0 j 1 zr ot fun w j=>?_
  refine RL.nq (RC.sr (RL.aR (f:=(fun x=>x)) 0 j zr Fd.self ot fun av j=>?_))
  obtain⟨ae,aw,o⟩:=bd o
  refine RL.call zt zr Jl [av] zr (aF (uT N (i0:=0) j zr aw) ?_)
  rintro _ w ⟨an,rfl,j⟩
  refine mv (.tuple #[an,(vi ae.2)]) (RL.extract an (RL.extract (vi ae.2) (RL.alloc j oq.z fun a8 w j=>?_)))
  refine RL.bC 0 j 1 zr iC fun w j=>?_
  refine aM (vi ae.2) (RL.ns (mv (vi ae.2) (ic ae.2 0 (RL.nt (fy o (fun hc o=>?_) fun hc o=>?_)))))
  ·refine RC.sr (mv (vi ae.2) (aM (vi ae.2) (RL.nt (RC.rt (mn (cF ?_))))))
   obtain rfl:=oi o
   exact⟨rfl,cH ⟨rfl,j.drop 7⟩⟩
  refine RC.ss ?_
  obtain⟨aj,hj,o⟩:=bd o
  refine RC.jn (fun(aj:Bool)=>SH E V [(3,vi p0.aN.length),(16,ag),(17,vi p0.aL.length),(18,vi ah),(45,vb aj)] [rd ag p0.aL]) aj ?_ ?_
  ·refine RC.region (RL.bF zr sG (RL.aO 3 j zr mo cP (mv (vi p0.aN.length) (RL.jo (p0.aN.length:Int) 1 ?_))))
   obtain⟨ao,ax,hj⟩:=bd hj
   refine RL.call zt zr FB [(vi ad.cZ),(vi 0),(vi (IntKind.wrap .i64 ((p0.aN.length:Int) - 1)))] zr (aF (kL N (p0:=ad.cZ) (p1:=0) (p2:=(IntKind.wrap .i64 ((p0.aN.length:Int) - 1))) j ax) ?_)
   rintro _ w ⟨rfl,j⟩
   refine RL.not ao (mv (vb (!ao)) (gv hj (fun aa hj=>?_) fun aa hj=>?_))
   ·refine cA aa (cA aa (cA aa (cA aa (cA aa (cA aa (cA aa (cA aa (gw aa (vb true) ?_))))))))
    refine RL.nil ?_
    obtain rfl:=oi hj
    exact⟨rfl,j.sp 7 [6]⟩
   refine RL.bF (hg:=(cg aa)) zr uM (RL.aO (hg:=(cg aa)) 3 j zr nG cP (RL.bF (hg:=(cg aa)) zr sG (RL.aO (hg:=(cg aa)) 3 j zr mo cP (RL.move (vi p0.aN.length) (cg aa) (RL.jo (hg:=(cg aa)) (p0.aN.length:Int) 1 ?_)))))
   obtain⟨aq,ay,hj⟩:=bd hj
   refine RL.call (cg aa) zr FB [(vi ad.To),(vi ad.cZ),(vi (IntKind.wrap .i64 ((p0.aN.length:Int) - 1)))] zr (aF (kL N (p0:=ad.To) (p1:=ad.cZ) (p2:=(IntKind.wrap .i64 ((p0.aN.length:Int) - 1))) j ay) ?_)
   rintro _ w ⟨rfl,j⟩
   refine RL.not (hg:=(cg aa)) aq (gw aa (vb (!aq)) (RL.nil ?_))
   obtain rfl:=oi hj
   exact⟨rfl,j.sp 7 [6]⟩
  rintro _ w ⟨O,rfl,j⟩
  refine aG (fy o (fun hc o=>?_) fun hc o=>?_)
  rotate_left
  ·refine RC.skip (bQ (aG (RC.region (RL.inc hk hm (mv (vi ((ah+1:Nat):Int)) (RL.nil ?_))))))
   obtain rfl:=oi o
   exact⟨rfl,j.sp 1 [0]⟩
  refine RC.sr (aM (vi 1) (RL.nt (RC.rb (cF ?_))))
  obtain rfl:=oi o
  exact⟨rfl,cH ⟨rfl,j.drop 1⟩⟩
 ·intro r U w e hK
  subst e
  refine cF ?_
  obtain rfl:=oi o
  exact hK
 rintro ai _ w rfl ⟨O,rfl,j⟩
 rw [Fo.fW] at o
 refine aG (RC.sr (aM (vi 0) (RL.nt (RC.ret ?_))))
 obtain rfl:=oi o
 exact cH ⟨rfl,j.drop 1⟩
theorem kX {p0:dK} (o:Holds E w V) (j:gz N p0 p1=some res):
    Calls bH 95 [(str p0),(.int .u8 p1)].toArray w (gI (aT E V res)):=by
 unfold gz at j
 refine enter Tryz.func95 zr zr (RC.sr (aM (vi 0) (RL.ns (mv (str p0) (mv (.int .u8 p1) (RL.vY (vi (Lib.indexByte p0.cN (Int.toNat p1).toUInt8)) zr [(str p0),(.int .u8 p1)] zr (Jn p0 p1 w) (aM (vi (Lib.indexByte p0.cN (Int.toNat p1).toUInt8)) (RL.nt ?_))))))))
 refine RC.ret ?_
 obtain rfl:=oi j
 exact cH ⟨rfl,o.drop 0⟩
theorem qN {p0 p1:dK} (o:Holds E w V) (j:iR N p0 p1=some res):
    Calls bH 135 [(str p0),(str p1)].toArray w (gI (aT E V res)):=by
 unfold iR at j
 refine enter Tryz.func135 zr zr (RC.sr (aM (vi 0) (RL.ns (mv (str p1) (RL.lens p1 Ab (aM (vi p1.cN.length) (RL.nq (RC.bs ?_))))))))
 refine mv (vi p1.cN.length) (ic ((p1.cN.length:Int)) 0 (mv (vb ((p1.cN.length:Int)==0)) (RL.gs true ((p1.cN.length:Int)==0) (str p1) rfl rfl rfl dE (RL.gs true ((p1.cN.length:Int)==0) (str p0) rfl rfl rfl dE (RL.gs true ((p1.cN.length:Int)==0) (vb (p1.AY p0)) rfl rfl rfl (Fj (bop:= .eql) (a:=p1) (b:=p0) rfl (fun h=>by exact(cY h:cv (true&&(((p1.cN.length:Int)==0)==false)) (str p1)= (str p1))) (fun h=>by exact(cY h:cv (true&&(((p1.cN.length:Int)==0)==false)) (str p0)= (str p0))) rfl) (RL.pick ((p1.cN.length:Int)==0) (vb (((p1.cN.length:Int)==0)||(p1.AY p0))) (mH true rfl) (aM (vb (((p1.cN.length:Int)==0)||(p1.AY p0))) (RL.nt ?_))))))))
 refine fy j (fun hc j=>?_) fun hc j=>?_
 ·refine RC.sr (aM (vi 0) (RL.nt (RC.rb (cF ?_))))
  obtain rfl:=oi j
  exact cH ⟨rfl,o.drop 0⟩
 refine RC.sr (mv (vi p1.cN.length) (ic ((p1.cN.length:Int)) 1 (aM (vb ((p1.cN.length:Int)==1)) (RL.nt (fy j (fun hc j=>?_) fun hc j=>?_)))))
 ·refine RC.sr (mv (str p0) (mv (str p1) ?_))
  obtain⟨ab,ad,j⟩:=bd j
  refine RL.idxs p1 0 ab zr zr zr Ab ad ?_
  obtain⟨ae,af,j⟩:=bd j
  refine RL.call zt zr HJ [(str p0),(.int .u8 (ab.toNat:Int))] zr (aF (kX N (p0:=p0) (p1:=(ab.toNat:Int)) o af) ?_)
  rintro _ w ⟨rfl,o⟩
  refine aM (vi ae) (RL.nt (RC.rb (cF ?_)))
  obtain rfl:=oi j
  exact cH ⟨rfl,o.drop 0⟩
 refine RC.sr (mv (vi p1.cN.length) (mv (str p0) (RL.lens p0 Ab (ic ((p1.cN.length:Int)) ((p0.cN.length:Int)) (aM (vb (decide ((p1.cN.length:Int)>=(p0.cN.length:Int)))) (RL.nt (fy j (fun hc j=>?_) fun hc j=>?_)))))))
 rotate_left
 ·cases j
 refine RC.sr (aM (vi (-1)) (RL.nt (RC.rb (cF ?_))))
 obtain rfl:=oi j
 exact cH ⟨rfl,o.drop 0⟩
theorem pd {p0 p1:dK} (o:Holds E w V) (j:jP N p0 p1=some res):
    Calls bH 122 [(str p0),(str p1)].toArray w (gI (aT E V res)):=by
 unfold jP at j
 refine enter Tryz.func122 zr zr (RC.sr (aM (vi 0) (RL.ns (mv (str p0) (mv (str p1) ?_)))))
 obtain⟨aa,ab,j⟩:=bd j
 refine RL.call zt zr HK [(str p0),(str p1)] zr (aF (qN N (p0:=p0) (p1:=p1) o ab) ?_)
 rintro _ w ⟨rfl,o⟩
 refine aM (vi aa) (RL.nt (RC.ret ?_))
 obtain rfl:=oi j
 exact cH ⟨rfl,o.drop 0⟩
def vJ (E:World) (V:List HP) (r:Int) (U:Nat->Value) (w:World):Prop:=mc bH 34 Tryz.f121 (aT E V r) .ret U w
theorem uU {p0 p1:dK} (hw:Holds E w V) (j:kS N p0 p1=some res):
    Calls bH 121 [(str p0),(str p1)].toArray w (gI (aT E V res)):=by
 unfold kS at j
 refine enter Tryz.func121 zr zr (RC.sr (aM (vi 0) (RL.nq (RC.sr (mv (str p1) (RL.lens p1 Ab (ic ((p1.cN.length:Int)) 0 (RL.nt ?_))))))))
 refine fy j (fun hc j=>?_) fun hc j=>?_
 ·cases j
 refine RC.ss (RC.sr (mv (str p1) (RL.lens p1 Ab (ic ((p1.cN.length:Int)) 1 (RL.nt (fy j (fun hc j=>?_) fun hc j=>?_))))))
 ·refine RC.sr (mv (str p0) (mv (str p1) ?_))
  obtain⟨ad,af,j⟩:=bd j
  refine RL.idxs p1 0 ad zr zr zr Ab af (RL.vY (vi ((Lib.countByte p0.cN (Int.toNat (ad.toNat:Int)).toUInt8:Nat):Int)) zr [(str p0),(.int .u8 (ad.toNat:Int))] zr (uD p0 (ad.toNat:Int) w) (aM (vi ((Lib.countByte p0.cN (Int.toNat (ad.toNat:Int)).toUInt8:Nat):Int)) (RL.nt (RC.rt ?_))))
  obtain rfl:=oi j
  exact cH ⟨rfl,hw.drop 0⟩
 refine RC.sx (aM (vi 0) (RL.nt ?_))
 obtain⟨al,hN,j⟩:=bd j
 refine RC.iter (fun(o:dK×Int)=>SH E V [(0,(str o.1)),(1,(str p1)),(4,vi 0),(5,vi o.2)] []) (fun(o:dK×Int)=>SH E V [(4,vi 0)] []) (vJ E V) hN ?_ ?_ ?_ ?_
 ·exact hw.sp 0 []
 ·rintro o fl _ w ⟨O,rfl,hw⟩ j
  refine RC.bs (mv (str o.1) (mv (str p1) ?_))
  obtain⟨ae,ah,j⟩:=bd j
  refine RL.call zt zr Gf [(str o.1),(str p1)] zr (aF (pd N (p0:=o.1) (p1:=p1) hw ah) ?_)
  rintro _ w ⟨rfl,hw⟩
  refine aM (vi ae) (RL.nq (RC.sr (mv (vi ae) (ic ae ((-1)) (RL.nt (fy j (fun hc j=>?_) fun hc j=>?_))))))
  ·refine RC.sr (mv (vi o.2) (aM (vi o.2) (RL.nt (RC.rt (mn ?_)))))
   obtain rfl:=oi j
   exact⟨rfl,cH ⟨rfl,hw.drop 0⟩⟩
  refine RC.sx (mv (vi o.2) (RL.jo o.2 1 (aM (vi (IntKind.wrap .i64 (o.2+1))) (RL.nt (RC.region (mv (str o.1) (mv (vi ae) (mv (str p1) ?_))))))))
  refine RL.lens p1 Ab (RL.jo ae (p1.cN.length:Int) ?_)
  obtain⟨ai,aj,j⟩:=bd j
  refine RL.sC o.1 zr zr Ab (.inl zr) (.inr ⟨rfl,zr⟩) aj (aM (str ai) (RL.nil (bQ ?_)))
  obtain rfl:=oi j
  exact⟨rfl,hw.sp 0 []⟩
 ·intro r U w e hK
  subst e
  obtain rfl:=oi j
  exact hK
 rintro o _ w rfl ⟨O,rfl,hw⟩
 rw [Fo.fW] at j
 obtain rfl:=oi j
 refine zn ?_
 exact cH ⟨rfl,hw.drop 0⟩
theorem rU {p0 p1:dK} {res: (List dK)} (o:Holds E w V) (j:kE N p0 p1 p2 p3=some res):
    Calls bH 94 [(str p0),(str p1),(vi p2),(vi p3)].toArray w (gI (nQ E V res)):=by
 unfold kE at j
 refine enter Tryz.func94 zr zr (RC.sr (aM (.slice none 0 0) (RL.nq (RC.sr (mv (vi p3) (ic p3 0 (RL.nt (fy j (fun hc j=>?_) fun hc j=>?_))))))))
 ·refine RC.sr (aM (.slice none 0 0) (RL.nt (RC.rt ?_)))
  obtain rfl:=oi j
  have o:=o.cV dK 9
  exact cH (o.pk 1 [0])
 refine RC.ss (RC.sr (mv (str p1) (RL.CH (a:=p1) (b:=⟨[]⟩) zt zr zr zr zr (RL.nt (fy j (fun hc j=>?_) fun hc j=>?_)))))
 ·cases j
 refine RC.ss (RC.sr (mv (vi p3) (ic p3 0 (RL.nt ?_))))
 obtain⟨ab,hj,j⟩:=bd j
 refine RC.jn (fun(ab:Int)=>SH E V [(0,(str p0)),(1,(str p1)),(2,vi p2),(3,vi ab)] []) ab ?_ ?_
 ·refine fy hj (fun hc hj=>?_) fun hc hj=>?_
  rotate_left
  ·refine RC.skip ?_
   obtain rfl:=oi hj
   exact⟨rfl,o.sp 0 []⟩
  refine RC.region (mv (str p0) (mv (str p1) ?_))
  obtain⟨aj,ak,hj⟩:=bd hj
  refine RL.call zt zr HL [(str p0),(str p1)] zr (aF (uU N (p0:=p0) (p1:=p1) o ak) ?_)
  rintro _ w ⟨rfl,o⟩
  refine RL.jo aj 1 (aM (vi (IntKind.wrap .i64 (aj+1))) (RL.nil ?_))
  obtain rfl:=oi hj
  exact⟨rfl,o.sp 0 []⟩
 rintro _ w ⟨O,rfl,o⟩
 refine aG (RC.sr (mv (vi ab) (mv (str p0) (RL.lens p0 Ab (RL.jo (p0.cN.length:Int) 1 (RL.min ab (IntKind.wrap .i64 ((p0.cN.length:Int)+1)) (aM (vi (if (IntKind.wrap .i64 ((p0.cN.length:Int)+1))<ab then (IntKind.wrap .i64 ((p0.cN.length:Int)+1)) else ab)) (RL.ns ?_))))))))
 refine mv (vi (if (IntKind.wrap .i64 ((p0.cN.length:Int)+1))<ab then (IntKind.wrap .i64 ((p0.cN.length:Int)+1)) else ab)) ?_
 obtain⟨ay,al,j⟩:=bd j
 refine RL.mk (if (IntKind.wrap .i64 ((p0.cN.length:Int)+1))<ab then (IntKind.wrap .i64 ((p0.cN.length:Int)+1)) else ab) o HM KA al fun ae w o=>?_
 refine aM ae (RL.ns (mv (vi (if (IntKind.wrap .i64 ((p0.cN.length:Int)+1))<ab then (IntKind.wrap .i64 ((p0.cN.length:Int)+1)) else ab)) (RL.jo (if (IntKind.wrap .i64 ((p0.cN.length:Int)+1))<ab then (IntKind.wrap .i64 ((p0.cN.length:Int)+1)) else ab) 1 (aM (vi (IntKind.wrap .i64 ((if (IntKind.wrap .i64 ((p0.cN.length:Int)+1))<ab then (IntKind.wrap .i64 ((p0.cN.length:Int)+1)) else ab) - 1))) (RL.ns (aM (vi 0) (RL.nq ?_)))))))
 obtain⟨az,hN,j⟩:=bd j
 refine RC.iter (fun(aa:dK×(List dK)×Int)=>SH E V [(0,(str aa.1)),(1,(str p1)),(2,vi p2),(3,(vi (IntKind.wrap .i64 ((if (IntKind.wrap .i64 ((p0.cN.length:Int)+1))<ab then (IntKind.wrap .i64 ((p0.cN.length:Int)+1)) else ab) - 1)))),(9,ae),(10,vi aa.2.2)] [own 9 ae aa.2.1]) (fun(aa:dK×(List dK)×Int)=>SH E V [(0,(str aa.1)),(9,ae),(10,vi aa.2.2)] [own 9 ae aa.2.1]) (fun(r:Empty) _ _=>r.elim) hN ?_ ?_ ?_ ?_
 ·exact o.sp 1 [0]
 ·rintro aa fl _ w ⟨O,rfl,o⟩ j
  refine RC.seq (RC.sr (mv (vi aa.2.2) (mv (vi (IntKind.wrap .i64 ((if (IntKind.wrap .i64 ((p0.cN.length:Int)+1))<ab then (IntKind.wrap .i64 ((p0.cN.length:Int)+1)) else ab) - 1))) (ic aa.2.2 ((IntKind.wrap .i64 ((if (IntKind.wrap .i64 ((p0.cN.length:Int)+1))<ab then (IntKind.wrap .i64 ((p0.cN.length:Int)+1)) else ab) - 1))) (RL.nt (fy j (fun hc j=>?_) fun hc j=>?_))))))
  rotate_left
  ·refine RC.ex ?_
   obtain rfl:=oi j
   exact⟨rfl,o.sp 1 [0]⟩
  refine RC.sn (RC.bs (mv (str aa.1) (mv (str p1) ?_)))
  obtain⟨ag,ao,j⟩:=bd j
  refine RL.call zt zr Gf [(str aa.1),(str p1)] zr (aF (pd N (p0:=aa.1) (p1:=p1) o ao) ?_)
  rintro _ w ⟨rfl,o⟩
  refine aM (vi ag) (RL.nq (RC.sr (mv (vi ag) (ic ag 0 (RL.nt (fy j (fun hc j=>?_) fun hc j=>?_))))))
  ·refine RC.ex (DL ?_)
   obtain rfl:=oi j
   exact⟨rfl,o.sp 1 [0]⟩
  refine RC.sx (mv ae (mv (vi aa.2.2) (mv (str aa.1) (mv (vi ag) (mv (vi p2) (RL.jo ag p2 ?_))))))
  obtain⟨aq,ar,j⟩:=bd j
  refine RL.sC aa.1 zr zr Ab (.inr ⟨rfl,zr⟩) (.inl zr) ar ?_
  obtain⟨a1,ah,j⟩:=bd j
  refine RL.bL 0 o zr zr Cb ah ?_
  have o:=o.sc dK aq
  refine RL.gx (f:=(fun _ y=>y)) 1 0 o (jr 1 o ah 0) (aZ ah).2.1 zr Fs.self D6 fun w o=>?_
  refine RL.ns (mv (str aa.1) (mv (vi ag) (mv (str p1) (RL.lens p1 Ab (RL.jo ag (p1.cN.length:Int) ?_)))))
  obtain⟨au,av,j⟩:=bd j
  refine RL.sC aa.1 zr zr Ab (.inl zr) (.inr ⟨rfl,zr⟩) av (aM (str au) (RL.nt (RC.region (mv (vi aa.2.2) (RL.jo aa.2.2 1 (aM (vi (IntKind.wrap .i64 (aa.2.2+1))) (RL.nil (bQ ?_))))))))
  obtain rfl:=oi j
  exact⟨rfl,o.sp 2 [1]⟩
 ·intro r _ _ _ _
  exact r.elim
 rintro aa _ w rfl ⟨O,rfl,o⟩
 rw [Fo.fW] at j
 refine aG (RC.sr (mv ae (mv (vi aa.2.2) (mv (str aa.1) ?_))))
 obtain⟨a2,ai,j⟩:=bd j
 refine RL.bL 0 o zr zr Cb ai ?_
 have o:=o.sc dK aa.1
 refine RL.gx (f:=(fun _ y=>y)) 1 0 o (jr 1 o ai 0) (aZ ai).2.1 zr Fs.self D6 fun w o=>?_
 refine RL.ns (mv ae (mv (vi aa.2.2) (RL.jo aa.2.2 1 ?_)))
 obtain⟨a3,aw,j⟩:=bd j
 refine RL.tk 1 zr o zr zr Cb (.inr ⟨rfl,zr⟩) (.inl zr) aw fun ax o=>(aM ax (RL.nt (RC.ret ?_)))
 obtain rfl:=oi j
 exact cH (o.pk 2 [1])
theorem uV {p0 p1:dK} {res: (List dK)} (o:Holds E w V) (j:kT N p0 p1=some res):
    Calls bH 75 [(str p0),(str p1)].toArray w (gI (nQ E V res)):=by
 unfold kT at j
 refine enter Tryz.func75 zr zr (RC.sr (aM (.slice none 0 0) (RL.ns (mv (str p0) (mv (str p1) ?_)))))
 obtain⟨ad,aa,j⟩:=bd j
 refine RL.call zt zr Jo [(str p0),(str p1),(vi 0),(vi (-1))] zr (aF (rU N (p0:=p0) (p1:=p1) (p2:=0) (p3:=(-1)) o aa) ?_)
 rintro ab w o
 refine aM ab (RL.nt (RC.ret ?_))
 obtain rfl:=oi j
 exact cH (o.pk 1 [0])
def ov (E:World) (V:List HP) (r:Int) (U:Nat->Value) (w:World):Prop:=mc bH 19 Tryz.f93 (aT E V r) .ret U w
theorem nT {p0: (List dK)} {p1:dK->Option Bool} (j:Holds E w V) (h0:V[i0]? =some (rd v0 p0)) (h1:E7 bH E V v1 p1 (fun(r:Bool)=>Value.bool r)) (o:jd N p0 p1=some res):
    Calls bH 93 [v0,v1].toArray w (gI (aT E V res)):=by
 unfold jd at o
 refine enter Tryz.func93 zr zr ?_
 have j:=j.dup (i0+0) h0
 refine RC.sr (aM (vi 0) (RL.nq (RC.sr (mv v0 (RL.bK 0 p0 j HN (mv (vi 0) (RL.nt ?_)))))))
 obtain⟨al,hN,o⟩:=bd o
 refine RC.range (fun(aa:Nat) (ab:Unit)=>SH E V [(0,v0),(1,v1),(7,vi p0.length),(8,vi aa)] [rd v0 p0]) (fun(ab:Unit)=>SH E V [] [rd v0 p0]) (ov E V) hN ?_ ?_ ?_ ?_ ?_
 ·exact j.sp 1 [0]
 ·rintro hm ab _ w ⟨O,rfl,j⟩
  refine RC.sr (ic ((p0.length:Int)) ((p0.length:Int)) (RL.nq (RC.cX mT (RC.ex ?_))))
  exact⟨rfl,j.sp 1 [0]⟩
 ·rintro hm aa ab fl _ w hk ⟨O,rfl,j⟩ o
  refine RC.sr (ic ((aa:Int)) ((p0.length:Int)) (RL.nq (RC.cW (mS hk) (RC.ss (RC.bs (mv (vi aa) (aM (vi aa) (RL.ns ?_))))))))
  refine mv v1 (mv v0 (mv (vi aa) ?_))
  obtain⟨af,ah,o⟩:=bd o
  refine RL.cG 0 j Cb ah fun ao j=>(RL.bJ af 0 j D6 ?_)
  have j:=j.sc dK af
  obtain⟨aq,ai,o⟩:=bd o
  refine RL.yq 0 zr j zr h1 3 zr zr zr ai fun w j=>(RL.nt (fy o (fun hc o=>?_) fun hc o=>?_))
  rotate_left
  ·refine RC.skip (bQ (aG (RC.region (RL.inc hk hm (mv (vi ((aa+1:Nat):Int)) (RL.nil ?_))))))
   obtain rfl:=oi o
   exact⟨rfl,j.sp 3 [2]⟩
  refine RC.sr (mv (vi aa) (aM (vi aa) (RL.nt (RC.rb (cF ?_)))))
  obtain rfl:=oi o
  exact⟨rfl,cH ⟨rfl,j.drop 3⟩⟩
 ·intro r U w e hK
  subst e
  refine cF ?_
  obtain rfl:=oi o
  exact hK
 rintro ab _ w rfl ⟨O,rfl,j⟩
 rw [Fo.fW] at o
 refine aG (RC.sr (aM (vi (-1)) (RL.nt (RC.ret ?_))))
 obtain rfl:=oi o
 exact cH ⟨rfl,j.drop 1⟩
theorem mL {p0: (List dK)} {p1:dK->Option Bool} {res:Bool} (j:Holds E w V) (h0:V[i0]? =some (rd v0 p0)) (h1:E7 bH E V v1 p1 (fun(r:Bool)=>Value.bool r)) (o:gk N p0 p1=some res):
    Calls bH 74 [v0,v1].toArray w (gI (bB E V res)):=by
 unfold gk at o
 refine enter Tryz.func74 zr zr ?_
 have j:=j.dup (i0+0) h0
 refine RC.sr (aM (vb false) (RL.ns (mv v0 (mv v1 ?_))))
 obtain⟨aa,ab,o⟩:=bd o
 refine RL.call zt zr Jq [v0,v1] zr (aF (nT N (i0:=0) j zr (h1.lift 1 zr) ab) ?_)
 rintro _ w ⟨rfl,j⟩
 refine ic aa 0 (aM (vb (decide (aa>=0))) (RL.nt (RC.ret ?_)))
 obtain rfl:=oi o
 exact cH ⟨rfl,j.drop 1⟩
theorem qO {p0:dK} (o:Holds E w V) (j:gT N p0 p1=some res):
    Calls bH 77 [(str p0),(.int .u8 p1)].toArray w (gI (aT E V res)):=by
 unfold gT at j
 refine enter Tryz.func77 zr zr (RC.sr (aM (vi 0) (RL.ns (mv (str p0) (mv (.int .u8 p1) ?_)))))
 obtain⟨aa,ab,j⟩:=bd j
 refine RL.call zt zr HJ [(str p0),(.int .u8 p1)] zr (aF (kX N (p0:=p0) (p1:=p1) o ab) ?_)
 rintro _ w ⟨rfl,o⟩
 refine aM (vi aa) (RL.nt (RC.ret ?_))
 obtain rfl:=oi j
 exact cH ⟨rfl,o.drop 0⟩
def uW (E:World) (V:List HP) (r:Bool) (U:Nat->Value) (w:World):Prop:=mc bH 49 Tryz.f47 (bB E V r) .ret U w
theorem oF {p0:dK} {res:Bool} (hw:Holds E w V) (o:gN N p0=some res):
    Calls bH 47 [(str p0)].toArray w (gI (bB E V res)):=by
 unfold gN at o
 refine enter Tryz.func47 zr zr (RC.sr (aM (vb false) (RL.nq (RC.sr (mv (str p0) (RL.lens p0 Ab (mv (vi 0) (RL.nt ?_))))))))
 obtain⟨ar,hN,o⟩:=bd o
 refine RC.range (fun(ab:Nat) (af:Unit)=>SH E V [(0,(str p0)),(6,vi p0.cN.length),(7,vi ab)] []) (fun(af:Unit)=>SH E V [(0,(str p0))] []) (uW E V) hN ?_ ?_ ?_ ?_ ?_
 ·exact hw.sp 0 []
 ·rintro hm af _ w ⟨O,rfl,hw⟩
  refine RC.sr (ic ((p0.cN.length:Int)) ((p0.cN.length:Int)) (RL.nq (RC.cX mT (RC.ex ?_))))
  exact⟨rfl,hw.sp 0 []⟩
 ·rintro hm ab af fl _ w hk ⟨O,rfl,hw⟩ o
  refine RC.sr (ic ((ab:Int)) ((p0.cN.length:Int)) (RL.nq (RC.cW (mS hk) (RC.ss (RC.bs (mv (vi ab) (aM (vi ab) (RL.ns ?_))))))))
  refine mv (str p0) (mv (vi ab) ?_)
  obtain⟨j,al,o⟩:=bd o
  refine RL.idxs p0 (ab:Int) j zr zr zr Ab al (aM (.int .u8 (j.toNat:Int)) (RL.nq ?_))
  obtain⟨ag,hj,o⟩:=bd o
  refine RC.jn (fun(ag:Bool)=>SH E V [(0,(str p0)),(6,vi p0.cN.length),(7,vi ab),(39,vb ag)] []) ag ?_ ?_
  ·refine RC.region (mv (.int .u8 (j.toNat:Int)) (ic ((j.toNat:Int)) 65 (mv (vb (decide ((j.toNat:Int)<65))) (RL.gs true (decide ((j.toNat:Int)<65)) (.int .u8 (j.toNat:Int)) rfl rfl rfl dE (RL.gs true (decide ((j.toNat:Int)<65)) (vb (decide ((j.toNat:Int)>90))) rfl rfl rfl (eG .gtr .u8 (j.toNat:Int) 90 rfl (fun h=>by exact(cY h:cv (true&&((decide ((j.toNat:Int)<65))==false)) (.int .u8 (j.toNat:Int))= (.int .u8 (j.toNat:Int)))) (fun _=>rfl) rfl) (RL.pick (decide ((j.toNat:Int)<65)) (vb ((decide ((j.toNat:Int)<65))||(decide ((j.toNat:Int)>90)))) (mH true rfl) (mv (vb ((decide ((j.toNat:Int)<65))||(decide ((j.toNat:Int)>90)))) (RL.gs true ((decide ((j.toNat:Int)<65))||(decide ((j.toNat:Int)>90))) (.int .u8 (j.toNat:Int)) rfl rfl rfl dE ?_))))))))
   refine RL.gs true ((decide ((j.toNat:Int)<65))||(decide ((j.toNat:Int)>90))) (vb (decide ((j.toNat:Int)<97))) rfl rfl rfl (eG .lss .u8 (j.toNat:Int) 97 rfl (fun h=>by exact(cY h:cv (true&&(((decide ((j.toNat:Int)<65))||(decide ((j.toNat:Int)>90)))==true)) (.int .u8 (j.toNat:Int))= (.int .u8 (j.toNat:Int)))) (fun _=>rfl) rfl) (RL.gs true ((decide ((j.toNat:Int)<65))||(decide ((j.toNat:Int)>90))) (vb (decide ((j.toNat:Int)<97))) rfl rfl rfl (dE (hx:=fun h=>by exact(cY h:cv (true&&(((decide ((j.toNat:Int)<65))||(decide ((j.toNat:Int)>90)))==true)) (vb (decide ((j.toNat:Int)<97)))= (vb (decide ((j.toNat:Int)<97)))))) (RL.gs (true&&(((decide ((j.toNat:Int)<65))||(decide ((j.toNat:Int)>90)))==true)) (decide ((j.toNat:Int)<97)) (.int .u8 (j.toNat:Int)) rfl rfl rfl dE (RL.gs (true&&(((decide ((j.toNat:Int)<65))||(decide ((j.toNat:Int)>90)))==true)) (decide ((j.toNat:Int)<97)) (vb (decide ((j.toNat:Int)>122))) rfl rfl rfl (eG .gtr .u8 (j.toNat:Int) 122 rfl (fun h=>by exact(cY h:cv ((true&&(((decide ((j.toNat:Int)<65))||(decide ((j.toNat:Int)>90)))==true))&&((decide ((j.toNat:Int)<97))==false)) (.int .u8 (j.toNat:Int))= (.int .u8 (j.toNat:Int)))) (fun _=>rfl) rfl) (RL.gs true ((decide ((j.toNat:Int)<65))||(decide ((j.toNat:Int)>90))) (vb ((decide ((j.toNat:Int)<97))||(decide ((j.toNat:Int)>122)))) rfl rfl rfl (pE (decide ((j.toNat:Int)<97)) rfl (fun h=>by exact(cY h:cv (true&&(((decide ((j.toNat:Int)<65))||(decide ((j.toNat:Int)>90)))==true)) (vb (decide ((j.toNat:Int)<97)))= (vb (decide ((j.toNat:Int)<97))))) (fun h=>by exact mH (true&&(((decide ((j.toNat:Int)<65))||(decide ((j.toNat:Int)>90)))==true)) h)) (RL.pick ((decide ((j.toNat:Int)<65))||(decide ((j.toNat:Int)>90))) (vb (((decide ((j.toNat:Int)<65))||(decide ((j.toNat:Int)>90)))&&((decide ((j.toNat:Int)<97))||(decide ((j.toNat:Int)>122))))) (iX true) (mv (vb (((decide ((j.toNat:Int)<65))||(decide ((j.toNat:Int)>90)))&&((decide ((j.toNat:Int)<97))||(decide ((j.toNat:Int)>122))))) (RL.gs true (((decide ((j.toNat:Int)<65))||(decide ((j.toNat:Int)>90)))&&((decide ((j.toNat:Int)<97))||(decide ((j.toNat:Int)>122)))) (.int .u8 (j.toNat:Int)) rfl rfl rfl dE (RL.gs true (((decide ((j.toNat:Int)<65))||(decide ((j.toNat:Int)>90)))&&((decide ((j.toNat:Int)<97))||(decide ((j.toNat:Int)>122)))) (vb (decide ((j.toNat:Int)<48))) rfl rfl rfl (eG .lss .u8 (j.toNat:Int) 48 rfl (fun h=>by exact(cY h:cv (true&&((((decide ((j.toNat:Int)<65))||(decide ((j.toNat:Int)>90)))&&((decide ((j.toNat:Int)<97))||(decide ((j.toNat:Int)>122))))==true)) (.int .u8 (j.toNat:Int))= (.int .u8 (j.toNat:Int)))) (fun _=>rfl) rfl) ?_))))))))
   refine RL.gs true (((decide ((j.toNat:Int)<65))||(decide ((j.toNat:Int)>90)))&&((decide ((j.toNat:Int)<97))||(decide ((j.toNat:Int)>122)))) (vb (decide ((j.toNat:Int)<48))) rfl rfl rfl (dE (hx:=fun h=>by exact(cY h:cv (true&&((((decide ((j.toNat:Int)<65))||(decide ((j.toNat:Int)>90)))&&((decide ((j.toNat:Int)<97))||(decide ((j.toNat:Int)>122))))==true)) (vb (decide ((j.toNat:Int)<48)))= (vb (decide ((j.toNat:Int)<48)))))) (RL.gs (true&&((((decide ((j.toNat:Int)<65))||(decide ((j.toNat:Int)>90)))&&((decide ((j.toNat:Int)<97))||(decide ((j.toNat:Int)>122))))==true)) (decide ((j.toNat:Int)<48)) (.int .u8 (j.toNat:Int)) rfl rfl rfl dE (RL.gs (true&&((((decide ((j.toNat:Int)<65))||(decide ((j.toNat:Int)>90)))&&((decide ((j.toNat:Int)<97))||(decide ((j.toNat:Int)>122))))==true)) (decide ((j.toNat:Int)<48)) (vb (decide ((j.toNat:Int)>57))) rfl rfl rfl (eG .gtr .u8 (j.toNat:Int) 57 rfl (fun h=>by exact(cY h:cv ((true&&((((decide ((j.toNat:Int)<65))||(decide ((j.toNat:Int)>90)))&&((decide ((j.toNat:Int)<97))||(decide ((j.toNat:Int)>122))))==true))&&((decide ((j.toNat:Int)<48))==false)) (.int .u8 (j.toNat:Int))= (.int .u8 (j.toNat:Int)))) (fun _=>rfl) rfl) (RL.gs true (((decide ((j.toNat:Int)<65))||(decide ((j.toNat:Int)>90)))&&((decide ((j.toNat:Int)<97))||(decide ((j.toNat:Int)>122)))) (vb ((decide ((j.toNat:Int)<48))||(decide ((j.toNat:Int)>57)))) rfl rfl rfl (pE (decide ((j.toNat:Int)<48)) rfl (fun h=>by exact(cY h:cv (true&&((((decide ((j.toNat:Int)<65))||(decide ((j.toNat:Int)>90)))&&((decide ((j.toNat:Int)<97))||(decide ((j.toNat:Int)>122))))==true)) (vb (decide ((j.toNat:Int)<48)))= (vb (decide ((j.toNat:Int)<48))))) (fun h=>by exact mH (true&&((((decide ((j.toNat:Int)<65))||(decide ((j.toNat:Int)>90)))&&((decide ((j.toNat:Int)<97))||(decide ((j.toNat:Int)>122))))==true)) h)) (RL.pick (((decide ((j.toNat:Int)<65))||(decide ((j.toNat:Int)>90)))&&((decide ((j.toNat:Int)<97))||(decide ((j.toNat:Int)>122)))) (vb ((((decide ((j.toNat:Int)<65))||(decide ((j.toNat:Int)>90)))&&((decide ((j.toNat:Int)<97))||(decide ((j.toNat:Int)>122))))&&((decide ((j.toNat:Int)<48))||(decide ((j.toNat:Int)>57))))) (iX true) (mv (vb ((((decide ((j.toNat:Int)<65))||(decide ((j.toNat:Int)>90)))&&((decide ((j.toNat:Int)<97))||(decide ((j.toNat:Int)>122))))&&((decide ((j.toNat:Int)<48))||(decide ((j.toNat:Int)>57))))) (gv hj (fun ad hj=>?_) fun ad hj=>?_))))))
   rotate_left
   ·refine cA ad (cA ad (cA ad (gw ad (vb false) (RL.nil ?_))))
    obtain rfl:=oi hj
    exact⟨rfl,hw.sp 0 []⟩
   refine RL.move (.int .u8 (j.toNat:Int)) (cg ad) ?_
   obtain⟨aj,an,hj⟩:=bd hj
   refine RL.call (cg ad) zr Jr [(str ⟨[95,43,45,35]⟩),(.int .u8 (j.toNat:Int))] zr (aF (qO N (p0:=⟨[95,43,45,35]⟩) (p1:=(j.toNat:Int)) hw an) ?_)
   rintro _ w ⟨rfl,hw⟩
   refine RL.kz aj 0 (cg ad) (gw ad (vb (decide (aj<0))) (RL.nil ?_))
   obtain rfl:=oi hj
   exact⟨rfl,hw.sp 0 []⟩
  rintro _ w ⟨O,rfl,hw⟩
  refine aG (fy o (fun hc o=>?_) fun hc o=>?_)
  rotate_left
  ·refine RC.skip (bQ (aG (RC.region (RL.inc hk hm (mv (vi ((ab+1:Nat):Int)) (RL.nil ?_))))))
   obtain rfl:=oi o
   exact⟨rfl,hw.sp 0 []⟩
  refine RC.sr (aM (vb false) (RL.nt (RC.rb (cF ?_))))
  obtain rfl:=oi o
  exact⟨rfl,cH ⟨rfl,hw.drop 0⟩⟩
 ·intro r U w e hK
  subst e
  refine cF ?_
  obtain rfl:=oi o
  exact hK
 rintro af _ w rfl ⟨O,rfl,hw⟩
 rw [Fo.fW] at o
 refine aG (RC.sr (mv (str p0) (RL.lens p0 Ab (ic ((p0.cN.length:Int)) 1 (mv (vb (decide ((p0.cN.length:Int)>=1))) (RL.gs true (decide ((p0.cN.length:Int)>=1)) (str p0) rfl rfl rfl dE (RL.gs true (decide ((p0.cN.length:Int)>=1)) (vi p0.cN.length) rfl rfl rfl (Fk (s:=p0) rfl (fun h=>by exact(cY h:cv (true&&((decide ((p0.cN.length:Int)>=1))==true)) (str p0)= (str p0))) Ab) (RL.gs true (decide ((p0.cN.length:Int)>=1)) (vb (decide ((p0.cN.length:Int)<=40))) rfl rfl rfl (eG .leq .i64 (p0.cN.length:Int) 40 rfl (fun h=>by exact(cY h:cv (true&&((decide ((p0.cN.length:Int)>=1))==true)) (vi p0.cN.length)= (vi p0.cN.length))) (fun _=>rfl) rfl) ?_))))))))
 refine RL.pick (decide ((p0.cN.length:Int)>=1)) (vb ((decide ((p0.cN.length:Int)>=1))&&(decide ((p0.cN.length:Int)<=40)))) (iX true) (aM (vb ((decide ((p0.cN.length:Int)>=1))&&(decide ((p0.cN.length:Int)<=40)))) (RL.nt (RC.ret ?_)))
 obtain rfl:=oi o
 exact cH ⟨rfl,hw.drop 0⟩
theorem qP {p0:dK} {res:Bool} (o:Holds E w V) (j:gl N p0=some res):
    Calls bH 76 [(str p0)].toArray w (gI (bB E V res)):=by
 unfold gl at j
 refine enter Tryz.func76 zr zr (RC.sr (aM (vb false) (RL.ns (mv (str p0) ?_))))
 obtain⟨aa,ab,j⟩:=bd j
 refine RL.call zt zr HO [(str p0)] zr (aF (oF N (p0:=p0) o ab) ?_)
 rintro _ w ⟨rfl,o⟩
 refine RL.not aa (aM (vb (!aa)) (RL.nt (RC.ret ?_)))
 obtain rfl:=oi j
 exact cH ⟨rfl,o.drop 0⟩
theorem tN {p0:dK} {res:Bool} (j:Holds E w V) (hb:kg N p0=some res):
    Calls bH 46 [(str p0)].toArray w (gI (bB E V res)):=by
 unfold kg at hb
 refine enter Tryz.func46 zr zr (RC.sr (aM (vb false) (RL.nq ?_)))
 obtain⟨ad,hj,hb⟩:=bd hb
 refine RC.jn (fun(ad:Bool)=>SH E V [(2,vb ad)] []) ad ?_ ?_
 ·refine RC.region (mv (str p0) (RL.lens p0 Ab (ic ((p0.cN.length:Int)) 200 (mv (vb (decide ((p0.cN.length:Int)<=200))) (gv hj (fun o hj=>?_) fun o hj=>?_)))))
  rotate_left
  ·refine cA o (cA o (cA o (cA o (gw o (vb false) (aM (vb false) (RL.nil ?_))))))
   obtain rfl:=oi hj
   exact⟨rfl,j.sp 0 []⟩
  refine RL.move (str p0) (cg o) ?_
  obtain⟨ai,af,hj⟩:=bd hj
  refine RL.call (cg o) zr Jp [(str p0),(str ⟨[47]⟩)] zr (aF (uV N (p0:=p0) (p1:=⟨[47]⟩) j af) ?_)
  rintro ag w j
  have j:=j.freeze 0
  obtain⟨ae,ah,hj⟩:=bd hj
  refine RL.call (cg o) rfl Jt [ag,(.func (.func 76) #[] #[])] rfl (aF (mL N (i0:=0) j rfl ⟨76,[],rfl,Js,fun w Γl v y0 r i j hi hr=>by obtain rfl:=j.zq (γ:=dK) hi;exact aF (qP N (p0:=y0) j hr) fun _ _ h=>h⟩ ah) ?_)
  rintro _ w ⟨rfl,j⟩
  refine RL.not (hg:=(cg o)) ae (gw o (vb (!ae)) (aM (vb (!ae)) (RL.nil ?_)))
  obtain rfl:=oi hj
  exact⟨rfl,j.sp 1 []⟩
 rintro _ w ⟨O,rfl,j⟩
 refine aG (RC.ret ?_)
 obtain rfl:=oi hb
 exact cH ⟨rfl,j.drop 0⟩
def wA (E:World) (V:List HP) (res:fX) (v:Value) (w:World):Prop:=Holds E w ([rd v res]++V)
theorem lq {p0:dL} {res:fX} (j:Holds E w V) (h0:V[i0]? =some (rd v0 p0)) (o:jA N p0=some res):
    Calls bH 34 [v0].toArray w (gI (wA E V res)):=by
 unfold jA at o
 refine enter Tryz.func34 zr zr ?_
 have j:=j.dup (i0+0) h0
 refine RC.sr (RL.cR 0 v0 j zr fun aa w j=>?_)
 refine RL.alloc j HQ.z fun ab w j=>?_
 refine RL.ns (RL.bF zr D5 (RL.aO 1 j zr x4 D6 (RL.bF zr D7 (RL.aO 1 j zr x5 D6 ?_))))
 have j:=(j.sc dK p0.Part).sc dK p0.fX
 refine RL.build (⟨p0.Part,p0.fX⟩:fX) trivial rfl j [(0,(str p0.Part)),(1,(str p0.fX))] rfl Jv rfl (fun M hs g=>by have h:=Hz M;exact dO.cons (f:=fun(x:fX) y=>{x with Part:=y}) h DY (g.sat 1 _ rfl).1 fun _ h=>dO.cons (f:=fun(x:fX) y=>{x with fX:=y}) h DZ (g.sat 0 _ rfl).1 fun _ h=>dO.nil h) fun ad j=>?_
 refine RL.bC 3 j 0 zr oj fun w j=>?_
 refine RL.nt (RC.ret ?_)
 obtain rfl:=oi o
 exact Gw 3 zr j zr zr oj fun ae j=>(j.pk 7 [0])
theorem oO {p0 p1:dK} (o:Holds E w V) (j:jU N p0 p1=some res):
    Calls bH 86 [(str p0),(str p1)].toArray w (gI (aT E V res)):=by
 unfold jU at j
 refine enter Tryz.func86 zr zr (RC.sr (aM (vi 0) (RL.ns (mv (str p0) (mv (str p1) (RL.vY (vi (Lib.compareBytes p0.cN p1.cN)) zr [(str p0),(str p1)] zr (Jw p0 p1 w) (aM (vi (Lib.compareBytes p0.cN p1.cN)) (RL.nt ?_))))))))
 refine RC.ret ?_
 obtain rfl:=oi j
 exact cH ⟨rfl,o.drop 0⟩
theorem nU {p0 p1:dK} (o:Holds E w V) (j:ll N p0 p1=some res):
    Calls bH 62 [(str p0),(str p1)].toArray w (gI (aT E V res)):=by
 unfold ll at j
 refine enter Tryz.func62 zr zr (RC.sr (aM (vi 0) (RL.ns (mv (str p0) (mv (str p1) ?_)))))
 obtain⟨aa,ab,j⟩:=bd j
 refine RL.call zt zr Jx [(str p0),(str p1)] zr (aF (oO N (p0:=p0) (p1:=p1) o ab) ?_)
 rintro _ w ⟨rfl,o⟩
 refine aM (vi aa) (RL.nt (RC.ret ?_))
 obtain rfl:=oi j
 exact cH ⟨rfl,o.drop 0⟩
theorem l5 {p0 p1:fX} (j:Holds E w V) (h0:V[i0]? =some (rd v0 p0)) (h1:V[i1]? =some (rd v1 p1)) (o:gp N p0 p1=some res):
    Calls bH 33 [v0,v1].toArray w (gI (aT E V res)):=by
 unfold gp at o
 refine enter Tryz.func33 zr zr ?_
 have j:=(j.dup (i0+0) h0).dup (i1+1) h1
 refine RC.sr (RL.cR 1 v0 j zr fun ag w j=>?_)
 refine RL.cR 1 v1 j zr fun ah w j=>?_
 refine aM (vi 0) (RL.nq (RC.sr (RL.bF zr D8 (RL.aO 1 j zr z6 D6 (RL.bF zr D8 (RL.aO 0 j zr z6 D6 ?_))))))
 obtain⟨aa,ab,o⟩:=bd o
 refine RL.call zt zr HR [(str p0.Part),(str p1.Part)] zr (aF (nU N (p0:=p0.Part) (p1:=p1.Part) j ab) ?_)
 rintro _ w ⟨rfl,j⟩
 refine aM (vi aa) (RL.ns (mv (vi aa) (ic aa 0 (RL.nt (fy o (fun hc o=>?_) fun hc o=>?_)))))
 ·refine RC.sr (mv (vi aa) (aM (vi aa) (RL.nt (RC.rt ?_))))
  obtain rfl:=oi o
  exact cH ⟨rfl,j.drop 4⟩
 refine RC.sx (RL.bF zr D9 (RL.aO 1 j zr z7 D6 (RL.bF zr D9 (RL.aO 0 j zr z7 D6 ?_))))
 obtain⟨ae,af,o⟩:=bd o
 refine RL.call zt zr HR [(str p0.fX),(str p1.fX)] zr (aF (nU N (p0:=p0.fX) (p1:=p1.fX) j af) ?_)
 rintro _ w ⟨rfl,j⟩
 refine aM (vi ae) (RL.nt (RC.ret ?_))
 obtain rfl:=oi o
 exact cH ⟨rfl,j.drop 4⟩
def rV (E:World) (V:List HP) (r:Int) (U:Nat->Value) (w:World):Prop:=mc bH 60 Tryz.f20 (aT E V r) .ret U w
theorem qQ {p0:iW} (j:Holds E w V) (h0:V[i0]? =some (rd v0 p0)) (hb:iS N p0=some res):
    Calls bH 20 [v0].toArray w (gI (aT E V res)):=by
 unfold iS at hb
 refine enter Tryz.func20 zr zr ?_
 have j:=j.dup (i0+0) h0
 refine RC.sr (RL.cR 0 v0 j zr fun ag w j=>?_)
 have j:=j.gm (i:=0) rfl
 refine aM (vi 0) (RL.nq (RC.sr (RL.i7 0 j zr uN qE fun bk j=>(RL.bU 0 p0.bD j C0 fun bl j=>(RL.bK 0 p0.bD j D3 (ic ((p0.bD.length:Int)) 1000 (RL.nt (fy hb (fun hc hb=>?_) fun hc hb=>?_))))))))
 ·refine RC.sr (aM (vi 2) (RL.nt (RC.rt ?_)))
  obtain rfl:=oi hb
  exact cH ⟨rfl,j.drop 4⟩
 refine RC.ss (RC.sr (RL.i7 2 j zr uN qE fun bm j=>(RL.bU 0 p0.bD j C0 fun ah j=>(RL.bK 0 p0.bD j D3 (mv (vi 0) (RL.nt ?_))))))
 obtain⟨bn,hN,hb⟩:=bd hb
 refine RC.range (fun(ad:Nat) (ak:Unit)=>SH E V [(1,vp ag 0),(10,ah),(11,vi p0.bD.length),(12,vi ad)] [pt (vp ag 0) p0,rd ah p0.bD]) (fun(ak:Unit)=>SH E V [] [pt (vp ag 0) p0,rd ah p0.bD]) (rV E V) hN ?_ ?_ ?_ ?_ ?_
 ·exact j.sp 6 [4,0]
 ·rintro hm ak _ w ⟨O,rfl,j⟩
  refine RC.sr (ic ((p0.bD.length:Int)) ((p0.bD.length:Int)) (RL.nq (RC.cX mT (RC.ex ?_))))
  exact⟨rfl,j.sp 2 [0,1]⟩
 ·rintro hm ad ak fl _ w hk ⟨O,rfl,j⟩ hb
  refine RC.sr (ic ((ad:Int)) ((p0.bD.length:Int)) (RL.nq (RC.cW (mS hk) (RC.ss (RC.bs (mv (vi ad) ?_))))))
  obtain⟨ai,a1,hb⟩:=bd hb
  refine RL.cG 1 j D4 a1 fun bp j=>(RL.bU 0 ai j wu fun bq j=>(RL.alloc j HI.z fun al w j=>?_))
  refine aM (vi ad) (RL.bC 0 j 1 zr wu fun w j=>?_)
  refine RL.nt (RC.block (RC.seq ?_))
  obtain⟨an,o,hb⟩:=bd hb
  refine RC.jn (fun(an:Bool)=>SH E V [(1,vp ag 0),(3,vi ad),(4,vp al 0),(10,ah),(11,vi p0.bD.length),(12,vi ad),(17,vb an)] [pt (vp ag 0) p0,bx 87 al ai,rd ah p0.bD]) an ?_ ?_
  ·refine RC.region (RL.bF zr D5 (RL.aO 0 j zr x4 D6 ?_))
   obtain⟨ay,a2,o⟩:=bd o
   refine RL.call zt zr Ju [(str ai.Part)] zr (aF (tN N (p0:=ai.Part) j a2) ?_)
   rintro _ w ⟨rfl,j⟩
   refine RL.not ay (mv (vb (!ay)) (gv o (fun ae o=>?_) fun ae o=>?_))
   ·refine cA ae (cA ae (cA ae (cA ae (gw ae (vb true) (aM (vb true) (RL.nil ?_))))))
    obtain rfl:=oi o
    exact⟨rfl,j.sp 5 [3,0,4]⟩
   refine RL.bF (hg:=(cg ae)) zr D7 (RL.aO (hg:=(cg ae)) 0 j zr x5 D6 ?_)
   obtain⟨ao,a3,o⟩:=bd o
   refine RL.call (cg ae) zr HO [(str ai.fX)] zr (aF (oF N (p0:=ai.fX) j a3) ?_)
   rintro _ w ⟨rfl,j⟩
   refine RL.not (hg:=(cg ae)) ao (gw ae (vb (!ao)) (aM (vb (!ao)) (RL.nil ?_)))
   obtain rfl:=oi o
   exact⟨rfl,j.sp 5 [3,0,4]⟩
  rintro _ w ⟨O,rfl,j⟩
  refine aG (fy hb (fun hc hb=>?_) fun hc hb=>?_)
  ·refine RC.sr (aM (vi 5) (RL.nt (RC.rb (mn (cF ?_)))))
   obtain rfl:=oi hb
   exact⟨rfl,cH ⟨rfl,j.drop 3⟩⟩
  refine RC.seq ?_
  obtain⟨aq,o,hb⟩:=bd hb
  refine RC.jn (fun(aq:Bool)=>SH E V [(1,vp ag 0),(3,vi ad),(4,vp al 0),(10,ah),(11,vi p0.bD.length),(12,vi ad),(28,vb aq)] [pt (vp ag 0) p0,bx 87 al ai,rd ah p0.bD]) aq ?_ ?_
  ·refine RC.region (RL.bF zr Bg (RL.aO 1 j zr uI cP (RL.i7 0 j zr uK o5 fun br j=>(RL.bU 0 p0.aN j CT fun bt j=>(RL.bK 0 p0.aN j z9 (RL.jo (p0.aN.length:Int) 1 ?_))))))
   obtain⟨az,a4,o⟩:=bd o
   refine RL.call zt zr FB [(vi ai.eQ),(vi 0),(vi (IntKind.wrap .i64 ((p0.aN.length:Int) - 1)))] zr (aF (kL N (p0:=ai.eQ) (p1:=0) (p2:=(IntKind.wrap .i64 ((p0.aN.length:Int) - 1))) j a4) ?_)
   rintro _ w ⟨rfl,j⟩
   refine RL.not az (mv (vb (!az)) (gv o (fun af o=>?_) fun af o=>?_))
   ·refine cA af (cA af (cA af (cA af (gw af (vb true) (aM (vb true) (RL.nil ?_))))))
    obtain rfl:=oi o
    exact⟨rfl,j.sp 5 [2,3,4]⟩
   refine RL.bF (hg:=(cg af)) zr Bh (RL.aR (hg:=(cg af)) 3 j zr uJ FC fun a5 j=>?_)
   obtain⟨ar,a6,o⟩:=bd o
   refine RL.call (cg af) zr HH [a5] zr (aF (o9 N (i0:=0) j zr a6) ?_)
   rintro _ w ⟨rfl,j⟩
   refine RL.not (hg:=(cg af)) ar (gw af (vb (!ar)) (aM (vb (!ar)) (RL.nil ?_)))
   obtain rfl:=oi o
   exact⟨rfl,j.sp 6 [3,4,5]⟩
  rintro _ w ⟨O,rfl,j⟩
  refine aG (fy hb (fun hc hb=>?_) fun hc hb=>?_)
  ·refine RC.sr (aM (vi 1) (RL.nt (RC.rb (mn (cF ?_)))))
   obtain rfl:=oi hb
   exact⟨rfl,cH ⟨rfl,j.drop 3⟩⟩
  refine RC.seq ?_
  obtain⟨au,o,hb⟩:=bd hb
  refine RC.jn (fun(au:Bool)=>SH E V [(1,vp ag 0),(10,ah),(11,vi p0.bD.length),(12,vi ad),(43,vb au)] [pt (vp ag 0) p0,rd ah p0.bD]) au ?_ ?_
  ·refine RC.yF mixed [0,0,0,0,2,1,1,1,1,1,1,2,2,0,0,0] [0,1,2,3,5,6,7,8,9,10,4,11,12,13,14,15] ?_
   have j:=j.drew
   refine DP.e0 zr (mv (vi ad) (cT zr (ic ((ad:Int)) 0 (cT zr (mv (vb (decide ((ad:Int)>0))) (DP.d0 (gv o (fun ab o=>?_) fun ab o=>?_)))))))
   rotate_left
   ·refine DP.e0 zr (cA ab (DP.d0 (DP.e1 undef zr (fun w=>cA ab DP.d1) (DP.e1 undef zr (fun w=>cA ab DP.d1) (DP.e1 undef zr (fun w=>cA ab DP.d1) (DP.e1 undef zr (fun w=>cA ab DP.d1) (DP.e1 undef zr (fun w=>cA ab DP.d1) (DP.e1 undef zr (fun w=>cA ab DP.d1) ?_))))))))
    refine DP.e2 zr (cA ab (GL zr (cA ab (GL zr (cA ab (B8 zr (cA ab (cT zr ?_))))))))
    refine gw ab (vb false) (cT zr (aM (vb false) (DP.d0 (DP.z ?_))))
    obtain rfl:=oi o
    exact⟨rfl,j.sp 3 [0,2]⟩
   refine DP.e0 zr (RL.aR (hg:=(cg ab)) (f:=(fun x=>x)) 1 j zr Fd.self wu fun a7 j=>(DP.d0 (DP.Hy 1 zr zr (cg ab) zr j zr zr uN qE fun bu j=>(DP.wj (hg:=(cg ab)) p0.bD 0 zr j C0 fun bw a378 bz j=>(DP.e1 (vi ad) zr (fun w=>RL.move (vi ad) (cg ab) DP.d1) (DP.e1 (vi (IntKind.wrap .i64 ((ad:Int) - 1))) zr (fun w=>RL.jo (hg:=(cg ab)) (ad:Int) 1 DP.d1) ?_))))))
   obtain⟨a8,a9,o⟩:=bd o
   refine DP.GN 1 zr zr (cg ab) zr j zr zr zr D4 a9 fun b0 j=>(DP.wj (hg:=(cg ab)) a8 0 zr j wu fun ba a383 b1 j=>(DP.e2 zr ?_))
   obtain⟨b2,bb,o⟩:=bd o
   refine RL.call (cg ab) zr FD [a7] zr (aF (lq N (i0:=6) j zr bb) ?_)
   rintro bc w j
   refine DP.d2 (⟨⟨zt,j.kV 4⟩,j.kV 1⟩) (DP.e2 zr ?_)
   obtain⟨b3,bf,o⟩:=bd o
   refine RL.call (cg ab) zr FD [ba] zr (aF (lq N (i0:=2) j zr bf) ?_)
   rintro bg w j
   refine DP.d2 (⟨⟨zt,j.kV 5⟩,j.kV 2⟩) (DP.e2 zr ?_)
   obtain⟨av,bh,o⟩:=bd o
   refine RL.call (cg ab) zr HS [bc,bg] zr (aF (l5 N (i0:=1) (i1:=0) j zr zr bh) ?_)
   rintro _ w ⟨rfl,j⟩
   refine DP.d2 (⟨⟨zt,j.kV 5⟩,j.kV 2⟩) (DP.e0 zr (RL.kz av 0 (cg ab) (cT zr (gw ab (vb (decide (av<=0))) (cT zr (aM (vb (decide (av<=0))) (DP.d0 ?_)))))))
   have j:=j.pl 12 [0,1,3,4,6,7,8,9,10,11]
   refine DP.z ?_
   obtain rfl:=oi o
   exact⟨rfl,j.sp 10 [7,9]⟩
  rintro _ w ⟨O,rfl,j⟩
  refine aG (fy hb (fun hc hb=>?_) fun hc hb=>?_)
  rotate_left
  ·refine RC.skip (bQ (bQ (aG (RC.region (RL.inc hk hm (mv (vi ((ad+1:Nat):Int)) (RL.nil ?_)))))))
   obtain rfl:=oi hb
   exact⟨rfl,j.sp 2 [0,1]⟩
  refine RC.sr (aM (vi 8) (RL.nt (RC.rb (mn (cF ?_)))))
  obtain rfl:=oi hb
  exact⟨rfl,cH ⟨rfl,j.drop 2⟩⟩
 ·intro r U w e hK
  subst e
  refine cF ?_
  obtain rfl:=oi hb
  exact hK
 rintro ak _ w rfl ⟨O,rfl,j⟩
 rw [Fo.fW] at hb
 refine aG (RC.sr (aM (vi 0) (RL.nt (RC.ret ?_))))
 obtain rfl:=oi hb
 exact cH ⟨rfl,j.drop 2⟩
theorem pf (o:Holds E w V) (j:jQ N p0 p1 p2 p3=some res):
    Calls bH 49 [(vi p0),(vi p1),(vi p2),(vi p3)].toArray w (gI (aT E V res)):=by
 unfold jQ at j
 refine enter Tryz.func49 zr zr (RC.sr (aM (vi 0) (RL.ns (mv (vi p2) (mv (vi p1) (RL.jo p2 p1 (RL.jo (IntKind.wrap .i64 (p2 - p1)) 1 (mv (vi p0) ?_))))))))
 refine mv (vi p3) (RL.jo p0 p3 (RL.jo (IntKind.wrap .i64 (p0 - p3)) 1 (RL.I2 (a:=0) (b:=(IntKind.wrap .i64 ((IntKind.wrap .i64 (p2 - p1))+1))) (c:=(IntKind.wrap .i64 ((IntKind.wrap .i64 (p0 - p3))+1))) zt zr zr zr zr (aM (vi (if (if 0< (IntKind.wrap .i64 ((IntKind.wrap .i64 (p2 - p1))+1)) then (IntKind.wrap .i64 ((IntKind.wrap .i64 (p2 - p1))+1)) else 0)< (IntKind.wrap .i64 ((IntKind.wrap .i64 (p0 - p3))+1)) then (IntKind.wrap .i64 ((IntKind.wrap .i64 (p0 - p3))+1)) else (if 0< (IntKind.wrap .i64 ((IntKind.wrap .i64 (p2 - p1))+1)) then (IntKind.wrap .i64 ((IntKind.wrap .i64 (p2 - p1))+1)) else 0))) (RL.nt (RC.ret ?_))))))
 obtain rfl:=oi j
 exact cH ⟨rfl,o.drop 0⟩
theorem yV {p0 p1:aI} (j:Holds E w V) (h0:V[i0]? =some (rd v0 p0)) (h1:V[i1]? =some (rd v1 p1)) (o:oX N p0 p1=some res):
    Calls bH 21 [v0,v1].toArray w (gI (aT E V res)):=by
 unfold oX at o
 refine enter Tryz.func21 zr zr ?_
 have j:=(j.dup (i0+0) h0).dup (i1+1) h1
 refine RC.sr (RL.cR 1 v0 j zr fun aa w j=>?_)
 refine RL.cR 1 v1 j zr fun ab w j=>?_
 refine aM (vi 0) (RL.nq ?_)
 have j:=j.drew
 refine RC.CN (fun w=>Holds E w ([bx 56 ab p1,bx 56 aa p0]++V)) mixed zr [0,0,0,0,0,0,0,0,2,1,1,1,1,1,1,1,1,2,0,0] [0,1,2,3,4,5,6,7,9,10,11,12,13,14,15,16,8,17,18,19] (j.pk 4 [0,1]) (DP.e0 zr (RL.bF zr ji (cT zr (RL.aO 1 j zr fu cP (cT zr (RL.bF zr jW (cT zr (RL.aO 1 j zr fU cP ?_))))))))
 refine cT zr (RL.bF zr ji (cT zr (RL.aO 0 j zr fu cP (cT zr (RL.bF zr jW (cT zr (RL.aO 0 j zr fU cP (DP.d0 ?_))))))))
 refine DP.e1 (vp aa 1) zr (fun w=>RL.bF zr jV DP.d1) (DP.Gc (vi p0.Y0) zr (fun w j=>RL.aO 1 j zr fG cP DP.d1) (DP.e1 (vp aa 3) zr (fun w=>RL.bF zr mZ DP.d1) (DP.Gc (vi p0.Y1) zr (fun w j=>RL.aO 1 j zr iM cP DP.d1) (DP.e1 (vp ab 1) zr (fun w=>RL.bF zr jV DP.d1) (DP.Gc (vi p1.Y0) zr (fun w j=>RL.aO 0 j zr fG cP DP.d1) (DP.e1 (vp ab 3) zr (fun w=>RL.bF zr mZ DP.d1) (DP.Gc (vi p1.Y1) zr (fun w j=>RL.aO 0 j zr iM cP DP.d1) (DP.e2 zr ?_))))))))
 obtain⟨ad,af,o⟩:=bd o
 refine RL.call zt zr HT [(vi p0.X0),(vi p0.X1),(vi p1.X0),(vi p1.X1)] zr (aF (pf N (p0:=p0.X0) (p1:=p0.X1) (p2:=p1.X0) (p3:=p1.X1) j af) ?_)
 rintro _ w ⟨rfl,j⟩
 refine DP.d2 (j.pk 4 [0,1]) (DP.e2 zr ?_)
 obtain⟨ae,ag,o⟩:=bd o
 refine RL.call zt zr HT [(vi p0.Y0),(vi p0.Y1),(vi p1.Y0),(vi p1.Y1)] zr (aF (pf N (p0:=p0.Y0) (p1:=p0.Y1) (p2:=p1.Y0) (p3:=p1.Y1) j ag) ?_)
 rintro _ w ⟨rfl,j⟩
 refine DP.d2 (j.pk 4 [0,1]) (DP.e0 zr (RL.max ad ae (cT zr (aM (vi (if ad<ae then ae else ad)) (DP.d0 (DP.z (aG (RC.ret ?_))))))))
 obtain rfl:=oi o
 exact cH ⟨rfl,j.drop 4⟩
end Go.Gk
