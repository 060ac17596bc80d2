/-
  Printed texts: Go functions as plain functions, and that they are. No statement of the seed is proved here.
-/
import Derived.Test.YthioiiocofohiaaGreatDoorG1
import Derived.Test.YthioiiocofohiaaGreatDoorA2
set_option linter.unusedVariables false
set_option linter.unusedSimpArgs false
set_option linter.unusedSectionVars false
set_option maxRecDepth 100000
set_option maxHeartbeats 40000000
namespace Go.Gk
open Go Go.Proofs
variable (N:Nat) {E w:World} {i0 i1:Nat} {p0 p1 p2 p3 res:Int} {v0 v1:Value} {V:List HP}
theorem hZ {p0:cD} {res:aH} (j:Holds E w V) (h0:V[i0]? =some (rd v0 p0)) (o:fH N p0=some res):
    Calls bN 50 [v0].toArray w (iE (qC E V res)):=by
 unfold fH at o
 refine enter Tryz.func50 zr zr ?_
 have j:=j.dup (i0+0) h0
 refine RC.sr (RL.dJ 0 v0 j zr fun aa w j=>?_)
 refine RL.alloc j qN.z fun ab w j=>?_
 refine RL.nq (RC.AA mixed ?_)
 have j:=j.drew
 refine RO.go (RL.bO zr Cf (RO.nx (RL.bO zr xL (RO.nx (RL.aR (f:=(fun x=>x.At.X)) 1 j zr (Fd.comp (f:=fun(x:cD)=>x.At) (fun(x:bH)=>x.X) xD nX) cW (RO.nx (RL.bO zr wD (RO.nx ?_))))))))
 refine RL.aR 1 j zr ri cW (RO.nx (RL.quo p0.eP 2 zr (RO.nx (RL.ja p0.At.X (IntKind.wrap .i64 (Int.tdiv p0.eP 2)) (RO.nx (RL.bO zr Cf (RO.nx (RL.bO zr xM ?_))))))))
 refine RO.nx (RL.aR (f:=(fun x=>x.At.Y)) 1 j zr (Fd.comp (f:=fun(x:cD)=>x.At) (fun(x:bH)=>x.Y) xD nY) cW (RO.nx (RL.bO zr wD (RO.nx (RL.aR 1 j zr ri cW (RO.nx (RL.quo p0.eP 2 zr (RO.nx ?_))))))))
 refine RL.ja p0.At.Y (IntKind.wrap .i64 (Int.tdiv p0.eP 2)) (RO.nx (aT (vi (IntKind.wrap .i64 (p0.At.X - (IntKind.wrap .i64 (Int.tdiv p0.eP 2))))) (RO.nx (aT (vi (IntKind.wrap .i64 (p0.At.Y - (IntKind.wrap .i64 (Int.tdiv p0.eP 2))))) (RO.last (aG (RC.sr (mv (vi (IntKind.wrap .i64 (p0.At.X - (IntKind.wrap .i64 (Int.tdiv p0.eP 2))))) ?_))))))))
 refine mv (vi (IntKind.wrap .i64 (p0.At.Y - (IntKind.wrap .i64 (Int.tdiv p0.eP 2))))) (mv (vi (IntKind.wrap .i64 (p0.At.X - (IntKind.wrap .i64 (Int.tdiv p0.eP 2))))) (RL.bO zr wD (RL.aR 1 j zr ri cW (RL.ja (IntKind.wrap .i64 (p0.At.X - (IntKind.wrap .i64 (Int.tdiv p0.eP 2)))) p0.eP (mv (vi (IntKind.wrap .i64 (p0.At.Y - (IntKind.wrap .i64 (Int.tdiv p0.eP 2))))) (RL.bO zr wD (RL.aR 1 j zr ri cW (RL.ja (IntKind.wrap .i64 (p0.At.Y - (IntKind.wrap .i64 (Int.tdiv p0.eP 2)))) p0.eP ?_))))))))
 have j:=((j.sc Int (IntKind.wrap .i64 (p0.At.X - (IntKind.wrap .i64 (Int.tdiv p0.eP 2))))).sc Int (IntKind.wrap .i64 (p0.At.Y - (IntKind.wrap .i64 (Int.tdiv p0.eP 2))))).sc Int (IntKind.wrap .i64 ((IntKind.wrap .i64 (p0.At.X - (IntKind.wrap .i64 (Int.tdiv p0.eP 2))))+p0.eP))
 have j:=j.sc Int (IntKind.wrap .i64 ((IntKind.wrap .i64 (p0.At.Y - (IntKind.wrap .i64 (Int.tdiv p0.eP 2))))+p0.eP))
 refine RL.build (⟨(IntKind.wrap .i64 (p0.At.X - (IntKind.wrap .i64 (Int.tdiv p0.eP 2)))),(IntKind.wrap .i64 (p0.At.Y - (IntKind.wrap .i64 (Int.tdiv p0.eP 2)))),(IntKind.wrap .i64 ((IntKind.wrap .i64 (p0.At.X - (IntKind.wrap .i64 (Int.tdiv p0.eP 2))))+p0.eP)),(IntKind.wrap .i64 ((IntKind.wrap .i64 (p0.At.Y - (IntKind.wrap .i64 (Int.tdiv p0.eP 2))))+p0.eP))⟩:aH) trivial rfl j [(0,(vi (IntKind.wrap .i64 (p0.At.X - (IntKind.wrap .i64 (Int.tdiv p0.eP 2)))))),(1,(vi (IntKind.wrap .i64 (p0.At.Y - (IntKind.wrap .i64 (Int.tdiv p0.eP 2)))))),(2,(vi (IntKind.wrap .i64 ((IntKind.wrap .i64 (p0.At.X - (IntKind.wrap .i64 (Int.tdiv p0.eP 2))))+p0.eP)))),(3,(vi (IntKind.wrap .i64 ((IntKind.wrap .i64 (p0.At.Y - (IntKind.wrap .i64 (Int.tdiv p0.eP 2))))+p0.eP))))] rfl GO rfl (fun M hs g=>by have h:=vB M;exact dA.cons (f:=fun(x:aH) y=>{x with X0:=y}) h uq (g.sat 3 _ rfl).1 fun _ h=>dA.cons (f:=fun(x:aH) y=>{x with Y0:=y}) h xB (g.sat 2 _ rfl).1 fun _ h=>dA.cons (f:=fun(x:aH) y=>{x with X1:=y}) h rf (g.sat 1 _ rfl).1 fun _ h=>dA.cons (f:=fun(x:aH) y=>{x with Y1:=y}) h uu (g.sat 0 _ rfl).1 fun _ h=>dA.nil h) fun ad j=>?_
 refine RL.bW 5 j 0 zr jE fun w j=>?_
 refine RL.nt (RC.ret ?_)
 obtain rfl:=oi o
 exact JF 5 zr j zr zr jE fun ae j=>(j.pk 9 [0])
theorem uZ {p0: (List aA)} {res:aH} (j:Holds E w V) (h0:V[i0]? =some (rd v0 p0)) (hb:mo N p0=some res):
    Calls bN 131 [v0].toArray w (iE (qC E V res)):=by
 unfold mo at hb
 refine enter Tryz.func131 zr zr ?_
 have j:=j.dup (i0+0) h0
 refine RC.sr (RL.alloc j qN.z fun bf w j=>?_)
 refine RL.nq ?_
 obtain⟨bj,bo,hb⟩:=bd hb
 obtain⟨bb,bp,hb⟩:=bd hb
 obtain⟨a8,bq,hb⟩:=bd hb
 obtain⟨bk,br,hb⟩:=bd hb
 obtain⟨bc,bt,hb⟩:=bd hb
 obtain⟨a9,bu,hb⟩:=bd hb
 refine RC.BX E V mixed [1,0,0,0,0,0,1,0,0,0,1,0,0,0,0,0,1,1,0,1,0,0,0,0,0,0] [1,2,3,4,7,8,11,12,13,14,20,21,23,24,25] (fun(x:Value×Value×Value×Value×Value×Value×Value×Value×Value×Value×Value×Value×Value×Nat)=>(fun ah ai aj ak al an ao aq ar au av aw ax ae=>[(0,6,v0),(1,7,ah),(2,8,ai),(3,9,aj),(4,10,ak),(5,11,(vi bb)),(6,12,v0),(7,13,al),(8,14,an),(9,15,(vi a8.Y0)),(10,16,v0),(11,17,ao),(12,18,aq),(13,19,ar),(14,20,au),(15,21,(vi bc)),(16,22,v0),(17,23,v0),(18,24,(vi p0.length)),(19,25,(vi (IntKind.wrap .i64 ((p0.length:Int) - 1)))),(20,26,av),(21,27,aw),(22,28,(vi a9.Y1)),(23,29,ax),(24,3,(vp ae 0))]) x.1 x.2.1 x.2.2.1 x.2.2.2.1 x.2.2.2.2.1 x.2.2.2.2.2.1 x.2.2.2.2.2.2.1 x.2.2.2.2.2.2.2.1 x.2.2.2.2.2.2.2.2.1 x.2.2.2.2.2.2.2.2.2.1 x.2.2.2.2.2.2.2.2.2.2.1 x.2.2.2.2.2.2.2.2.2.2.2.1 x.2.2.2.2.2.2.2.2.2.2.2.2.1 x.2.2.2.2.2.2.2.2.2.2.2.2.2) [(0,v0),(2,vp bf 0)] [] (fun(D:Nat->Bool) (x:Value×Value×Value×Value×Value×Value×Value×Value×Value×Value×Value×Value×Value×Nat)=>(fun ah ai aj ak al an ao aq ar au av aw ax ae=>[bif D 0 then (pt ah bj) else aM,bif D 1 then (pt ai bj.Xs) else aM,bif D 2 then (rd aj bj.Xs) else aM,bif D 3 then (pt ak bb) else aM,bif D 4 then (pt al a8) else aM,bif D 5 then (pt an a8.Y0) else aM,bif D 6 then (pt ao bk) else aM,bif D 7 then (pt aq bk.Xs) else aM,bif D 8 then (rd ar bk.Xs) else aM,bif D 9 then (pt au bc) else aM,bif D 10 then (pt av a9) else aM,bif D 11 then (pt aw a9.Y1) else aM,bif D 12 then (rd ax (⟨bb,a8.Y0,bc,a9.Y1⟩:aH)) else aM,bif D 14 then (bx 74 ae (⟨bb,a8.Y0,bc,a9.Y1⟩:aH)) else (bif D 13 then (raw 74 ae 4) else aM),raw 74 bf 4,rd v0 p0]) x.1 x.2.1 x.2.2.1 x.2.2.2.1 x.2.2.2.2.1 x.2.2.2.2.2.1 x.2.2.2.2.2.2.1 x.2.2.2.2.2.2.2.1 x.2.2.2.2.2.2.2.2.1 x.2.2.2.2.2.2.2.2.2.1 x.2.2.2.2.2.2.2.2.2.2.1 x.2.2.2.2.2.2.2.2.2.2.2.1 x.2.2.2.2.2.2.2.2.2.2.2.2.1 x.2.2.2.2.2.2.2.2.2.2.2.2.2) (fun x=>by kernel_rfl) ?_ ⟨fun _=>g8 gn,?_,?_,?_,?_,?_,fun _=>g8 gn,?_,?_,?_,fun _=>g8 gn,?_,?_,?_,?_,?_,fun _=>g8 gn,fun _=>g8 gn,?_,fun _=>BZ gn,?_,?_,?_,?_,?_,?_,trivial⟩ ?_
 ·have j:=((((((((((((j.drew).aM).aM).aM).aM).aM).aM).aM).aM).aM).aM).aM).aM
  have j:=(j.aM).aM
  exact⟨(undef,undef,undef,undef,undef,undef,undef,undef,undef,undef,undef,undef,undef,0),eD.none,(AF zr),zt,j⟩
 ·rintro D U w hD o ag ⟨⟨ah,ai,aj,ak,al,an,ao,aq,ar,au,av,aw,ax,ae⟩,hv,ha,_,j⟩
  obtain⟨O,rfl⟩:=(ac (hv.at 0 rfl (o.1 rfl)) az).dH
  have j:=j.bK 0 hD
  refine RL.cJ 15 j kY bo fun bw j=>?_
  have j:=(j.pl 17 [0,2,3,4,5,6,7,8,9,10,11,12,13,14,15,16]).bF 0 true rfl aM
  exact RL.nil ⟨rfl,(bw,ai,aj,ak,al,an,ao,aq,ar,au,av,aw,ax,ae),hv.pu 1,ha.u,zt,j⟩
 ·rintro D U w hD o ag ⟨⟨ah,ai,aj,ak,al,an,ao,aq,ar,au,av,aw,ax,ae⟩,hv,ha,_,j⟩
  obtain⟨O,rfl⟩:=(ac (hv.at 1 rfl (o.1 rfl)) az).dH
  have j:=(j.bE 0 (o.1 rfl)).bK 1 hD
  refine RL.iT 0 j zr lH dP fun bz j=>?_
  have j:=((j.pl 17 [1,0,3,4,5,6,7,8,9,10,11,12,13,14,15,16]).bF 0 (D 1) (o.1 rfl) aM).bF 1 true rfl aM
  exact RL.nil ⟨rfl,(ah,bz,aj,ak,al,an,ao,aq,ar,au,av,aw,ax,ae),hv.pu 2,ha.u,zt,j⟩
 ·rintro D U w hD o ag ⟨⟨ah,ai,aj,ak,al,an,ao,aq,ar,au,av,aw,ax,ae⟩,hv,ha,_,j⟩
  obtain⟨O,rfl⟩:=(ac (hv.at 2 rfl (o.1 rfl)) az).dH
  have j:=(j.bE 1 (o.1 rfl)).bK 2 hD
  refine RL.bY 1 bj.Xs j gx fun b0 j=>?_
  have j:=((j.pl 17 [1,2,0,4,5,6,7,8,9,10,11,12,13,14,15,16]).bF 1 (D 2) (o.1 rfl) aM).bF 2 true rfl aM
  exact RL.nil ⟨rfl,(ah,ai,b0,ak,al,an,ao,aq,ar,au,av,aw,ax,ae),hv.pu 3,ha.u,zt,j⟩
 ·rintro D U w hD o ag ⟨⟨ah,ai,aj,ak,al,an,ao,aq,ar,au,av,aw,ax,ae⟩,hv,ha,_,j⟩
  obtain⟨O,rfl⟩:=(ac (hv.at 3 rfl (o.1 rfl)) az).dH
  have j:=(j.bE 2 (o.1 rfl)).bK 3 hD
  refine RL.cJ 2 j fI bp fun b1 j=>?_
  have j:=((j.pl 17 [1,2,3,0,5,6,7,8,9,10,11,12,13,14,15,16]).bF 2 (D 3) (o.1 rfl) aM).bF 3 true rfl aM
  exact RL.nil ⟨rfl,(ah,ai,aj,b1,al,an,ao,aq,ar,au,av,aw,ax,ae),hv.pu 4,ha.u,zt,j⟩
 ·rintro D U w hD o ag ⟨⟨ah,ai,aj,ak,al,an,ao,aq,ar,au,av,aw,ax,ae⟩,hv,ha,_,j⟩
  obtain⟨O,rfl⟩:=(ac (hv.at 4 rfl (o.1 rfl)) az).dH
  have j:=j.bE 3 (o.1 rfl)
  refine RL.cB bb 3 j cW ?_
  have j:=j.bF 3 (D 4) (o.1 rfl) aM
  exact RL.nil ⟨rfl,(ah,ai,aj,ak,al,an,ao,aq,ar,au,av,aw,ax,ae),hv.pu 5,ha.u,zt,j⟩
 ·rintro D U w hD o ag ⟨⟨ah,ai,aj,ak,al,an,ao,aq,ar,au,av,aw,ax,ae⟩,hv,ha,_,j⟩
  obtain⟨O,rfl⟩:=(ac (hv.at 6 rfl (o.1 rfl)) az).dH
  have j:=j.bK 4 hD
  refine RL.cJ 15 j kY bq fun b2 j=>?_
  have j:=(j.pl 17 [1,2,3,4,0,6,7,8,9,10,11,12,13,14,15,16]).bF 4 true rfl aM
  exact RL.nil ⟨rfl,(ah,ai,aj,ak,b2,an,ao,aq,ar,au,av,aw,ax,ae),hv.pu 7,ha.u,zt,j⟩
 ·rintro D U w hD o ag ⟨⟨ah,ai,aj,ak,al,an,ao,aq,ar,au,av,aw,ax,ae⟩,hv,ha,_,j⟩
  obtain⟨O,rfl⟩:=(ac (hv.at 7 rfl (o.1 rfl)) az).dH
  have j:=(j.bE 4 (o.1 rfl)).bK 5 hD
  refine RL.iT 4 j zr pr gj fun b3 j=>?_
  have j:=((j.pl 17 [1,2,3,4,5,0,7,8,9,10,11,12,13,14,15,16]).bF 4 (D 7) (o.1 rfl) aM).bF 5 true rfl aM
  exact RL.nil ⟨rfl,(ah,ai,aj,ak,al,b3,ao,aq,ar,au,av,aw,ax,ae),hv.pu 8,ha.u,zt,j⟩
 ·rintro D U w hD o ag ⟨⟨ah,ai,aj,ak,al,an,ao,aq,ar,au,av,aw,ax,ae⟩,hv,ha,_,j⟩
  obtain⟨O,rfl⟩:=(ac (hv.at 8 rfl (o.1 rfl)) az).dH
  have j:=j.bE 5 (o.1 rfl)
  refine RL.cB a8.Y0 5 j cW ?_
  have j:=j.bF 5 (D 8) (o.1 rfl) aM
  exact RL.nil ⟨rfl,(ah,ai,aj,ak,al,an,ao,aq,ar,au,av,aw,ax,ae),hv.pu 9,ha.u,zt,j⟩
 ·rintro D U w hD o ag ⟨⟨ah,ai,aj,ak,al,an,ao,aq,ar,au,av,aw,ax,ae⟩,hv,ha,_,j⟩
  obtain⟨O,rfl⟩:=(ac (hv.at 10 rfl (o.1 rfl)) az).dH
  have j:=j.bK 6 hD
  refine RL.cJ 15 j kY br fun b4 j=>?_
  have j:=(j.pl 17 [1,2,3,4,5,6,0,8,9,10,11,12,13,14,15,16]).bF 6 true rfl aM
  exact RL.nil ⟨rfl,(ah,ai,aj,ak,al,an,b4,aq,ar,au,av,aw,ax,ae),hv.pu 11,ha.u,zt,j⟩
 ·rintro D U w hD o ag ⟨⟨ah,ai,aj,ak,al,an,ao,aq,ar,au,av,aw,ax,ae⟩,hv,ha,_,j⟩
  obtain⟨O,rfl⟩:=(ac (hv.at 11 rfl (o.1 rfl)) az).dH
  have j:=(j.bE 6 (o.1 rfl)).bK 7 hD
  refine RL.iT 6 j zr lH dP fun b5 j=>?_
  have j:=((j.pl 17 [1,2,3,4,5,6,7,0,9,10,11,12,13,14,15,16]).bF 6 (D 11) (o.1 rfl) aM).bF 7 true rfl aM
  exact RL.nil ⟨rfl,(ah,ai,aj,ak,al,an,ao,b5,ar,au,av,aw,ax,ae),hv.pu 12,ha.u,zt,j⟩
 ·rintro D U w hD o ag ⟨⟨ah,ai,aj,ak,al,an,ao,aq,ar,au,av,aw,ax,ae⟩,hv,ha,_,j⟩
  obtain⟨O,rfl⟩:=(ac (hv.at 12 rfl (o.1 rfl)) az).dH
  have j:=(j.bE 7 (o.1 rfl)).bK 8 hD
  refine RL.bY 7 bk.Xs j gx fun b6 j=>?_
  have j:=((j.pl 17 [1,2,3,4,5,6,7,8,0,10,11,12,13,14,15,16]).bF 7 (D 12) (o.1 rfl) aM).bF 8 true rfl aM
  exact RL.nil ⟨rfl,(ah,ai,aj,ak,al,an,ao,aq,b6,au,av,aw,ax,ae),hv.pu 13,ha.u,zt,j⟩
 ·rintro D U w hD o ag ⟨⟨ah,ai,aj,ak,al,an,ao,aq,ar,au,av,aw,ax,ae⟩,hv,ha,_,j⟩
  obtain⟨O,rfl⟩:=(ac (hv.at 13 rfl (o.1 rfl)) az).dH
  have j:=(j.bE 8 (o.1 rfl)).bK 9 hD
  refine RL.cJ 8 j fI bt fun b7 j=>?_
  have j:=((j.pl 17 [1,2,3,4,5,6,7,8,9,0,11,12,13,14,15,16]).bF 8 (D 13) (o.1 rfl) aM).bF 9 true rfl aM
  exact RL.nil ⟨rfl,(ah,ai,aj,ak,al,an,ao,aq,ar,b7,av,aw,ax,ae),hv.pu 14,ha.u,zt,j⟩
 ·rintro D U w hD o ag ⟨⟨ah,ai,aj,ak,al,an,ao,aq,ar,au,av,aw,ax,ae⟩,hv,ha,_,j⟩
  obtain⟨O,rfl⟩:=(ac (hv.at 14 rfl (o.1 rfl)) az).dH
  have j:=j.bE 9 (o.1 rfl)
  refine RL.cB bc 9 j cW ?_
  have j:=j.bF 9 (D 14) (o.1 rfl) aM
  exact RL.nil ⟨rfl,(ah,ai,aj,ak,al,an,ao,aq,ar,au,av,aw,ax,ae),hv.pu 15,ha.u,zt,j⟩
 ·rintro D U w hD o ag ⟨⟨ah,ai,aj,ak,al,an,ao,aq,ar,au,av,aw,ax,ae⟩,hv,ha,_,j⟩
  obtain⟨O,rfl⟩:=(ac (hv.at 17 rfl (o.1 rfl)) az).dH
  refine RL.bM 15 p0 j o6 ?_
  exact RL.nil ⟨rfl,(ah,ai,aj,ak,al,an,ao,aq,ar,au,av,aw,ax,ae),hv.pu 18,ha.u,zt,j⟩
 ·rintro D U w hD o ag ⟨⟨ah,ai,aj,ak,al,an,ao,aq,ar,au,av,aw,ax,ae⟩,hv,ha,_,j⟩
  obtain⟨O,rfl⟩:=(ac (hv.at 16 rfl (o.1 rfl)) (ac (hv.at 19 rfl (o.2.1 rfl)) az)).dH
  have j:=j.bK 10 hD
  refine RL.cJ 15 j kY bu fun b8 j=>?_
  have j:=(j.pl 17 [1,2,3,4,5,6,7,8,9,10,0,12,13,14,15,16]).bF 10 true rfl aM
  exact RL.nil ⟨rfl,(ah,ai,aj,ak,al,an,ao,aq,ar,au,b8,aw,ax,ae),hv.pu 20,ha.u,zt,j⟩
 ·rintro D U w hD o ag ⟨⟨ah,ai,aj,ak,al,an,ao,aq,ar,au,av,aw,ax,ae⟩,hv,ha,_,j⟩
  obtain⟨O,rfl⟩:=(ac (hv.at 20 rfl (o.1 rfl)) az).dH
  have j:=(j.bE 10 (o.1 rfl)).bK 11 hD
  refine RL.iT 10 j zr mV eY fun b9 j=>?_
  have j:=((j.pl 17 [1,2,3,4,5,6,7,8,9,10,11,0,13,14,15,16]).bF 10 (D 20) (o.1 rfl) aM).bF 11 true rfl aM
  exact RL.nil ⟨rfl,(ah,ai,aj,ak,al,an,ao,aq,ar,au,av,b9,ax,ae),hv.pu 21,ha.u,zt,j⟩
 ·rintro D U w hD o ag ⟨⟨ah,ai,aj,ak,al,an,ao,aq,ar,au,av,aw,ax,ae⟩,hv,ha,_,j⟩
  obtain⟨O,rfl⟩:=(ac (hv.at 21 rfl (o.1 rfl)) az).dH
  have j:=j.bE 11 (o.1 rfl)
  refine RL.cB a9.Y1 11 j cW ?_
  have j:=j.bF 11 (D 21) (o.1 rfl) aM
  exact RL.nil ⟨rfl,(ah,ai,aj,ak,al,an,ao,aq,ar,au,av,aw,ax,ae),hv.pu 22,ha.u,zt,j⟩
 ·rintro D U w hD o ag ⟨⟨ah,ai,aj,ak,al,an,ao,aq,ar,au,av,aw,ax,ae⟩,hv,ha,_,j⟩
  obtain⟨O,rfl⟩:=(ac (hv.at 5 rfl (o.1 rfl)) (ac (hv.at 9 rfl (o.2.1 rfl)) (ac (hv.at 15 rfl (o.2.2.1 rfl)) (ac (hv.at 22 rfl (o.2.2.2.1 rfl)) az)))).dH
  have j:=((((j.bK 12 hD).sc Int bb).sc Int a8.Y0).sc Int bc).sc Int a9.Y1
  refine RL.build (⟨bb,a8.Y0,bc,a9.Y1⟩:aH) trivial rfl j [(0,vi bb),(1,vi a8.Y0),(2,vi bc),(3,vi a9.Y1)] rfl GO rfl (fun M hs g=>by have h:=vB M;exact dA.cons (f:=fun(x:aH) y=>{x with X0:=y}) h uq (g.sat 3 _ rfl).1 fun _ h=>dA.cons (f:=fun(x:aH) y=>{x with Y0:=y}) h xB (g.sat 2 _ rfl).1 fun _ h=>dA.cons (f:=fun(x:aH) y=>{x with X1:=y}) h rf (g.sat 1 _ rfl).1 fun _ h=>dA.cons (f:=fun(x:aH) y=>{x with Y1:=y}) h uu (g.sat 0 _ rfl).1 fun _ h=>dA.nil h) fun ca j=>?_
  have j:=(j.pl 21 [5,6,7,8,9,10,11,12,13,14,15,16,0,18,19,20]).bF 12 true rfl aM
  exact RL.nil ⟨rfl,(ah,ai,aj,ak,al,an,ao,aq,ar,au,av,aw,ca,ae),hv.pu 23,ha.u,zt,j⟩
 ·rintro D U w hD o ag ⟨⟨ah,ai,aj,ak,al,an,ao,aq,ar,au,av,aw,ax,ae⟩,hv,ha,_,j⟩
  obtain⟨O,rfl⟩:=(az (U:=U)).dH
  have j:=(j.bK 13 (nh ag hD 25)).bK 13 hD
  refine RL.alloc j qN.z fun bl w j=>?_
  have j:=((j.pl 17 [1,2,3,4,5,6,7,8,9,10,11,12,13,0,15,16]).bF 13 true rfl aM).fD 13 (D 25) (nh ag hD 25) (bx 74 bl (⟨bb,a8.Y0,bc,a9.Y1⟩:aH))
  exact RL.nil ⟨rfl,(ah,ai,aj,ak,al,an,ao,aq,ar,au,av,aw,ax,bl),hv.pu 24,ha.u,zt,j⟩
 ·rintro D U w hD o ag ⟨⟨ah,ai,aj,ak,al,an,ao,aq,ar,au,av,aw,ax,ae⟩,hv,ha,_,j⟩
  obtain⟨O,rfl⟩:=(ac (hv.at 23 rfl (o.2.1 rfl)) (ac (hv.at 24 rfl (o.1 rfl)) az)).dH
  have j:=((j.bE 12 (o.2.1 rfl)).bK 13 hD).bE 13 (o.1 rfl)
  refine RL.bW 13 j 12 zr jE fun w j=>?_
  have j:=(j.bF 12 (D 23) (o.2.1 rfl) aM).bF 13 true rfl (bif D 24 then (raw 74 ae 4) else aM)
  exact RL.nil ⟨rfl,(ah,ai,aj,ak,al,an,ao,aq,ar,au,av,aw,ax,ae),hv.n1,ha,zt,j⟩
 rintro D U w a6 ⟨⟨ah,ai,aj,ak,al,an,ao,aq,ar,au,av,aw,ax,ae⟩,hv,ha,_,j⟩
 have j:=((((((j.bE 0 (gq a6 1)).bE 1 (gq a6 2)).bE 2 (gq a6 3)).bE 3 (gq a6 4)).bE 4 (gq a6 7)).bE 5 (gq a6 8)).bE 6 (gq a6 11)
 have j:=((((((j.bE 7 (gq a6 12)).bE 8 (gq a6 13)).bE 9 (gq a6 14)).bE 10 (gq a6 20)).bE 11 (gq a6 21)).bE 12 (gq a6 23)).bE 13 (gq a6 25)
 obtain⟨O,rfl⟩:=(ac (hv.at 24 rfl (gq a6 24)) (ac (ha.at 0 rfl) (ac (ha.at 1 rfl) az))).dH
 refine aG (RC.seq (RC.sr (mv v0 (RL.bM 15 p0 j o6 (mv (vi 0) (RL.nt ?_))))))
 obtain⟨af,hN,hb⟩:=bd hb
 refine RC.fold (fun(bg:Nat) (af:aH)=>SH E V [(2,vp bf 0),(3,vp ae 0),(30,v0),(31,vi p0.length),(32,vi bg)] [raw 74 bf 4,bx 74 ae af,rd v0 p0]) (fun(af:aH)=>SH E V [(2,vp bf 0),(3,vp ae 0)] [raw 74 bf 4,bx 74 ae af,rd v0 p0]) hN ?_ ?_ ?_ ?_
 ·exact j.sp 16 [14,13,15]
 ·rintro hm af _ w ⟨O,rfl,j⟩
  refine RC.sr (ic ((p0.length:Int)) ((p0.length:Int)) (RL.nq (RC.dC oE (RC.ex ?_))))
  exact⟨rfl,j.sp 3 [0,1,2]⟩
 ·rintro hm bg af s' _ w hk ⟨O,rfl,j⟩ hb
  refine RC.sr (ic ((bg:Int)) ((p0.length:Int)) (RL.nq (RC.dB (oD hk) (RC.ss (RC.bs ?_)))))
  obtain⟨ba,cc,hb⟩:=bd hb
  refine RL.cJ 2 j kY cc fun cd j=>(RL.bY 0 ba j wC fun cf j=>(RL.alloc j DG.z fun bh w j=>?_))
  refine RL.bW 0 j 1 zr wC fun w j=>?_
  refine RL.nt ?_
  obtain⟨a5,cg,hb⟩:=bd hb
  obtain⟨a7,ch,hb⟩:=bd hb
  refine RC.BX E V mixed [1,0,1,0,0,0,0,1,0,1,0,1,0,0,1,0,0,0,1,0,1,0] [3,4,10,12,15,19,21] (fun(x:Value×Value×Value×Value×Value)=>(fun ay a0 a1 a2 a3=>[(0,36,(vp ae 0)),(1,37,(vi af.X0)),(2,38,(vp bh 2)),(3,39,ay),(4,40,a0),(5,41,(vi a5)),(6,42,(vi (if a5<af.X0 then a5 else af.X0))),(7,43,(vp ae 2)),(8,44,(vi af.X1)),(9,45,(vp bh 2)),(10,46,a1),(11,47,(vp bh 2)),(12,48,a2),(13,49,(vi ba.Xs.length)),(14,50,(vi (IntKind.wrap .i64 ((ba.Xs.length:Int) - 1)))),(15,51,a3),(16,52,(vi a7)),(17,53,(vi (if af.X1<a7 then a7 else af.X1))),(18,54,(vp ae 0)),(20,55,(vp ae 2))]) x.1 x.2.1 x.2.2.1 x.2.2.2.1 x.2.2.2.2) [(2,vp bf 0),(3,vp ae 0),(5,vp bh 0),(30,v0),(31,vi p0.length),(32,vi bg)] [] (fun(D:Nat->Bool) (x:Value×Value×Value×Value×Value)=>(fun ay a0 a1 a2 a3=>[bif D 0 then (rd ay ba.Xs) else aM,bif D 1 then (pt a0 a5) else aM,bif D 2 then (rd a1 ba.Xs) else aM,bif D 3 then (rd a2 ba.Xs) else aM,bif D 4 then (pt a3 a7) else aM,bx 187 bh ba,rd cf ba,pt cd ba,raw 74 bf 4,bif D 6 then (bx 74 ae {{af with X0:=(if a5<af.X0 then a5 else af.X0)} with X1:=(if af.X1<a7 then a7 else af.X1)}) else (bif D 5 then (bx 74 ae {af with X0:=(if a5<af.X0 then a5 else af.X0)}) else (bx 74 ae af)),rd v0 p0]) x.1 x.2.1 x.2.2.1 x.2.2.2.1 x.2.2.2.2) (fun x=>by kernel_rfl) ?_ ⟨fun _=>nA gn kN,?_,fun _=>nA gn lH,?_,?_,?_,?_,fun _=>nA gn l3,?_,fun _=>nA gn lH,?_,fun _=>nA gn lH,?_,?_,fun _=>BZ gn,?_,?_,?_,fun _=>nA gn kN,?_,fun _=>nA gn l3,?_,trivial⟩ ?_
  ·have j:=(((((j.drew).aM).aM).aM).aM).aM
   exact⟨(undef,undef,undef,undef,undef),eD.none,(AF zr),zt,j⟩
  ·rintro D U w hD o ag ⟨⟨ay,a0,a1,a2,a3⟩,hv,ha,_,j⟩
   obtain⟨O,rfl⟩:=(ac (hv.at 0 rfl (o.1 rfl)) az).dH
   have j:=(j.bK 9 (nh ag hD 21)).bK 9 (nh ag hD 19)
   refine RL.aR 9 j zr fY cW ?_
   have j:=(j.fD 9 (D 19) (nh ag hD 19) (bx 74 ae {af with X0:=(if a5<af.X0 then a5 else af.X0)})).fD 9 (D 21) (nh ag hD 21) (bx 74 ae {{af with X0:=(if a5<af.X0 then a5 else af.X0)} with X1:=(if af.X1<a7 then a7 else af.X1)})
   exact RL.nil ⟨rfl,(ay,a0,a1,a2,a3),hv.pu 1,ha.u,zt,j⟩
  ·rintro D U w hD o ag ⟨⟨ay,a0,a1,a2,a3⟩,hv,ha,_,j⟩
   obtain⟨O,rfl⟩:=(ac (hv.at 2 rfl (o.1 rfl)) az).dH
   have j:=j.bK 0 hD
   refine RL.aV 5 j zr dP gx fun cj j=>?_
   have j:=(j.pl 12 [0,2,3,4,5,6,7,8,9,10,11]).bF 0 true rfl aM
   exact RL.nil ⟨rfl,(cj,a0,a1,a2,a3),hv.pu 3,ha.u,zt,j⟩
  ·rintro D U w hD o ag ⟨⟨ay,a0,a1,a2,a3⟩,hv,ha,_,j⟩
   obtain⟨O,rfl⟩:=(ac (hv.at 3 rfl (o.1 rfl)) az).dH
   have j:=(j.bE 0 (o.1 rfl)).bK 1 hD
   refine RL.cJ 0 j fI cg fun ck j=>?_
   have j:=((j.pl 12 [1,0,3,4,5,6,7,8,9,10,11]).bF 0 (D 3) (o.1 rfl) aM).bF 1 true rfl aM
   exact RL.nil ⟨rfl,(ay,ck,a1,a2,a3),hv.pu 4,ha.u,zt,j⟩
  ·rintro D U w hD o ag ⟨⟨ay,a0,a1,a2,a3⟩,hv,ha,_,j⟩
   obtain⟨O,rfl⟩:=(ac (hv.at 4 rfl (o.1 rfl)) az).dH
   have j:=j.bE 1 (o.1 rfl)
   refine RL.cB a5 1 j cW ?_
   have j:=j.bF 1 (D 4) (o.1 rfl) aM
   exact RL.nil ⟨rfl,(ay,a0,a1,a2,a3),hv.pu 5,ha.u,zt,j⟩
  ·rintro D U w hD o ag ⟨⟨ay,a0,a1,a2,a3⟩,hv,ha,_,j⟩
   obtain⟨O,rfl⟩:=(ac (hv.at 1 rfl (o.1 rfl)) (ac (hv.at 5 rfl (o.2.1 rfl)) az)).dH
   refine RL.min af.X0 a5 ?_
   exact RL.nil ⟨rfl,(ay,a0,a1,a2,a3),hv.pu 6,ha.u,zt,j⟩
  ·rintro D U w hD o ag ⟨⟨ay,a0,a1,a2,a3⟩,hv,ha,_,j⟩
   obtain⟨O,rfl⟩:=(ac (hv.at 7 rfl (o.1 rfl)) az).dH
   have j:=(j.bK 9 (nh ag hD 21)).bK 9 (nh ag hD 19)
   refine RL.aR 9 j zr gS cW ?_
   have j:=(j.fD 9 (D 19) (nh ag hD 19) (bx 74 ae {af with X0:=(if a5<af.X0 then a5 else af.X0)})).fD 9 (D 21) (nh ag hD 21) (bx 74 ae {{af with X0:=(if a5<af.X0 then a5 else af.X0)} with X1:=(if af.X1<a7 then a7 else af.X1)})
   exact RL.nil ⟨rfl,(ay,a0,a1,a2,a3),hv.pu 8,ha.u,zt,j⟩
  ·rintro D U w hD o ag ⟨⟨ay,a0,a1,a2,a3⟩,hv,ha,_,j⟩
   obtain⟨O,rfl⟩:=(ac (hv.at 9 rfl (o.1 rfl)) az).dH
   have j:=j.bK 2 hD
   refine RL.aV 5 j zr dP gx fun cl j=>?_
   have j:=(j.pl 12 [1,2,0,4,5,6,7,8,9,10,11]).bF 2 true rfl aM
   exact RL.nil ⟨rfl,(ay,a0,cl,a2,a3),hv.pu 10,ha.u,zt,j⟩
  ·rintro D U w hD o ag ⟨⟨ay,a0,a1,a2,a3⟩,hv,ha,_,j⟩
   obtain⟨O,rfl⟩:=(ac (hv.at 11 rfl (o.1 rfl)) az).dH
   have j:=j.bK 3 hD
   refine RL.aV 5 j zr dP gx fun cm j=>?_
   have j:=(j.pl 12 [1,2,3,0,5,6,7,8,9,10,11]).bF 3 true rfl aM
   exact RL.nil ⟨rfl,(ay,a0,a1,cm,a3),hv.pu 12,ha.u,zt,j⟩
  ·rintro D U w hD o ag ⟨⟨ay,a0,a1,a2,a3⟩,hv,ha,_,j⟩
   obtain⟨O,rfl⟩:=(ac (hv.at 12 rfl (o.1 rfl)) az).dH
   have j:=j.bE 3 (o.1 rfl)
   refine RL.bM 3 ba.Xs j nN ?_
   have j:=j.bF 3 (D 12) (o.1 rfl) aM
   exact RL.nil ⟨rfl,(ay,a0,a1,a2,a3),hv.pu 13,ha.u,zt,j⟩
  ·rintro D U w hD o ag ⟨⟨ay,a0,a1,a2,a3⟩,hv,ha,_,j⟩
   obtain⟨O,rfl⟩:=(ac (hv.at 10 rfl (o.1 rfl)) (ac (hv.at 14 rfl (o.2.1 rfl)) az)).dH
   have j:=(j.bE 2 (o.1 rfl)).bK 4 hD
   refine RL.cJ 2 j fI ch fun cn j=>?_
   have j:=((j.pl 12 [1,2,3,4,0,6,7,8,9,10,11]).bF 2 (D 10) (o.1 rfl) aM).bF 4 true rfl aM
   exact RL.nil ⟨rfl,(ay,a0,a1,a2,cn),hv.pu 15,ha.u,zt,j⟩
  ·rintro D U w hD o ag ⟨⟨ay,a0,a1,a2,a3⟩,hv,ha,_,j⟩
   obtain⟨O,rfl⟩:=(ac (hv.at 15 rfl (o.1 rfl)) az).dH
   have j:=j.bE 4 (o.1 rfl)
   refine RL.cB a7 4 j cW ?_
   have j:=j.bF 4 (D 15) (o.1 rfl) aM
   exact RL.nil ⟨rfl,(ay,a0,a1,a2,a3),hv.pu 16,ha.u,zt,j⟩
  ·rintro D U w hD o ag ⟨⟨ay,a0,a1,a2,a3⟩,hv,ha,_,j⟩
   obtain⟨O,rfl⟩:=(ac (hv.at 8 rfl (o.1 rfl)) (ac (hv.at 16 rfl (o.2.1 rfl)) az)).dH
   refine RL.max af.X1 a7 ?_
   exact RL.nil ⟨rfl,(ay,a0,a1,a2,a3),hv.pu 17,ha.u,zt,j⟩
  ·rintro D U w hD o ag ⟨⟨ay,a0,a1,a2,a3⟩,hv,ha,_,j⟩
   obtain⟨O,rfl⟩:=(ac (hv.at 6 rfl (o.2.1 rfl)) (ac (hv.at 18 rfl (o.1 rfl)) az)).dH
   have j:=((j.bK 9 (nh ag hD 21)).bK 9 hD).sc Int (if a5<af.X0 then a5 else af.X0)
   refine RL.C5 10 j zr zr zr 0 zr uq cW fun w j=>?_
   have j:=((j.pl 12 [1,2,3,4,5,6,7,8,9,10,11]).bF 9 true rfl (bx 74 ae af)).fD 9 (D 21) (nh ag hD 21) (bx 74 ae {{af with X0:=(if a5<af.X0 then a5 else af.X0)} with X1:=(if af.X1<a7 then a7 else af.X1)})
   exact RL.nil ⟨rfl,(ay,a0,a1,a2,a3),hv.n1,ha,zt,j⟩
  ·rintro D U w hD o ag ⟨⟨ay,a0,a1,a2,a3⟩,hv,ha,_,j⟩
   obtain⟨O,rfl⟩:=(ac (hv.at 17 rfl (o.2.1 rfl)) (ac (hv.at 19 rfl (o.1 rfl)) az)).dH
   have j:=((j.bK 9 hD).bE 9 (o.2.2.1 rfl)).sc Int (if af.X1<a7 then a7 else af.X1)
   refine RL.C5 10 j zr zr zr 0 zr rf cW fun w j=>?_
   have j:=(j.pl 12 [1,2,3,4,5,6,7,8,9,10,11]).bF 9 true rfl (bif D 19 then (bx 74 ae {af with X0:=(if a5<af.X0 then a5 else af.X0)}) else (bx 74 ae af))
   exact RL.nil ⟨rfl,(ay,a0,a1,a2,a3),hv.n1,ha,zt,j⟩
  rintro D U w a6 ⟨⟨ay,a0,a1,a2,a3⟩,hv,ha,_,j⟩
  have j:=(((((j.bE 0 (gq a6 3)).bE 1 (gq a6 4)).bE 2 (gq a6 10)).bE 3 (gq a6 12)).bE 4 (gq a6 15)).bE 9 (gq a6 21)
  obtain⟨O,rfl⟩:=(ac (ha.at 0 rfl) (ac (ha.at 1 rfl) (ac (ha.at 2 rfl) (ac (ha.at 3 rfl) (ac (ha.at 4 rfl) (ac (ha.at 5 rfl) az)))))).dH
  refine cA (aG (RC.region (RL.inc hk hm (mv (vi ((bg+1:Nat):Int)) (RL.nil ?_)))))
  obtain rfl:=oi hb
  exact⟨rfl,j.sp 11 [8,9,10]⟩
 rintro _ w ⟨O,rfl,j⟩
 refine aG (RC.sr (RL.aV (f:=(fun x=>x)) 1 j zr Fd.self jE fun cp j=>(RL.bW 1 j 0 zr jE fun w j=>?_)))
 refine RL.nt (RC.ret ?_)
 obtain rfl:=oi hb
 exact JF 1 zr j zr zr jE fun cq j=>(j.pk 5 [0])
theorem wK {p0: (List aA)} {res:Bool} (j:Holds E w V) (h0:V[i0]? =some (rd v0 p0)) (hb:lR N p0=some res):
    Calls bN 108 [v0].toArray w (iE (bV E V res)):=by
 unfold lR at hb
 refine enter Tryz.func108 zr zr ?_
 have j:=j.dup (i0+0) h0
 refine RC.sr (aT (vb false) (RL.nq ?_))
 obtain⟨ad,o,hb⟩:=bd hb
 refine RC.jn (fun(ad:Bool)=>SH E V [(2,vb ad)] []) ad ?_ ?_
 ·refine RC.region (mv v0 (RL.bM 0 p0 j o6 (ic ((p0.length:Int)) 0 (mv (vb ((p0.length:Int)==0)) (iA o (fun aa o=>?_) fun aa o=>?_)))))
  ·refine cH aa (cH aa (cH aa (iF aa (vb true) (aT (vb true) (RL.nil ?_)))))
   obtain rfl:=oi o
   exact⟨rfl,j.sp 1 []⟩
  refine RL.move v0 (cg aa) ?_
  obtain⟨ai,af,o⟩:=bd o
  refine RL.call (cg aa) zr MB [v0] zr (aF (uZ N (i0:=0) j zr af) ?_)
  rintro ag w j
  obtain⟨ae,ah,o⟩:=bd o
  refine RL.call (cg aa) zr Mn [ag] zr (aF (sJ N (i0:=0) j zr ah) ?_)
  rintro _ w ⟨rfl,j⟩
  refine iF aa (vb ae) (aT (vb ae) (RL.nil ?_))
  obtain rfl:=oi o
  exact⟨rfl,j.sp 2 []⟩
 rintro _ w ⟨O,rfl,j⟩
 refine aG (RC.ret ?_)
 obtain rfl:=oi hb
 exact cK ⟨rfl,j.drop 0⟩
def yK (E:World) (V:List HP) (res:aH×Int) (v:Value) (w:World):Prop:=∃u0:Value,v = .tuple #[u0,(vi res.2)]/\Holds E w ([rd u0 res.1]++V)
theorem xO {p0:cD} {res:aH×Int} (j:Holds E w V) (h0:V[i0]? =some (rd v0 p0)) (o:lj N p0=some res):
    Calls bN 72 [v0].toArray w (iE (yK E V res)):=by
 unfold lj at o
 refine enter Tryz.func72 zr zr ?_
 have j:=j.dup (i0+0) h0
 refine RC.sr (RL.dJ 0 v0 j zr fun af w j=>?_)
 refine RL.alloc j qN.z fun ag w j=>?_
 refine aT (vi 0) (RL.nq (RC.seq ?_))
 obtain⟨ad,hj,o⟩:=bd o
 refine RC.jn (fun(ad:Bool)=>SH E V [(1,vp af 0),(2,vp ag 0),(14,vb ad)] [bx 117 af p0,raw 74 ag 4]) ad ?_ ?_
 ·refine RC.region (RL.bO zr wD (RL.aR 1 j zr ri cW ?_))
  obtain⟨ah,aj,hj⟩:=bd hj
  refine RL.call zt zr JS [(vi p0.eP),(vi 1),(vi 10000)] zr (aF (mz N (p0:=p0.eP) (p1:=1) (p2:=10000) j aj) ?_)
  rintro _ w ⟨rfl,j⟩
  refine RL.not ah (mv (vb (!ah)) (iA hj (fun aa hj=>?_) fun aa hj=>?_))
  ·refine cH aa (cH aa (cH aa (cH aa (iF aa (vb true) (RL.nil ?_)))))
   obtain rfl:=oi hj
   exact⟨rfl,j.sp 3 [1,0]⟩
  refine RL.bO (hg:=(cg aa)) zr Cf (RL.aV (hg:=(cg aa)) 1 j zr xD uT fun ak j=>?_)
  obtain⟨ai,al,hj⟩:=bd hj
  refine RL.call (cg aa) zr MA [ak] zr (aF (rq N (i0:=0) j zr al) ?_)
  rintro _ w ⟨rfl,j⟩
  refine RL.not (hg:=(cg aa)) ai (iF aa (vb (!ai)) (RL.nil ?_))
  obtain rfl:=oi hj
  exact⟨rfl,j.sp 4 [2,1]⟩
 rintro _ w ⟨O,rfl,j⟩
 refine aG (fK o (fun hc o=>?_) fun hc o=>?_)
 ·refine RC.sr (RL.build (⟨0,0,0,0⟩:aH) trivial rfl j [] rfl GO rfl (fun M hs g=>by have h:=vB M;exact dA.nil h) fun a2 j=>?_)
  refine RL.bW 2 j 0 zr jE fun w j=>?_
  refine aT (vi 1) (RL.nt (RC.rt ?_))
  obtain rfl:=oi o
  exact A5 2 j jE fun an j=>⟨an,zr,j.pk 4 [0]⟩
 refine RC.sx (RL.aV (f:=(fun x=>x)) 0 j zr Fd.self mD fun ao j=>?_)
 obtain⟨aq,ar,o⟩:=bd o
 refine RL.call zt zr GP [ao] zr (aF (hZ N (i0:=0) j zr ar) ?_)
 rintro a3 w j
 refine RL.alloc j qN.z fun a4 w j=>?_
 refine RL.bW 0 j 1 zr jE fun w j=>?_
 refine RL.nq (RC.sr (RL.aV (f:=(fun x=>x)) 0 j zr Fd.self jE fun au j=>(RL.fR ([aq]: (List aH)) j [au] nk qN (fun M hs g=>⟨(g.sat 0 _ zr).1,zt⟩) fun av w j=>?_)))
 have j:=j.freeze 0
 obtain⟨a5,aw,o⟩:=bd o
 refine RL.call zt zr H5 [av] zr (aF (l6 N (i0:=0) j zr aw) ?_)
 rintro ax w j
 have j:=j.freeze 0
 obtain⟨ay,az,o⟩:=bd o
 refine RL.call zt zr MC [ax] zr (aF (wK N (i0:=0) j zr az) ?_)
 rintro _ w ⟨rfl,j⟩
 refine RL.not ay (RL.nt (fK o (fun hc o=>?_) fun hc o=>?_))
 ·refine RC.sr (RL.build (⟨0,0,0,0⟩:aH) trivial rfl j [] rfl GO rfl (fun M hs g=>by have h:=vB M;exact dA.nil h) fun a6 j=>?_)
  refine RL.bW 8 j 0 zr jE fun w j=>?_
  refine aT (vi 1) (RL.nt (RC.rt ?_))
  obtain rfl:=oi o
  exact A5 8 j jE fun a0 j=>⟨a0,zr,j.pk 10 [0]⟩
 refine RC.sx (RL.aV (f:=(fun x=>x)) 3 j zr Fd.self jE fun a7 j=>(RL.bW 8 j 0 zr jE fun w j=>?_))
 refine aT (vi 0) (RL.nt (RC.ret ?_))
 obtain rfl:=oi o
 exact A5 8 j jE fun a1 j=>⟨a1,zr,j.pk 10 [0]⟩
def u3 (E:World) (V:List HP) (r:Int) (U:Nat->Value) (w:World):Prop:=nL bN 47 Tryz.f47 (aS E V r) .ret U w
theorem tE {p0:fz} (j:Holds E w V) (h0:V[i0]? =some (rd v0 p0)) (o:jP N p0=some res):
    Calls bN 47 [v0].toArray w (iE (aS E V res)):=by
 unfold jP at o
 refine enter Tryz.func47 zr zr ?_
 have j:=j.dup (i0+0) h0
 refine RC.sr (RL.dJ 0 v0 j zr fun a0 w j=>?_)
 refine aT (vi 0) (RL.nq (RC.sr (RL.bO zr oc (RL.aV 0 j zr tu xK fun a1 j=>(RL.bM 0 p0.aQ j zw (ic ((p0.aQ.length:Int)) 500 (RL.nt (fK o (fun hc o=>?_) fun hc o=>?_))))))))
 ·refine RC.sr (aT (vi 2) (RL.nt (RC.rt ?_)))
  obtain rfl:=oi o
  exact cK ⟨rfl,j.drop 3⟩
 refine RC.sx (RL.bO zr xJ (RL.aV 1 j zr rk GM fun a2 j=>(RL.bM 0 p0.aI j DF (aT (vi p0.aI.length) (RL.nq (RC.sr (RL.bO zr oc (RL.aV 2 j zr tu xK fun ag j=>?_))))))))
 refine RL.bM 0 p0.aQ j zw (mv (vi 0) (RL.nt ?_))
 obtain⟨a3,hN,o⟩:=bd o
 refine RC.range (fun(ah:Nat) (ai:Unit)=>SH E V [(3,vi p0.aI.length),(16,ag),(17,vi p0.aQ.length),(18,vi ah)] [rd ag p0.aQ]) (fun(ai:Unit)=>SH E V [] [rd ag p0.aQ]) (u3 E V) hN ?_ ?_ ?_ ?_ ?_
 ·exact j.sp 5 [0]
 ·rintro hm ai _ w ⟨O,rfl,j⟩
  refine RC.sr (ic ((p0.aQ.length:Int)) ((p0.aQ.length:Int)) (RL.nq (RC.dC oE (RC.ex ?_))))
  exact⟨rfl,j.sp 1 [0]⟩
 ·rintro hm ah ai fl _ w hk ⟨O,rfl,j⟩ o
  refine RC.sr (ic ((ah:Int)) ((p0.aQ.length:Int)) (RL.nq (RC.dB (oD hk) (RC.ss (RC.bs ?_)))))
  obtain⟨ad,au,o⟩:=bd o
  refine RL.cJ 0 j Ce au fun a5 j=>(RL.bY 0 ad j mD fun a6 j=>(RL.alloc j Bj.z fun a7 w j=>?_))
  refine RL.bW 0 j 1 zr mD fun w j=>?_
  refine RL.nq (RC.sr (RL.aV (f:=(fun x=>x)) 0 j zr Fd.self mD fun av j=>?_))
  obtain⟨ae,aw,o⟩:=bd o
  refine RL.call zt zr Ot [av] zr (aF (xO N (i0:=0) j zr aw) ?_)
  rintro _ w ⟨an,rfl,j⟩
  refine mv (.tuple #[an,(vi ae.2)]) (RL.extract an (RL.extract (vi ae.2) (RL.alloc j qN.z fun a8 w j=>?_)))
  refine RL.bW 0 j 1 zr jE fun w j=>?_
  refine aT (vi ae.2) (RL.ns (mv (vi ae.2) (ic ae.2 0 (RL.nt (fK o (fun hc o=>?_) fun hc o=>?_)))))
  ·refine RC.sr (mv (vi ae.2) (aT (vi ae.2) (RL.nt (RC.rt (kh (bZ ?_))))))
   obtain rfl:=oi o
   exact⟨rfl,cK ⟨rfl,j.drop 7⟩⟩
  refine RC.ss ?_
  obtain⟨aj,hj,o⟩:=bd o
  refine RC.jn (fun(aj:Bool)=>SH E V [(3,vi p0.aI.length),(16,ag),(17,vi p0.aQ.length),(18,vi ah),(45,vb aj)] [rd ag p0.aQ]) aj ?_ ?_
  ·refine RC.region (RL.bO zr r8 (RL.aR 3 j zr nZ cW (mv (vi p0.aI.length) (RL.ja (p0.aI.length:Int) 1 ?_))))
   obtain⟨ao,ax,hj⟩:=bd hj
   refine RL.call zt zr JS [(vi ad.cZ),(vi 0),(vi (IntKind.wrap .i64 ((p0.aI.length:Int) - 1)))] zr (aF (mz N (p0:=ad.cZ) (p1:=0) (p2:=(IntKind.wrap .i64 ((p0.aI.length:Int) - 1))) j ax) ?_)
   rintro _ w ⟨rfl,j⟩
   refine RL.not ao (mv (vb (!ao)) (iA hj (fun aa hj=>?_) fun aa hj=>?_))
   ·refine cH aa (cH aa (cH aa (cH aa (cH aa (cH aa (cH aa (cH aa (iF aa (vb true) ?_))))))))
    refine RL.nil ?_
    obtain rfl:=oi hj
    exact⟨rfl,j.sp 7 [6]⟩
   refine RL.bO (hg:=(cg aa)) zr uy (RL.aR (hg:=(cg aa)) 3 j zr pC cW (RL.bO (hg:=(cg aa)) zr r8 (RL.aR (hg:=(cg aa)) 3 j zr nZ cW (RL.move (vi p0.aI.length) (cg aa) (RL.ja (hg:=(cg aa)) (p0.aI.length:Int) 1 ?_)))))
   obtain⟨aq,ay,hj⟩:=bd hj
   refine RL.call (cg aa) zr JS [(vi ad.To),(vi ad.cZ),(vi (IntKind.wrap .i64 ((p0.aI.length:Int) - 1)))] zr (aF (mz N (p0:=ad.To) (p1:=ad.cZ) (p2:=(IntKind.wrap .i64 ((p0.aI.length:Int) - 1))) j ay) ?_)
   rintro _ w ⟨rfl,j⟩
   refine RL.not (hg:=(cg aa)) aq (iF aa (vb (!aq)) (RL.nil ?_))
   obtain rfl:=oi hj
   exact⟨rfl,j.sp 7 [6]⟩
  rintro _ w ⟨O,rfl,j⟩
  refine aG (fK o (fun hc o=>?_) fun hc o=>?_)
  rotate_left
  ·refine RC.skip (cA (aG (RC.region (RL.inc hk hm (mv (vi ((ah+1:Nat):Int)) (RL.nil ?_))))))
   obtain rfl:=oi o
   exact⟨rfl,j.sp 1 [0]⟩
  refine RC.sr (aT (vi 1) (RL.nt (RC.rb (bZ ?_))))
  obtain rfl:=oi o
  exact⟨rfl,cK ⟨rfl,j.drop 1⟩⟩
 ·intro r U w e hK
  subst e
  refine bZ ?_
  obtain rfl:=oi o
  exact hK
 rintro ai _ w rfl ⟨O,rfl,j⟩
 rw [Fo.gm] at o
 refine aG (RC.sr (aT (vi 0) (RL.nt (RC.ret ?_))))
 obtain rfl:=oi o
 exact cK ⟨rfl,j.drop 1⟩
theorem mO {p0:dO} (o:Holds E w V) (j:gW N p0 p1=some res):
    Calls bN 134 [(str p0),(.int .u8 p1)].toArray w (iE (aS E V res)):=by
 unfold gW at j
 refine enter Tryz.func134 zr zr (RC.sr (aT (vi 0) (RL.ns (mv (str p0) (mv (.int .u8 p1) (RL.y9 (vi (Lib.indexByte p0.cP (Int.toNat p1).toUInt8)) zr [(str p0),(.int .u8 p1)] zr (Ow p0 p1 w) (aT (vi (Lib.indexByte p0.cP (Int.toNat p1).toUInt8)) (RL.nt ?_))))))))
 refine RC.ret ?_
 obtain rfl:=oi j
 exact cK ⟨rfl,o.drop 0⟩
theorem tF {p0 p1:dO} (o:Holds E w V) (j:jQ N p0 p1=some res):
    Calls bN 196 [(str p0),(str p1)].toArray w (iE (aS E V res)):=by
 unfold jQ at j
 refine enter Tryz.func196 zr zr (RC.sr (aT (vi 0) (RL.ns (mv (str p1) (RL.lens p1 DJ (aT (vi p1.cP.length) (RL.nq (RC.bs ?_))))))))
 refine mv (vi p1.cP.length) (ic ((p1.cP.length:Int)) 0 (mv (vb ((p1.cP.length:Int)==0)) (RL.gs true ((p1.cP.length:Int)==0) (str p1) rfl rfl rfl dW (RL.gs true ((p1.cP.length:Int)==0) (str p0) rfl rfl rfl dW (RL.gs true ((p1.cP.length:Int)==0) (vb (p1.BO p0)) rfl rfl rfl (JB .eql p1 p0 rfl (fun h=>by exact(dG h:cv (true&&(((p1.cP.length:Int)==0)==false)) (str p1)= (str p1))) (fun h=>by exact(dG h:cv (true&&(((p1.cP.length:Int)==0)==false)) (str p0)= (str p0))) rfl) (RL.pick ((p1.cP.length:Int)==0) (vb (((p1.cP.length:Int)==0)||(p1.BO p0))) (oZ true) (aT (vb (((p1.cP.length:Int)==0)||(p1.BO p0))) (RL.nt ?_))))))))
 refine fK j (fun hc j=>?_) fun hc j=>?_
 ·refine RC.sr (aT (vi 0) (RL.nt (RC.rb (bZ ?_))))
  obtain rfl:=oi j
  exact cK ⟨rfl,o.drop 0⟩
 refine RC.sr (mv (vi p1.cP.length) (ic ((p1.cP.length:Int)) 1 (aT (vb ((p1.cP.length:Int)==1)) (RL.nt (fK j (fun hc j=>?_) fun hc j=>?_)))))
 ·refine RC.sr (mv (str p0) (mv (str p1) ?_))
  obtain⟨ab,ad,j⟩:=bd j
  refine RL.idxs p1 0 ab zr zr zr DJ ad ?_
  obtain⟨ae,af,j⟩:=bd j
  refine RL.call zt zr KH [(str p0),(.int .u8 (ab.toNat:Int))] zr (aF (mO N (p0:=p0) (p1:=(ab.toNat:Int)) o af) ?_)
  rintro _ w ⟨rfl,o⟩
  refine aT (vi ae) (RL.nt (RC.rb (bZ ?_)))
  obtain rfl:=oi j
  exact cK ⟨rfl,o.drop 0⟩
 refine RC.sr (mv (vi p1.cP.length) (mv (str p0) (RL.lens p0 DJ (ic ((p1.cP.length:Int)) ((p0.cP.length:Int)) (aT (vb (decide ((p1.cP.length:Int)>=(p0.cP.length:Int)))) (RL.nt (fK j (fun hc j=>?_) fun hc j=>?_)))))))
 rotate_left
 ·cases j
 refine RC.sr (aT (vi (-1)) (RL.nt (RC.rb (bZ ?_))))
 obtain rfl:=oi j
 exact cK ⟨rfl,o.drop 0⟩
theorem ru {p0 p1:dO} (o:Holds E w V) (j:lk N p0 p1=some res):
    Calls bN 170 [(str p0),(str p1)].toArray w (iE (aS E V res)):=by
 unfold lk at j
 refine enter Tryz.func170 zr zr (RC.sr (aT (vi 0) (RL.ns (mv (str p0) (mv (str p1) ?_)))))
 obtain⟨aa,ab,j⟩:=bd j
 refine RL.call zt zr MD [(str p0),(str p1)] zr (aF (tF N (p0:=p0) (p1:=p1) o ab) ?_)
 rintro _ w ⟨rfl,o⟩
 refine aT (vi aa) (RL.nt (RC.ret ?_))
 obtain rfl:=oi j
 exact cK ⟨rfl,o.drop 0⟩
def yL (E:World) (V:List HP) (r:Int) (U:Nat->Value) (w:World):Prop:=nL bN 34 Tryz.f169 (aS E V r) .ret U w
theorem xP {p0 p1:dO} (hw:Holds E w V) (j:mL N p0 p1=some res):
    Calls bN 169 [(str p0),(str p1)].toArray w (iE (aS E V res)):=by
 unfold mL at j
 refine enter Tryz.func169 zr zr (RC.sr (aT (vi 0) (RL.nq (RC.sr (mv (str p1) (RL.lens p1 DJ (ic ((p1.cP.length:Int)) 0 (RL.nt ?_))))))))
 refine fK j (fun hc j=>?_) fun hc j=>?_
 ·cases j
 refine RC.ss (RC.sr (mv (str p1) (RL.lens p1 DJ (ic ((p1.cP.length:Int)) 1 (RL.nt (fK j (fun hc j=>?_) fun hc j=>?_))))))
 ·refine RC.sr (mv (str p0) (mv (str p1) ?_))
  obtain⟨ad,af,j⟩:=bd j
  refine RL.idxs p1 0 ad zr zr zr DJ af (RL.y9 (vi ((Lib.countByte p0.cP (Int.toNat (ad.toNat:Int)).toUInt8:Nat):Int)) zr [(str p0),(.int .u8 (ad.toNat:Int))] zr (Ov p0 (ad.toNat:Int) w) (aT (vi ((Lib.countByte p0.cP (Int.toNat (ad.toNat:Int)).toUInt8:Nat):Int)) (RL.nt (RC.rt ?_))))
  obtain rfl:=oi j
  exact cK ⟨rfl,hw.drop 0⟩
 refine RC.sx (aT (vi 0) (RL.nt ?_))
 obtain⟨al,hN,j⟩:=bd j
 refine RC.iter (fun(o:dO×Int)=>SH E V [(0,(str o.1)),(1,(str p1)),(4,vi 0),(5,vi o.2)] []) (fun(o:dO×Int)=>SH E V [(4,vi 0)] []) (yL E V) hN ?_ ?_ ?_ ?_
 ·exact hw.sp 0 []
 ·rintro o fl _ w ⟨O,rfl,hw⟩ j
  refine RC.bs (mv (str o.1) (mv (str p1) ?_))
  obtain⟨ae,ah,j⟩:=bd j
  refine RL.call zt zr KI [(str o.1),(str p1)] zr (aF (ru N (p0:=o.1) (p1:=p1) hw ah) ?_)
  rintro _ w ⟨rfl,hw⟩
  refine aT (vi ae) (RL.nq (RC.sr (mv (vi ae) (ic ae ((-1)) (RL.nt (fK j (fun hc j=>?_) fun hc j=>?_))))))
  ·refine RC.sr (mv (vi o.2) (aT (vi o.2) (RL.nt (RC.rt (kh ?_)))))
   obtain rfl:=oi j
   exact⟨rfl,cK ⟨rfl,hw.drop 0⟩⟩
  refine RC.sx (mv (vi o.2) (RL.ja o.2 1 (aT (vi (IntKind.wrap .i64 (o.2+1))) (RL.nt (RC.region (mv (str o.1) (mv (vi ae) (mv (str p1) ?_))))))))
  refine RL.lens p1 DJ (RL.ja ae (p1.cP.length:Int) ?_)
  obtain⟨ai,aj,j⟩:=bd j
  refine RL.vx o.1 zr zr DJ (.inl zr) (.inr ⟨rfl,zr⟩) aj (aT (str ai) (RL.nil (cA ?_)))
  obtain rfl:=oi j
  exact⟨rfl,hw.sp 0 []⟩
 ·intro r U w e hK
  subst e
  obtain rfl:=oi j
  exact hK
 rintro o _ w rfl ⟨O,rfl,hw⟩
 rw [Fo.gm] at j
 obtain rfl:=oi j
 refine C1 ?_
 exact cK ⟨rfl,hw.drop 0⟩
theorem u4 {p0 p1:dO} {res: (List dO)} (o:Holds E w V) (j:mq N p0 p1 p2 p3=some res):
    Calls bN 133 [(str p0),(str p1),(vi p2),(vi p3)].toArray w (iE (pQ E V res)):=by
 unfold mq at j
 refine enter Tryz.func133 zr zr (RC.sr (aT (.slice none 0 0) (RL.nq (RC.sr (mv (vi p3) (ic p3 0 (RL.nt (fK j (fun hc j=>?_) fun hc j=>?_))))))))
 ·refine RC.sr (aT (.slice none 0 0) (RL.nt (RC.rt ?_)))
  obtain rfl:=oi j
  have o:=o.eC dO 9
  exact cK (o.pk 1 [0])
 refine RC.ss (RC.sr (mv (str p1) (RL.GB p1 ⟨[]⟩ zr zr zr zr (RL.nt (fK j (fun hc j=>?_) fun hc j=>?_)))))
 ·cases j
 refine RC.ss (RC.sr (mv (vi p3) (ic p3 0 (RL.nt ?_))))
 obtain⟨ab,hj,j⟩:=bd j
 refine RC.jn (fun(ab:Int)=>SH E V [(0,(str p0)),(1,(str p1)),(2,vi p2),(3,vi ab)] []) ab ?_ ?_
 ·refine fK hj (fun hc hj=>?_) fun hc hj=>?_
  rotate_left
  ·refine RC.skip ?_
   obtain rfl:=oi hj
   exact⟨rfl,o.sp 0 []⟩
  refine RC.region (mv (str p0) (mv (str p1) ?_))
  obtain⟨aj,ak,hj⟩:=bd hj
  refine RL.call zt zr ME [(str p0),(str p1)] zr (aF (xP N (p0:=p0) (p1:=p1) o ak) ?_)
  rintro _ w ⟨rfl,o⟩
  refine RL.ja aj 1 (aT (vi (IntKind.wrap .i64 (aj+1))) (RL.nil ?_))
  obtain rfl:=oi hj
  exact⟨rfl,o.sp 0 []⟩
 rintro _ w ⟨O,rfl,o⟩
 refine aG (RC.sr (mv (vi ab) (mv (str p0) (RL.lens p0 DJ (RL.ja (p0.cP.length:Int) 1 (RL.min ab (IntKind.wrap .i64 ((p0.cP.length:Int)+1)) (aT (vi (if (IntKind.wrap .i64 ((p0.cP.length:Int)+1))<ab then (IntKind.wrap .i64 ((p0.cP.length:Int)+1)) else ab)) (RL.ns ?_))))))))
 refine mv (vi (if (IntKind.wrap .i64 ((p0.cP.length:Int)+1))<ab then (IntKind.wrap .i64 ((p0.cP.length:Int)+1)) else ab)) ?_
 obtain⟨ay,al,j⟩:=bd j
 refine RL.mk (if (IntKind.wrap .i64 ((p0.cP.length:Int)+1))<ab then (IntKind.wrap .i64 ((p0.cP.length:Int)+1)) else ab) o MF PI al fun ae w o=>?_
 refine aT ae (RL.ns (mv (vi (if (IntKind.wrap .i64 ((p0.cP.length:Int)+1))<ab then (IntKind.wrap .i64 ((p0.cP.length:Int)+1)) else ab)) (RL.ja (if (IntKind.wrap .i64 ((p0.cP.length:Int)+1))<ab then (IntKind.wrap .i64 ((p0.cP.length:Int)+1)) else ab) 1 (aT (vi (IntKind.wrap .i64 ((if (IntKind.wrap .i64 ((p0.cP.length:Int)+1))<ab then (IntKind.wrap .i64 ((p0.cP.length:Int)+1)) else ab) - 1))) (RL.ns (aT (vi 0) (RL.nq ?_)))))))
 obtain⟨az,hN,j⟩:=bd j
 refine RC.iter (fun(aa:dO×(List dO)×Int)=>SH E V [(0,(str aa.1)),(1,(str p1)),(2,vi p2),(3,(vi (IntKind.wrap .i64 ((if (IntKind.wrap .i64 ((p0.cP.length:Int)+1))<ab then (IntKind.wrap .i64 ((p0.cP.length:Int)+1)) else ab) - 1)))),(9,ae),(10,vi aa.2.2)] [own 9 ae aa.2.1]) (fun(aa:dO×(List dO)×Int)=>SH E V [(0,(str aa.1)),(9,ae),(10,vi aa.2.2)] [own 9 ae aa.2.1]) (fun(r:Empty) _ _=>r.elim) hN ?_ ?_ ?_ ?_
 ·exact o.sp 1 [0]
 ·rintro aa fl _ w ⟨O,rfl,o⟩ j
  refine RC.seq (RC.sr (mv (vi aa.2.2) (mv (vi (IntKind.wrap .i64 ((if (IntKind.wrap .i64 ((p0.cP.length:Int)+1))<ab then (IntKind.wrap .i64 ((p0.cP.length:Int)+1)) else ab) - 1))) (ic aa.2.2 ((IntKind.wrap .i64 ((if (IntKind.wrap .i64 ((p0.cP.length:Int)+1))<ab then (IntKind.wrap .i64 ((p0.cP.length:Int)+1)) else ab) - 1))) (RL.nt (fK j (fun hc j=>?_) fun hc j=>?_))))))
  rotate_left
  ·refine RC.ex ?_
   obtain rfl:=oi j
   exact⟨rfl,o.sp 1 [0]⟩
  refine RC.sn (RC.bs (mv (str aa.1) (mv (str p1) ?_)))
  obtain⟨ag,ao,j⟩:=bd j
  refine RL.call zt zr KI [(str aa.1),(str p1)] zr (aF (ru N (p0:=aa.1) (p1:=p1) o ao) ?_)
  rintro _ w ⟨rfl,o⟩
  refine aT (vi ag) (RL.nq (RC.sr (mv (vi ag) (ic ag 0 (RL.nt (fK j (fun hc j=>?_) fun hc j=>?_))))))
  ·refine RC.ex (Lc (by decide) ?_)
   obtain rfl:=oi j
   exact⟨rfl,o.sp 1 [0]⟩
  refine RC.sx (mv ae (mv (vi aa.2.2) (mv (str aa.1) (mv (vi ag) (mv (vi p2) (RL.ja ag p2 ?_))))))
  obtain⟨aq,ar,j⟩:=bd j
  refine RL.vx aa.1 zr zr DJ (.inr ⟨rfl,zr⟩) (.inl zr) ar ?_
  obtain⟨a1,ah,j⟩:=bd j
  refine RL.bU 0 o zr zr FV ah ?_
  have o:=o.sc dO aq
  refine RL.fQ (f:=(fun _ y=>y)) 1 0 o (jy 1 o ah 0) (bC ah).2.1 zr Fs.self H8 fun w o=>?_
  refine RL.ns (mv (str aa.1) (mv (vi ag) (mv (str p1) (RL.lens p1 DJ (RL.ja ag (p1.cP.length:Int) ?_)))))
  obtain⟨au,av,j⟩:=bd j
  refine RL.vx aa.1 zr zr DJ (.inl zr) (.inr ⟨rfl,zr⟩) av (aT (str au) (RL.nt (RC.region (mv (vi aa.2.2) (RL.ja aa.2.2 1 (aT (vi (IntKind.wrap .i64 (aa.2.2+1))) (RL.nil (cA ?_))))))))
  obtain rfl:=oi j
  exact⟨rfl,o.sp 2 [1]⟩
 ·intro r _ _ _ _
  exact r.elim
 rintro aa _ w rfl ⟨O,rfl,o⟩
 rw [Fo.gm] at j
 refine aG (RC.sr (mv ae (mv (vi aa.2.2) (mv (str aa.1) ?_))))
 obtain⟨a2,ai,j⟩:=bd j
 refine RL.bU 0 o zr zr FV ai ?_
 have o:=o.sc dO aa.1
 refine RL.fQ (f:=(fun _ y=>y)) 1 0 o (jy 1 o ai 0) (bC ai).2.1 zr Fs.self H8 fun w o=>?_
 refine RL.ns (mv ae (mv (vi aa.2.2) (RL.ja aa.2.2 1 ?_)))
 obtain⟨a3,aw,j⟩:=bd j
 refine RL.BS 1 zr o zr zr FV (.inr ⟨rfl,zr⟩) aw fun ax o=>(aT ax (RL.nt (RC.ret ?_)))
 obtain rfl:=oi j
 exact cK (o.pk 2 [1])
theorem xQ {p0 p1:dO} {res: (List dO)} (o:Holds E w V) (j:ll N p0 p1=some res):
    Calls bN 110 [(str p0),(str p1)].toArray w (iE (pQ E V res)):=by
 unfold ll at j
 refine enter Tryz.func110 zr zr (RC.sr (aT (.slice none 0 0) (RL.ns (mv (str p0) (mv (str p1) ?_)))))
 obtain⟨ad,aa,j⟩:=bd j
 refine RL.call zt zr MG [(str p0),(str p1),(vi 0),(vi (-1))] zr (aF (u4 N (p0:=p0) (p1:=p1) (p2:=0) (p3:=(-1)) o aa) ?_)
 rintro ab w o
 refine aT ab (RL.nt (RC.ret ?_))
 obtain rfl:=oi j
 exact cK (o.pk 1 [0])
def qq (E:World) (V:List HP) (r:Int) (U:Nat->Value) (w:World):Prop:=nL bN 19 Tryz.f132 (aS E V r) .ret U w
theorem pU {p0: (List dO)} {p1:dO->Option Bool} (j:Holds E w V) (h0:V[i0]? =some (rd v0 p0)) (h1:Jt bN E V v1 p1 (fun(r:Bool)=>Value.bool r)) (o:kl N p0 p1=some res):
    Calls bN 132 [v0,v1].toArray w (iE (aS E V res)):=by
 unfold kl at o
 refine enter Tryz.func132 zr zr ?_
 have j:=j.dup (i0+0) h0
 refine RC.sr (aT (vi 0) (RL.nq (RC.sr (mv v0 (RL.bM 0 p0 j MI (mv (vi 0) (RL.nt ?_)))))))
 obtain⟨al,hN,o⟩:=bd o
 refine RC.range (fun(aa:Nat) (ab:Unit)=>SH E V [(0,v0),(1,v1),(7,vi p0.length),(8,vi aa)] [rd v0 p0]) (fun(ab:Unit)=>SH E V [] [rd v0 p0]) (qq E V) hN ?_ ?_ ?_ ?_ ?_
 ·exact j.sp 1 [0]
 ·rintro hm ab _ w ⟨O,rfl,j⟩
  refine RC.sr (ic ((p0.length:Int)) ((p0.length:Int)) (RL.nq (RC.dC oE (RC.ex ?_))))
  exact⟨rfl,j.sp 1 [0]⟩
 ·rintro hm aa ab fl _ w hk ⟨O,rfl,j⟩ o
  refine RC.sr (ic ((aa:Int)) ((p0.length:Int)) (RL.nq (RC.dB (oD hk) (RC.ss (RC.bs (mv (vi aa) (aT (vi aa) (RL.ns ?_))))))))
  refine mv v1 (mv v0 (mv (vi aa) ?_))
  obtain⟨af,ah,o⟩:=bd o
  refine RL.cJ 0 j FV ah fun ao j=>(RL.cB af 0 j H8 ?_)
  have j:=j.sc dO af
  obtain⟨aq,ai,o⟩:=bd o
  refine RL.BR 0 zr j zr h1 3 zr zr zr ai fun w j=>(RL.nt (fK o (fun hc o=>?_) fun hc o=>?_))
  rotate_left
  ·refine RC.skip (cA (aG (RC.region (RL.inc hk hm (mv (vi ((aa+1:Nat):Int)) (RL.nil ?_))))))
   obtain rfl:=oi o
   exact⟨rfl,j.sp 3 [2]⟩
  refine RC.sr (mv (vi aa) (aT (vi aa) (RL.nt (RC.rb (bZ ?_)))))
  obtain rfl:=oi o
  exact⟨rfl,cK ⟨rfl,j.drop 3⟩⟩
 ·intro r U w e hK
  subst e
  refine bZ ?_
  obtain rfl:=oi o
  exact hK
 rintro ab _ w rfl ⟨O,rfl,j⟩
 rw [Fo.gm] at o
 refine aG (RC.sr (aT (vi (-1)) (RL.nt (RC.ret ?_))))
 obtain rfl:=oi o
 exact cK ⟨rfl,j.drop 1⟩
theorem oI {p0: (List dO)} {p1:dO->Option Bool} {res:Bool} (j:Holds E w V) (h0:V[i0]? =some (rd v0 p0)) (h1:Jt bN E V v1 p1 (fun(r:Bool)=>Value.bool r)) (o:gM N p0 p1=some res):
    Calls bN 109 [v0,v1].toArray w (iE (bV E V res)):=by
 unfold gM at o
 refine enter Tryz.func109 zr zr ?_
 have j:=j.dup (i0+0) h0
 refine RC.sr (aT (vb false) (RL.ns (mv v0 (mv v1 ?_))))
 obtain⟨aa,ab,o⟩:=bd o
 refine RL.call zt zr MJ [v0,v1] zr (aF (pU N (i0:=0) j zr (h1.lift 1 zr) ab) ?_)
 rintro _ w ⟨rfl,j⟩
 refine ic aa 0 (aT (vb (decide (aa>=0))) (RL.nt (RC.ret ?_)))
 obtain rfl:=oi o
 exact cK ⟨rfl,j.drop 1⟩
theorem tG {p0:dO} (o:Holds E w V) (j:fV N p0 p1=some res):
    Calls bN 112 [(str p0),(.int .u8 p1)].toArray w (iE (aS E V res)):=by
 unfold fV at j
 refine enter Tryz.func112 zr zr (RC.sr (aT (vi 0) (RL.ns (mv (str p0) (mv (.int .u8 p1) ?_)))))
 obtain⟨aa,ab,j⟩:=bd j
 refine RL.call zt zr KH [(str p0),(.int .u8 p1)] zr (aF (mO N (p0:=p0) (p1:=p1) o ab) ?_)
 rintro _ w ⟨rfl,o⟩
 refine aT (vi aa) (RL.nt (RC.ret ?_))
 obtain rfl:=oi j
 exact cK ⟨rfl,o.drop 0⟩
def xR (E:World) (V:List HP) (r:Bool) (U:Nat->Value) (w:World):Prop:=nL bN 49 Tryz.f75 (bV E V r) .ret U w
theorem qE {p0:dO} {res:Bool} (hw:Holds E w V) (o:iw N p0=some res):
    Calls bN 75 [(str p0)].toArray w (iE (bV E V res)):=by
 unfold iw at o
 refine enter Tryz.func75 zr zr (RC.sr (aT (vb false) (RL.nq (RC.sr (mv (str p0) (RL.lens p0 DJ (mv (vi 0) (RL.nt ?_))))))))
 obtain⟨ar,hN,o⟩:=bd o
 refine RC.range (fun(ab:Nat) (af:Unit)=>SH E V [(0,(str p0)),(6,vi p0.cP.length),(7,vi ab)] []) (fun(af:Unit)=>SH E V [(0,(str p0))] []) (xR E V) hN ?_ ?_ ?_ ?_ ?_
 ·exact hw.sp 0 []
 ·rintro hm af _ w ⟨O,rfl,hw⟩
  refine RC.sr (ic ((p0.cP.length:Int)) ((p0.cP.length:Int)) (RL.nq (RC.dC oE (RC.ex ?_))))
  exact⟨rfl,hw.sp 0 []⟩
 ·rintro hm ab af fl _ w hk ⟨O,rfl,hw⟩ o
  refine RC.sr (ic ((ab:Int)) ((p0.cP.length:Int)) (RL.nq (RC.dB (oD hk) (RC.ss (RC.bs (mv (vi ab) (aT (vi ab) (RL.ns ?_))))))))
  refine mv (str p0) (mv (vi ab) ?_)
  obtain⟨j,al,o⟩:=bd o
  refine RL.idxs p0 (ab:Int) j zr zr zr DJ al (aT (.int .u8 (j.toNat:Int)) (RL.nq ?_))
  obtain⟨ag,hj,o⟩:=bd o
  refine RC.jn (fun(ag:Bool)=>SH E V [(0,(str p0)),(6,vi p0.cP.length),(7,vi ab),(39,vb ag)] []) ag ?_ ?_
  ·refine RC.region (mv (.int .u8 (j.toNat:Int)) (ic ((j.toNat:Int)) 65 (mv (vb (decide ((j.toNat:Int)<65))) (RL.gs true (decide ((j.toNat:Int)<65)) (.int .u8 (j.toNat:Int)) rfl rfl rfl dW (RL.gs true (decide ((j.toNat:Int)<65)) (vb (decide ((j.toNat:Int)>90))) rfl rfl rfl (eN .gtr .u8 (j.toNat:Int) 90 rfl (fun h=>by exact(dG h:cv (true&&((decide ((j.toNat:Int)<65))==false)) (.int .u8 (j.toNat:Int))= (.int .u8 (j.toNat:Int)))) (fun _=>rfl) rfl) (RL.pick (decide ((j.toNat:Int)<65)) (vb ((decide ((j.toNat:Int)<65))||(decide ((j.toNat:Int)>90)))) (oZ true) (mv (vb ((decide ((j.toNat:Int)<65))||(decide ((j.toNat:Int)>90)))) (RL.gs true ((decide ((j.toNat:Int)<65))||(decide ((j.toNat:Int)>90))) (.int .u8 (j.toNat:Int)) rfl rfl rfl dW ?_))))))))
   refine RL.gs true ((decide ((j.toNat:Int)<65))||(decide ((j.toNat:Int)>90))) (vb (decide ((j.toNat:Int)<97))) rfl rfl rfl (eN .lss .u8 (j.toNat:Int) 97 rfl (fun h=>by exact(dG h:cv (true&&(((decide ((j.toNat:Int)<65))||(decide ((j.toNat:Int)>90)))==true)) (.int .u8 (j.toNat:Int))= (.int .u8 (j.toNat:Int)))) (fun _=>rfl) rfl) (RL.gs true ((decide ((j.toNat:Int)<65))||(decide ((j.toNat:Int)>90))) (vb (decide ((j.toNat:Int)<97))) rfl rfl rfl (dW (hx:=fun h=>by exact(dG h:cv (true&&(((decide ((j.toNat:Int)<65))||(decide ((j.toNat:Int)>90)))==true)) (vb (decide ((j.toNat:Int)<97)))= (vb (decide ((j.toNat:Int)<97)))))) (RL.gs (true&&(((decide ((j.toNat:Int)<65))||(decide ((j.toNat:Int)>90)))==true)) (decide ((j.toNat:Int)<97)) (.int .u8 (j.toNat:Int)) rfl rfl rfl dW (RL.gs (true&&(((decide ((j.toNat:Int)<65))||(decide ((j.toNat:Int)>90)))==true)) (decide ((j.toNat:Int)<97)) (vb (decide ((j.toNat:Int)>122))) rfl rfl rfl (eN .gtr .u8 (j.toNat:Int) 122 rfl (fun h=>by exact(dG h:cv ((true&&(((decide ((j.toNat:Int)<65))||(decide ((j.toNat:Int)>90)))==true))&&((decide ((j.toNat:Int)<97))==false)) (.int .u8 (j.toNat:Int))= (.int .u8 (j.toNat:Int)))) (fun _=>rfl) rfl) (RL.gs true ((decide ((j.toNat:Int)<65))||(decide ((j.toNat:Int)>90))) (vb ((decide ((j.toNat:Int)<97))||(decide ((j.toNat:Int)>122)))) rfl rfl rfl (rR (decide ((j.toNat:Int)<97)) rfl (fun h=>by exact(dG h:cv (true&&(((decide ((j.toNat:Int)<65))||(decide ((j.toNat:Int)>90)))==true)) (vb (decide ((j.toNat:Int)<97)))= (vb (decide ((j.toNat:Int)<97))))) (fun h=>by exact oZ (h:=h) (true&&(((decide ((j.toNat:Int)<65))||(decide ((j.toNat:Int)>90)))==true)))) (RL.pick ((decide ((j.toNat:Int)<65))||(decide ((j.toNat:Int)>90))) (vb (((decide ((j.toNat:Int)<65))||(decide ((j.toNat:Int)>90)))&&((decide ((j.toNat:Int)<97))||(decide ((j.toNat:Int)>122))))) (kg true) (mv (vb (((decide ((j.toNat:Int)<65))||(decide ((j.toNat:Int)>90)))&&((decide ((j.toNat:Int)<97))||(decide ((j.toNat:Int)>122))))) (RL.gs true (((decide ((j.toNat:Int)<65))||(decide ((j.toNat:Int)>90)))&&((decide ((j.toNat:Int)<97))||(decide ((j.toNat:Int)>122)))) (.int .u8 (j.toNat:Int)) rfl rfl rfl dW (RL.gs true (((decide ((j.toNat:Int)<65))||(decide ((j.toNat:Int)>90)))&&((decide ((j.toNat:Int)<97))||(decide ((j.toNat:Int)>122)))) (vb (decide ((j.toNat:Int)<48))) rfl rfl rfl (eN .lss .u8 (j.toNat:Int) 48 rfl (fun h=>by exact(dG h:cv (true&&((((decide ((j.toNat:Int)<65))||(decide ((j.toNat:Int)>90)))&&((decide ((j.toNat:Int)<97))||(decide ((j.toNat:Int)>122))))==true)) (.int .u8 (j.toNat:Int))= (.int .u8 (j.toNat:Int)))) (fun _=>rfl) rfl) ?_))))))))
   refine RL.gs true (((decide ((j.toNat:Int)<65))||(decide ((j.toNat:Int)>90)))&&((decide ((j.toNat:Int)<97))||(decide ((j.toNat:Int)>122)))) (vb (decide ((j.toNat:Int)<48))) rfl rfl rfl (dW (hx:=fun h=>by exact(dG h:cv (true&&((((decide ((j.toNat:Int)<65))||(decide ((j.toNat:Int)>90)))&&((decide ((j.toNat:Int)<97))||(decide ((j.toNat:Int)>122))))==true)) (vb (decide ((j.toNat:Int)<48)))= (vb (decide ((j.toNat:Int)<48)))))) (RL.gs (true&&((((decide ((j.toNat:Int)<65))||(decide ((j.toNat:Int)>90)))&&((decide ((j.toNat:Int)<97))||(decide ((j.toNat:Int)>122))))==true)) (decide ((j.toNat:Int)<48)) (.int .u8 (j.toNat:Int)) rfl rfl rfl dW (RL.gs (true&&((((decide ((j.toNat:Int)<65))||(decide ((j.toNat:Int)>90)))&&((decide ((j.toNat:Int)<97))||(decide ((j.toNat:Int)>122))))==true)) (decide ((j.toNat:Int)<48)) (vb (decide ((j.toNat:Int)>57))) rfl rfl rfl (eN .gtr .u8 (j.toNat:Int) 57 rfl (fun h=>by exact(dG h:cv ((true&&((((decide ((j.toNat:Int)<65))||(decide ((j.toNat:Int)>90)))&&((decide ((j.toNat:Int)<97))||(decide ((j.toNat:Int)>122))))==true))&&((decide ((j.toNat:Int)<48))==false)) (.int .u8 (j.toNat:Int))= (.int .u8 (j.toNat:Int)))) (fun _=>rfl) rfl) (RL.gs true (((decide ((j.toNat:Int)<65))||(decide ((j.toNat:Int)>90)))&&((decide ((j.toNat:Int)<97))||(decide ((j.toNat:Int)>122)))) (vb ((decide ((j.toNat:Int)<48))||(decide ((j.toNat:Int)>57)))) rfl rfl rfl (rR (decide ((j.toNat:Int)<48)) rfl (fun h=>by exact(dG h:cv (true&&((((decide ((j.toNat:Int)<65))||(decide ((j.toNat:Int)>90)))&&((decide ((j.toNat:Int)<97))||(decide ((j.toNat:Int)>122))))==true)) (vb (decide ((j.toNat:Int)<48)))= (vb (decide ((j.toNat:Int)<48))))) (fun h=>by exact oZ (h:=h) (true&&((((decide ((j.toNat:Int)<65))||(decide ((j.toNat:Int)>90)))&&((decide ((j.toNat:Int)<97))||(decide ((j.toNat:Int)>122))))==true)))) (RL.pick (((decide ((j.toNat:Int)<65))||(decide ((j.toNat:Int)>90)))&&((decide ((j.toNat:Int)<97))||(decide ((j.toNat:Int)>122)))) (vb ((((decide ((j.toNat:Int)<65))||(decide ((j.toNat:Int)>90)))&&((decide ((j.toNat:Int)<97))||(decide ((j.toNat:Int)>122))))&&((decide ((j.toNat:Int)<48))||(decide ((j.toNat:Int)>57))))) (kg true) (mv (vb ((((decide ((j.toNat:Int)<65))||(decide ((j.toNat:Int)>90)))&&((decide ((j.toNat:Int)<97))||(decide ((j.toNat:Int)>122))))&&((decide ((j.toNat:Int)<48))||(decide ((j.toNat:Int)>57))))) (iA hj (fun ad hj=>?_) fun ad hj=>?_))))))
   rotate_left
   ·refine cH ad (cH ad (cH ad (iF ad (vb false) (RL.nil ?_))))
    obtain rfl:=oi hj
    exact⟨rfl,hw.sp 0 []⟩
   refine RL.move (.int .u8 (j.toNat:Int)) (cg ad) ?_
   obtain⟨aj,an,hj⟩:=bd hj
   refine RL.call (cg ad) zr MK [(str ⟨[95,43,45,35]⟩),(.int .u8 (j.toNat:Int))] zr (aF (tG N (p0:=⟨[95,43,45,35]⟩) (p1:=(j.toNat:Int)) hw an) ?_)
   rintro _ w ⟨rfl,hw⟩
   refine RL.lN aj 0 (cg ad) (iF ad (vb (decide (aj<0))) (RL.nil ?_))
   obtain rfl:=oi hj
   exact⟨rfl,hw.sp 0 []⟩
  rintro _ w ⟨O,rfl,hw⟩
  refine aG (fK o (fun hc o=>?_) fun hc o=>?_)
  rotate_left
  ·refine RC.skip (cA (aG (RC.region (RL.inc hk hm (mv (vi ((ab+1:Nat):Int)) (RL.nil ?_))))))
   obtain rfl:=oi o
   exact⟨rfl,hw.sp 0 []⟩
  refine RC.sr (aT (vb false) (RL.nt (RC.rb (bZ ?_))))
  obtain rfl:=oi o
  exact⟨rfl,cK ⟨rfl,hw.drop 0⟩⟩
 ·intro r U w e hK
  subst e
  refine bZ ?_
  obtain rfl:=oi o
  exact hK
 rintro af _ w rfl ⟨O,rfl,hw⟩
 rw [Fo.gm] at o
 refine aG (RC.sr (mv (str p0) (RL.lens p0 DJ (ic ((p0.cP.length:Int)) 1 (mv (vb (decide ((p0.cP.length:Int)>=1))) (RL.gs true (decide ((p0.cP.length:Int)>=1)) (str p0) rfl rfl rfl dW (RL.gs true (decide ((p0.cP.length:Int)>=1)) (vi p0.cP.length) rfl rfl rfl (JC (s:=p0) rfl (fun h=>by exact(dG h:cv (true&&((decide ((p0.cP.length:Int)>=1))==true)) (str p0)= (str p0))) DJ) (RL.gs true (decide ((p0.cP.length:Int)>=1)) (vb (decide ((p0.cP.length:Int)<=40))) rfl rfl rfl (eN .leq .i64 (p0.cP.length:Int) 40 rfl (fun h=>by exact(dG h:cv (true&&((decide ((p0.cP.length:Int)>=1))==true)) (vi p0.cP.length)= (vi p0.cP.length))) (fun _=>rfl) rfl) ?_))))))))
 refine RL.pick (decide ((p0.cP.length:Int)>=1)) (vb ((decide ((p0.cP.length:Int)>=1))&&(decide ((p0.cP.length:Int)<=40)))) (kg true) (aT (vb ((decide ((p0.cP.length:Int)>=1))&&(decide ((p0.cP.length:Int)<=40)))) (RL.nt (RC.ret ?_)))
 obtain rfl:=oi o
 exact cK ⟨rfl,hw.drop 0⟩
theorem tH {p0:dO} {res:Bool} (o:Holds E w V) (j:gN N p0=some res):
    Calls bN 111 [(str p0)].toArray w (iE (bV E V res)):=by
 unfold gN at j
 refine enter Tryz.func111 zr zr (RC.sr (aT (vb false) (RL.ns (mv (str p0) ?_))))
 obtain⟨aa,ab,j⟩:=bd j
 refine RL.call zt zr ML [(str p0)] zr (aF (qE N (p0:=p0) o ab) ?_)
 rintro _ w ⟨rfl,o⟩
 refine RL.not aa (aT (vb (!aa)) (RL.nt (RC.ret ?_)))
 obtain rfl:=oi j
 exact cK ⟨rfl,o.drop 0⟩
theorem wL {p0:dO} {res:Bool} (j:Holds E w V) (hb:lS N p0=some res):
    Calls bN 74 [(str p0)].toArray w (iE (bV E V res)):=by
 unfold lS at hb
 refine enter Tryz.func74 zr zr (RC.sr (aT (vb false) (RL.nq ?_)))
 obtain⟨ad,hj,hb⟩:=bd hb
 refine RC.jn (fun(ad:Bool)=>SH E V [(2,vb ad)] []) ad ?_ ?_
 ·refine RC.region (mv (str p0) (RL.lens p0 DJ (ic ((p0.cP.length:Int)) 200 (mv (vb (decide ((p0.cP.length:Int)<=200))) (iA hj (fun o hj=>?_) fun o hj=>?_)))))
  rotate_left
  ·refine cH o (cH o (cH o (cH o (iF o (vb false) (aT (vb false) (RL.nil ?_))))))
   obtain rfl:=oi hj
   exact⟨rfl,j.sp 0 []⟩
  refine RL.move (str p0) (cg o) ?_
  obtain⟨ai,af,hj⟩:=bd hj
  refine RL.call (cg o) zr MH [(str p0),(str ⟨[47]⟩)] zr (aF (xQ N (p0:=p0) (p1:=⟨[47]⟩) j af) ?_)
  rintro ag w j
  have j:=j.freeze 0
  obtain⟨ae,ah,hj⟩:=bd hj
  refine RL.call (cg o) rfl MN [ag,(.func (.func 111) #[] #[])] rfl (aF (oI N (i0:=0) j rfl ⟨111,[],rfl,MM,fun w Γl v y0 r i j hi hr=>by obtain rfl:=j.C4 (γ:=dO) hi;exact aF (tH N (p0:=y0) j hr) fun _ _ h=>h⟩ ah) ?_)
  rintro _ w ⟨rfl,j⟩
  refine RL.not (hg:=(cg o)) ae (iF o (vb (!ae)) (aT (vb (!ae)) (RL.nil ?_)))
  obtain rfl:=oi hj
  exact⟨rfl,j.sp 1 []⟩
 rintro _ w ⟨O,rfl,j⟩
 refine aG (RC.ret ?_)
 obtain rfl:=oi hb
 exact cK ⟨rfl,j.drop 0⟩
def zD (E:World) (V:List HP) (res:fE) (v:Value) (w:World):Prop:=Holds E w ([rd v res]++V)
theorem mX {p0:dD} {res:fE} (j:Holds E w V) (h0:V[i0]? =some (rd v0 p0)) (o:kJ N p0=some res):
    Calls bN 77 [v0].toArray w (iE (zD E V res)):=by
 unfold kJ at o
 refine enter Tryz.func77 zr zr ?_
 have j:=j.dup (i0+0) h0
 refine RC.sr (RL.dJ 0 v0 j zr fun aa w j=>?_)
 refine RL.alloc j MO.z fun ab w j=>?_
 refine RL.ns (RL.bO zr H7 (RL.aR 1 j zr Bg H8 (RL.bO zr H9 (RL.aR 1 j zr Bh H8 ?_))))
 have j:=(j.sc dO p0.Part).sc dO p0.fE
 refine RL.build (⟨p0.Part,p0.fE⟩:fE) trivial rfl j [(0,(str p0.Part)),(1,(str p0.fE))] rfl LB rfl (fun M hs g=>by have h:=H3 M;exact dA.cons (f:=fun(x:fE) y=>{x with Part:=y}) h zk (g.sat 1 _ rfl).1 fun _ h=>dA.cons (f:=fun(x:fE) y=>{x with fE:=y}) h zm (g.sat 0 _ rfl).1 fun _ h=>dA.nil h) fun ad j=>?_
 refine RL.bW 3 j 0 zr qo fun w j=>?_
 refine RL.nt (RC.ret ?_)
 obtain rfl:=oi o
 exact JF 3 zr j zr zr qo fun ae j=>(j.pk 7 [0])
theorem qR {p0 p1:dO} (o:Holds E w V) (j:lA N p0 p1=some res):
    Calls bN 119 [(str p0),(str p1)].toArray w (iE (aS E V res)):=by
 unfold lA at j
 refine enter Tryz.func119 zr zr (RC.sr (aT (vi 0) (RL.ns (mv (str p0) (mv (str p1) (RL.y9 (vi (Lib.compareBytes p0.cP p1.cP)) zr [(str p0),(str p1)] zr (eX p0 p1 w) (aT (vi (Lib.compareBytes p0.cP p1.cP)) (RL.nt ?_))))))))
 refine RC.ret ?_
 obtain rfl:=oi j
 exact cK ⟨rfl,o.drop 0⟩
theorem pV {p0 p1:dO} (o:Holds E w V) (j:mU N p0 p1=some res):
    Calls bN 93 [(str p0),(str p1)].toArray w (iE (aS E V res)):=by
 unfold mU at j
 refine enter Tryz.func93 zr zr (RC.sr (aT (vi 0) (RL.ns (mv (str p0) (mv (str p1) ?_)))))
 obtain⟨aa,ab,j⟩:=bd j
 refine RL.call zt zr MP [(str p0),(str p1)] zr (aF (qR N (p0:=p0) (p1:=p1) o ab) ?_)
 rintro _ w ⟨rfl,o⟩
 refine aT (vi aa) (RL.nt (RC.ret ?_))
 obtain rfl:=oi j
 exact cK ⟨rfl,o.drop 0⟩
theorem fO {p0 p1:fE} (j:Holds E w V) (h0:V[i0]? =some (rd v0 p0)) (h1:V[i1]? =some (rd v1 p1)) (o:dT N p0 p1=some res):
    Calls bN 57 [v0,v1].toArray w (iE (aS E V res)):=by
 unfold dT at o
 refine enter Tryz.func57 zr zr ?_
 have j:=(j.dup (i0+0) h0).dup (i1+1) h1
 refine RC.sr (RL.dJ 1 v0 j zr fun ag w j=>?_)
 refine RL.dJ 1 v1 j zr fun ah w j=>?_
 refine aT (vi 0) (RL.nq (RC.sr (RL.bO zr Ia (RL.aR 1 j zr DC H8 (RL.bO zr Ia (RL.aR 0 j zr DC H8 ?_))))))
 obtain⟨aa,ab,o⟩:=bd o
 refine RL.call zt zr MQ [(str p0.Part),(str p1.Part)] zr (aF (pV N (p0:=p0.Part) (p1:=p1.Part) j ab) ?_)
 rintro _ w ⟨rfl,j⟩
 refine aT (vi aa) (RL.ns (mv (vi aa) (ic aa 0 (RL.nt (fK o (fun hc o=>?_) fun hc o=>?_)))))
 ·refine RC.sr (mv (vi aa) (aT (vi aa) (RL.nt (RC.rt ?_))))
  obtain rfl:=oi o
  exact cK ⟨rfl,j.drop 4⟩
 refine RC.sx (RL.bO zr Ib (RL.aR 1 j zr DD H8 (RL.bO zr Ib (RL.aR 0 j zr DD H8 ?_))))
 obtain⟨ae,af,o⟩:=bd o
 refine RL.call zt zr MQ [(str p0.fE),(str p1.fE)] zr (aF (pV N (p0:=p0.fE) (p1:=p1.fE) j af) ?_)
 rintro _ w ⟨rfl,j⟩
 refine aT (vi ae) (RL.nt (RC.ret ?_))
 obtain rfl:=oi o
 exact cK ⟨rfl,j.drop 4⟩
def u5 (E:World) (V:List HP) (r:Int) (U:Nat->Value) (w:World):Prop:=nL bN 60 Tryz.f48 (aS E V r) .ret U w
theorem tI {p0:fz} (j:Holds E w V) (h0:V[i0]? =some (rd v0 p0)) (hb:jR N p0=some res):
    Calls bN 48 [v0].toArray w (iE (aS E V res)):=by
 unfold jR at hb
 refine enter Tryz.func48 zr zr ?_
 have j:=j.dup (i0+0) h0
 refine RC.sr (RL.dJ 0 v0 j zr fun ag w j=>?_)
 have j:=j.hG (i:=0) rfl
 refine aT (vi 0) (RL.nq (RC.sr (RL.iT 0 j zr tx pK fun bk j=>(RL.bY 0 p0.bL j DH fun bl j=>(RL.bM 0 p0.bL j H6 (ic ((p0.bL.length:Int)) 1000 (RL.nt (fK hb (fun hc hb=>?_) fun hc hb=>?_))))))))
 ·refine RC.sr (aT (vi 2) (RL.nt (RC.rt ?_)))
  obtain rfl:=oi hb
  exact cK ⟨rfl,j.drop 4⟩
 refine RC.ss (RC.sr (RL.iT 2 j zr tx pK fun bm j=>(RL.bY 0 p0.bL j DH fun ah j=>(RL.bM 0 p0.bL j H6 (mv (vi 0) (RL.nt ?_))))))
 obtain⟨bn,hN,hb⟩:=bd hb
 refine RC.range (fun(ad:Nat) (ak:Unit)=>SH E V [(1,vp ag 0),(10,ah),(11,vi p0.bL.length),(12,vi ad)] [pt (vp ag 0) p0,rd ah p0.bL]) (fun(ak:Unit)=>SH E V [] [pt (vp ag 0) p0,rd ah p0.bL]) (u5 E V) hN ?_ ?_ ?_ ?_ ?_
 ·exact j.sp 6 [4,0]
 ·rintro hm ak _ w ⟨O,rfl,j⟩
  refine RC.sr (ic ((p0.bL.length:Int)) ((p0.bL.length:Int)) (RL.nq (RC.dC oE (RC.ex ?_))))
  exact⟨rfl,j.sp 2 [0,1]⟩
 ·rintro hm ad ak fl _ w hk ⟨O,rfl,j⟩ hb
  refine RC.sr (ic ((ad:Int)) ((p0.bL.length:Int)) (RL.nq (RC.dB (oD hk) (RC.ss (RC.bs (mv (vi ad) ?_))))))
  obtain⟨ai,a1,hb⟩:=bd hb
  refine RL.cJ 1 j DI a1 fun bp j=>(RL.bY 0 ai j zx fun bq j=>(RL.alloc j LA.z fun al w j=>?_))
  refine aT (vi ad) (RL.bW 0 j 1 zr zx fun w j=>?_)
  refine RL.nt (RC.block (RC.seq ?_))
  obtain⟨an,o,hb⟩:=bd hb
  refine RC.jn (fun(an:Bool)=>SH E V [(1,vp ag 0),(3,vi ad),(4,vp al 0),(10,ah),(11,vi p0.bL.length),(12,vi ad),(17,vb an)] [pt (vp ag 0) p0,bx 78 al ai,rd ah p0.bL]) an ?_ ?_
  ·refine RC.region (RL.bO zr H7 (RL.aR 0 j zr Bg H8 ?_))
   obtain⟨ay,a2,o⟩:=bd o
   refine RL.call zt zr Ox [(str ai.Part)] zr (aF (wL N (p0:=ai.Part) j a2) ?_)
   rintro _ w ⟨rfl,j⟩
   refine RL.not ay (mv (vb (!ay)) (iA o (fun ae o=>?_) fun ae o=>?_))
   ·refine cH ae (cH ae (cH ae (cH ae (iF ae (vb true) (aT (vb true) (RL.nil ?_))))))
    obtain rfl:=oi o
    exact⟨rfl,j.sp 5 [3,0,4]⟩
   refine RL.bO (hg:=(cg ae)) zr H9 (RL.aR (hg:=(cg ae)) 0 j zr Bh H8 ?_)
   obtain⟨ao,a3,o⟩:=bd o
   refine RL.call (cg ae) zr ML [(str ai.fE)] zr (aF (qE N (p0:=ai.fE) j a3) ?_)
   rintro _ w ⟨rfl,j⟩
   refine RL.not (hg:=(cg ae)) ao (iF ae (vb (!ao)) (aT (vb (!ao)) (RL.nil ?_)))
   obtain rfl:=oi o
   exact⟨rfl,j.sp 5 [3,0,4]⟩
  rintro _ w ⟨O,rfl,j⟩
  refine aG (fK hb (fun hc hb=>?_) fun hc hb=>?_)
  ·refine RC.sr (aT (vi 5) (RL.nt (RC.rb (kh (bZ ?_)))))
   obtain rfl:=oi hb
   exact⟨rfl,cK ⟨rfl,j.drop 3⟩⟩
  refine RC.seq ?_
  obtain⟨aq,o,hb⟩:=bd hb
  refine RC.jn (fun(aq:Bool)=>SH E V [(1,vp ag 0),(3,vi ad),(4,vp al 0),(10,ah),(11,vi p0.bL.length),(12,vi ad),(28,vb aq)] [pt (vp ag 0) p0,bx 78 al ai,rd ah p0.bL]) aq ?_ ?_
  ·refine RC.region (RL.bO zr EX (RL.aR 1 j zr xE cW (RL.iT 0 j zr xJ rk fun br j=>(RL.bY 0 p0.aI j GM fun bt j=>(RL.bM 0 p0.aI j DF (RL.ja (p0.aI.length:Int) 1 ?_))))))
   obtain⟨az,a4,o⟩:=bd o
   refine RL.call zt zr JS [(vi ai.eV),(vi 0),(vi (IntKind.wrap .i64 ((p0.aI.length:Int) - 1)))] zr (aF (mz N (p0:=ai.eV) (p1:=0) (p2:=(IntKind.wrap .i64 ((p0.aI.length:Int) - 1))) j a4) ?_)
   rintro _ w ⟨rfl,j⟩
   refine RL.not az (mv (vb (!az)) (iA o (fun af o=>?_) fun af o=>?_))
   ·refine cH af (cH af (cH af (cH af (iF af (vb true) (aT (vb true) (RL.nil ?_))))))
    obtain rfl:=oi o
    exact⟨rfl,j.sp 5 [2,3,4]⟩
   refine RL.bO (hg:=(cg af)) zr zy (RL.aV (hg:=(cg af)) 3 j zr rj uT fun a5 j=>?_)
   obtain⟨ar,a6,o⟩:=bd o
   refine RL.call (cg af) zr MA [a5] zr (aF (rq N (i0:=0) j zr a6) ?_)
   rintro _ w ⟨rfl,j⟩
   refine RL.not (hg:=(cg af)) ar (iF af (vb (!ar)) (aT (vb (!ar)) (RL.nil ?_)))
   obtain rfl:=oi o
   exact⟨rfl,j.sp 6 [3,4,5]⟩
  rintro _ w ⟨O,rfl,j⟩
  refine aG (fK hb (fun hc hb=>?_) fun hc hb=>?_)
  ·refine RC.sr (aT (vi 1) (RL.nt (RC.rb (kh (bZ ?_)))))
   obtain rfl:=oi hb
   exact⟨rfl,cK ⟨rfl,j.drop 3⟩⟩
  refine RC.seq ?_
  obtain⟨au,o,hb⟩:=bd hb
  refine RC.jn (fun(au:Bool)=>SH E V [(1,vp ag 0),(10,ah),(11,vi p0.bL.length),(12,vi ad),(43,vb au)] [pt (vp ag 0) p0,rd ah p0.bL]) au ?_ ?_
  ·refine RC.AE mixed [0,0,0,0,2,1,1,1,1,1,1,2,2,0,0,0] [0,1,2,3,5,6,7,8,9,10,4,11,12,13,14,15] ?_
   have j:=j.drew
   refine DP.e0 zr (mv (vi ad) (cM zr (ic ((ad:Int)) 0 (cM zr (mv (vb (decide ((ad:Int)>0))) (DP.d0 (iA o (fun ab o=>?_) fun ab o=>?_)))))))
   rotate_left
   ·refine DP.e0 zr (cH ab (DP.d0 (DP.e1 undef zr (fun w=>cH ab DP.d1) (DP.e1 undef zr (fun w=>cH ab DP.d1) (DP.e1 undef zr (fun w=>cH ab DP.d1) (DP.e1 undef zr (fun w=>cH ab DP.d1) (DP.e1 undef zr (fun w=>cH ab DP.d1) (DP.e1 undef zr (fun w=>cH ab DP.d1) ?_))))))))
    refine DP.e2 zr (cH ab (Lv zr (cH ab (Lv zr (cH ab (B6 zr (cH ab (cM zr ?_))))))))
    refine iF ab (vb false) (cM zr (aT (vb false) (DP.d0 (DP.z ?_))))
    obtain rfl:=oi o
    exact⟨rfl,j.sp 3 [0,2]⟩
   refine DP.e0 zr (RL.aV (hg:=(cg ab)) (f:=(fun x=>x)) 1 j zr Fd.self zx fun a7 j=>(DP.d0 (DP.JR (hg:=(cg ab)) 1 zr j zr tx pK fun bu j=>(DP.yI (hg:=(cg ab)) p0.bL 0 zr j DH fun bw a378 bz j=>(DP.e1 (vi ad) zr (fun w=>RL.move (vi ad) (cg ab) DP.d1) (DP.e1 (vi (IntKind.wrap .i64 ((ad:Int) - 1))) zr (fun w=>RL.ja (hg:=(cg ab)) (ad:Int) 1 DP.d1) ?_))))))
   obtain⟨a8,a9,o⟩:=bd o
   refine DP.Lx (hg:=(cg ab)) 1 zr j DI a9 fun b0 j=>(DP.yI (hg:=(cg ab)) a8 0 zr j zx fun ba a383 b1 j=>(DP.e2 zr ?_))
   obtain⟨b2,bb,o⟩:=bd o
   refine RL.call (cg ab) zr JT [a7] zr (aF (mX N (i0:=6) j zr bb) ?_)
   rintro bc w j
   refine DP.d2 (⟨⟨zt,j.kW 4⟩,j.kW 1⟩) (DP.e2 zr ?_)
   obtain⟨b3,bf,o⟩:=bd o
   refine RL.call (cg ab) zr JT [ba] zr (aF (mX N (i0:=2) j zr bf) ?_)
   rintro bg w j
   refine DP.d2 (⟨⟨zt,j.kW 5⟩,j.kW 2⟩) (DP.e2 zr ?_)
   obtain⟨av,bh,o⟩:=bd o
   refine RL.call (cg ab) zr GQ [bc,bg] zr (aF (fO N (i0:=1) (i1:=0) j zr zr bh) ?_)
   rintro _ w ⟨rfl,j⟩
   refine DP.d2 (⟨⟨zt,j.kW 5⟩,j.kW 2⟩) (DP.e0 zr (RL.lN av 0 (cg ab) (cM zr (iF ab (vb (decide (av<=0))) (cM zr (aT (vb (decide (av<=0))) (DP.d0 ?_)))))))
   have j:=j.pl 12 [0,1,3,4,6,7,8,9,10,11]
   refine DP.z ?_
   obtain rfl:=oi o
   exact⟨rfl,j.sp 10 [7,9]⟩
  rintro _ w ⟨O,rfl,j⟩
  refine aG (fK hb (fun hc hb=>?_) fun hc hb=>?_)
  rotate_left
  ·refine RC.skip (cA (cA (aG (RC.region (RL.inc hk hm (mv (vi ((ad+1:Nat):Int)) (RL.nil ?_)))))))
   obtain rfl:=oi hb
   exact⟨rfl,j.sp 2 [0,1]⟩
  refine RC.sr (aT (vi 8) (RL.nt (RC.rb (kh (bZ ?_)))))
  obtain rfl:=oi hb
  exact⟨rfl,cK ⟨rfl,j.drop 2⟩⟩
 ·intro r U w e hK
  subst e
  refine bZ ?_
  obtain rfl:=oi hb
  exact hK
 rintro ak _ w rfl ⟨O,rfl,j⟩
 rw [Fo.gm] at hb
 refine aG (RC.sr (aT (vi 0) (RL.nt (RC.ret ?_))))
 obtain rfl:=oi hb
 exact cK ⟨rfl,j.drop 2⟩
theorem ry (o:Holds E w V) (j:ln N p0 p1 p2 p3=some res):
    Calls bN 78 [(vi p0),(vi p1),(vi p2),(vi p3)].toArray w (iE (aS E V res)):=by
 unfold ln at j
 refine enter Tryz.func78 zr zr (RC.sr (aT (vi 0) (RL.ns (mv (vi p2) (mv (vi p1) (RL.ja p2 p1 (RL.ja (IntKind.wrap .i64 (p2 - p1)) 1 (mv (vi p0) ?_))))))))
 refine mv (vi p3) (RL.ja p0 p3 (RL.ja (IntKind.wrap .i64 (p0 - p3)) 1 (RL.Mh 0 (IntKind.wrap .i64 ((IntKind.wrap .i64 (p2 - p1))+1)) (IntKind.wrap .i64 ((IntKind.wrap .i64 (p0 - p3))+1)) zt zr zr zr zr (aT (vi (if (if 0< (IntKind.wrap .i64 ((IntKind.wrap .i64 (p2 - p1))+1)) then (IntKind.wrap .i64 ((IntKind.wrap .i64 (p2 - p1))+1)) else 0)< (IntKind.wrap .i64 ((IntKind.wrap .i64 (p0 - p3))+1)) then (IntKind.wrap .i64 ((IntKind.wrap .i64 (p0 - p3))+1)) else (if 0< (IntKind.wrap .i64 ((IntKind.wrap .i64 (p2 - p1))+1)) then (IntKind.wrap .i64 ((IntKind.wrap .i64 (p2 - p1))+1)) else 0))) (RL.nt (RC.ret ?_))))))
 obtain rfl:=oi j
 exact cK ⟨rfl,o.drop 0⟩
theorem Cs {p0 p1:aH} (j:Holds E w V) (h0:V[i0]? =some (rd v0 p0)) (h1:V[i1]? =some (rd v1 p1)) (o:q9 N p0 p1=some res):
    Calls bN 49 [v0,v1].toArray w (iE (aS E V res)):=by
 unfold q9 at o
 refine enter Tryz.func49 zr zr ?_
 have j:=(j.dup (i0+0) h0).dup (i1+1) h1
 refine RC.sr (RL.dJ 1 v0 j zr fun aa w j=>?_)
 refine RL.dJ 1 v1 j zr fun ab w j=>?_
 refine aT (vi 0) (RL.nq ?_)
 have j:=j.drew
 refine RC.GH (fun w=>Holds E w ([bx 74 ab p1,bx 74 aa p0]++V)) mixed zr [0,0,0,0,0,0,0,0,2,1,1,1,1,1,1,1,1,2,0,0] [0,1,2,3,4,5,6,7,9,10,11,12,13,14,15,16,8,17,18,19] (j.pk 4 [0,1]) (DP.e0 zr (RL.bO zr kN (cM zr (RL.aR 1 j zr fY cW (cM zr (RL.bO zr l3 (cM zr (RL.aR 1 j zr gS cW ?_))))))))
 refine cM zr (RL.bO zr kN (cM zr (RL.aR 0 j zr fY cW (cM zr (RL.bO zr l3 (cM zr (RL.aR 0 j zr gS cW (DP.d0 ?_))))))))
 refine DP.e1 (vp aa 1) zr (fun w=>RL.bO zr lZ DP.d1) (DP.JQ (vi p0.Y0) zr (fun w j=>RL.aR 1 j zr gE cW DP.d1) (DP.e1 (vp aa 3) zr (fun w=>RL.bO zr pP DP.d1) (DP.JQ (vi p0.Y1) zr (fun w j=>RL.aR 1 j zr kr cW DP.d1) (DP.e1 (vp ab 1) zr (fun w=>RL.bO zr lZ DP.d1) (DP.JQ (vi p1.Y0) zr (fun w j=>RL.aR 0 j zr gE cW DP.d1) (DP.e1 (vp ab 3) zr (fun w=>RL.bO zr pP DP.d1) (DP.JQ (vi p1.Y1) zr (fun w j=>RL.aR 0 j zr kr cW DP.d1) (DP.e2 zr ?_))))))))
 obtain⟨ad,af,o⟩:=bd o
 refine RL.call zt zr MR [(vi p0.X0),(vi p0.X1),(vi p1.X0),(vi p1.X1)] zr (aF (ry N (p0:=p0.X0) (p1:=p0.X1) (p2:=p1.X0) (p3:=p1.X1) j af) ?_)
 rintro _ w ⟨rfl,j⟩
 refine DP.d2 (j.pk 4 [0,1]) (DP.e2 zr ?_)
 obtain⟨ae,ag,o⟩:=bd o
 refine RL.call zt zr MR [(vi p0.Y0),(vi p0.Y1),(vi p1.Y0),(vi p1.Y1)] zr (aF (ry N (p0:=p0.Y0) (p1:=p0.Y1) (p2:=p1.Y0) (p3:=p1.Y1) j ag) ?_)
 rintro _ w ⟨rfl,j⟩
 refine DP.d2 (j.pk 4 [0,1]) (DP.e0 zr (RL.max ad ae (cM zr (aT (vi (if ad<ae then ae else ad)) (DP.d0 (DP.z (aG (RC.ret ?_))))))))
 obtain rfl:=oi o
 exact cK ⟨rfl,j.drop 4⟩
end Go.Gk
