/-
  Printed texts: Go functions as plain functions, and that they are. No statement of the seed is proved here.
-/
import Derived.Test.YtllecmpemokbfaaGreatDoorG1
import Derived.Test.YtllecmpemokbfaaGreatDoorA2
set_option linter.unusedVariables false
set_option linter.unusedSimpArgs false
set_option linter.unusedSectionVars false
set_option maxRecDepth 100000
set_option maxHeartbeats 4000000
namespace Go.Gk
open Go Go.Proofs
variable (N:Nat) {E w:World} {i0 i1:Nat} {p0 p1 p2 p3 res:Int} {v0 v1:Value} {V:List HP}
theorem iV {p0:bJ} {res:aG} (j:Holds E w V) (h0:V[i0]? =some (rd v0 p0)) (o:ga N p0=some res):
    Calls bD 34 [v0].toArray w (gm (nX E V res)):=by
 unfold ga at o
 refine enter Tryz.func34 zr zr ?_
 have j:=j.dup (i0+0) h0
 refine RC.sr (RL.dA 0 v0 j zr fun aa w j=>?_)
 refine RL.alloc j oe.z fun ab w j=>?_
 refine RL.nq (RC.yk mixed ?_)
 have j:=j.drew
 refine RO.go (RL.aX zr xu (RO.nx (RL.aX zr xv (RO.nx (RL.aL (f:=(fun x=>x.At.X)) 1 j zr (Fd.comp (f:=fun(x:bJ)=>x.At) (fun(x:jy)=>x.X) pM ov) cF (RO.nx (RL.aX zr qP (RO.nx ?_))))))))
 refine RL.aL 1 j zr lJ cF (RO.nx (RL.quo p0.cZ 2 (RO.nx (RL.gQ p0.At.X (IntKind.wrap .i64 (Int.tdiv p0.cZ 2)) (RO.nx (RL.aX zr xu (RO.nx (RL.aX zr xw ?_))))))))
 refine RO.nx (RL.aL (f:=(fun x=>x.At.Y)) 1 j zr (Fd.comp (f:=fun(x:bJ)=>x.At) (fun(x:jy)=>x.Y) pM ox) cF (RO.nx (RL.aX zr qP (RO.nx (RL.aL 1 j zr lJ cF (RO.nx (RL.quo p0.cZ 2 (RO.nx ?_))))))))
 refine RL.gQ p0.At.Y (IntKind.wrap .i64 (Int.tdiv p0.cZ 2)) (RO.nx (aP (vi (IntKind.wrap .i64 (p0.At.X - (IntKind.wrap .i64 (Int.tdiv p0.cZ 2))))) (RO.nx (aP (vi (IntKind.wrap .i64 (p0.At.Y - (IntKind.wrap .i64 (Int.tdiv p0.cZ 2))))) (RO.last (aJ (RC.sr (mv (vi (IntKind.wrap .i64 (p0.At.X - (IntKind.wrap .i64 (Int.tdiv p0.cZ 2))))) ?_))))))))
 refine mv (vi (IntKind.wrap .i64 (p0.At.Y - (IntKind.wrap .i64 (Int.tdiv p0.cZ 2))))) (mv (vi (IntKind.wrap .i64 (p0.At.X - (IntKind.wrap .i64 (Int.tdiv p0.cZ 2))))) (RL.aX zr qP (RL.aL 1 j zr lJ cF (RL.gQ (IntKind.wrap .i64 (p0.At.X - (IntKind.wrap .i64 (Int.tdiv p0.cZ 2)))) p0.cZ (mv (vi (IntKind.wrap .i64 (p0.At.Y - (IntKind.wrap .i64 (Int.tdiv p0.cZ 2))))) (RL.aX zr qP (RL.aL 1 j zr lJ cF (RL.gQ (IntKind.wrap .i64 (p0.At.Y - (IntKind.wrap .i64 (Int.tdiv p0.cZ 2)))) p0.cZ ?_))))))))
 have j:=((j.sc Int (IntKind.wrap .i64 (p0.At.X - (IntKind.wrap .i64 (Int.tdiv p0.cZ 2))))).sc Int (IntKind.wrap .i64 (p0.At.Y - (IntKind.wrap .i64 (Int.tdiv p0.cZ 2))))).sc Int (IntKind.wrap .i64 ((IntKind.wrap .i64 (p0.At.X - (IntKind.wrap .i64 (Int.tdiv p0.cZ 2))))+p0.cZ))
 have j:=j.sc Int (IntKind.wrap .i64 ((IntKind.wrap .i64 (p0.At.Y - (IntKind.wrap .i64 (Int.tdiv p0.cZ 2))))+p0.cZ))
 refine RL.build (⟨(IntKind.wrap .i64 (p0.At.X - (IntKind.wrap .i64 (Int.tdiv p0.cZ 2)))),(IntKind.wrap .i64 (p0.At.Y - (IntKind.wrap .i64 (Int.tdiv p0.cZ 2)))),(IntKind.wrap .i64 ((IntKind.wrap .i64 (p0.At.X - (IntKind.wrap .i64 (Int.tdiv p0.cZ 2))))+p0.cZ)),(IntKind.wrap .i64 ((IntKind.wrap .i64 (p0.At.Y - (IntKind.wrap .i64 (Int.tdiv p0.cZ 2))))+p0.cZ))⟩:aG) trivial rfl j [(0,(vi (IntKind.wrap .i64 (p0.At.X - (IntKind.wrap .i64 (Int.tdiv p0.cZ 2)))))),(1,(vi (IntKind.wrap .i64 (p0.At.Y - (IntKind.wrap .i64 (Int.tdiv p0.cZ 2)))))),(2,(vi (IntKind.wrap .i64 ((IntKind.wrap .i64 (p0.At.X - (IntKind.wrap .i64 (Int.tdiv p0.cZ 2))))+p0.cZ)))),(3,(vi (IntKind.wrap .i64 ((IntKind.wrap .i64 (p0.At.Y - (IntKind.wrap .i64 (Int.tdiv p0.cZ 2))))+p0.cZ))))] rfl Cw rfl (fun M hs g=>by have h:=sm M;exact dB.cons (f:=fun(x:aG) y=>{x with X0:=y}) h ot (g.sat 3 _ rfl).1 fun _ h=>dB.cons (f:=fun(x:aG) y=>{x with Y0:=y}) h pK (g.sat 2 _ rfl).1 fun _ h=>dB.cons (f:=fun(x:aG) y=>{x with X1:=y}) h ou (g.sat 1 _ rfl).1 fun _ h=>dB.cons (f:=fun(x:aG) y=>{x with Y1:=y}) h pL (g.sat 0 _ rfl).1 fun _ h=>dB.nil h) fun ad j=>?_
 refine RL.aY 5 j 0 zr hZ fun w j=>?_
 refine RL.nt (RC.ret ?_)
 obtain rfl:=oi o
 exact Hm 5 zr j zr zr hZ fun ae j=>(j.pk 9 [0])
theorem uT {p0: (List aA)} {res:aG} (j:Holds E w V) (h0:V[i0]? =some (rd v0 p0)) (hb:mF N p0=some res):
    Calls bD 67 [v0].toArray w (gm (nX E V res)):=by
 unfold mF at hb
 refine enter Tryz.func67 zr zr ?_
 have j:=j.dup (i0+0) h0
 refine RC.sr (RL.alloc j oe.z fun bf w j=>?_)
 refine RL.nq ?_
 obtain⟨bj,bo,hb⟩:=bd hb
 obtain⟨bb,bp,hb⟩:=bd hb
 obtain⟨a8,bq,hb⟩:=bd hb
 obtain⟨bk,br,hb⟩:=bd hb
 obtain⟨bc,bt,hb⟩:=bd hb
 obtain⟨a9,bu,hb⟩:=bd hb
 refine RC.Hd E V mixed [1,0,0,0,0,0,1,0,0,0,1,0,0,0,0,0,1,1,0,1,0,0,0,0,0,0] [1,2,3,4,7,8,11,12,13,14,20,21,23,24,25] (fun(x:Value×Value×Value×Value×Value×Value×Value×Value×Value×Value×Value×Value×Value×Nat)=>(fun ah ai aj ak al an ao aq ar au av aw ax ae=>[(0,6,v0),(1,7,ah),(2,8,ai),(3,9,aj),(4,10,ak),(5,11,(vi bb)),(6,12,v0),(7,13,al),(8,14,an),(9,15,(vi a8.Y0)),(10,16,v0),(11,17,ao),(12,18,aq),(13,19,ar),(14,20,au),(15,21,(vi bc)),(16,22,v0),(17,23,v0),(18,24,(vi p0.length)),(19,25,(vi (IntKind.wrap .i64 ((p0.length:Int) - 1)))),(20,26,av),(21,27,aw),(22,28,(vi a9.Y1)),(23,29,ax),(24,3,(vp ae 0))]) x.1 x.2.1 x.2.2.1 x.2.2.2.1 x.2.2.2.2.1 x.2.2.2.2.2.1 x.2.2.2.2.2.2.1 x.2.2.2.2.2.2.2.1 x.2.2.2.2.2.2.2.2.1 x.2.2.2.2.2.2.2.2.2.1 x.2.2.2.2.2.2.2.2.2.2.1 x.2.2.2.2.2.2.2.2.2.2.2.1 x.2.2.2.2.2.2.2.2.2.2.2.2.1 x.2.2.2.2.2.2.2.2.2.2.2.2.2) [(0,v0),(2,vp bf 0)] [] (fun(D:Nat->Bool) (x:Value×Value×Value×Value×Value×Value×Value×Value×Value×Value×Value×Value×Value×Nat)=>(fun ah ai aj ak al an ao aq ar au av aw ax ae=>[bif D 0 then (pt ah bj) else bH,bif D 1 then (pt ai bj.Xs) else bH,bif D 2 then (rd aj bj.Xs) else bH,bif D 3 then (pt ak bb) else bH,bif D 4 then (pt al a8) else bH,bif D 5 then (pt an a8.Y0) else bH,bif D 6 then (pt ao bk) else bH,bif D 7 then (pt aq bk.Xs) else bH,bif D 8 then (rd ar bk.Xs) else bH,bif D 9 then (pt au bc) else bH,bif D 10 then (pt av a9) else bH,bif D 11 then (pt aw a9.Y1) else bH,bif D 12 then (rd ax (⟨bb,a8.Y0,bc,a9.Y1⟩:aG)) else bH,bif D 14 then (bx 51 ae (⟨bb,a8.Y0,bc,a9.Y1⟩:aG)) else (bif D 13 then (raw 51 ae 4) else bH),raw 51 bf 4,rd v0 p0]) x.1 x.2.1 x.2.2.1 x.2.2.2.1 x.2.2.2.2.1 x.2.2.2.2.2.1 x.2.2.2.2.2.2.1 x.2.2.2.2.2.2.2.1 x.2.2.2.2.2.2.2.2.1 x.2.2.2.2.2.2.2.2.2.1 x.2.2.2.2.2.2.2.2.2.2.1 x.2.2.2.2.2.2.2.2.2.2.2.1 x.2.2.2.2.2.2.2.2.2.2.2.2.1 x.2.2.2.2.2.2.2.2.2.2.2.2.2) (fun x=>by kernel_rfl) ?_ ⟨fun _=>lP gn,?_,?_,?_,?_,?_,fun _=>lP gn,?_,?_,?_,fun _=>lP gn,?_,?_,?_,?_,?_,fun _=>lP gn,fun _=>lP gn,?_,fun _=>IK gn rfl,?_,?_,?_,?_,?_,?_,trivial⟩ ?_
 ·have j:=((((((((((((j.drew).bH).bH).bH).bH).bH).bH).bH).bH).bH).bH).bH).bH
  have j:=(j.bH).bH
  exact⟨(undef,undef,undef,undef,undef,undef,undef,undef,undef,undef,undef,undef,undef,0),fU.none,(FQ zr),zt,j⟩
 ·rintro D U w hD o ag ⟨⟨ah,ai,aj,ak,al,an,ao,aq,ar,au,av,aw,ax,ae⟩,hv,ha,_,j⟩
  obtain⟨O,rfl⟩:=(ac (hv.at 0 rfl (o.1 rfl)) az).ir
  have j:=j.cL 0 hD
  refine RL.bP 15 j o0 bo fun bw j=>?_
  have j:=(j.pl 17 [0,2,3,4,5,6,7,8,9,10,11,12,13,14,15,16]).dF 0 true rfl bH
  exact RL.nil ⟨rfl,(bw,ai,aj,ak,al,an,ao,aq,ar,au,av,aw,ax,ae),hv.pu 1,ha.u,zt,j⟩
 ·rintro D U w hD o ag ⟨⟨ah,ai,aj,ak,al,an,ao,aq,ar,au,av,aw,ax,ae⟩,hv,ha,_,j⟩
  obtain⟨O,rfl⟩:=(ac (hv.at 1 rfl (o.1 rfl)) az).ir
  have j:=(j.dE 0 (o.1 rfl)).cL 1 hD
  refine RL.eT 0 j zr nW dR fun bz j=>?_
  have j:=((j.pl 17 [1,0,3,4,5,6,7,8,9,10,11,12,13,14,15,16]).dF 0 (D 1) (o.1 rfl) bH).dF 1 true rfl bH
  exact RL.nil ⟨rfl,(ah,bz,aj,ak,al,an,ao,aq,ar,au,av,aw,ax,ae),hv.pu 2,ha.u,zt,j⟩
 ·rintro D U w hD o ag ⟨⟨ah,ai,aj,ak,al,an,ao,aq,ar,au,av,aw,ax,ae⟩,hv,ha,_,j⟩
  obtain⟨O,rfl⟩:=(ac (hv.at 2 rfl (o.1 rfl)) az).ir
  have j:=(j.dE 1 (o.1 rfl)).cL 2 hD
  refine RL.bF 1 bj.Xs j iq fun b0 j=>?_
  have j:=((j.pl 17 [1,2,0,4,5,6,7,8,9,10,11,12,13,14,15,16]).dF 1 (D 2) (o.1 rfl) bH).dF 2 true rfl bH
  exact RL.nil ⟨rfl,(ah,ai,b0,ak,al,an,ao,aq,ar,au,av,aw,ax,ae),hv.pu 3,ha.u,zt,j⟩
 ·rintro D U w hD o ag ⟨⟨ah,ai,aj,ak,al,an,ao,aq,ar,au,av,aw,ax,ae⟩,hv,ha,_,j⟩
  obtain⟨O,rfl⟩:=(ac (hv.at 3 rfl (o.1 rfl)) az).ir
  have j:=(j.dE 2 (o.1 rfl)).cL 3 hD
  refine RL.bP 2 j fG bp fun b1 j=>?_
  have j:=((j.pl 17 [1,2,3,0,5,6,7,8,9,10,11,12,13,14,15,16]).dF 2 (D 3) (o.1 rfl) bH).dF 3 true rfl bH
  exact RL.nil ⟨rfl,(ah,ai,aj,b1,al,an,ao,aq,ar,au,av,aw,ax,ae),hv.pu 4,ha.u,zt,j⟩
 ·rintro D U w hD o ag ⟨⟨ah,ai,aj,ak,al,an,ao,aq,ar,au,av,aw,ax,ae⟩,hv,ha,_,j⟩
  obtain⟨O,rfl⟩:=(ac (hv.at 4 rfl (o.1 rfl)) az).ir
  have j:=j.dE 3 (o.1 rfl)
  refine RL.bG bb 3 j cF ?_
  have j:=j.dF 3 (D 4) (o.1 rfl) bH
  exact RL.nil ⟨rfl,(ah,ai,aj,ak,al,an,ao,aq,ar,au,av,aw,ax,ae),hv.pu 5,ha.u,zt,j⟩
 ·rintro D U w hD o ag ⟨⟨ah,ai,aj,ak,al,an,ao,aq,ar,au,av,aw,ax,ae⟩,hv,ha,_,j⟩
  obtain⟨O,rfl⟩:=(ac (hv.at 6 rfl (o.1 rfl)) az).ir
  have j:=j.cL 4 hD
  refine RL.bP 15 j o0 bq fun b2 j=>?_
  have j:=(j.pl 17 [1,2,3,4,0,6,7,8,9,10,11,12,13,14,15,16]).dF 4 true rfl bH
  exact RL.nil ⟨rfl,(ah,ai,aj,ak,b2,an,ao,aq,ar,au,av,aw,ax,ae),hv.pu 7,ha.u,zt,j⟩
 ·rintro D U w hD o ag ⟨⟨ah,ai,aj,ak,al,an,ao,aq,ar,au,av,aw,ax,ae⟩,hv,ha,_,j⟩
  obtain⟨O,rfl⟩:=(ac (hv.at 7 rfl (o.1 rfl)) az).ir
  have j:=(j.dE 4 (o.1 rfl)).cL 5 hD
  refine RL.eT 4 j zr su gO fun b3 j=>?_
  have j:=((j.pl 17 [1,2,3,4,5,0,7,8,9,10,11,12,13,14,15,16]).dF 4 (D 7) (o.1 rfl) bH).dF 5 true rfl bH
  exact RL.nil ⟨rfl,(ah,ai,aj,ak,al,b3,ao,aq,ar,au,av,aw,ax,ae),hv.pu 8,ha.u,zt,j⟩
 ·rintro D U w hD o ag ⟨⟨ah,ai,aj,ak,al,an,ao,aq,ar,au,av,aw,ax,ae⟩,hv,ha,_,j⟩
  obtain⟨O,rfl⟩:=(ac (hv.at 8 rfl (o.1 rfl)) az).ir
  have j:=j.dE 5 (o.1 rfl)
  refine RL.bG a8.Y0 5 j cF ?_
  have j:=j.dF 5 (D 8) (o.1 rfl) bH
  exact RL.nil ⟨rfl,(ah,ai,aj,ak,al,an,ao,aq,ar,au,av,aw,ax,ae),hv.pu 9,ha.u,zt,j⟩
 ·rintro D U w hD o ag ⟨⟨ah,ai,aj,ak,al,an,ao,aq,ar,au,av,aw,ax,ae⟩,hv,ha,_,j⟩
  obtain⟨O,rfl⟩:=(ac (hv.at 10 rfl (o.1 rfl)) az).ir
  have j:=j.cL 6 hD
  refine RL.bP 15 j o0 br fun b4 j=>?_
  have j:=(j.pl 17 [1,2,3,4,5,6,0,8,9,10,11,12,13,14,15,16]).dF 6 true rfl bH
  exact RL.nil ⟨rfl,(ah,ai,aj,ak,al,an,b4,aq,ar,au,av,aw,ax,ae),hv.pu 11,ha.u,zt,j⟩
 ·rintro D U w hD o ag ⟨⟨ah,ai,aj,ak,al,an,ao,aq,ar,au,av,aw,ax,ae⟩,hv,ha,_,j⟩
  obtain⟨O,rfl⟩:=(ac (hv.at 11 rfl (o.1 rfl)) az).ir
  have j:=(j.dE 6 (o.1 rfl)).cL 7 hD
  refine RL.eT 6 j zr nW dR fun b5 j=>?_
  have j:=((j.pl 17 [1,2,3,4,5,6,7,0,9,10,11,12,13,14,15,16]).dF 6 (D 11) (o.1 rfl) bH).dF 7 true rfl bH
  exact RL.nil ⟨rfl,(ah,ai,aj,ak,al,an,ao,b5,ar,au,av,aw,ax,ae),hv.pu 12,ha.u,zt,j⟩
 ·rintro D U w hD o ag ⟨⟨ah,ai,aj,ak,al,an,ao,aq,ar,au,av,aw,ax,ae⟩,hv,ha,_,j⟩
  obtain⟨O,rfl⟩:=(ac (hv.at 12 rfl (o.1 rfl)) az).ir
  have j:=(j.dE 7 (o.1 rfl)).cL 8 hD
  refine RL.bF 7 bk.Xs j iq fun b6 j=>?_
  have j:=((j.pl 17 [1,2,3,4,5,6,7,8,0,10,11,12,13,14,15,16]).dF 7 (D 12) (o.1 rfl) bH).dF 8 true rfl bH
  exact RL.nil ⟨rfl,(ah,ai,aj,ak,al,an,ao,aq,b6,au,av,aw,ax,ae),hv.pu 13,ha.u,zt,j⟩
 ·rintro D U w hD o ag ⟨⟨ah,ai,aj,ak,al,an,ao,aq,ar,au,av,aw,ax,ae⟩,hv,ha,_,j⟩
  obtain⟨O,rfl⟩:=(ac (hv.at 13 rfl (o.1 rfl)) az).ir
  have j:=(j.dE 8 (o.1 rfl)).cL 9 hD
  refine RL.bP 8 j fG bt fun b7 j=>?_
  have j:=((j.pl 17 [1,2,3,4,5,6,7,8,9,0,11,12,13,14,15,16]).dF 8 (D 13) (o.1 rfl) bH).dF 9 true rfl bH
  exact RL.nil ⟨rfl,(ah,ai,aj,ak,al,an,ao,aq,ar,b7,av,aw,ax,ae),hv.pu 14,ha.u,zt,j⟩
 ·rintro D U w hD o ag ⟨⟨ah,ai,aj,ak,al,an,ao,aq,ar,au,av,aw,ax,ae⟩,hv,ha,_,j⟩
  obtain⟨O,rfl⟩:=(ac (hv.at 14 rfl (o.1 rfl)) az).ir
  have j:=j.dE 9 (o.1 rfl)
  refine RL.bG bc 9 j cF ?_
  have j:=j.dF 9 (D 14) (o.1 rfl) bH
  exact RL.nil ⟨rfl,(ah,ai,aj,ak,al,an,ao,aq,ar,au,av,aw,ax,ae),hv.pu 15,ha.u,zt,j⟩
 ·rintro D U w hD o ag ⟨⟨ah,ai,aj,ak,al,an,ao,aq,ar,au,av,aw,ax,ae⟩,hv,ha,_,j⟩
  obtain⟨O,rfl⟩:=(ac (hv.at 17 rfl (o.1 rfl)) az).ir
  refine RL.bA 15 p0 j uN ?_
  exact RL.nil ⟨rfl,(ah,ai,aj,ak,al,an,ao,aq,ar,au,av,aw,ax,ae),hv.pu 18,ha.u,zt,j⟩
 ·rintro D U w hD o ag ⟨⟨ah,ai,aj,ak,al,an,ao,aq,ar,au,av,aw,ax,ae⟩,hv,ha,_,j⟩
  obtain⟨O,rfl⟩:=(ac (hv.at 16 rfl (o.1 rfl)) (ac (hv.at 19 rfl (o.2.1 rfl)) az)).ir
  have j:=j.cL 10 hD
  refine RL.bP 15 j o0 bu fun b8 j=>?_
  have j:=(j.pl 17 [1,2,3,4,5,6,7,8,9,10,0,12,13,14,15,16]).dF 10 true rfl bH
  exact RL.nil ⟨rfl,(ah,ai,aj,ak,al,an,ao,aq,ar,au,b8,aw,ax,ae),hv.pu 20,ha.u,zt,j⟩
 ·rintro D U w hD o ag ⟨⟨ah,ai,aj,ak,al,an,ao,aq,ar,au,av,aw,ax,ae⟩,hv,ha,_,j⟩
  obtain⟨O,rfl⟩:=(ac (hv.at 20 rfl (o.1 rfl)) az).ir
  have j:=(j.dE 10 (o.1 rfl)).cL 11 hD
  refine RL.eT 10 j zr oZ fF fun b9 j=>?_
  have j:=((j.pl 17 [1,2,3,4,5,6,7,8,9,10,11,0,13,14,15,16]).dF 10 (D 20) (o.1 rfl) bH).dF 11 true rfl bH
  exact RL.nil ⟨rfl,(ah,ai,aj,ak,al,an,ao,aq,ar,au,av,b9,ax,ae),hv.pu 21,ha.u,zt,j⟩
 ·rintro D U w hD o ag ⟨⟨ah,ai,aj,ak,al,an,ao,aq,ar,au,av,aw,ax,ae⟩,hv,ha,_,j⟩
  obtain⟨O,rfl⟩:=(ac (hv.at 21 rfl (o.1 rfl)) az).ir
  have j:=j.dE 11 (o.1 rfl)
  refine RL.bG a9.Y1 11 j cF ?_
  have j:=j.dF 11 (D 21) (o.1 rfl) bH
  exact RL.nil ⟨rfl,(ah,ai,aj,ak,al,an,ao,aq,ar,au,av,aw,ax,ae),hv.pu 22,ha.u,zt,j⟩
 ·rintro D U w hD o ag ⟨⟨ah,ai,aj,ak,al,an,ao,aq,ar,au,av,aw,ax,ae⟩,hv,ha,_,j⟩
  obtain⟨O,rfl⟩:=(ac (hv.at 5 rfl (o.1 rfl)) (ac (hv.at 9 rfl (o.2.1 rfl)) (ac (hv.at 15 rfl (o.2.2.1 rfl)) (ac (hv.at 22 rfl (o.2.2.2.1 rfl)) az)))).ir
  have j:=((((j.cL 12 hD).sc Int bb).sc Int a8.Y0).sc Int bc).sc Int a9.Y1
  refine RL.build (⟨bb,a8.Y0,bc,a9.Y1⟩:aG) trivial rfl j [(0,vi bb),(1,vi a8.Y0),(2,vi bc),(3,vi a9.Y1)] rfl Cw rfl (fun M hs g=>by have h:=sm M;exact dB.cons (f:=fun(x:aG) y=>{x with X0:=y}) h ot (g.sat 3 _ rfl).1 fun _ h=>dB.cons (f:=fun(x:aG) y=>{x with Y0:=y}) h pK (g.sat 2 _ rfl).1 fun _ h=>dB.cons (f:=fun(x:aG) y=>{x with X1:=y}) h ou (g.sat 1 _ rfl).1 fun _ h=>dB.cons (f:=fun(x:aG) y=>{x with Y1:=y}) h pL (g.sat 0 _ rfl).1 fun _ h=>dB.nil h) fun ca j=>?_
  have j:=(j.pl 21 [5,6,7,8,9,10,11,12,13,14,15,16,0,18,19,20]).dF 12 true rfl bH
  exact RL.nil ⟨rfl,(ah,ai,aj,ak,al,an,ao,aq,ar,au,av,aw,ca,ae),hv.pu 23,ha.u,zt,j⟩
 ·rintro D U w hD o ag ⟨⟨ah,ai,aj,ak,al,an,ao,aq,ar,au,av,aw,ax,ae⟩,hv,ha,_,j⟩
  obtain⟨O,rfl⟩:=(az (U:=U)).ir
  have j:=(j.cL 13 (nh ag hD 25)).cL 13 hD
  refine RL.alloc j oe.z fun bl w j=>?_
  have j:=((j.pl 17 [1,2,3,4,5,6,7,8,9,10,11,12,13,0,15,16]).dF 13 true rfl bH).gC 13 (D 25) (nh ag hD 25) (bx 51 bl (⟨bb,a8.Y0,bc,a9.Y1⟩:aG))
  exact RL.nil ⟨rfl,(ah,ai,aj,ak,al,an,ao,aq,ar,au,av,aw,ax,bl),hv.pu 24,ha.u,zt,j⟩
 ·rintro D U w hD o ag ⟨⟨ah,ai,aj,ak,al,an,ao,aq,ar,au,av,aw,ax,ae⟩,hv,ha,_,j⟩
  obtain⟨O,rfl⟩:=(ac (hv.at 23 rfl (o.2.1 rfl)) (ac (hv.at 24 rfl (o.1 rfl)) az)).ir
  have j:=((j.dE 12 (o.2.1 rfl)).cL 13 hD).dE 13 (o.1 rfl)
  refine RL.aY 13 j 12 zr hZ fun w j=>?_
  have j:=(j.dF 12 (D 23) (o.2.1 rfl) bH).dF 13 true rfl (bif D 24 then (raw 51 ae 4) else bH)
  exact RL.nil ⟨rfl,(ah,ai,aj,ak,al,an,ao,aq,ar,au,av,aw,ax,ae),hv.n1,ha,zt,j⟩
 rintro D U w a6 ⟨⟨ah,ai,aj,ak,al,an,ao,aq,ar,au,av,aw,ax,ae⟩,hv,ha,_,j⟩
 have j:=((((((j.dE 0 (nn a6 1)).dE 1 (nn a6 2)).dE 2 (nn a6 3)).dE 3 (nn a6 4)).dE 4 (nn a6 7)).dE 5 (nn a6 8)).dE 6 (nn a6 11)
 have j:=((((((j.dE 7 (nn a6 12)).dE 8 (nn a6 13)).dE 9 (nn a6 14)).dE 10 (nn a6 20)).dE 11 (nn a6 21)).dE 12 (nn a6 23)).dE 13 (nn a6 25)
 obtain⟨O,rfl⟩:=(ac (hv.at 24 rfl (nn a6 24)) (ac (ha.at 0 rfl) (ac (ha.at 1 rfl) az))).ir
 refine aJ (RC.seq (RC.sr (mv v0 (RL.bA 15 p0 j uN (mv (vi 0) (RL.nt ?_))))))
 obtain⟨af,hN,hb⟩:=bd hb
 refine RC.fold (fun(bg:Nat) (af:aG)=>SH E V [(2,vp bf 0),(3,vp ae 0),(30,v0),(31,vi p0.length),(32,vi bg)] [raw 51 bf 4,bx 51 ae af,rd v0 p0]) (fun(af:aG)=>SH E V [(2,vp bf 0),(3,vp ae 0)] [raw 51 bf 4,bx 51 ae af,rd v0 p0]) hN ?_ ?_ ?_ ?_
 ·exact j.sp 16 [14,13,15]
 ·rintro hm af _ w ⟨O,rfl,j⟩
  refine RC.sr (ic ((p0.length:Int)) ((p0.length:Int)) (RL.nq (RC.eZ r5 (RC.ex ?_))))
  exact⟨rfl,j.sp 3 [0,1,2]⟩
 ·rintro hm bg af s' _ w hk ⟨O,rfl,j⟩ hb
  refine RC.sr (ic ((bg:Int)) ((p0.length:Int)) (RL.nq (RC.eY (rZ hk) (RC.ss (RC.bs ?_)))))
  obtain⟨ba,cc,hb⟩:=bd hb
  refine RL.bP 2 j o0 cc fun cd j=>(RL.bF 0 ba j Bb fun cf j=>(RL.alloc j Gi.z fun bh w j=>?_))
  refine RL.aY 0 j 1 zr Bb fun w j=>?_
  refine RL.nt ?_
  obtain⟨a5,cg,hb⟩:=bd hb
  obtain⟨a7,ch,hb⟩:=bd hb
  refine RC.Hd E V mixed [1,0,1,0,0,0,0,1,0,1,0,1,0,0,1,0,0,0,1,0,1,0] [3,4,10,12,15,19,21] (fun(x:Value×Value×Value×Value×Value)=>(fun ay a0 a1 a2 a3=>[(0,36,(vp ae 0)),(1,37,(vi af.X0)),(2,38,(vp bh 2)),(3,39,ay),(4,40,a0),(5,41,(vi a5)),(6,42,(vi (if a5<af.X0 then a5 else af.X0))),(7,43,(vp ae 2)),(8,44,(vi af.X1)),(9,45,(vp bh 2)),(10,46,a1),(11,47,(vp bh 2)),(12,48,a2),(13,49,(vi ba.Xs.length)),(14,50,(vi (IntKind.wrap .i64 ((ba.Xs.length:Int) - 1)))),(15,51,a3),(16,52,(vi a7)),(17,53,(vi (if af.X1<a7 then a7 else af.X1))),(18,54,(vp ae 0)),(20,55,(vp ae 2))]) x.1 x.2.1 x.2.2.1 x.2.2.2.1 x.2.2.2.2) [(2,vp bf 0),(3,vp ae 0),(5,vp bh 0),(30,v0),(31,vi p0.length),(32,vi bg)] [] (fun(D:Nat->Bool) (x:Value×Value×Value×Value×Value)=>(fun ay a0 a1 a2 a3=>[bif D 0 then (rd ay ba.Xs) else bH,bif D 1 then (pt a0 a5) else bH,bif D 2 then (rd a1 ba.Xs) else bH,bif D 3 then (rd a2 ba.Xs) else bH,bif D 4 then (pt a3 a7) else bH,bx 81 bh ba,rd cf ba,pt cd ba,raw 51 bf 4,bif D 6 then (bx 51 ae {{af with X0:=(if a5<af.X0 then a5 else af.X0)} with X1:=(if af.X1<a7 then a7 else af.X1)}) else (bif D 5 then (bx 51 ae {af with X0:=(if a5<af.X0 then a5 else af.X0)}) else (bx 51 ae af)),rd v0 p0]) x.1 x.2.1 x.2.2.1 x.2.2.2.1 x.2.2.2.2) (fun x=>by kernel_rfl) ?_ ⟨fun _=>qO gn iD,?_,fun _=>qO gn nW,?_,?_,?_,?_,fun _=>qO gn jl,?_,fun _=>qO gn nW,?_,fun _=>qO gn nW,?_,?_,fun _=>IK gn rfl,?_,?_,?_,fun _=>qO gn iD,?_,fun _=>qO gn jl,?_,trivial⟩ ?_
  ·have j:=(((((j.drew).bH).bH).bH).bH).bH
   exact⟨(undef,undef,undef,undef,undef),fU.none,(FQ zr),zt,j⟩
  ·rintro D U w hD o ag ⟨⟨ay,a0,a1,a2,a3⟩,hv,ha,_,j⟩
   obtain⟨O,rfl⟩:=(ac (hv.at 0 rfl (o.1 rfl)) az).ir
   have j:=(j.cL 9 (nh ag hD 21)).cL 9 (nh ag hD 19)
   refine RL.aL 9 j zr dM cF ?_
   have j:=(j.gC 9 (D 19) (nh ag hD 19) (bx 51 ae {af with X0:=(if a5<af.X0 then a5 else af.X0)})).gC 9 (D 21) (nh ag hD 21) (bx 51 ae {{af with X0:=(if a5<af.X0 then a5 else af.X0)} with X1:=(if af.X1<a7 then a7 else af.X1)})
   exact RL.nil ⟨rfl,(ay,a0,a1,a2,a3),hv.pu 1,ha.u,zt,j⟩
  ·rintro D U w hD o ag ⟨⟨ay,a0,a1,a2,a3⟩,hv,ha,_,j⟩
   obtain⟨O,rfl⟩:=(ac (hv.at 2 rfl (o.1 rfl)) az).ir
   have j:=j.cL 0 hD
   refine RL.aV 5 j zr dR iq fun cj j=>?_
   have j:=(j.pl 12 [0,2,3,4,5,6,7,8,9,10,11]).dF 0 true rfl bH
   exact RL.nil ⟨rfl,(cj,a0,a1,a2,a3),hv.pu 3,ha.u,zt,j⟩
  ·rintro D U w hD o ag ⟨⟨ay,a0,a1,a2,a3⟩,hv,ha,_,j⟩
   obtain⟨O,rfl⟩:=(ac (hv.at 3 rfl (o.1 rfl)) az).ir
   have j:=(j.dE 0 (o.1 rfl)).cL 1 hD
   refine RL.bP 0 j fG cg fun ck j=>?_
   have j:=((j.pl 12 [1,0,3,4,5,6,7,8,9,10,11]).dF 0 (D 3) (o.1 rfl) bH).dF 1 true rfl bH
   exact RL.nil ⟨rfl,(ay,ck,a1,a2,a3),hv.pu 4,ha.u,zt,j⟩
  ·rintro D U w hD o ag ⟨⟨ay,a0,a1,a2,a3⟩,hv,ha,_,j⟩
   obtain⟨O,rfl⟩:=(ac (hv.at 4 rfl (o.1 rfl)) az).ir
   have j:=j.dE 1 (o.1 rfl)
   refine RL.bG a5 1 j cF ?_
   have j:=j.dF 1 (D 4) (o.1 rfl) bH
   exact RL.nil ⟨rfl,(ay,a0,a1,a2,a3),hv.pu 5,ha.u,zt,j⟩
  ·rintro D U w hD o ag ⟨⟨ay,a0,a1,a2,a3⟩,hv,ha,_,j⟩
   obtain⟨O,rfl⟩:=(ac (hv.at 1 rfl (o.1 rfl)) (ac (hv.at 5 rfl (o.2.1 rfl)) az)).ir
   refine RL.min af.X0 a5 ?_
   exact RL.nil ⟨rfl,(ay,a0,a1,a2,a3),hv.pu 6,ha.u,zt,j⟩
  ·rintro D U w hD o ag ⟨⟨ay,a0,a1,a2,a3⟩,hv,ha,_,j⟩
   obtain⟨O,rfl⟩:=(ac (hv.at 7 rfl (o.1 rfl)) az).ir
   have j:=(j.cL 9 (nh ag hD 21)).cL 9 (nh ag hD 19)
   refine RL.aL 9 j zr eG cF ?_
   have j:=(j.gC 9 (D 19) (nh ag hD 19) (bx 51 ae {af with X0:=(if a5<af.X0 then a5 else af.X0)})).gC 9 (D 21) (nh ag hD 21) (bx 51 ae {{af with X0:=(if a5<af.X0 then a5 else af.X0)} with X1:=(if af.X1<a7 then a7 else af.X1)})
   exact RL.nil ⟨rfl,(ay,a0,a1,a2,a3),hv.pu 8,ha.u,zt,j⟩
  ·rintro D U w hD o ag ⟨⟨ay,a0,a1,a2,a3⟩,hv,ha,_,j⟩
   obtain⟨O,rfl⟩:=(ac (hv.at 9 rfl (o.1 rfl)) az).ir
   have j:=j.cL 2 hD
   refine RL.aV 5 j zr dR iq fun cl j=>?_
   have j:=(j.pl 12 [1,2,0,4,5,6,7,8,9,10,11]).dF 2 true rfl bH
   exact RL.nil ⟨rfl,(ay,a0,cl,a2,a3),hv.pu 10,ha.u,zt,j⟩
  ·rintro D U w hD o ag ⟨⟨ay,a0,a1,a2,a3⟩,hv,ha,_,j⟩
   obtain⟨O,rfl⟩:=(ac (hv.at 11 rfl (o.1 rfl)) az).ir
   have j:=j.cL 3 hD
   refine RL.aV 5 j zr dR iq fun cm j=>?_
   have j:=(j.pl 12 [1,2,3,0,5,6,7,8,9,10,11]).dF 3 true rfl bH
   exact RL.nil ⟨rfl,(ay,a0,a1,cm,a3),hv.pu 12,ha.u,zt,j⟩
  ·rintro D U w hD o ag ⟨⟨ay,a0,a1,a2,a3⟩,hv,ha,_,j⟩
   obtain⟨O,rfl⟩:=(ac (hv.at 12 rfl (o.1 rfl)) az).ir
   have j:=j.dE 3 (o.1 rfl)
   refine RL.bA 3 ba.Xs j nr ?_
   have j:=j.dF 3 (D 12) (o.1 rfl) bH
   exact RL.nil ⟨rfl,(ay,a0,a1,a2,a3),hv.pu 13,ha.u,zt,j⟩
  ·rintro D U w hD o ag ⟨⟨ay,a0,a1,a2,a3⟩,hv,ha,_,j⟩
   obtain⟨O,rfl⟩:=(ac (hv.at 10 rfl (o.1 rfl)) (ac (hv.at 14 rfl (o.2.1 rfl)) az)).ir
   have j:=(j.dE 2 (o.1 rfl)).cL 4 hD
   refine RL.bP 2 j fG ch fun cn j=>?_
   have j:=((j.pl 12 [1,2,3,4,0,6,7,8,9,10,11]).dF 2 (D 10) (o.1 rfl) bH).dF 4 true rfl bH
   exact RL.nil ⟨rfl,(ay,a0,a1,a2,cn),hv.pu 15,ha.u,zt,j⟩
  ·rintro D U w hD o ag ⟨⟨ay,a0,a1,a2,a3⟩,hv,ha,_,j⟩
   obtain⟨O,rfl⟩:=(ac (hv.at 15 rfl (o.1 rfl)) az).ir
   have j:=j.dE 4 (o.1 rfl)
   refine RL.bG a7 4 j cF ?_
   have j:=j.dF 4 (D 15) (o.1 rfl) bH
   exact RL.nil ⟨rfl,(ay,a0,a1,a2,a3),hv.pu 16,ha.u,zt,j⟩
  ·rintro D U w hD o ag ⟨⟨ay,a0,a1,a2,a3⟩,hv,ha,_,j⟩
   obtain⟨O,rfl⟩:=(ac (hv.at 8 rfl (o.1 rfl)) (ac (hv.at 16 rfl (o.2.1 rfl)) az)).ir
   refine RL.max af.X1 a7 ?_
   exact RL.nil ⟨rfl,(ay,a0,a1,a2,a3),hv.pu 17,ha.u,zt,j⟩
  ·rintro D U w hD o ag ⟨⟨ay,a0,a1,a2,a3⟩,hv,ha,_,j⟩
   obtain⟨O,rfl⟩:=(ac (hv.at 6 rfl (o.2.1 rfl)) (ac (hv.at 18 rfl (o.1 rfl)) az)).ir
   have j:=((j.cL 9 (nh ag hD 21)).cL 9 hD).sc Int (if a5<af.X0 then a5 else af.X0)
   refine RL.vV 10 j zr zr zr 0 zr ot cF fun w j=>?_
   have j:=((j.pl 12 [1,2,3,4,5,6,7,8,9,10,11]).dF 9 true rfl (bx 51 ae af)).gC 9 (D 21) (nh ag hD 21) (bx 51 ae {{af with X0:=(if a5<af.X0 then a5 else af.X0)} with X1:=(if af.X1<a7 then a7 else af.X1)})
   exact RL.nil ⟨rfl,(ay,a0,a1,a2,a3),hv.n1,ha,zt,j⟩
  ·rintro D U w hD o ag ⟨⟨ay,a0,a1,a2,a3⟩,hv,ha,_,j⟩
   obtain⟨O,rfl⟩:=(ac (hv.at 17 rfl (o.2.1 rfl)) (ac (hv.at 19 rfl (o.1 rfl)) az)).ir
   have j:=((j.cL 9 hD).dE 9 (o.2.2.1 rfl)).sc Int (if af.X1<a7 then a7 else af.X1)
   refine RL.vV 10 j zr zr zr 0 zr ou cF fun w j=>?_
   have j:=(j.pl 12 [1,2,3,4,5,6,7,8,9,10,11]).dF 9 true rfl (bif D 19 then (bx 51 ae {af with X0:=(if a5<af.X0 then a5 else af.X0)}) else (bx 51 ae af))
   exact RL.nil ⟨rfl,(ay,a0,a1,a2,a3),hv.n1,ha,zt,j⟩
  rintro D U w a6 ⟨⟨ay,a0,a1,a2,a3⟩,hv,ha,_,j⟩
  have j:=(((((j.dE 0 (nn a6 3)).dE 1 (nn a6 4)).dE 2 (nn a6 10)).dE 3 (nn a6 12)).dE 4 (nn a6 15)).dE 9 (nn a6 21)
  obtain⟨O,rfl⟩:=(ac (ha.at 0 rfl) (ac (ha.at 1 rfl) (ac (ha.at 2 rfl) (ac (ha.at 3 rfl) (ac (ha.at 4 rfl) (ac (ha.at 5 rfl) az)))))).ir
  refine bQ (aJ (RC.region (RL.inc hk hm (mv (vi ((bg+1:Nat):Int)) (RL.nil ?_)))))
  obtain rfl:=oi hb
  exact⟨rfl,j.sp 11 [8,9,10]⟩
 rintro _ w ⟨O,rfl,j⟩
 refine aJ (RC.sr (RL.aV (f:=(fun x=>x)) 1 j zr Fd.self hZ fun cp j=>(RL.aY 1 j 0 zr hZ fun w j=>?_)))
 refine RL.nt (RC.ret ?_)
 obtain rfl:=oi hb
 exact Hm 1 zr j zr zr hZ fun cq j=>(j.pk 5 [0])
theorem wD {p0: (List aA)} {res:Bool} (j:Holds E w V) (h0:V[i0]? =some (rd v0 p0)) (hb:l9 N p0=some res):
    Calls bD 35 [v0].toArray w (gm (aS E V res)):=by
 unfold l9 at hb
 refine enter Tryz.func35 zr zr ?_
 have j:=j.dup (i0+0) h0
 refine RC.sr (aP (vb false) (RL.nq ?_))
 obtain⟨ad,o,hb⟩:=bd hb
 refine RC.jn (fun(ad:Bool)=>SH E V [(2,vb ad)] []) ad ?_ ?_
 ·refine RC.region (mv v0 (RL.bA 0 p0 j uN (ic ((p0.length:Int)) 0 (mv (vb ((p0.length:Int)==0)) (gu o (fun aa o=>?_) fun aa o=>?_)))))
  ·refine bN aa (bN aa (bN aa (gD aa (vb true) (aP (vb true) (RL.nil ?_)))))
   obtain rfl:=oi o
   exact⟨rfl,j.sp 1 []⟩
  refine RL.move v0 (cg aa) ?_
  obtain⟨ai,af,o⟩:=bd o
  refine RL.call (cg aa) zr LF [v0] zr (aC (uT N (i0:=0) j zr af) ?_)
  rintro ag w j
  obtain⟨ae,ah,o⟩:=bd o
  refine RL.call (cg aa) zr Jz [ag] zr (aC (s8 N (i0:=0) j zr ah) ?_)
  rintro _ w ⟨rfl,j⟩
  refine gD aa (vb ae) (aP (vb ae) (RL.nil ?_))
  obtain rfl:=oi o
  exact⟨rfl,j.sp 2 []⟩
 rintro _ w ⟨O,rfl,j⟩
 refine aJ (RC.ret ?_)
 obtain rfl:=oi hb
 exact bM ⟨rfl,j.drop 0⟩
def yn (E:World) (V:List HP) (res:aG×Int) (v:Value) (w:World):Prop:=∃u0:Value,v = .tuple #[u0,(vi res.2)]/\Holds E w ([rd u0 res.1]++V)
theorem ru {p0:bJ} {res:aG×Int} (j:Holds E w V) (h0:V[i0]? =some (rd v0 p0)) (o:kz N p0=some res):
    Calls bD 18 [v0].toArray w (gm (yn E V res)):=by
 unfold kz at o
 refine enter Tryz.func18 zr zr ?_
 have j:=j.dup (i0+0) h0
 refine RC.sr (RL.dA 0 v0 j zr fun af w j=>?_)
 refine RL.alloc j oe.z fun ag w j=>?_
 refine aP (vi 0) (RL.nq (RC.seq ?_))
 obtain⟨ad,hj,o⟩:=bd o
 refine RC.jn (fun(ad:Bool)=>SH E V [(1,vp af 0),(2,vp ag 0),(14,vb ad)] [bx 46 af p0,raw 51 ag 4]) ad ?_ ?_
 ·refine RC.region (RL.aX zr qP (RL.aL 1 j zr lJ cF ?_))
  obtain⟨ah,aj,hj⟩:=bd hj
  refine RL.call zt zr E8 [(vi p0.cZ),(vi 1),(vi 10000)] zr (aC (jD N (p0:=p0.cZ) (p1:=1) (p2:=10000) j aj) ?_)
  rintro _ w ⟨rfl,j⟩
  refine RL.not ah (mv (vb (!ah)) (gu hj (fun aa hj=>?_) fun aa hj=>?_))
  ·refine bN aa (bN aa (bN aa (bN aa (gD aa (vb true) (RL.nil ?_)))))
   obtain rfl:=oi hj
   exact⟨rfl,j.sp 3 [1,0]⟩
  refine RL.aX (hg:=(cg aa)) zr xu (RL.aV (hg:=(cg aa)) 1 j zr pM zZ fun ak j=>?_)
  obtain⟨ai,al,hj⟩:=bd hj
  refine RL.call (cg aa) zr JG [ak] zr (aC (rq N (i0:=0) j zr al) ?_)
  rintro _ w ⟨rfl,j⟩
  refine RL.not (hg:=(cg aa)) ai (gD aa (vb (!ai)) (RL.nil ?_))
  obtain rfl:=oi hj
  exact⟨rfl,j.sp 4 [2,1]⟩
 rintro _ w ⟨O,rfl,j⟩
 refine aJ (dW o (fun hc o=>?_) fun hc o=>?_)
 ·refine RC.sr (RL.build (⟨0,0,0,0⟩:aG) trivial rfl j [] rfl Cw rfl (fun M hs g=>by have h:=sm M;exact dB.nil h) fun a2 j=>?_)
  refine RL.aY 2 j 0 zr hZ fun w j=>?_
  refine aP (vi 1) (RL.nt (RC.rt ?_))
  obtain rfl:=oi o
  exact kB 2 j hZ fun an j=>⟨an,zr,j.pk 4 [0]⟩
 refine RC.sx (RL.aV (f:=(fun x=>x)) 0 j zr Fd.self mJ fun ao j=>?_)
 obtain⟨aq,ar,o⟩:=bd o
 refine RL.call zt zr E9 [ao] zr (aC (iV N (i0:=0) j zr ar) ?_)
 rintro a3 w j
 refine RL.alloc j oe.z fun a4 w j=>?_
 refine RL.aY 0 j 1 zr hZ fun w j=>?_
 refine RL.nq (RC.sr (RL.aV (f:=(fun x=>x)) 0 j zr Fd.self hZ fun au j=>(RL.eX ([aq]: (List aG)) j [au] jt oe (fun M hs g=>⟨(g.sat 0 _ zr).1,zt⟩) fun av w j=>?_)))
 have j:=j.freeze 0
 obtain⟨a5,aw,o⟩:=bd o
 refine RL.call zt zr Bc [av] zr (aC (iF N (i0:=0) j zr aw) ?_)
 rintro ax w j
 have j:=j.freeze 0
 obtain⟨ay,az,o⟩:=bd o
 refine RL.call zt zr LG [ax] zr (aC (wD N (i0:=0) j zr az) ?_)
 rintro _ w ⟨rfl,j⟩
 refine RL.not ay (RL.nt (dW o (fun hc o=>?_) fun hc o=>?_))
 ·refine RC.sr (RL.build (⟨0,0,0,0⟩:aG) trivial rfl j [] rfl Cw rfl (fun M hs g=>by have h:=sm M;exact dB.nil h) fun a6 j=>?_)
  refine RL.aY 8 j 0 zr hZ fun w j=>?_
  refine aP (vi 1) (RL.nt (RC.rt ?_))
  obtain rfl:=oi o
  exact kB 8 j hZ fun a0 j=>⟨a0,zr,j.pk 10 [0]⟩
 refine RC.sx (RL.aV (f:=(fun x=>x)) 3 j zr Fd.self hZ fun a7 j=>(RL.aY 8 j 0 zr hZ fun w j=>?_))
 refine aP (vi 0) (RL.nt (RC.ret ?_))
 obtain rfl:=oi o
 exact kB 8 j hZ fun a1 j=>⟨a1,zr,j.pk 10 [0]⟩
def uU (E:World) (V:List HP) (r:Int) (U:Nat->Value) (w:World):Prop:=l6 bD 47 Tryz.f68 (aU E V r) .ret U w
theorem tI {p0:fu} (j:Holds E w V) (h0:V[i0]? =some (rd v0 p0)) (o:kc N p0=some res):
    Calls bD 68 [v0].toArray w (gm (aU E V res)):=by
 unfold kc at o
 refine enter Tryz.func68 zr zr ?_
 have j:=j.dup (i0+0) h0
 refine RC.sr (RL.dA 0 v0 j zr fun a0 w j=>?_)
 refine aP (vi 0) (RL.nq (RC.sr (RL.aX zr jm (RL.aV 0 j zr hU o4 fun a1 j=>(RL.bA 0 p0.aR j tF (ic ((p0.aR.length:Int)) 500 (RL.nt (dW o (fun hc o=>?_) fun hc o=>?_))))))))
 ·refine RC.sr (aP (vi 2) (RL.nt (RC.rt ?_)))
  obtain rfl:=oi o
  exact bM ⟨rfl,j.drop 3⟩
 refine RC.sx (RL.aX zr fB (RL.aV 1 j zr dX lk fun a2 j=>(RL.bA 0 p0.aI j oN (aP (vi p0.aI.length) (RL.nq (RC.sr (RL.aX zr jm (RL.aV 2 j zr hU o4 fun ag j=>?_))))))))
 refine RL.bA 0 p0.aR j tF (mv (vi 0) (RL.nt ?_))
 obtain⟨a3,hN,o⟩:=bd o
 refine RC.range (fun(ah:Nat) (ai:Unit)=>SH E V [(3,vi p0.aI.length),(16,ag),(17,vi p0.aR.length),(18,vi ah)] [rd ag p0.aR]) (fun(ai:Unit)=>SH E V [] [rd ag p0.aR]) (uU E V) hN ?_ ?_ ?_ ?_ ?_
 ·exact j.sp 5 [0]
 ·rintro hm ai _ w ⟨O,rfl,j⟩
  refine RC.sr (ic ((p0.aR.length:Int)) ((p0.aR.length:Int)) (RL.nq (RC.eZ r5 (RC.ex ?_))))
  exact⟨rfl,j.sp 1 [0]⟩
 ·rintro hm ah ai fl _ w hk ⟨O,rfl,j⟩ o
  refine RC.sr (ic ((ah:Int)) ((p0.aR.length:Int)) (RL.nq (RC.eY (rZ hk) (RC.ss (RC.bs ?_)))))
  obtain⟨ad,au,o⟩:=bd o
  refine RL.bP 0 j tg au fun a5 j=>(RL.bF 0 ad j mJ fun a6 j=>(RL.alloc j Cx.z fun a7 w j=>?_))
  refine RL.aY 0 j 1 zr mJ fun w j=>?_
  refine RL.nq (RC.sr (RL.aV (f:=(fun x=>x)) 0 j zr Fd.self mJ fun av j=>?_))
  obtain⟨ae,aw,o⟩:=bd o
  refine RL.call zt zr JH [av] zr (aC (ru N (i0:=0) j zr aw) ?_)
  rintro _ w ⟨an,rfl,j⟩
  refine mv (.tuple #[an,(vi ae.2)]) (RL.extract an (RL.extract (vi ae.2) (RL.alloc j oe.z fun a8 w j=>?_)))
  refine RL.aY 0 j 1 zr hZ fun w j=>?_
  refine aP (vi ae.2) (RL.ns (mv (vi ae.2) (ic ae.2 0 (RL.nt (dW o (fun hc o=>?_) fun hc o=>?_)))))
  ·refine RC.sr (mv (vi ae.2) (aP (vi ae.2) (RL.nt (RC.rt (nS (bL ?_))))))
   obtain rfl:=oi o
   exact⟨rfl,bM ⟨rfl,j.drop 7⟩⟩
  refine RC.ss ?_
  obtain⟨aj,hj,o⟩:=bd o
  refine RC.jn (fun(aj:Bool)=>SH E V [(3,vi p0.aI.length),(16,ag),(17,vi p0.aR.length),(18,vi ah),(45,vb aj)] [rd ag p0.aR]) aj ?_ ?_
  ·refine RC.region (RL.aX zr o5 (RL.aL 3 j zr j8 cF (mv (vi p0.aI.length) (RL.gQ (p0.aI.length:Int) 1 ?_))))
   obtain⟨ao,ax,hj⟩:=bd hj
   refine RL.call zt zr E8 [(vi ad.cH),(vi 0),(vi (IntKind.wrap .i64 ((p0.aI.length:Int) - 1)))] zr (aC (jD N (p0:=ad.cH) (p1:=0) (p2:=(IntKind.wrap .i64 ((p0.aI.length:Int) - 1))) j ax) ?_)
   rintro _ w ⟨rfl,j⟩
   refine RL.not ao (mv (vb (!ao)) (gu hj (fun aa hj=>?_) fun aa hj=>?_))
   ·refine bN aa (bN aa (bN aa (bN aa (bN aa (bN aa (bN aa (bN aa (gD aa (vb true) ?_))))))))
    refine RL.nil ?_
    obtain rfl:=oi hj
    exact⟨rfl,j.sp 7 [6]⟩
   refine RL.aX (hg:=(cg aa)) zr qQ (RL.aL (hg:=(cg aa)) 3 j zr lK cF (RL.aX (hg:=(cg aa)) zr o5 (RL.aL (hg:=(cg aa)) 3 j zr j8 cF (RL.move (vi p0.aI.length) (cg aa) (RL.gQ (hg:=(cg aa)) (p0.aI.length:Int) 1 ?_)))))
   obtain⟨aq,ay,hj⟩:=bd hj
   refine RL.call (cg aa) zr E8 [(vi ad.To),(vi ad.cH),(vi (IntKind.wrap .i64 ((p0.aI.length:Int) - 1)))] zr (aC (jD N (p0:=ad.To) (p1:=ad.cH) (p2:=(IntKind.wrap .i64 ((p0.aI.length:Int) - 1))) j ay) ?_)
   rintro _ w ⟨rfl,j⟩
   refine RL.not (hg:=(cg aa)) aq (gD aa (vb (!aq)) (RL.nil ?_))
   obtain rfl:=oi hj
   exact⟨rfl,j.sp 7 [6]⟩
  rintro _ w ⟨O,rfl,j⟩
  refine aJ (dW o (fun hc o=>?_) fun hc o=>?_)
  rotate_left
  ·refine RC.skip (bQ (aJ (RC.region (RL.inc hk hm (mv (vi ((ah+1:Nat):Int)) (RL.nil ?_))))))
   obtain rfl:=oi o
   exact⟨rfl,j.sp 1 [0]⟩
  refine RC.sr (aP (vi 1) (RL.nt (RC.rb (bL ?_))))
  obtain rfl:=oi o
  exact⟨rfl,bM ⟨rfl,j.drop 1⟩⟩
 ·intro r U w e hK
  subst e
  refine bL ?_
  obtain rfl:=oi o
  exact hK
 rintro ai _ w rfl ⟨O,rfl,j⟩
 rw [Fo.dQ] at o
 refine aJ (RC.sr (aP (vi 0) (RL.nt (RC.ret ?_))))
 obtain rfl:=oi o
 exact bM ⟨rfl,j.drop 1⟩
theorem mY {p0:dY} (o:Holds E w V) (j:iP N p0 p1=some res):
    Calls bD 153 [(str p0),(.int .u8 p1)].toArray w (gm (aU E V res)):=by
 unfold iP at j
 refine enter Tryz.func153 zr zr (RC.sr (aP (vi 0) (RL.ns (mv (str p0) (mv (.int .u8 p1) (RL.yG (vi (Lib.indexByte p0.cQ (Int.toNat p1).toUInt8)) zr [(str p0),(.int .u8 p1)] zr (LJ p0 p1 w) (aP (vi (Lib.indexByte p0.cQ (Int.toNat p1).toUInt8)) (RL.nt ?_))))))))
 refine RC.ret ?_
 obtain rfl:=oi j
 exact bM ⟨rfl,o.drop 0⟩
theorem tJ {p0 p1:dY} (o:Holds E w V) (j:kd N p0 p1=some res):
    Calls bD 166 [(str p0),(str p1)].toArray w (gm (aU E V res)):=by
 unfold kd at j
 refine enter Tryz.func166 zr zr (RC.sr (aP (vi 0) (RL.ns (mv (str p1) (RL.lens p1 yR (aP (vi p1.cQ.length) (RL.nq (RC.bs ?_))))))))
 refine mv (vi p1.cQ.length) (ic ((p1.cQ.length:Int)) 0 (mv (vb ((p1.cQ.length:Int)==0)) (RL.gs true ((p1.cQ.length:Int)==0) (str p1) rfl rfl rfl cE (RL.gs true ((p1.cQ.length:Int)==0) (str p0) rfl rfl rfl cE (RL.gs true ((p1.cQ.length:Int)==0) (vb (p1.rW p0)) rfl rfl rfl (AR .eql p1 p0 rfl (fun h=>by exact(cG h:cv (true&&(((p1.cQ.length:Int)==0)==false)) (str p1)= (str p1))) (fun h=>by exact(cG h:cv (true&&(((p1.cQ.length:Int)==0)==false)) (str p0)= (str p0))) rfl) (RL.pick ((p1.cQ.length:Int)==0) (vb (((p1.cQ.length:Int)==0)||(p1.rW p0))) (nz true) (aP (vb (((p1.cQ.length:Int)==0)||(p1.rW p0))) (RL.nt ?_))))))))
 refine dW j (fun hc j=>?_) fun hc j=>?_
 ·refine RC.sr (aP (vi 0) (RL.nt (RC.rb (bL ?_))))
  obtain rfl:=oi j
  exact bM ⟨rfl,o.drop 0⟩
 refine RC.sr (mv (vi p1.cQ.length) (ic ((p1.cQ.length:Int)) 1 (aP (vb ((p1.cQ.length:Int)==1)) (RL.nt (dW j (fun hc j=>?_) fun hc j=>?_)))))
 ·refine RC.sr (mv (str p0) (mv (str p1) ?_))
  obtain⟨ab,ad,j⟩:=bd j
  refine RL.idxs p1 0 ab zr zr zr yR ad ?_
  obtain⟨ae,af,j⟩:=bd j
  refine RL.call zt zr H2 [(str p0),(.int .u8 (ab.toNat:Int))] zr (aC (mY N (p0:=p0) (p1:=(ab.toNat:Int)) o af) ?_)
  rintro _ w ⟨rfl,o⟩
  refine aP (vi ae) (RL.nt (RC.rb (bL ?_)))
  obtain rfl:=oi j
  exact bM ⟨rfl,o.drop 0⟩
 refine RC.sr (mv (vi p1.cQ.length) (mv (str p0) (RL.lens p0 yR (ic ((p1.cQ.length:Int)) ((p0.cQ.length:Int)) (aP (vb (decide ((p1.cQ.length:Int)>=(p0.cQ.length:Int)))) (RL.nt (dW j (fun hc j=>?_) fun hc j=>?_)))))))
 rotate_left
 ·cases j
 refine RC.sr (aP (vi (-1)) (RL.nt (RC.rb (bL ?_))))
 obtain rfl:=oi j
 exact bM ⟨rfl,o.drop 0⟩
theorem ry {p0 p1:dY} (o:Holds E w V) (j:lG N p0 p1=some res):
    Calls bD 160 [(str p0),(str p1)].toArray w (gm (aU E V res)):=by
 unfold lG at j
 refine enter Tryz.func160 zr zr (RC.sr (aP (vi 0) (RL.ns (mv (str p0) (mv (str p1) ?_)))))
 obtain⟨aa,ab,j⟩:=bd j
 refine RL.call zt zr JI [(str p0),(str p1)] zr (aC (tJ N (p0:=p0) (p1:=p1) o ab) ?_)
 rintro _ w ⟨rfl,o⟩
 refine aP (vi aa) (RL.nt (RC.ret ?_))
 obtain rfl:=oi j
 exact bM ⟨rfl,o.drop 0⟩
def yo (E:World) (V:List HP) (r:Int) (U:Nat->Value) (w:World):Prop:=l6 bD 34 Tryz.f159 (aU E V r) .ret U w
theorem xy {p0 p1:dY} (hw:Holds E w V) (j:mW N p0 p1=some res):
    Calls bD 159 [(str p0),(str p1)].toArray w (gm (aU E V res)):=by
 unfold mW at j
 refine enter Tryz.func159 zr zr (RC.sr (aP (vi 0) (RL.nq (RC.sr (mv (str p1) (RL.lens p1 yR (ic ((p1.cQ.length:Int)) 0 (RL.nt ?_))))))))
 refine dW j (fun hc j=>?_) fun hc j=>?_
 ·cases j
 refine RC.ss (RC.sr (mv (str p1) (RL.lens p1 yR (ic ((p1.cQ.length:Int)) 1 (RL.nt (dW j (fun hc j=>?_) fun hc j=>?_))))))
 ·refine RC.sr (mv (str p0) (mv (str p1) ?_))
  obtain⟨ad,af,j⟩:=bd j
  refine RL.idxs p1 0 ad zr zr zr yR af (RL.yG (vi ((Lib.countByte p0.cQ (Int.toNat (ad.toNat:Int)).toUInt8:Nat):Int)) zr [(str p0),(.int .u8 (ad.toNat:Int))] zr (LI p0 (ad.toNat:Int) w) (aP (vi ((Lib.countByte p0.cQ (Int.toNat (ad.toNat:Int)).toUInt8:Nat):Int)) (RL.nt (RC.rt ?_))))
  obtain rfl:=oi j
  exact bM ⟨rfl,hw.drop 0⟩
 refine RC.sx (aP (vi 0) (RL.nt ?_))
 obtain⟨al,hN,j⟩:=bd j
 refine RC.iter (fun(o:dY×Int)=>SH E V [(0,(str o.1)),(1,(str p1)),(4,vi 0),(5,vi o.2)] []) (fun(o:dY×Int)=>SH E V [(4,vi 0)] []) (yo E V) hN ?_ ?_ ?_ ?_
 ·exact hw.sp 0 []
 ·rintro o fl _ w ⟨O,rfl,hw⟩ j
  refine RC.bs (mv (str o.1) (mv (str p1) ?_))
  obtain⟨ae,ah,j⟩:=bd j
  refine RL.call zt zr H3 [(str o.1),(str p1)] zr (aC (ry N (p0:=o.1) (p1:=p1) hw ah) ?_)
  rintro _ w ⟨rfl,hw⟩
  refine aP (vi ae) (RL.nq (RC.sr (mv (vi ae) (ic ae ((-1)) (RL.nt (dW j (fun hc j=>?_) fun hc j=>?_))))))
  ·refine RC.sr (mv (vi o.2) (aP (vi o.2) (RL.nt (RC.rt (nS ?_)))))
   obtain rfl:=oi j
   exact⟨rfl,bM ⟨rfl,hw.drop 0⟩⟩
  refine RC.sx (mv (vi o.2) (RL.gQ o.2 1 (aP (vi (IntKind.wrap .i64 (o.2+1))) (RL.nt (RC.region (mv (str o.1) (mv (vi ae) (mv (str p1) ?_))))))))
  refine RL.lens p1 yR (RL.gQ ae (p1.cQ.length:Int) ?_)
  obtain⟨ai,aj,j⟩:=bd j
  refine RL.vr o.1 zr zr yR (.inl zr) (.inr ⟨rfl,zr⟩) aj (aP (str ai) (RL.nil (bQ ?_)))
  obtain rfl:=oi j
  exact⟨rfl,hw.sp 0 []⟩
 ·intro r U w e hK
  subst e
  obtain rfl:=oi j
  exact hK
 rintro o _ w rfl ⟨O,rfl,hw⟩
 rw [Fo.dQ] at j
 obtain rfl:=oi j
 refine D6 ?_
 exact bM ⟨rfl,hw.drop 0⟩
theorem uV {p0 p1:dY} {res: (List dY)} (o:Holds E w V) (j:mG N p0 p1 p2 p3=some res):
    Calls bD 152 [(str p0),(str p1),(vi p2),(vi p3)].toArray w (gm (pS E V res)):=by
 unfold mG at j
 refine enter Tryz.func152 zr zr (RC.sr (aP (.slice none 0 0) (RL.nq (RC.sr (mv (vi p3) (ic p3 0 (RL.nt (dW j (fun hc j=>?_) fun hc j=>?_))))))))
 ·refine RC.sr (aP (.slice none 0 0) (RL.nt (RC.rt ?_)))
  obtain rfl:=oi j
  have o:=o.cX dY 9
  exact bM (o.pk 1 [0])
 refine RC.ss (RC.sr (mv (str p1) (RL.Dj p1 ⟨[]⟩ zt zr zr zr zr (RL.nt (dW j (fun hc j=>?_) fun hc j=>?_)))))
 ·cases j
 refine RC.ss (RC.sr (mv (vi p3) (ic p3 0 (RL.nt ?_))))
 obtain⟨ab,hj,j⟩:=bd j
 refine RC.jn (fun(ab:Int)=>SH E V [(0,(str p0)),(1,(str p1)),(2,vi p2),(3,vi ab)] []) ab ?_ ?_
 ·refine dW hj (fun hc hj=>?_) fun hc hj=>?_
  rotate_left
  ·refine RC.skip ?_
   obtain rfl:=oi hj
   exact⟨rfl,o.sp 0 []⟩
  refine RC.region (mv (str p0) (mv (str p1) ?_))
  obtain⟨aj,ak,hj⟩:=bd hj
  refine RL.call zt zr JJ [(str p0),(str p1)] zr (aC (xy N (p0:=p0) (p1:=p1) o ak) ?_)
  rintro _ w ⟨rfl,o⟩
  refine RL.gQ aj 1 (aP (vi (IntKind.wrap .i64 (aj+1))) (RL.nil ?_))
  obtain rfl:=oi hj
  exact⟨rfl,o.sp 0 []⟩
 rintro _ w ⟨O,rfl,o⟩
 refine aJ (RC.sr (mv (vi ab) (mv (str p0) (RL.lens p0 yR (RL.gQ (p0.cQ.length:Int) 1 (RL.min ab (IntKind.wrap .i64 ((p0.cQ.length:Int)+1)) (aP (vi (if (IntKind.wrap .i64 ((p0.cQ.length:Int)+1))<ab then (IntKind.wrap .i64 ((p0.cQ.length:Int)+1)) else ab)) (RL.ns ?_))))))))
 refine mv (vi (if (IntKind.wrap .i64 ((p0.cQ.length:Int)+1))<ab then (IntKind.wrap .i64 ((p0.cQ.length:Int)+1)) else ab)) ?_
 obtain⟨ay,al,j⟩:=bd j
 refine RL.mk (if (IntKind.wrap .i64 ((p0.cQ.length:Int)+1))<ab then (IntKind.wrap .i64 ((p0.cQ.length:Int)+1)) else ab) o JK MM al fun ae w o=>?_
 refine aP ae (RL.ns (mv (vi (if (IntKind.wrap .i64 ((p0.cQ.length:Int)+1))<ab then (IntKind.wrap .i64 ((p0.cQ.length:Int)+1)) else ab)) (RL.gQ (if (IntKind.wrap .i64 ((p0.cQ.length:Int)+1))<ab then (IntKind.wrap .i64 ((p0.cQ.length:Int)+1)) else ab) 1 (aP (vi (IntKind.wrap .i64 ((if (IntKind.wrap .i64 ((p0.cQ.length:Int)+1))<ab then (IntKind.wrap .i64 ((p0.cQ.length:Int)+1)) else ab) - 1))) (RL.ns (aP (vi 0) (RL.nq ?_)))))))
 obtain⟨az,hN,j⟩:=bd j
 refine RC.iter (fun(aa:dY×(List dY)×Int)=>SH E V [(0,(str aa.1)),(1,(str p1)),(2,vi p2),(3,(vi (IntKind.wrap .i64 ((if (IntKind.wrap .i64 ((p0.cQ.length:Int)+1))<ab then (IntKind.wrap .i64 ((p0.cQ.length:Int)+1)) else ab) - 1)))),(9,ae),(10,vi aa.2.2)] [own 9 ae aa.2.1]) (fun(aa:dY×(List dY)×Int)=>SH E V [(0,(str aa.1)),(9,ae),(10,vi aa.2.2)] [own 9 ae aa.2.1]) (fun(r:Empty) _ _=>r.elim) hN ?_ ?_ ?_ ?_
 ·exact o.sp 1 [0]
 ·rintro aa fl _ w ⟨O,rfl,o⟩ j
  refine RC.seq (RC.sr (mv (vi aa.2.2) (mv (vi (IntKind.wrap .i64 ((if (IntKind.wrap .i64 ((p0.cQ.length:Int)+1))<ab then (IntKind.wrap .i64 ((p0.cQ.length:Int)+1)) else ab) - 1))) (ic aa.2.2 ((IntKind.wrap .i64 ((if (IntKind.wrap .i64 ((p0.cQ.length:Int)+1))<ab then (IntKind.wrap .i64 ((p0.cQ.length:Int)+1)) else ab) - 1))) (RL.nt (dW j (fun hc j=>?_) fun hc j=>?_))))))
  rotate_left
  ·refine RC.ex ?_
   obtain rfl:=oi j
   exact⟨rfl,o.sp 1 [0]⟩
  refine RC.sn (RC.bs (mv (str aa.1) (mv (str p1) ?_)))
  obtain⟨ag,ao,j⟩:=bd j
  refine RL.call zt zr H3 [(str aa.1),(str p1)] zr (aC (ry N (p0:=aa.1) (p1:=p1) o ao) ?_)
  rintro _ w ⟨rfl,o⟩
  refine aP (vi ag) (RL.nq (RC.sr (mv (vi ag) (ic ag 0 (RL.nt (dW j (fun hc j=>?_) fun hc j=>?_))))))
  ·refine RC.ex (IA (by decide) ?_)
   obtain rfl:=oi j
   exact⟨rfl,o.sp 1 [0]⟩
  refine RC.sx (mv ae (mv (vi aa.2.2) (mv (str aa.1) (mv (vi ag) (mv (vi p2) (RL.gQ ag p2 ?_))))))
  obtain⟨aq,ar,j⟩:=bd j
  refine RL.vr aa.1 zr zr yR (.inr ⟨rfl,zr⟩) (.inl zr) ar ?_
  obtain⟨a1,ah,j⟩:=bd j
  refine RL.bX 0 o zr zr Cz ah ?_
  have o:=o.sc dY aq
  refine RL.gp (f:=(fun _ y=>y)) 1 0 o (kJ 1 o ah 0) (bE ah).2.1 zr Fs.self yw fun w o=>?_
  refine RL.ns (mv (str aa.1) (mv (vi ag) (mv (str p1) (RL.lens p1 yR (RL.gQ ag (p1.cQ.length:Int) ?_)))))
  obtain⟨au,av,j⟩:=bd j
  refine RL.vr aa.1 zr zr yR (.inl zr) (.inr ⟨rfl,zr⟩) av (aP (str au) (RL.nt (RC.region (mv (vi aa.2.2) (RL.gQ aa.2.2 1 (aP (vi (IntKind.wrap .i64 (aa.2.2+1))) (RL.nil (bQ ?_))))))))
  obtain rfl:=oi j
  exact⟨rfl,o.sp 2 [1]⟩
 ·intro r _ _ _ _
  exact r.elim
 rintro aa _ w rfl ⟨O,rfl,o⟩
 rw [Fo.dQ] at j
 refine aJ (RC.sr (mv ae (mv (vi aa.2.2) (mv (str aa.1) ?_))))
 obtain⟨a2,ai,j⟩:=bd j
 refine RL.bX 0 o zr zr Cz ai ?_
 have o:=o.sc dY aa.1
 refine RL.gp (f:=(fun _ y=>y)) 1 0 o (kJ 1 o ai 0) (bE ai).2.1 zr Fs.self yw fun w o=>?_
 refine RL.ns (mv ae (mv (vi aa.2.2) (RL.gQ aa.2.2 1 ?_)))
 obtain⟨a3,aw,j⟩:=bd j
 refine RL.AY 1 zr o zr zr Cz (.inr ⟨rfl,zr⟩) aw fun ax o=>(aP ax (RL.nt (RC.ret ?_)))
 obtain rfl:=oi j
 exact bM (o.pk 2 [1])
theorem rz {p0 p1:dY} {res: (List dY)} (o:Holds E w V) (j:lH N p0 p1=some res):
    Calls bD 135 [(str p0),(str p1)].toArray w (gm (pS E V res)):=by
 unfold lH at j
 refine enter Tryz.func135 zr zr (RC.sr (aP (.slice none 0 0) (RL.ns (mv (str p0) (mv (str p1) ?_)))))
 obtain⟨ad,aa,j⟩:=bd j
 refine RL.call zt zr JL [(str p0),(str p1),(vi 0),(vi (-1))] zr (aC (uV N (p0:=p0) (p1:=p1) (p2:=0) (p3:=(-1)) o aa) ?_)
 rintro ab w o
 refine aP ab (RL.nt (RC.ret ?_))
 obtain rfl:=oi j
 exact bM (o.pk 1 [0])
def qp (E:World) (V:List HP) (r:Int) (U:Nat->Value) (w:World):Prop:=l6 bD 19 Tryz.f151 (aU E V r) .ret U w
theorem pV {p0: (List dY)} {p1:dY->Option Bool} (j:Holds E w V) (h0:V[i0]? =some (rd v0 p0)) (h1:Ha bD E V v1 p1 (fun(r:Bool)=>Value.bool r)) (o:kL N p0 p1=some res):
    Calls bD 151 [v0,v1].toArray w (gm (aU E V res)):=by
 unfold kL at o
 refine enter Tryz.func151 zr zr ?_
 have j:=j.dup (i0+0) h0
 refine RC.sr (aP (vi 0) (RL.nq (RC.sr (mv v0 (RL.bA 0 p0 j H5 (mv (vi 0) (RL.nt ?_)))))))
 obtain⟨al,hN,o⟩:=bd o
 refine RC.range (fun(aa:Nat) (ab:Unit)=>SH E V [(0,v0),(1,v1),(7,vi p0.length),(8,vi aa)] [rd v0 p0]) (fun(ab:Unit)=>SH E V [] [rd v0 p0]) (qp E V) hN ?_ ?_ ?_ ?_ ?_
 ·exact j.sp 1 [0]
 ·rintro hm ab _ w ⟨O,rfl,j⟩
  refine RC.sr (ic ((p0.length:Int)) ((p0.length:Int)) (RL.nq (RC.eZ r5 (RC.ex ?_))))
  exact⟨rfl,j.sp 1 [0]⟩
 ·rintro hm aa ab fl _ w hk ⟨O,rfl,j⟩ o
  refine RC.sr (ic ((aa:Int)) ((p0.length:Int)) (RL.nq (RC.eY (rZ hk) (RC.ss (RC.bs (mv (vi aa) (aP (vi aa) (RL.ns ?_))))))))
  refine mv v1 (mv v0 (mv (vi aa) ?_))
  obtain⟨af,ah,o⟩:=bd o
  refine RL.bP 0 j Cz ah fun ao j=>(RL.bG af 0 j yw ?_)
  have j:=j.sc dY af
  obtain⟨aq,ai,o⟩:=bd o
  refine RL.AW 0 zr j zr h1 3 zr zr zr ai fun w j=>(RL.nt (dW o (fun hc o=>?_) fun hc o=>?_))
  rotate_left
  ·refine RC.skip (bQ (aJ (RC.region (RL.inc hk hm (mv (vi ((aa+1:Nat):Int)) (RL.nil ?_))))))
   obtain rfl:=oi o
   exact⟨rfl,j.sp 3 [2]⟩
  refine RC.sr (mv (vi aa) (aP (vi aa) (RL.nt (RC.rb (bL ?_)))))
  obtain rfl:=oi o
  exact⟨rfl,bM ⟨rfl,j.drop 3⟩⟩
 ·intro r U w e hK
  subst e
  refine bL ?_
  obtain rfl:=oi o
  exact hK
 rintro ab _ w rfl ⟨O,rfl,j⟩
 rw [Fo.dQ] at o
 refine aJ (RC.sr (aP (vi (-1)) (RL.nt (RC.ret ?_))))
 obtain rfl:=oi o
 exact bM ⟨rfl,j.drop 1⟩
theorem oO {p0: (List dY)} {p1:dY->Option Bool} {res:Bool} (j:Holds E w V) (h0:V[i0]? =some (rd v0 p0)) (h1:Ha bD E V v1 p1 (fun(r:Bool)=>Value.bool r)) (o:iA N p0 p1=some res):
    Calls bD 134 [v0,v1].toArray w (gm (aS E V res)):=by
 unfold iA at o
 refine enter Tryz.func134 zr zr ?_
 have j:=j.dup (i0+0) h0
 refine RC.sr (aP (vb false) (RL.ns (mv v0 (mv v1 ?_))))
 obtain⟨aa,ab,o⟩:=bd o
 refine RL.call zt zr JM [v0,v1] zr (aC (pV N (i0:=0) j zr (h1.lift 1 zr) ab) ?_)
 rintro _ w ⟨rfl,j⟩
 refine ic aa 0 (aP (vb (decide (aa>=0))) (RL.nt (RC.ret ?_)))
 obtain rfl:=oi o
 exact bM ⟨rfl,j.drop 1⟩
theorem oQ {p0:dY} (o:Holds E w V) (j:gz N p0 p1=some res):
    Calls bD 137 [(str p0),(.int .u8 p1)].toArray w (gm (aU E V res)):=by
 unfold gz at j
 refine enter Tryz.func137 zr zr (RC.sr (aP (vi 0) (RL.ns (mv (str p0) (mv (.int .u8 p1) ?_)))))
 obtain⟨aa,ab,j⟩:=bd j
 refine RL.call zt zr H2 [(str p0),(.int .u8 p1)] zr (aC (mY N (p0:=p0) (p1:=p1) o ab) ?_)
 rintro _ w ⟨rfl,o⟩
 refine aP (vi aa) (RL.nt (RC.ret ?_))
 obtain rfl:=oi j
 exact bM ⟨rfl,o.drop 0⟩
def xz (E:World) (V:List HP) (r:Bool) (U:Nat->Value) (w:World):Prop:=l6 bD 49 Tryz.f93 (aS E V r) .ret U w
theorem qE {p0:dY} {res:Bool} (hw:Holds E w V) (o:i7 N p0=some res):
    Calls bD 93 [(str p0)].toArray w (gm (aS E V res)):=by
 unfold i7 at o
 refine enter Tryz.func93 zr zr (RC.sr (aP (vb false) (RL.nq (RC.sr (mv (str p0) (RL.lens p0 yR (mv (vi 0) (RL.nt ?_))))))))
 obtain⟨ar,hN,o⟩:=bd o
 refine RC.range (fun(ab:Nat) (af:Unit)=>SH E V [(0,(str p0)),(6,vi p0.cQ.length),(7,vi ab)] []) (fun(af:Unit)=>SH E V [(0,(str p0))] []) (xz E V) hN ?_ ?_ ?_ ?_ ?_
 ·exact hw.sp 0 []
 ·rintro hm af _ w ⟨O,rfl,hw⟩
  refine RC.sr (ic ((p0.cQ.length:Int)) ((p0.cQ.length:Int)) (RL.nq (RC.eZ r5 (RC.ex ?_))))
  exact⟨rfl,hw.sp 0 []⟩
 ·rintro hm ab af fl _ w hk ⟨O,rfl,hw⟩ o
  refine RC.sr (ic ((ab:Int)) ((p0.cQ.length:Int)) (RL.nq (RC.eY (rZ hk) (RC.ss (RC.bs (mv (vi ab) (aP (vi ab) (RL.ns ?_))))))))
  refine mv (str p0) (mv (vi ab) ?_)
  obtain⟨j,al,o⟩:=bd o
  refine RL.idxs p0 (ab:Int) j zr zr zr yR al (aP (.int .u8 (j.toNat:Int)) (RL.nq ?_))
  obtain⟨ag,hj,o⟩:=bd o
  refine RC.jn (fun(ag:Bool)=>SH E V [(0,(str p0)),(6,vi p0.cQ.length),(7,vi ab),(39,vb ag)] []) ag ?_ ?_
  ·refine RC.region (mv (.int .u8 (j.toNat:Int)) (ic ((j.toNat:Int)) 65 (mv (vb (decide ((j.toNat:Int)<65))) (RL.gs true (decide ((j.toNat:Int)<65)) (.int .u8 (j.toNat:Int)) rfl rfl rfl cE (RL.gs true (decide ((j.toNat:Int)<65)) (vb (decide ((j.toNat:Int)>90))) rfl rfl rfl (dK .gtr .u8 (j.toNat:Int) 90 rfl (fun h=>by exact(cG h:cv (true&&((decide ((j.toNat:Int)<65))==false)) (.int .u8 (j.toNat:Int))= (.int .u8 (j.toNat:Int)))) (fun _=>rfl) rfl) (RL.pick (decide ((j.toNat:Int)<65)) (vb ((decide ((j.toNat:Int)<65))||(decide ((j.toNat:Int)>90)))) (nz true) (mv (vb ((decide ((j.toNat:Int)<65))||(decide ((j.toNat:Int)>90)))) (RL.gs true ((decide ((j.toNat:Int)<65))||(decide ((j.toNat:Int)>90))) (.int .u8 (j.toNat:Int)) rfl rfl rfl cE ?_))))))))
   refine RL.gs true ((decide ((j.toNat:Int)<65))||(decide ((j.toNat:Int)>90))) (vb (decide ((j.toNat:Int)<97))) rfl rfl rfl (dK .lss .u8 (j.toNat:Int) 97 rfl (fun h=>by exact(cG h:cv (true&&(((decide ((j.toNat:Int)<65))||(decide ((j.toNat:Int)>90)))==true)) (.int .u8 (j.toNat:Int))= (.int .u8 (j.toNat:Int)))) (fun _=>rfl) rfl) (RL.gs true ((decide ((j.toNat:Int)<65))||(decide ((j.toNat:Int)>90))) (vb (decide ((j.toNat:Int)<97))) rfl rfl rfl (cE (hx:=fun h=>by exact(cG h:cv (true&&(((decide ((j.toNat:Int)<65))||(decide ((j.toNat:Int)>90)))==true)) (vb (decide ((j.toNat:Int)<97)))= (vb (decide ((j.toNat:Int)<97)))))) (RL.gs (true&&(((decide ((j.toNat:Int)<65))||(decide ((j.toNat:Int)>90)))==true)) (decide ((j.toNat:Int)<97)) (.int .u8 (j.toNat:Int)) rfl rfl rfl cE (RL.gs (true&&(((decide ((j.toNat:Int)<65))||(decide ((j.toNat:Int)>90)))==true)) (decide ((j.toNat:Int)<97)) (vb (decide ((j.toNat:Int)>122))) rfl rfl rfl (dK .gtr .u8 (j.toNat:Int) 122 rfl (fun h=>by exact(cG h:cv ((true&&(((decide ((j.toNat:Int)<65))||(decide ((j.toNat:Int)>90)))==true))&&((decide ((j.toNat:Int)<97))==false)) (.int .u8 (j.toNat:Int))= (.int .u8 (j.toNat:Int)))) (fun _=>rfl) rfl) (RL.gs true ((decide ((j.toNat:Int)<65))||(decide ((j.toNat:Int)>90))) (vb ((decide ((j.toNat:Int)<97))||(decide ((j.toNat:Int)>122)))) rfl rfl rfl (kF (decide ((j.toNat:Int)<97)) rfl (fun h=>by exact(cG h:cv (true&&(((decide ((j.toNat:Int)<65))||(decide ((j.toNat:Int)>90)))==true)) (vb (decide ((j.toNat:Int)<97)))= (vb (decide ((j.toNat:Int)<97))))) (fun h=>by exact nz (h:=h) (true&&(((decide ((j.toNat:Int)<65))||(decide ((j.toNat:Int)>90)))==true)))) (RL.pick ((decide ((j.toNat:Int)<65))||(decide ((j.toNat:Int)>90))) (vb (((decide ((j.toNat:Int)<65))||(decide ((j.toNat:Int)>90)))&&((decide ((j.toNat:Int)<97))||(decide ((j.toNat:Int)>122))))) (gr true) (mv (vb (((decide ((j.toNat:Int)<65))||(decide ((j.toNat:Int)>90)))&&((decide ((j.toNat:Int)<97))||(decide ((j.toNat:Int)>122))))) (RL.gs true (((decide ((j.toNat:Int)<65))||(decide ((j.toNat:Int)>90)))&&((decide ((j.toNat:Int)<97))||(decide ((j.toNat:Int)>122)))) (.int .u8 (j.toNat:Int)) rfl rfl rfl cE (RL.gs true (((decide ((j.toNat:Int)<65))||(decide ((j.toNat:Int)>90)))&&((decide ((j.toNat:Int)<97))||(decide ((j.toNat:Int)>122)))) (vb (decide ((j.toNat:Int)<48))) rfl rfl rfl (dK .lss .u8 (j.toNat:Int) 48 rfl (fun h=>by exact(cG h:cv (true&&((((decide ((j.toNat:Int)<65))||(decide ((j.toNat:Int)>90)))&&((decide ((j.toNat:Int)<97))||(decide ((j.toNat:Int)>122))))==true)) (.int .u8 (j.toNat:Int))= (.int .u8 (j.toNat:Int)))) (fun _=>rfl) rfl) ?_))))))))
   refine RL.gs true (((decide ((j.toNat:Int)<65))||(decide ((j.toNat:Int)>90)))&&((decide ((j.toNat:Int)<97))||(decide ((j.toNat:Int)>122)))) (vb (decide ((j.toNat:Int)<48))) rfl rfl rfl (cE (hx:=fun h=>by exact(cG h:cv (true&&((((decide ((j.toNat:Int)<65))||(decide ((j.toNat:Int)>90)))&&((decide ((j.toNat:Int)<97))||(decide ((j.toNat:Int)>122))))==true)) (vb (decide ((j.toNat:Int)<48)))= (vb (decide ((j.toNat:Int)<48)))))) (RL.gs (true&&((((decide ((j.toNat:Int)<65))||(decide ((j.toNat:Int)>90)))&&((decide ((j.toNat:Int)<97))||(decide ((j.toNat:Int)>122))))==true)) (decide ((j.toNat:Int)<48)) (.int .u8 (j.toNat:Int)) rfl rfl rfl cE (RL.gs (true&&((((decide ((j.toNat:Int)<65))||(decide ((j.toNat:Int)>90)))&&((decide ((j.toNat:Int)<97))||(decide ((j.toNat:Int)>122))))==true)) (decide ((j.toNat:Int)<48)) (vb (decide ((j.toNat:Int)>57))) rfl rfl rfl (dK .gtr .u8 (j.toNat:Int) 57 rfl (fun h=>by exact(cG h:cv ((true&&((((decide ((j.toNat:Int)<65))||(decide ((j.toNat:Int)>90)))&&((decide ((j.toNat:Int)<97))||(decide ((j.toNat:Int)>122))))==true))&&((decide ((j.toNat:Int)<48))==false)) (.int .u8 (j.toNat:Int))= (.int .u8 (j.toNat:Int)))) (fun _=>rfl) rfl) (RL.gs true (((decide ((j.toNat:Int)<65))||(decide ((j.toNat:Int)>90)))&&((decide ((j.toNat:Int)<97))||(decide ((j.toNat:Int)>122)))) (vb ((decide ((j.toNat:Int)<48))||(decide ((j.toNat:Int)>57)))) rfl rfl rfl (kF (decide ((j.toNat:Int)<48)) rfl (fun h=>by exact(cG h:cv (true&&((((decide ((j.toNat:Int)<65))||(decide ((j.toNat:Int)>90)))&&((decide ((j.toNat:Int)<97))||(decide ((j.toNat:Int)>122))))==true)) (vb (decide ((j.toNat:Int)<48)))= (vb (decide ((j.toNat:Int)<48))))) (fun h=>by exact nz (h:=h) (true&&((((decide ((j.toNat:Int)<65))||(decide ((j.toNat:Int)>90)))&&((decide ((j.toNat:Int)<97))||(decide ((j.toNat:Int)>122))))==true)))) (RL.pick (((decide ((j.toNat:Int)<65))||(decide ((j.toNat:Int)>90)))&&((decide ((j.toNat:Int)<97))||(decide ((j.toNat:Int)>122)))) (vb ((((decide ((j.toNat:Int)<65))||(decide ((j.toNat:Int)>90)))&&((decide ((j.toNat:Int)<97))||(decide ((j.toNat:Int)>122))))&&((decide ((j.toNat:Int)<48))||(decide ((j.toNat:Int)>57))))) (gr true) (mv (vb ((((decide ((j.toNat:Int)<65))||(decide ((j.toNat:Int)>90)))&&((decide ((j.toNat:Int)<97))||(decide ((j.toNat:Int)>122))))&&((decide ((j.toNat:Int)<48))||(decide ((j.toNat:Int)>57))))) (gu hj (fun ad hj=>?_) fun ad hj=>?_))))))
   rotate_left
   ·refine bN ad (bN ad (bN ad (gD ad (vb false) (RL.nil ?_))))
    obtain rfl:=oi hj
    exact⟨rfl,hw.sp 0 []⟩
   refine RL.move (.int .u8 (j.toNat:Int)) (cg ad) ?_
   obtain⟨aj,an,hj⟩:=bd hj
   refine RL.call (cg ad) zr H6 [(str ⟨[95,43,45,35]⟩),(.int .u8 (j.toNat:Int))] zr (aC (oQ N (p0:=⟨[95,43,45,35]⟩) (p1:=(j.toNat:Int)) hw an) ?_)
   rintro _ w ⟨rfl,hw⟩
   refine RL.lA aj 0 (cg ad) (gD ad (vb (decide (aj<0))) (RL.nil ?_))
   obtain rfl:=oi hj
   exact⟨rfl,hw.sp 0 []⟩
  rintro _ w ⟨O,rfl,hw⟩
  refine aJ (dW o (fun hc o=>?_) fun hc o=>?_)
  rotate_left
  ·refine RC.skip (bQ (aJ (RC.region (RL.inc hk hm (mv (vi ((ab+1:Nat):Int)) (RL.nil ?_))))))
   obtain rfl:=oi o
   exact⟨rfl,hw.sp 0 []⟩
  refine RC.sr (aP (vb false) (RL.nt (RC.rb (bL ?_))))
  obtain rfl:=oi o
  exact⟨rfl,bM ⟨rfl,hw.drop 0⟩⟩
 ·intro r U w e hK
  subst e
  refine bL ?_
  obtain rfl:=oi o
  exact hK
 rintro af _ w rfl ⟨O,rfl,hw⟩
 rw [Fo.dQ] at o
 refine aJ (RC.sr (mv (str p0) (RL.lens p0 yR (ic ((p0.cQ.length:Int)) 1 (mv (vb (decide ((p0.cQ.length:Int)>=1))) (RL.gs true (decide ((p0.cQ.length:Int)>=1)) (str p0) rfl rfl rfl cE (RL.gs true (decide ((p0.cQ.length:Int)>=1)) (vi p0.cQ.length) rfl rfl rfl (Hj (s:=p0) rfl (fun h=>by exact(cG h:cv (true&&((decide ((p0.cQ.length:Int)>=1))==true)) (str p0)= (str p0))) yR) (RL.gs true (decide ((p0.cQ.length:Int)>=1)) (vb (decide ((p0.cQ.length:Int)<=40))) rfl rfl rfl (dK .leq .i64 (p0.cQ.length:Int) 40 rfl (fun h=>by exact(cG h:cv (true&&((decide ((p0.cQ.length:Int)>=1))==true)) (vi p0.cQ.length)= (vi p0.cQ.length))) (fun _=>rfl) rfl) ?_))))))))
 refine RL.pick (decide ((p0.cQ.length:Int)>=1)) (vb ((decide ((p0.cQ.length:Int)>=1))&&(decide ((p0.cQ.length:Int)<=40)))) (gr true) (aP (vb ((decide ((p0.cQ.length:Int)>=1))&&(decide ((p0.cQ.length:Int)<=40)))) (RL.nt (RC.ret ?_)))
 obtain rfl:=oi o
 exact bM ⟨rfl,hw.drop 0⟩
theorem tK {p0:dY} {res:Bool} (o:Holds E w V) (j:iB N p0=some res):
    Calls bD 136 [(str p0)].toArray w (gm (aS E V res)):=by
 unfold iB at j
 refine enter Tryz.func136 zr zr (RC.sr (aP (vb false) (RL.ns (mv (str p0) ?_))))
 obtain⟨aa,ab,j⟩:=bd j
 refine RL.call zt zr JN [(str p0)] zr (aC (qE N (p0:=p0) o ab) ?_)
 rintro _ w ⟨rfl,o⟩
 refine RL.not aa (aP (vb (!aa)) (RL.nt (RC.ret ?_)))
 obtain rfl:=oi j
 exact bM ⟨rfl,o.drop 0⟩
theorem wE {p0:dY} {res:Bool} (j:Holds E w V) (hb:ma N p0=some res):
    Calls bD 92 [(str p0)].toArray w (gm (aS E V res)):=by
 unfold ma at hb
 refine enter Tryz.func92 zr zr (RC.sr (aP (vb false) (RL.nq ?_)))
 obtain⟨ad,hj,hb⟩:=bd hb
 refine RC.jn (fun(ad:Bool)=>SH E V [(2,vb ad)] []) ad ?_ ?_
 ·refine RC.region (mv (str p0) (RL.lens p0 yR (ic ((p0.cQ.length:Int)) 200 (mv (vb (decide ((p0.cQ.length:Int)<=200))) (gu hj (fun o hj=>?_) fun o hj=>?_)))))
  rotate_left
  ·refine bN o (bN o (bN o (bN o (gD o (vb false) (aP (vb false) (RL.nil ?_))))))
   obtain rfl:=oi hj
   exact⟨rfl,j.sp 0 []⟩
  refine RL.move (str p0) (cg o) ?_
  obtain⟨ai,af,hj⟩:=bd hj
  refine RL.call (cg o) zr H4 [(str p0),(str ⟨[47]⟩)] zr (aC (rz N (p0:=p0) (p1:=⟨[47]⟩) j af) ?_)
  rintro ag w j
  have j:=j.freeze 0
  obtain⟨ae,ah,hj⟩:=bd hj
  refine RL.call (cg o) rfl JP [ag,(.func (.func 136) #[] #[])] rfl (aC (oO N (i0:=0) j rfl ⟨136,[],rfl,JO,fun w Γl v y0 r i j hi hr=>by obtain rfl:=j.zU (γ:=dY) hi;exact aC (tK N (p0:=y0) j hr) fun _ _ h=>h⟩ ah) ?_)
  rintro _ w ⟨rfl,j⟩
  refine RL.not (hg:=(cg o)) ae (gD o (vb (!ae)) (aP (vb (!ae)) (RL.nil ?_)))
  obtain rfl:=oi hj
  exact⟨rfl,j.sp 1 []⟩
 rintro _ w ⟨O,rfl,j⟩
 refine aJ (RC.ret ?_)
 obtain rfl:=oi hb
 exact bM ⟨rfl,j.drop 0⟩
def yW (E:World) (V:List HP) (res:ik) (v:Value) (w:World):Prop:=Holds E w ([rd v res]++V)
theorem o7 {p0:cU} {res:ik} (j:Holds E w V) (h0:V[i0]? =some (rd v0 p0)) (o:mH N p0=some res):
    Calls bD 95 [v0].toArray w (gm (yW E V res)):=by
 unfold mH at o
 refine enter Tryz.func95 zr zr ?_
 have j:=j.dup (i0+0) h0
 refine RC.sr (RL.dA 0 v0 j zr fun aa w j=>?_)
 refine RL.alloc j H7.z fun ab w j=>?_
 refine RL.ns (RL.aX zr vx (RL.aL 1 j zr oy yw (RL.aX zr yS (RL.aL 1 j zr rj yw ?_))))
 have j:=(j.sc dY p0.Part).sc dY p0.ik
 refine RL.build (⟨p0.Part,p0.ik⟩:ik) trivial rfl j [(0,(str p0.Part)),(1,(str p0.ik))] rfl JQ rfl (fun M hs g=>by have h:=Jy M;exact dB.cons (f:=fun(x:ik) y=>{x with Part:=y}) h Gc (g.sat 1 _ rfl).1 fun _ h=>dB.cons (f:=fun(x:ik) y=>{x with ik:=y}) h Gd (g.sat 0 _ rfl).1 fun _ h=>dB.nil h) fun ad j=>?_
 refine RL.aY 3 j 0 zr H8 fun w j=>?_
 refine RL.nt (RC.ret ?_)
 obtain rfl:=oi o
 exact Hm 3 zr j zr zr H8 fun ae j=>(j.pk 7 [0])
theorem qT {p0 p1:dY} (o:Holds E w V) (j:lO N p0 p1=some res):
    Calls bD 154 [(str p0),(str p1)].toArray w (gm (aU E V res)):=by
 unfold lO at j
 refine enter Tryz.func154 zr zr (RC.sr (aP (vi 0) (RL.ns (mv (str p0) (mv (str p1) (RL.yG (vi (Lib.compareBytes p0.cQ p1.cQ)) zr [(str p0),(str p1)] zr (LL p0 p1 w) (aP (vi (Lib.compareBytes p0.cQ p1.cQ)) (RL.nt ?_))))))))
 refine RC.ret ?_
 obtain rfl:=oi j
 exact bM ⟨rfl,o.drop 0⟩
theorem pW {p0 p1:dY} (o:Holds E w V) (j:ng N p0 p1=some res):
    Calls bD 138 [(str p0),(str p1)].toArray w (gm (aU E V res)):=by
 unfold ng at j
 refine enter Tryz.func138 zr zr (RC.sr (aP (vi 0) (RL.ns (mv (str p0) (mv (str p1) ?_)))))
 obtain⟨aa,ab,j⟩:=bd j
 refine RL.call zt zr JR [(str p0),(str p1)] zr (aC (qT N (p0:=p0) (p1:=p1) o ab) ?_)
 rintro _ w ⟨rfl,o⟩
 refine aP (vi aa) (RL.nt (RC.ret ?_))
 obtain rfl:=oi j
 exact bM ⟨rfl,o.drop 0⟩
theorem sB {p0 p1:ik} (j:Holds E w V) (h0:V[i0]? =some (rd v0 p0)) (h1:V[i1]? =some (rd v1 p1)) (o:jq N p0 p1=some res):
    Calls bD 94 [v0,v1].toArray w (gm (aU E V res)):=by
 unfold jq at o
 refine enter Tryz.func94 zr zr ?_
 have j:=(j.dup (i0+0) h0).dup (i1+1) h1
 refine RC.sr (RL.dA 1 v0 j zr fun ag w j=>?_)
 refine RL.dA 1 v1 j zr fun ah w j=>?_
 refine aP (vi 0) (RL.nq (RC.sr (RL.aX zr El (RL.aL 1 j zr Cs yw (RL.aX zr El (RL.aL 0 j zr Cs yw ?_))))))
 obtain⟨aa,ab,o⟩:=bd o
 refine RL.call zt zr H9 [(str p0.Part),(str p1.Part)] zr (aC (pW N (p0:=p0.Part) (p1:=p1.Part) j ab) ?_)
 rintro _ w ⟨rfl,j⟩
 refine aP (vi aa) (RL.ns (mv (vi aa) (ic aa 0 (RL.nt (dW o (fun hc o=>?_) fun hc o=>?_)))))
 ·refine RC.sr (mv (vi aa) (aP (vi aa) (RL.nt (RC.rt ?_))))
  obtain rfl:=oi o
  exact bM ⟨rfl,j.drop 4⟩
 refine RC.sx (RL.aX zr Em (RL.aL 1 j zr Ct yw (RL.aX zr Em (RL.aL 0 j zr Ct yw ?_))))
 obtain⟨ae,af,o⟩:=bd o
 refine RL.call zt zr H9 [(str p0.ik),(str p1.ik)] zr (aC (pW N (p0:=p0.ik) (p1:=p1.ik) j af) ?_)
 rintro _ w ⟨rfl,j⟩
 refine aP (vi ae) (RL.nt (RC.ret ?_))
 obtain rfl:=oi o
 exact bM ⟨rfl,j.drop 4⟩
def uW (E:World) (V:List HP) (r:Int) (U:Nat->Value) (w:World):Prop:=l6 bD 60 Tryz.f69 (aU E V r) .ret U w
theorem tL {p0:fu} (j:Holds E w V) (h0:V[i0]? =some (rd v0 p0)) (hb:ke N p0=some res):
    Calls bD 69 [v0].toArray w (gm (aU E V res)):=by
 unfold ke at hb
 refine enter Tryz.func69 zr zr ?_
 have j:=j.dup (i0+0) h0
 refine RC.sr (RL.dA 0 v0 j zr fun ag w j=>?_)
 have j:=j.mC (i:=0) rfl
 refine aP (vi 0) (RL.nq (RC.sr (RL.eT 0 j zr o6 lC fun bk j=>(RL.bF 0 p0.bI j yl fun bl j=>(RL.bA 0 p0.bI j Be (ic ((p0.bI.length:Int)) 1000 (RL.nt (dW hb (fun hc hb=>?_) fun hc hb=>?_))))))))
 ·refine RC.sr (aP (vi 2) (RL.nt (RC.rt ?_)))
  obtain rfl:=oi hb
  exact bM ⟨rfl,j.drop 4⟩
 refine RC.ss (RC.sr (RL.eT 2 j zr o6 lC fun bm j=>(RL.bF 0 p0.bI j yl fun ah j=>(RL.bA 0 p0.bI j Be (mv (vi 0) (RL.nt ?_))))))
 obtain⟨bn,hN,hb⟩:=bd hb
 refine RC.range (fun(ad:Nat) (ak:Unit)=>SH E V [(1,vp ag 0),(10,ah),(11,vi p0.bI.length),(12,vi ad)] [pt (vp ag 0) p0,rd ah p0.bI]) (fun(ak:Unit)=>SH E V [] [pt (vp ag 0) p0,rd ah p0.bI]) (uW E V) hN ?_ ?_ ?_ ?_ ?_
 ·exact j.sp 6 [4,0]
 ·rintro hm ak _ w ⟨O,rfl,j⟩
  refine RC.sr (ic ((p0.bI.length:Int)) ((p0.bI.length:Int)) (RL.nq (RC.eZ r5 (RC.ex ?_))))
  exact⟨rfl,j.sp 2 [0,1]⟩
 ·rintro hm ad ak fl _ w hk ⟨O,rfl,j⟩ hb
  refine RC.sr (ic ((ad:Int)) ((p0.bI.length:Int)) (RL.nq (RC.eY (rZ hk) (RC.ss (RC.bs (mv (vi ad) ?_))))))
  obtain⟨ai,a1,hb⟩:=bd hb
  refine RL.bP 1 j Cy a1 fun bp j=>(RL.bF 0 ai j wv fun bq j=>(RL.alloc j Gl.z fun al w j=>?_))
  refine aP (vi ad) (RL.aY 0 j 1 zr wv fun w j=>?_)
  refine RL.nt (RC.block (RC.seq ?_))
  obtain⟨an,o,hb⟩:=bd hb
  refine RC.jn (fun(an:Bool)=>SH E V [(1,vp ag 0),(3,vi ad),(4,vp al 0),(10,ah),(11,vi p0.bI.length),(12,vi ad),(17,vb an)] [pt (vp ag 0) p0,bx 49 al ai,rd ah p0.bI]) an ?_ ?_
  ·refine RC.region (RL.aX zr vx (RL.aL 0 j zr oy yw ?_))
   obtain⟨ay,a2,o⟩:=bd o
   refine RL.call zt zr LK [(str ai.Part)] zr (aC (wE N (p0:=ai.Part) j a2) ?_)
   rintro _ w ⟨rfl,j⟩
   refine RL.not ay (mv (vb (!ay)) (gu o (fun ae o=>?_) fun ae o=>?_))
   ·refine bN ae (bN ae (bN ae (bN ae (gD ae (vb true) (aP (vb true) (RL.nil ?_))))))
    obtain rfl:=oi o
    exact⟨rfl,j.sp 5 [3,0,4]⟩
   refine RL.aX (hg:=(cg ae)) zr yS (RL.aL (hg:=(cg ae)) 0 j zr rj yw ?_)
   obtain⟨ao,a3,o⟩:=bd o
   refine RL.call (cg ae) zr JN [(str ai.ik)] zr (aC (qE N (p0:=ai.ik) j a3) ?_)
   rintro _ w ⟨rfl,j⟩
   refine RL.not (hg:=(cg ae)) ao (gD ae (vb (!ao)) (aP (vb (!ao)) (RL.nil ?_)))
   obtain rfl:=oi o
   exact⟨rfl,j.sp 5 [3,0,4]⟩
  rintro _ w ⟨O,rfl,j⟩
  refine aJ (dW hb (fun hc hb=>?_) fun hc hb=>?_)
  ·refine RC.sr (aP (vi 5) (RL.nt (RC.rb (nS (bL ?_)))))
   obtain rfl:=oi hb
   exact⟨rfl,bM ⟨rfl,j.drop 3⟩⟩
  refine RC.seq ?_
  obtain⟨aq,o,hb⟩:=bd hb
  refine RC.jn (fun(aq:Bool)=>SH E V [(1,vp ag 0),(3,vi ad),(4,vp al 0),(10,ah),(11,vi p0.bI.length),(12,vi ad),(28,vb aq)] [pt (vp ag 0) p0,bx 49 al ai,rd ah p0.bI]) aq ?_ ?_
  ·refine RC.region (RL.aX zr Bf (RL.aL 1 j zr uk cF (RL.eT 0 j zr fB dX fun br j=>(RL.bF 0 p0.aI j lk fun bt j=>(RL.bA 0 p0.aI j oN (RL.gQ (p0.aI.length:Int) 1 ?_))))))
   obtain⟨az,a4,o⟩:=bd o
   refine RL.call zt zr E8 [(vi ai.eU),(vi 0),(vi (IntKind.wrap .i64 ((p0.aI.length:Int) - 1)))] zr (aC (jD N (p0:=ai.eU) (p1:=0) (p2:=(IntKind.wrap .i64 ((p0.aI.length:Int) - 1))) j a4) ?_)
   rintro _ w ⟨rfl,j⟩
   refine RL.not az (mv (vb (!az)) (gu o (fun af o=>?_) fun af o=>?_))
   ·refine bN af (bN af (bN af (bN af (gD af (vb true) (aP (vb true) (RL.nil ?_))))))
    obtain rfl:=oi o
    exact⟨rfl,j.sp 5 [2,3,4]⟩
   refine RL.aX (hg:=(cg af)) zr Bg (RL.aV (hg:=(cg af)) 3 j zr um zZ fun a5 j=>?_)
   obtain⟨ar,a6,o⟩:=bd o
   refine RL.call (cg af) zr JG [a5] zr (aC (rq N (i0:=0) j zr a6) ?_)
   rintro _ w ⟨rfl,j⟩
   refine RL.not (hg:=(cg af)) ar (gD af (vb (!ar)) (aP (vb (!ar)) (RL.nil ?_)))
   obtain rfl:=oi o
   exact⟨rfl,j.sp 6 [3,4,5]⟩
  rintro _ w ⟨O,rfl,j⟩
  refine aJ (dW hb (fun hc hb=>?_) fun hc hb=>?_)
  ·refine RC.sr (aP (vi 1) (RL.nt (RC.rb (nS (bL ?_)))))
   obtain rfl:=oi hb
   exact⟨rfl,bM ⟨rfl,j.drop 3⟩⟩
  refine RC.seq ?_
  obtain⟨au,o,hb⟩:=bd hb
  refine RC.jn (fun(au:Bool)=>SH E V [(1,vp ag 0),(10,ah),(11,vi p0.bI.length),(12,vi ad),(43,vb au)] [pt (vp ag 0) p0,rd ah p0.bI]) au ?_ ?_
  ·refine RC.xq mixed [0,0,0,0,2,1,1,1,1,1,1,2,2,0,0,0] [0,1,2,3,5,6,7,8,9,10,4,11,12,13,14,15] ?_
   have j:=j.drew
   refine DP.e0 zr (mv (vi ad) (bW zr (ic ((ad:Int)) 0 (bW zr (mv (vb (decide ((ad:Int)>0))) (DP.d0 (gu o (fun ab o=>?_) fun ab o=>?_)))))))
   rotate_left
   ·refine DP.e0 zr (bN ab (DP.d0 (DP.e1 undef zr (fun w=>bN ab DP.d1) (DP.e1 undef zr (fun w=>bN ab DP.d1) (DP.e1 undef zr (fun w=>bN ab DP.d1) (DP.e1 undef zr (fun w=>bN ab DP.d1) (DP.e1 undef zr (fun w=>bN ab DP.d1) (DP.e1 undef zr (fun w=>bN ab DP.d1) ?_))))))))
    refine DP.e2 zr (bN ab (Hf zr (bN ab (Hf zr (bN ab (yv zr (bN ab (bW zr ?_))))))))
    refine gD ab (vb false) (bW zr (aP (vb false) (DP.d0 (DP.z ?_))))
    obtain rfl:=oi o
    exact⟨rfl,j.sp 3 [0,2]⟩
   refine DP.e0 zr (RL.aV (hg:=(cg ab)) (f:=(fun x=>x)) 1 j zr Fd.self wv fun a7 j=>(DP.d0 (DP.Cr 1 zr (cg ab) j zr o6 lC fun bu j=>(DP.yN p0.bI 0 zr (cg ab) j yl fun bw a378 bz j=>(DP.e1 (vi ad) zr (fun w=>RL.move (vi ad) (cg ab) DP.d1) (DP.e1 (vi (IntKind.wrap .i64 ((ad:Int) - 1))) zr (fun w=>RL.gQ (hg:=(cg ab)) (ad:Int) 1 DP.d1) ?_))))))
   obtain⟨a8,a9,o⟩:=bd o
   refine DP.vv (hg:=(cg ab)) 1 zr j Cy a9 fun b0 j=>(DP.yN a8 0 zr (cg ab) j wv fun ba a383 b1 j=>(DP.e2 zr ?_))
   obtain⟨b2,bb,o⟩:=bd o
   refine RL.call (cg ab) zr IU [a7] zr (aC (o7 N (i0:=6) j zr bb) ?_)
   rintro bc w j
   refine DP.d2 (⟨⟨zt,j.iu 4⟩,j.iu 1⟩) (DP.e2 zr ?_)
   obtain⟨b3,bf,o⟩:=bd o
   refine RL.call (cg ab) zr IU [ba] zr (aC (o7 N (i0:=2) j zr bf) ?_)
   rintro bg w j
   refine DP.d2 (⟨⟨zt,j.iu 5⟩,j.iu 2⟩) (DP.e2 zr ?_)
   obtain⟨av,bh,o⟩:=bd o
   refine RL.call (cg ab) zr LM [bc,bg] zr (aC (sB N (i0:=1) (i1:=0) j zr zr bh) ?_)
   rintro _ w ⟨rfl,j⟩
   refine DP.d2 (⟨⟨zt,j.iu 5⟩,j.iu 2⟩) (DP.e0 zr (RL.lA av 0 (cg ab) (bW zr (gD ab (vb (decide (av<=0))) (bW zr (aP (vb (decide (av<=0))) (DP.d0 ?_)))))))
   have j:=j.pl 12 [0,1,3,4,6,7,8,9,10,11]
   refine DP.z ?_
   obtain rfl:=oi o
   exact⟨rfl,j.sp 10 [7,9]⟩
  rintro _ w ⟨O,rfl,j⟩
  refine aJ (dW hb (fun hc hb=>?_) fun hc hb=>?_)
  rotate_left
  ·refine RC.skip (bQ (bQ (aJ (RC.region (RL.inc hk hm (mv (vi ((ad+1:Nat):Int)) (RL.nil ?_)))))))
   obtain rfl:=oi hb
   exact⟨rfl,j.sp 2 [0,1]⟩
  refine RC.sr (aP (vi 8) (RL.nt (RC.rb (nS (bL ?_)))))
  obtain rfl:=oi hb
  exact⟨rfl,bM ⟨rfl,j.drop 2⟩⟩
 ·intro r U w e hK
  subst e
  refine bL ?_
  obtain rfl:=oi hb
  exact hK
 rintro ak _ w rfl ⟨O,rfl,j⟩
 rw [Fo.dQ] at hb
 refine aJ (RC.sr (aP (vi 0) (RL.nt (RC.ret ?_))))
 obtain rfl:=oi hb
 exact bM ⟨rfl,j.drop 2⟩
theorem rA (o:Holds E w V) (j:lI N p0 p1 p2 p3=some res):
    Calls bD 96 [(vi p0),(vi p1),(vi p2),(vi p3)].toArray w (gm (aU E V res)):=by
 unfold lI at j
 refine enter Tryz.func96 zr zr (RC.sr (aP (vi 0) (RL.ns (mv (vi p2) (mv (vi p1) (RL.gQ p2 p1 (RL.gQ (IntKind.wrap .i64 (p2 - p1)) 1 (mv (vi p0) ?_))))))))
 refine mv (vi p3) (RL.gQ p0 p3 (RL.gQ (IntKind.wrap .i64 (p0 - p3)) 1 (RL.Lm (a:=0) (b:=(IntKind.wrap .i64 ((IntKind.wrap .i64 (p2 - p1))+1))) (c:=(IntKind.wrap .i64 ((IntKind.wrap .i64 (p0 - p3))+1))) zt zr zr zr zr (aP (vi (if (if 0< (IntKind.wrap .i64 ((IntKind.wrap .i64 (p2 - p1))+1)) then (IntKind.wrap .i64 ((IntKind.wrap .i64 (p2 - p1))+1)) else 0)< (IntKind.wrap .i64 ((IntKind.wrap .i64 (p0 - p3))+1)) then (IntKind.wrap .i64 ((IntKind.wrap .i64 (p0 - p3))+1)) else (if 0< (IntKind.wrap .i64 ((IntKind.wrap .i64 (p2 - p1))+1)) then (IntKind.wrap .i64 ((IntKind.wrap .i64 (p2 - p1))+1)) else 0))) (RL.nt (RC.ret ?_))))))
 obtain rfl:=oi j
 exact bM ⟨rfl,o.drop 0⟩
theorem Bp {p0 p1:aG} (j:Holds E w V) (h0:V[i0]? =some (rd v0 p0)) (h1:V[i1]? =some (rd v1 p1)) (o:re N p0 p1=some res):
    Calls bD 70 [v0,v1].toArray w (gm (aU E V res)):=by
 unfold re at o
 refine enter Tryz.func70 zr zr ?_
 have j:=(j.dup (i0+0) h0).dup (i1+1) h1
 refine RC.sr (RL.dA 1 v0 j zr fun aa w j=>?_)
 refine RL.dA 1 v1 j zr fun ab w j=>?_
 refine aP (vi 0) (RL.nq ?_)
 have j:=j.drew
 refine RC.Dw (fun w=>Holds E w ([bx 51 ab p1,bx 51 aa p0]++V)) mixed zr [0,0,0,0,0,0,0,0,2,1,1,1,1,1,1,1,1,2,0,0] [0,1,2,3,4,5,6,7,9,10,11,12,13,14,15,16,8,17,18,19] (j.pk 4 [0,1]) (DP.e0 zr (RL.aX zr iD (bW zr (RL.aL 1 j zr dM cF (bW zr (RL.aX zr jl (bW zr (RL.aL 1 j zr eG cF ?_))))))))
 refine bW zr (RL.aX zr iD (bW zr (RL.aL 0 j zr dM cF (bW zr (RL.aX zr jl (bW zr (RL.aL 0 j zr eG cF (DP.d0 ?_))))))))
 refine DP.e1 (vp aa 1) zr (fun w=>RL.aX zr il DP.d1) (DP.He (vi p0.Y0) zr (fun w j=>RL.aL 1 j zr dG cF DP.d1) (DP.e1 (vp aa 3) zr (fun w=>RL.aX zr kT DP.d1) (DP.He (vi p0.Y1) zr (fun w j=>RL.aL 1 j zr fV cF DP.d1) (DP.e1 (vp ab 1) zr (fun w=>RL.aX zr il DP.d1) (DP.He (vi p1.Y0) zr (fun w j=>RL.aL 0 j zr dG cF DP.d1) (DP.e1 (vp ab 3) zr (fun w=>RL.aX zr kT DP.d1) (DP.He (vi p1.Y1) zr (fun w j=>RL.aL 0 j zr fV cF DP.d1) (DP.e2 zr ?_))))))))
 obtain⟨ad,af,o⟩:=bd o
 refine RL.call zt zr JS [(vi p0.X0),(vi p0.X1),(vi p1.X0),(vi p1.X1)] zr (aC (rA N (p0:=p0.X0) (p1:=p0.X1) (p2:=p1.X0) (p3:=p1.X1) j af) ?_)
 rintro _ w ⟨rfl,j⟩
 refine DP.d2 (j.pk 4 [0,1]) (DP.e2 zr ?_)
 obtain⟨ae,ag,o⟩:=bd o
 refine RL.call zt zr JS [(vi p0.Y0),(vi p0.Y1),(vi p1.Y0),(vi p1.Y1)] zr (aC (rA N (p0:=p0.Y0) (p1:=p0.Y1) (p2:=p1.Y0) (p3:=p1.Y1) j ag) ?_)
 rintro _ w ⟨rfl,j⟩
 refine DP.d2 (j.pk 4 [0,1]) (DP.e0 zr (RL.max ad ae (bW zr (aP (vi (if ad<ae then ae else ad)) (DP.d0 (DP.z (aJ (RC.ret ?_))))))))
 obtain rfl:=oi o
 exact bM ⟨rfl,j.drop 4⟩
end Go.Gk
