/-
  Printed texts: Go functions as plain functions, and that they are. No statement of the seed is proved here.
-/
import Derived.Test.YthioiiocofohiaaGreatDoorG1
import Derived.Test.YthioiiocofohiaaGreatDoorA2
set_option linter.unusedVariables false
set_option linter.unusedSimpArgs false
set_option linter.unusedSectionVars false
set_option maxRecDepth 100000
set_option maxHeartbeats 4000000
namespace Go.Gk
open Go Go.Proofs
variable (N:Nat) {E w:World} {i0 i1:Nat} {p0 p1 p2 p3 res:Int} {v0 v1:Value} {V:List HP}
theorem gQ {p0:bW} {res:aI} (j:Holds E w V) (h0:V[i0]? =some (rd v0 p0)) (o:fw N p0=some res):
    Calls bF 50 [v0].toArray w (gI (oU E V res)):=by
 unfold fw at o
 refine enter Tryz.func50 zr zr ?_
 have j:=j.dup (i0+0) h0
 refine RC.sr (RL.dB 0 v0 j zr fun aa w j=>?_)
 refine RL.alloc j mI.z fun ab w j=>?_
 refine RL.nq (RC.xv mixed ?_)
 have j:=j.drew
 refine RO.go (RL.aZ zr Am (RO.nx (RL.aZ zr rm (RO.nx (RL.aM (f:=(fun x=>x.At.X)) 1 j zr (Fd.comp (f:=fun(x:bW)=>x.At) (fun(x:eV)=>x.X) vB kF) cQ (RO.nx (RL.aZ zr uB (RO.nx ?_))))))))
 refine RL.aM 1 j zr pD cQ (RO.nx (RL.quo p0.fy 2 zr zr zr zr (RO.nx (RL.jA p0.At.X (IntKind.wrap .i64 (Int.tdiv p0.fy 2)) (RO.nx (RL.aZ zr Am (RO.nx (RL.aZ zr o7 ?_))))))))
 refine RO.nx (RL.aM (f:=(fun x=>x.At.Y)) 1 j zr (Fd.comp (f:=fun(x:bW)=>x.At) (fun(x:eV)=>x.Y) vB jw) cQ (RO.nx (RL.aZ zr uB (RO.nx (RL.aM 1 j zr pD cQ (RO.nx (RL.quo p0.fy 2 zr zr zr zr (RO.nx ?_))))))))
 refine RL.jA p0.At.Y (IntKind.wrap .i64 (Int.tdiv p0.fy 2)) (RO.nx (aK (vi (IntKind.wrap .i64 (p0.At.X - (IntKind.wrap .i64 (Int.tdiv p0.fy 2))))) (RO.nx (aK (vi (IntKind.wrap .i64 (p0.At.Y - (IntKind.wrap .i64 (Int.tdiv p0.fy 2))))) (RO.last (aG (RC.sr (mv (vi (IntKind.wrap .i64 (p0.At.X - (IntKind.wrap .i64 (Int.tdiv p0.fy 2))))) ?_))))))))
 refine mv (vi (IntKind.wrap .i64 (p0.At.Y - (IntKind.wrap .i64 (Int.tdiv p0.fy 2))))) (mv (vi (IntKind.wrap .i64 (p0.At.X - (IntKind.wrap .i64 (Int.tdiv p0.fy 2))))) (RL.aZ zr uB (RL.aM 1 j zr pD cQ (RL.jA (IntKind.wrap .i64 (p0.At.X - (IntKind.wrap .i64 (Int.tdiv p0.fy 2)))) p0.fy (mv (vi (IntKind.wrap .i64 (p0.At.Y - (IntKind.wrap .i64 (Int.tdiv p0.fy 2))))) (RL.aZ zr uB (RL.aM 1 j zr pD cQ (RL.jA (IntKind.wrap .i64 (p0.At.Y - (IntKind.wrap .i64 (Int.tdiv p0.fy 2)))) p0.fy ?_))))))))
 have j:=((j.sc Int (IntKind.wrap .i64 (p0.At.X - (IntKind.wrap .i64 (Int.tdiv p0.fy 2))))).sc Int (IntKind.wrap .i64 (p0.At.Y - (IntKind.wrap .i64 (Int.tdiv p0.fy 2))))).sc Int (IntKind.wrap .i64 ((IntKind.wrap .i64 (p0.At.X - (IntKind.wrap .i64 (Int.tdiv p0.fy 2))))+p0.fy))
 have j:=j.sc Int (IntKind.wrap .i64 ((IntKind.wrap .i64 (p0.At.Y - (IntKind.wrap .i64 (Int.tdiv p0.fy 2))))+p0.fy))
 refine RL.build (⟨(IntKind.wrap .i64 (p0.At.X - (IntKind.wrap .i64 (Int.tdiv p0.fy 2)))),(IntKind.wrap .i64 (p0.At.Y - (IntKind.wrap .i64 (Int.tdiv p0.fy 2)))),(IntKind.wrap .i64 ((IntKind.wrap .i64 (p0.At.X - (IntKind.wrap .i64 (Int.tdiv p0.fy 2))))+p0.fy)),(IntKind.wrap .i64 ((IntKind.wrap .i64 (p0.At.Y - (IntKind.wrap .i64 (Int.tdiv p0.fy 2))))+p0.fy))⟩:aI) trivial rfl j [(0,(vi (IntKind.wrap .i64 (p0.At.X - (IntKind.wrap .i64 (Int.tdiv p0.fy 2)))))),(1,(vi (IntKind.wrap .i64 (p0.At.Y - (IntKind.wrap .i64 (Int.tdiv p0.fy 2)))))),(2,(vi (IntKind.wrap .i64 ((IntKind.wrap .i64 (p0.At.X - (IntKind.wrap .i64 (Int.tdiv p0.fy 2))))+p0.fy)))),(3,(vi (IntKind.wrap .i64 ((IntKind.wrap .i64 (p0.At.Y - (IntKind.wrap .i64 (Int.tdiv p0.fy 2))))+p0.fy))))] rfl CL rfl (fun M hs g=>by have h:=rk M;exact cO.cons (f:=fun(x:aI) y=>{x with X0:=y}) h pz (g.sat 3 _ rfl).1 fun _ h=>cO.cons (f:=fun(x:aI) y=>{x with Y0:=y}) h sd (g.sat 2 _ rfl).1 fun _ h=>cO.cons (f:=fun(x:aI) y=>{x with X1:=y}) h nO (g.sat 1 _ rfl).1 fun _ h=>cO.cons (f:=fun(x:aI) y=>{x with Y1:=y}) h pA (g.sat 0 _ rfl).1 fun _ h=>cO.nil h) fun ad j=>?_
 refine RL.bA 5 j 0 zr fK fun w j=>?_
 refine RL.nt (RC.ret ?_)
 obtain rfl:=oi o
 exact E6 5 zr j zr zr fK fun ae j=>(j.pk 9 [0])
theorem sP {p0: (List aA)} {res:aI} (j:Holds E w V) (h0:V[i0]? =some (rd v0 p0)) (hb:kV N p0=some res):
    Calls bF 131 [v0].toArray w (gI (oU E V res)):=by
 unfold kV at hb
 refine enter Tryz.func131 zr zr ?_
 have j:=j.dup (i0+0) h0
 refine RC.sr (RL.alloc j mI.z fun bc w j=>?_)
 refine RL.nq ?_
 obtain⟨bh,bn,hb⟩:=bd hb
 obtain⟨ba,bo,hb⟩:=bd hb
 obtain⟨a7,bp,hb⟩:=bd hb
 obtain⟨bj,bq,hb⟩:=bd hb
 obtain⟨bb,br,hb⟩:=bd hb
 obtain⟨a8,bt,hb⟩:=bd hb
 refine RC.Ds E V mixed [1,0,0,0,0,0,1,0,0,0,1,0,0,0,0,0,1,1,0,1,0,0,0,0,0,0] [1,2,3,4,7,8,11,12,13,14,20,21,23,24,25] (fun(x:Value×Value×Value×Value×Value×Value×Value×Value×Value×Value×Value×Value×Value×Nat)=>(fun ah ai aj ak al an ao aq ar au av aw ax ae=>[(0,6,v0),(1,7,ah),(2,8,ai),(3,9,aj),(4,10,ak),(5,11,(vi ba)),(6,12,v0),(7,13,al),(8,14,an),(9,15,(vi a7.Y0)),(10,16,v0),(11,17,ao),(12,18,aq),(13,19,ar),(14,20,au),(15,21,(vi bb)),(16,22,v0),(17,23,v0),(18,24,(vi p0.length)),(19,25,(vi (IntKind.wrap .i64 ((p0.length:Int) - 1)))),(20,26,av),(21,27,aw),(22,28,(vi a8.Y1)),(23,29,ax),(24,3,(vp ae 0))]) x.1 x.2.1 x.2.2.1 x.2.2.2.1 x.2.2.2.2.1 x.2.2.2.2.2.1 x.2.2.2.2.2.2.1 x.2.2.2.2.2.2.2.1 x.2.2.2.2.2.2.2.2.1 x.2.2.2.2.2.2.2.2.2.1 x.2.2.2.2.2.2.2.2.2.2.1 x.2.2.2.2.2.2.2.2.2.2.2.1 x.2.2.2.2.2.2.2.2.2.2.2.2.1 x.2.2.2.2.2.2.2.2.2.2.2.2.2) [(0,v0),(2,vp bc 0)] [] (fun(D:Nat->Bool) (x:Value×Value×Value×Value×Value×Value×Value×Value×Value×Value×Value×Value×Value×Nat)=>(fun ah ai aj ak al an ao aq ar au av aw ax ae=>[bif D 0 then (pt ah bh) else aX,bif D 1 then (pt ai bh.Xs) else aX,bif D 2 then (rd aj bh.Xs) else aX,bif D 3 then (pt ak ba) else aX,bif D 4 then (pt al a7) else aX,bif D 5 then (pt an a7.Y0) else aX,bif D 6 then (pt ao bj) else aX,bif D 7 then (pt aq bj.Xs) else aX,bif D 8 then (rd ar bj.Xs) else aX,bif D 9 then (pt au bb) else aX,bif D 10 then (pt av a8) else aX,bif D 11 then (pt aw a8.Y1) else aX,bif D 12 then (rd ax (⟨ba,a7.Y0,bb,a8.Y1⟩:aI)) else aX,bif D 14 then (bx 74 ae (⟨ba,a7.Y0,bb,a8.Y1⟩:aI)) else (bif D 13 then (raw 74 ae 4) else aX),raw 74 bc 4,rd v0 p0]) x.1 x.2.1 x.2.2.1 x.2.2.2.1 x.2.2.2.2.1 x.2.2.2.2.2.1 x.2.2.2.2.2.2.1 x.2.2.2.2.2.2.2.1 x.2.2.2.2.2.2.2.2.1 x.2.2.2.2.2.2.2.2.2.1 x.2.2.2.2.2.2.2.2.2.2.1 x.2.2.2.2.2.2.2.2.2.2.2.1 x.2.2.2.2.2.2.2.2.2.2.2.2.1 x.2.2.2.2.2.2.2.2.2.2.2.2.2) (fun x=>by kernel_rfl) ?_ ⟨fun _=>iT gn,?_,?_,?_,?_,?_,fun _=>iT gn,?_,?_,?_,fun _=>iT gn,?_,?_,?_,?_,?_,fun _=>iT gn,fun _=>iT gn,?_,fun _=>Hc gn rfl,?_,?_,?_,?_,?_,?_,trivial⟩ ?_
 ·have j:=((((((((((((j.drew).aX).aX).aX).aX).aX).aX).aX).aX).aX).aX).aX).aX
  have j:=(j.aX).aX
  exact⟨(undef,undef,undef,undef,undef,undef,undef,undef,undef,undef,undef,undef,undef,0),dX.none,(Cr zr),zt,j⟩
 ·rintro D U w hD o ag ⟨⟨ah,ai,aj,ak,al,an,ao,aq,ar,au,av,aw,ax,ae⟩,hv,ha,_,j⟩
  obtain⟨O,rfl⟩:=(ac (hv.at 0 rfl (o.1 rfl)) az).eT
  have j:=j.bN 0 hD
  refine RL.cC 15 j ka bn fun bu j=>?_
  have j:=(j.pl 17 [0,2,3,4,5,6,7,8,9,10,11,12,13,14,15,16]).cG 0 true aX
  exact RL.nil ⟨rfl,(bu,ai,aj,ak,al,an,ao,aq,ar,au,av,aw,ax,ae),hv.pu 1,ha.u,zt,j⟩
 ·rintro D U w hD o ag ⟨⟨ah,ai,aj,ak,al,an,ao,aq,ar,au,av,aw,ax,ae⟩,hv,ha,_,j⟩
  obtain⟨O,rfl⟩:=(ac (hv.at 1 rfl (o.1 rfl)) az).eT
  have j:=(j.cF 0 (o.1 rfl)).bN 1 hD
  refine RL.iu 0 j zr ko dG fun bw j=>?_
  have j:=((j.pl 17 [1,0,3,4,5,6,7,8,9,10,11,12,13,14,15,16]).cG (hb:=o.1 rfl) 0 (D 1) aX).cG 1 true aX
  exact RL.nil ⟨rfl,(ah,bw,aj,ak,al,an,ao,aq,ar,au,av,aw,ax,ae),hv.pu 2,ha.u,zt,j⟩
 ·rintro D U w hD o ag ⟨⟨ah,ai,aj,ak,al,an,ao,aq,ar,au,av,aw,ax,ae⟩,hv,ha,_,j⟩
  obtain⟨O,rfl⟩:=(ac (hv.at 2 rfl (o.1 rfl)) az).eT
  have j:=(j.cF 1 (o.1 rfl)).bN 2 hD
  refine RL.bV 1 bh.Xs j fH fun bz j=>?_
  have j:=((j.pl 17 [1,2,0,4,5,6,7,8,9,10,11,12,13,14,15,16]).cG (hb:=o.1 rfl) 1 (D 2) aX).cG 2 true aX
  exact RL.nil ⟨rfl,(ah,ai,bz,ak,al,an,ao,aq,ar,au,av,aw,ax,ae),hv.pu 3,ha.u,zt,j⟩
 ·rintro D U w hD o ag ⟨⟨ah,ai,aj,ak,al,an,ao,aq,ar,au,av,aw,ax,ae⟩,hv,ha,_,j⟩
  obtain⟨O,rfl⟩:=(ac (hv.at 3 rfl (o.1 rfl)) az).eT
  have j:=(j.cF 2 (o.1 rfl)).bN 3 hD
  refine RL.cC 2 j eJ bo fun b0 j=>?_
  have j:=((j.pl 17 [1,2,3,0,5,6,7,8,9,10,11,12,13,14,15,16]).cG (hb:=o.1 rfl) 2 (D 3) aX).cG 3 true aX
  exact RL.nil ⟨rfl,(ah,ai,aj,b0,al,an,ao,aq,ar,au,av,aw,ax,ae),hv.pu 4,ha.u,zt,j⟩
 ·rintro D U w hD o ag ⟨⟨ah,ai,aj,ak,al,an,ao,aq,ar,au,av,aw,ax,ae⟩,hv,ha,_,j⟩
  obtain⟨O,rfl⟩:=(ac (hv.at 4 rfl (o.1 rfl)) az).eT
  have j:=j.cF 3 (o.1 rfl)
  refine RL.bI ba 3 j cQ ?_
  have j:=j.cG (hb:=o.1 rfl) 3 (D 4) aX
  exact RL.nil ⟨rfl,(ah,ai,aj,ak,al,an,ao,aq,ar,au,av,aw,ax,ae),hv.pu 5,ha.u,zt,j⟩
 ·rintro D U w hD o ag ⟨⟨ah,ai,aj,ak,al,an,ao,aq,ar,au,av,aw,ax,ae⟩,hv,ha,_,j⟩
  obtain⟨O,rfl⟩:=(ac (hv.at 6 rfl (o.1 rfl)) az).eT
  have j:=j.bN 4 hD
  refine RL.cC 15 j ka bp fun b1 j=>?_
  have j:=(j.pl 17 [1,2,3,4,0,6,7,8,9,10,11,12,13,14,15,16]).cG 4 true aX
  exact RL.nil ⟨rfl,(ah,ai,aj,ak,b1,an,ao,aq,ar,au,av,aw,ax,ae),hv.pu 7,ha.u,zt,j⟩
 ·rintro D U w hD o ag ⟨⟨ah,ai,aj,ak,al,an,ao,aq,ar,au,av,aw,ax,ae⟩,hv,ha,_,j⟩
  obtain⟨O,rfl⟩:=(ac (hv.at 7 rfl (o.1 rfl)) az).eT
  have j:=(j.cF 4 (o.1 rfl)).bN 5 hD
  refine RL.iu 4 j zr nG fS fun b2 j=>?_
  have j:=((j.pl 17 [1,2,3,4,5,0,7,8,9,10,11,12,13,14,15,16]).cG (hb:=o.1 rfl) 4 (D 7) aX).cG 5 true aX
  exact RL.nil ⟨rfl,(ah,ai,aj,ak,al,b2,ao,aq,ar,au,av,aw,ax,ae),hv.pu 8,ha.u,zt,j⟩
 ·rintro D U w hD o ag ⟨⟨ah,ai,aj,ak,al,an,ao,aq,ar,au,av,aw,ax,ae⟩,hv,ha,_,j⟩
  obtain⟨O,rfl⟩:=(ac (hv.at 8 rfl (o.1 rfl)) az).eT
  have j:=j.cF 5 (o.1 rfl)
  refine RL.bI a7.Y0 5 j cQ ?_
  have j:=j.cG (hb:=o.1 rfl) 5 (D 8) aX
  exact RL.nil ⟨rfl,(ah,ai,aj,ak,al,an,ao,aq,ar,au,av,aw,ax,ae),hv.pu 9,ha.u,zt,j⟩
 ·rintro D U w hD o ag ⟨⟨ah,ai,aj,ak,al,an,ao,aq,ar,au,av,aw,ax,ae⟩,hv,ha,_,j⟩
  obtain⟨O,rfl⟩:=(ac (hv.at 10 rfl (o.1 rfl)) az).eT
  have j:=j.bN 6 hD
  refine RL.cC 15 j ka bq fun b3 j=>?_
  have j:=(j.pl 17 [1,2,3,4,5,6,0,8,9,10,11,12,13,14,15,16]).cG 6 true aX
  exact RL.nil ⟨rfl,(ah,ai,aj,ak,al,an,b3,aq,ar,au,av,aw,ax,ae),hv.pu 11,ha.u,zt,j⟩
 ·rintro D U w hD o ag ⟨⟨ah,ai,aj,ak,al,an,ao,aq,ar,au,av,aw,ax,ae⟩,hv,ha,_,j⟩
  obtain⟨O,rfl⟩:=(ac (hv.at 11 rfl (o.1 rfl)) az).eT
  have j:=(j.cF 6 (o.1 rfl)).bN 7 hD
  refine RL.iu 6 j zr ko dG fun b4 j=>?_
  have j:=((j.pl 17 [1,2,3,4,5,6,7,0,9,10,11,12,13,14,15,16]).cG (hb:=o.1 rfl) 6 (D 11) aX).cG 7 true aX
  exact RL.nil ⟨rfl,(ah,ai,aj,ak,al,an,ao,b4,ar,au,av,aw,ax,ae),hv.pu 12,ha.u,zt,j⟩
 ·rintro D U w hD o ag ⟨⟨ah,ai,aj,ak,al,an,ao,aq,ar,au,av,aw,ax,ae⟩,hv,ha,_,j⟩
  obtain⟨O,rfl⟩:=(ac (hv.at 12 rfl (o.1 rfl)) az).eT
  have j:=(j.cF 7 (o.1 rfl)).bN 8 hD
  refine RL.bV 7 bj.Xs j fH fun b5 j=>?_
  have j:=((j.pl 17 [1,2,3,4,5,6,7,8,0,10,11,12,13,14,15,16]).cG (hb:=o.1 rfl) 7 (D 12) aX).cG 8 true aX
  exact RL.nil ⟨rfl,(ah,ai,aj,ak,al,an,ao,aq,b5,au,av,aw,ax,ae),hv.pu 13,ha.u,zt,j⟩
 ·rintro D U w hD o ag ⟨⟨ah,ai,aj,ak,al,an,ao,aq,ar,au,av,aw,ax,ae⟩,hv,ha,_,j⟩
  obtain⟨O,rfl⟩:=(ac (hv.at 13 rfl (o.1 rfl)) az).eT
  have j:=(j.cF 8 (o.1 rfl)).bN 9 hD
  refine RL.cC 8 j eJ br fun b6 j=>?_
  have j:=((j.pl 17 [1,2,3,4,5,6,7,8,9,0,11,12,13,14,15,16]).cG (hb:=o.1 rfl) 8 (D 13) aX).cG 9 true aX
  exact RL.nil ⟨rfl,(ah,ai,aj,ak,al,an,ao,aq,ar,b6,av,aw,ax,ae),hv.pu 14,ha.u,zt,j⟩
 ·rintro D U w hD o ag ⟨⟨ah,ai,aj,ak,al,an,ao,aq,ar,au,av,aw,ax,ae⟩,hv,ha,_,j⟩
  obtain⟨O,rfl⟩:=(ac (hv.at 14 rfl (o.1 rfl)) az).eT
  have j:=j.cF 9 (o.1 rfl)
  refine RL.bI bb 9 j cQ ?_
  have j:=j.cG (hb:=o.1 rfl) 9 (D 14) aX
  exact RL.nil ⟨rfl,(ah,ai,aj,ak,al,an,ao,aq,ar,au,av,aw,ax,ae),hv.pu 15,ha.u,zt,j⟩
 ·rintro D U w hD o ag ⟨⟨ah,ai,aj,ak,al,an,ao,aq,ar,au,av,aw,ax,ae⟩,hv,ha,_,j⟩
  obtain⟨O,rfl⟩:=(ac (hv.at 17 rfl (o.1 rfl)) az).eT
  refine RL.bD 15 p0 j nv ?_
  exact RL.nil ⟨rfl,(ah,ai,aj,ak,al,an,ao,aq,ar,au,av,aw,ax,ae),hv.pu 18,ha.u,zt,j⟩
 ·rintro D U w hD o ag ⟨⟨ah,ai,aj,ak,al,an,ao,aq,ar,au,av,aw,ax,ae⟩,hv,ha,_,j⟩
  obtain⟨O,rfl⟩:=(ac (hv.at 16 rfl (o.1 rfl)) (ac (hv.at 19 rfl (o.2.1 rfl)) az)).eT
  have j:=j.bN 10 hD
  refine RL.cC 15 j ka bt fun b7 j=>?_
  have j:=(j.pl 17 [1,2,3,4,5,6,7,8,9,10,0,12,13,14,15,16]).cG 10 true aX
  exact RL.nil ⟨rfl,(ah,ai,aj,ak,al,an,ao,aq,ar,au,b7,aw,ax,ae),hv.pu 20,ha.u,zt,j⟩
 ·rintro D U w hD o ag ⟨⟨ah,ai,aj,ak,al,an,ao,aq,ar,au,av,aw,ax,ae⟩,hv,ha,_,j⟩
  obtain⟨O,rfl⟩:=(ac (hv.at 20 rfl (o.1 rfl)) az).eT
  have j:=(j.cF 10 (o.1 rfl)).bN 11 hD
  refine RL.iu 10 j zr lH eN fun b8 j=>?_
  have j:=((j.pl 17 [1,2,3,4,5,6,7,8,9,10,11,0,13,14,15,16]).cG (hb:=o.1 rfl) 10 (D 20) aX).cG 11 true aX
  exact RL.nil ⟨rfl,(ah,ai,aj,ak,al,an,ao,aq,ar,au,av,b8,ax,ae),hv.pu 21,ha.u,zt,j⟩
 ·rintro D U w hD o ag ⟨⟨ah,ai,aj,ak,al,an,ao,aq,ar,au,av,aw,ax,ae⟩,hv,ha,_,j⟩
  obtain⟨O,rfl⟩:=(ac (hv.at 21 rfl (o.1 rfl)) az).eT
  have j:=j.cF 11 (o.1 rfl)
  refine RL.bI a8.Y1 11 j cQ ?_
  have j:=j.cG (hb:=o.1 rfl) 11 (D 21) aX
  exact RL.nil ⟨rfl,(ah,ai,aj,ak,al,an,ao,aq,ar,au,av,aw,ax,ae),hv.pu 22,ha.u,zt,j⟩
 ·rintro D U w hD o ag ⟨⟨ah,ai,aj,ak,al,an,ao,aq,ar,au,av,aw,ax,ae⟩,hv,ha,_,j⟩
  obtain⟨O,rfl⟩:=(ac (hv.at 5 rfl (o.1 rfl)) (ac (hv.at 9 rfl (o.2.1 rfl)) (ac (hv.at 15 rfl (o.2.2.1 rfl)) (ac (hv.at 22 rfl (o.2.2.2.1 rfl)) az)))).eT
  have j:=((((j.bN 12 hD).sc Int ba).sc Int a7.Y0).sc Int bb).sc Int a8.Y1
  refine RL.build (⟨ba,a7.Y0,bb,a8.Y1⟩:aI) trivial rfl j [(0,vi ba),(1,vi a7.Y0),(2,vi bb),(3,vi a8.Y1)] rfl CL rfl (fun M hs g=>by have h:=rk M;exact cO.cons (f:=fun(x:aI) y=>{x with X0:=y}) h pz (g.sat 3 _ rfl).1 fun _ h=>cO.cons (f:=fun(x:aI) y=>{x with Y0:=y}) h sd (g.sat 2 _ rfl).1 fun _ h=>cO.cons (f:=fun(x:aI) y=>{x with X1:=y}) h nO (g.sat 1 _ rfl).1 fun _ h=>cO.cons (f:=fun(x:aI) y=>{x with Y1:=y}) h pA (g.sat 0 _ rfl).1 fun _ h=>cO.nil h) fun b9 j=>?_
  have j:=(j.pl 21 [5,6,7,8,9,10,11,12,13,14,15,16,0,18,19,20]).cG 12 true aX
  exact RL.nil ⟨rfl,(ah,ai,aj,ak,al,an,ao,aq,ar,au,av,aw,b9,ae),hv.pu 23,ha.u,zt,j⟩
 ·rintro D U w hD o ag ⟨⟨ah,ai,aj,ak,al,an,ao,aq,ar,au,av,aw,ax,ae⟩,hv,ha,_,j⟩
  obtain⟨O,rfl⟩:=(az (U:=U)).eT
  have j:=(j.bN 13 (nh ag hD 25)).bN 13 hD
  refine RL.alloc j mI.z fun bk w j=>?_
  have j:=((j.pl 17 [1,2,3,4,5,6,7,8,9,10,11,12,13,0,15,16]).cG 13 true aX).eA 13 (D 25) (nh ag hD 25) (bx 74 bk (⟨ba,a7.Y0,bb,a8.Y1⟩:aI))
  exact RL.nil ⟨rfl,(ah,ai,aj,ak,al,an,ao,aq,ar,au,av,aw,ax,bk),hv.pu 24,ha.u,zt,j⟩
 ·rintro D U w hD o ag ⟨⟨ah,ai,aj,ak,al,an,ao,aq,ar,au,av,aw,ax,ae⟩,hv,ha,_,j⟩
  obtain⟨O,rfl⟩:=(ac (hv.at 23 rfl (o.2.1 rfl)) (ac (hv.at 24 rfl (o.1 rfl)) az)).eT
  have j:=((j.cF 12 (o.2.1 rfl)).bN 13 hD).cF 13 (o.1 rfl)
  refine RL.bA 13 j 12 zr fK fun w j=>?_
  have j:=(j.cG (hb:=o.2.1 rfl) 12 (D 23) aX).cG 13 true (bif D 24 then (raw 74 ae 4) else aX)
  exact RL.nil ⟨rfl,(ah,ai,aj,ak,al,an,ao,aq,ar,au,av,aw,ax,ae),hv.n1,ha,zt,j⟩
 rintro D U w a5 ⟨⟨ah,ai,aj,ak,al,an,ao,aq,ar,au,av,aw,ax,ae⟩,hv,ha,_,j⟩
 have j:=((((((j.cF 0 (jk a5 1)).cF 1 (jk a5 2)).cF 2 (jk a5 3)).cF 3 (jk a5 4)).cF 4 (jk a5 7)).cF 5 (jk a5 8)).cF 6 (jk a5 11)
 have j:=((((((j.cF 7 (jk a5 12)).cF 8 (jk a5 13)).cF 9 (jk a5 14)).cF 10 (jk a5 20)).cF 11 (jk a5 21)).cF 12 (jk a5 23)).cF 13 (jk a5 25)
 obtain⟨O,rfl⟩:=(ac (hv.at 24 rfl (jk a5 24)) (ac (ha.at 0 rfl) (ac (ha.at 1 rfl) az))).eT
 refine aG (RC.seq (RC.sr (mv v0 (RL.bD 15 p0 j nv (mv (vi 0) (RL.nt ?_))))))
 obtain⟨af,hN,hb⟩:=bd hb
 refine RC.fold (fun(bf:Nat) (af:aI)=>SH E V [(2,vp bc 0),(3,vp ae 0),(30,v0),(31,vi p0.length),(32,vi bf)] [raw 74 bc 4,bx 74 ae af,rd v0 p0]) (fun(af:aI)=>SH E V [(2,vp bc 0),(3,vp ae 0)] [raw 74 bc 4,bx 74 ae af,rd v0 p0]) hN ?_ ?_ ?_ ?_
 ·exact j.sp 16 [14,13,15]
 ·rintro hm af _ w ⟨O,rfl,j⟩
  refine RC.sr (ic ((p0.length:Int)) ((p0.length:Int)) (RL.nq (RC.cN lS (RC.ex ?_))))
  exact⟨rfl,j.sp 3 [0,1,2]⟩
 ·rintro hm bf af s' _ w hk ⟨O,rfl,j⟩ hb
  refine RC.sr (ic ((bf:Int)) ((p0.length:Int)) (RL.nq (RC.cM (lR hk) (RC.ss (RC.bs ?_)))))
  obtain⟨a9,cb,hb⟩:=bd hb
  refine RL.cC 2 j ka cb fun cc j=>(RL.bV 0 a9 j uA fun cd j=>(RL.alloc j BG.z fun bg w j=>?_))
  refine RL.bA 0 j 1 zr uA fun w j=>?_
  refine RL.nt ?_
  obtain⟨a4,cf,hb⟩:=bd hb
  obtain⟨a6,cg,hb⟩:=bd hb
  refine RC.Ds E V mixed [1,0,1,0,0,0,0,1,0,1,0,1,0,0,1,0,0,0,1,0,1,0] [3,4,10,12,15,19,21] (fun(x:Value×Value×Value×Value×Value)=>(fun ay a0 a1 a2 a3=>[(0,36,(vp ae 0)),(1,37,(vi af.X0)),(2,38,(vp bg 2)),(3,39,ay),(4,40,a0),(5,41,(vi a4)),(6,42,(vi (if a4<af.X0 then a4 else af.X0))),(7,43,(vp ae 2)),(8,44,(vi af.X1)),(9,45,(vp bg 2)),(10,46,a1),(11,47,(vp bg 2)),(12,48,a2),(13,49,(vi a9.Xs.length)),(14,50,(vi (IntKind.wrap .i64 ((a9.Xs.length:Int) - 1)))),(15,51,a3),(16,52,(vi a6)),(17,53,(vi (if af.X1<a6 then a6 else af.X1))),(18,54,(vp ae 0)),(20,55,(vp ae 2))]) x.1 x.2.1 x.2.2.1 x.2.2.2.1 x.2.2.2.2) [(2,vp bc 0),(3,vp ae 0),(5,vp bg 0),(30,v0),(31,vi p0.length),(32,vi bf)] [] (fun(D:Nat->Bool) (x:Value×Value×Value×Value×Value)=>(fun ay a0 a1 a2 a3=>[bif D 0 then (rd ay a9.Xs) else aX,bif D 1 then (pt a0 a4) else aX,bif D 2 then (rd a1 a9.Xs) else aX,bif D 3 then (rd a2 a9.Xs) else aX,bif D 4 then (pt a3 a6) else aX,bx 187 bg a9,rd cd a9,pt cc a9,raw 74 bc 4,bif D 6 then (bx 74 ae {{af with X0:=(if a4<af.X0 then a4 else af.X0)} with X1:=(if af.X1<a6 then a6 else af.X1)}) else (bif D 5 then (bx 74 ae {af with X0:=(if a4<af.X0 then a4 else af.X0)}) else (bx 74 ae af)),rd v0 p0]) x.1 x.2.1 x.2.2.1 x.2.2.2.1 x.2.2.2.2) (fun x=>by kernel_rfl) ?_ ⟨fun _=>mu gn jy,?_,fun _=>mu gn ko,?_,?_,?_,?_,fun _=>mu gn kI,?_,fun _=>mu gn ko,?_,fun _=>mu gn ko,?_,?_,fun _=>Hc gn rfl,?_,?_,?_,fun _=>mu gn jy,?_,fun _=>mu gn kI,?_,trivial⟩ ?_
  ·have j:=(((((j.drew).aX).aX).aX).aX).aX
   exact⟨(undef,undef,undef,undef,undef),dX.none,(Cr zr),zt,j⟩
  ·rintro D U w hD o ag ⟨⟨ay,a0,a1,a2,a3⟩,hv,ha,_,j⟩
   obtain⟨O,rfl⟩:=(ac (hv.at 0 rfl (o.1 rfl)) az).eT
   have j:=(j.bN 9 (nh ag hD 21)).bN 9 (nh ag hD 19)
   refine RL.aM 9 j zr eW cQ ?_
   have j:=(j.eA 9 (D 19) (nh ag hD 19) (bx 74 ae {af with X0:=(if a4<af.X0 then a4 else af.X0)})).eA 9 (D 21) (nh ag hD 21) (bx 74 ae {{af with X0:=(if a4<af.X0 then a4 else af.X0)} with X1:=(if af.X1<a6 then a6 else af.X1)})
   exact RL.nil ⟨rfl,(ay,a0,a1,a2,a3),hv.pu 1,ha.u,zt,j⟩
  ·rintro D U w hD o ag ⟨⟨ay,a0,a1,a2,a3⟩,hv,ha,_,j⟩
   obtain⟨O,rfl⟩:=(ac (hv.at 2 rfl (o.1 rfl)) az).eT
   have j:=j.bN 0 hD
   refine RL.aP 5 j zr dG fH fun ch j=>?_
   have j:=(j.pl 12 [0,2,3,4,5,6,7,8,9,10,11]).cG 0 true aX
   exact RL.nil ⟨rfl,(ch,a0,a1,a2,a3),hv.pu 3,ha.u,zt,j⟩
  ·rintro D U w hD o ag ⟨⟨ay,a0,a1,a2,a3⟩,hv,ha,_,j⟩
   obtain⟨O,rfl⟩:=(ac (hv.at 3 rfl (o.1 rfl)) az).eT
   have j:=(j.cF 0 (o.1 rfl)).bN 1 hD
   refine RL.cC 0 j eJ cf fun cj j=>?_
   have j:=((j.pl 12 [1,0,3,4,5,6,7,8,9,10,11]).cG (hb:=o.1 rfl) 0 (D 3) aX).cG 1 true aX
   exact RL.nil ⟨rfl,(ay,cj,a1,a2,a3),hv.pu 4,ha.u,zt,j⟩
  ·rintro D U w hD o ag ⟨⟨ay,a0,a1,a2,a3⟩,hv,ha,_,j⟩
   obtain⟨O,rfl⟩:=(ac (hv.at 4 rfl (o.1 rfl)) az).eT
   have j:=j.cF 1 (o.1 rfl)
   refine RL.bI a4 1 j cQ ?_
   have j:=j.cG (hb:=o.1 rfl) 1 (D 4) aX
   exact RL.nil ⟨rfl,(ay,a0,a1,a2,a3),hv.pu 5,ha.u,zt,j⟩
  ·rintro D U w hD o ag ⟨⟨ay,a0,a1,a2,a3⟩,hv,ha,_,j⟩
   obtain⟨O,rfl⟩:=(ac (hv.at 1 rfl (o.1 rfl)) (ac (hv.at 5 rfl (o.2.1 rfl)) az)).eT
   refine RL.min af.X0 a4 ?_
   exact RL.nil ⟨rfl,(ay,a0,a1,a2,a3),hv.pu 6,ha.u,zt,j⟩
  ·rintro D U w hD o ag ⟨⟨ay,a0,a1,a2,a3⟩,hv,ha,_,j⟩
   obtain⟨O,rfl⟩:=(ac (hv.at 7 rfl (o.1 rfl)) az).eT
   have j:=(j.bN 9 (nh ag hD 21)).bN 9 (nh ag hD 19)
   refine RL.aM 9 j zr gz cQ ?_
   have j:=(j.eA 9 (D 19) (nh ag hD 19) (bx 74 ae {af with X0:=(if a4<af.X0 then a4 else af.X0)})).eA 9 (D 21) (nh ag hD 21) (bx 74 ae {{af with X0:=(if a4<af.X0 then a4 else af.X0)} with X1:=(if af.X1<a6 then a6 else af.X1)})
   exact RL.nil ⟨rfl,(ay,a0,a1,a2,a3),hv.pu 8,ha.u,zt,j⟩
  ·rintro D U w hD o ag ⟨⟨ay,a0,a1,a2,a3⟩,hv,ha,_,j⟩
   obtain⟨O,rfl⟩:=(ac (hv.at 9 rfl (o.1 rfl)) az).eT
   have j:=j.bN 2 hD
   refine RL.aP 5 j zr dG fH fun ck j=>?_
   have j:=(j.pl 12 [1,2,0,4,5,6,7,8,9,10,11]).cG 2 true aX
   exact RL.nil ⟨rfl,(ay,a0,ck,a2,a3),hv.pu 10,ha.u,zt,j⟩
  ·rintro D U w hD o ag ⟨⟨ay,a0,a1,a2,a3⟩,hv,ha,_,j⟩
   obtain⟨O,rfl⟩:=(ac (hv.at 11 rfl (o.1 rfl)) az).eT
   have j:=j.bN 3 hD
   refine RL.aP 5 j zr dG fH fun cl j=>?_
   have j:=(j.pl 12 [1,2,3,0,5,6,7,8,9,10,11]).cG 3 true aX
   exact RL.nil ⟨rfl,(ay,a0,a1,cl,a3),hv.pu 12,ha.u,zt,j⟩
  ·rintro D U w hD o ag ⟨⟨ay,a0,a1,a2,a3⟩,hv,ha,_,j⟩
   obtain⟨O,rfl⟩:=(ac (hv.at 12 rfl (o.1 rfl)) az).eT
   have j:=j.cF 3 (o.1 rfl)
   refine RL.bD 3 a9.Xs j lM ?_
   have j:=j.cG (hb:=o.1 rfl) 3 (D 12) aX
   exact RL.nil ⟨rfl,(ay,a0,a1,a2,a3),hv.pu 13,ha.u,zt,j⟩
  ·rintro D U w hD o ag ⟨⟨ay,a0,a1,a2,a3⟩,hv,ha,_,j⟩
   obtain⟨O,rfl⟩:=(ac (hv.at 10 rfl (o.1 rfl)) (ac (hv.at 14 rfl (o.2.1 rfl)) az)).eT
   have j:=(j.cF 2 (o.1 rfl)).bN 4 hD
   refine RL.cC 2 j eJ cg fun cm j=>?_
   have j:=((j.pl 12 [1,2,3,4,0,6,7,8,9,10,11]).cG (hb:=o.1 rfl) 2 (D 10) aX).cG 4 true aX
   exact RL.nil ⟨rfl,(ay,a0,a1,a2,cm),hv.pu 15,ha.u,zt,j⟩
  ·rintro D U w hD o ag ⟨⟨ay,a0,a1,a2,a3⟩,hv,ha,_,j⟩
   obtain⟨O,rfl⟩:=(ac (hv.at 15 rfl (o.1 rfl)) az).eT
   have j:=j.cF 4 (o.1 rfl)
   refine RL.bI a6 4 j cQ ?_
   have j:=j.cG (hb:=o.1 rfl) 4 (D 15) aX
   exact RL.nil ⟨rfl,(ay,a0,a1,a2,a3),hv.pu 16,ha.u,zt,j⟩
  ·rintro D U w hD o ag ⟨⟨ay,a0,a1,a2,a3⟩,hv,ha,_,j⟩
   obtain⟨O,rfl⟩:=(ac (hv.at 8 rfl (o.1 rfl)) (ac (hv.at 16 rfl (o.2.1 rfl)) az)).eT
   refine RL.max af.X1 a6 ?_
   exact RL.nil ⟨rfl,(ay,a0,a1,a2,a3),hv.pu 17,ha.u,zt,j⟩
  ·rintro D U w hD o ag ⟨⟨ay,a0,a1,a2,a3⟩,hv,ha,_,j⟩
   obtain⟨O,rfl⟩:=(ac (hv.at 6 rfl (o.2.1 rfl)) (ac (hv.at 18 rfl (o.1 rfl)) az)).eT
   have j:=((j.bN 9 (nh ag hD 21)).bN 9 hD).sc Int (if a4<af.X0 then a4 else af.X0)
   refine RL.tZ 10 j zr zr zr 0 zr pz cQ fun w j=>?_
   have j:=((j.pl 12 [1,2,3,4,5,6,7,8,9,10,11]).cG 9 true (bx 74 ae af)).eA 9 (D 21) (nh ag hD 21) (bx 74 ae {{af with X0:=(if a4<af.X0 then a4 else af.X0)} with X1:=(if af.X1<a6 then a6 else af.X1)})
   exact RL.nil ⟨rfl,(ay,a0,a1,a2,a3),hv.n1,ha,zt,j⟩
  ·rintro D U w hD o ag ⟨⟨ay,a0,a1,a2,a3⟩,hv,ha,_,j⟩
   obtain⟨O,rfl⟩:=(ac (hv.at 17 rfl (o.2.1 rfl)) (ac (hv.at 19 rfl (o.1 rfl)) az)).eT
   have j:=((j.bN 9 hD).cF 9 (o.2.2.1 rfl)).sc Int (if af.X1<a6 then a6 else af.X1)
   refine RL.tZ 10 j zr zr zr 0 zr nO cQ fun w j=>?_
   have j:=(j.pl 12 [1,2,3,4,5,6,7,8,9,10,11]).cG 9 true (bif D 19 then (bx 74 ae {af with X0:=(if a4<af.X0 then a4 else af.X0)}) else (bx 74 ae af))
   exact RL.nil ⟨rfl,(ay,a0,a1,a2,a3),hv.n1,ha,zt,j⟩
  rintro D U w a5 ⟨⟨ay,a0,a1,a2,a3⟩,hv,ha,_,j⟩
  have j:=(((((j.cF 0 (jk a5 3)).cF 1 (jk a5 4)).cF 2 (jk a5 10)).cF 3 (jk a5 12)).cF 4 (jk a5 15)).cF 9 (jk a5 21)
  obtain⟨O,rfl⟩:=(ac (ha.at 0 rfl) (ac (ha.at 1 rfl) (ac (ha.at 2 rfl) (ac (ha.at 3 rfl) (ac (ha.at 4 rfl) (ac (ha.at 5 rfl) az)))))).eT
  refine bK (aG (RC.region (RL.inc hk hm (mv (vi ((bf+1:Nat):Int)) (RL.nil ?_)))))
  obtain rfl:=oi hb
  exact⟨rfl,j.sp 11 [8,9,10]⟩
 rintro _ w ⟨O,rfl,j⟩
 refine aG (RC.sr (RL.aP (f:=(fun x=>x)) 1 j zr Fd.self fK fun cn j=>(RL.bA 1 j 0 zr fK fun w j=>?_)))
 refine RL.nt (RC.ret ?_)
 obtain rfl:=oi hb
 exact E6 1 zr j zr zr fK fun cp j=>(j.pk 5 [0])
theorem uM {p0: (List aA)} {res:Bool} (j:Holds E w V) (h0:V[i0]? =some (rd v0 p0)) (hb:kA N p0=some res):
    Calls bF 108 [v0].toArray w (gI (bE E V res)):=by
 unfold kA at hb
 refine enter Tryz.func108 zr zr ?_
 have j:=j.dup (i0+0) h0
 refine RC.sr (aK (vb false) (RL.nq ?_))
 obtain⟨ad,o,hb⟩:=bd hb
 refine RC.jn (fun(ad:Bool)=>SH E V [(2,vb ad)] []) ad ?_ ?_
 ·refine RC.region (mv v0 (RL.bD 0 p0 j nv (ic ((p0.length:Int)) 0 (mv (vb ((p0.length:Int)==0)) (fM o (fun aa o=>?_) fun aa o=>?_)))))
  ·refine bO aa (bO aa (bO aa (fJ aa (vb true) (aK (vb true) (RL.nil ?_)))))
   obtain rfl:=oi o
   exact⟨rfl,j.sp 1 []⟩
  refine RL.move v0 (cg aa) ?_
  obtain⟨ai,af,o⟩:=bd o
  refine RL.call (cg aa) zr JJ [v0] zr (aF (sP N (i0:=0) j zr af) ?_)
  rintro ag w j
  obtain⟨ae,ah,o⟩:=bd o
  refine RL.call (cg aa) zr Jv [ag] zr (aF (qK N (i0:=0) j zr ah) ?_)
  rintro _ w ⟨rfl,j⟩
  refine fJ aa (vb ae) (aK (vb ae) (RL.nil ?_))
  obtain rfl:=oi o
  exact⟨rfl,j.sp 2 []⟩
 rintro _ w ⟨O,rfl,j⟩
 refine aG (RC.ret ?_)
 obtain rfl:=oi hb
 exact cL ⟨rfl,j.drop 0⟩
def wP (E:World) (V:List HP) (res:aI×Int) (v:Value) (w:World):Prop:=∃u0:Value,v = .tuple #[u0,(vi res.2)]/\Holds E w ([rd u0 res.1]++V)
theorem vI {p0:bW} {res:aI×Int} (j:Holds E w V) (h0:V[i0]? =some (rd v0 p0)) (o:kd N p0=some res):
    Calls bF 72 [v0].toArray w (gI (wP E V res)):=by
 unfold kd at o
 refine enter Tryz.func72 zr zr ?_
 have j:=j.dup (i0+0) h0
 refine RC.sr (RL.dB 0 v0 j zr fun af w j=>?_)
 refine RL.alloc j mI.z fun ag w j=>?_
 refine aK (vi 0) (RL.nq (RC.seq ?_))
 obtain⟨ad,hj,o⟩:=bd o
 refine RC.jn (fun(ad:Bool)=>SH E V [(1,vp af 0),(2,vp ag 0),(14,vb ad)] [bx 117 af p0,raw 74 ag 4]) ad ?_ ?_
 ·refine RC.region (RL.aZ zr uB (RL.aM 1 j zr pD cQ ?_))
  obtain⟨ah,aj,hj⟩:=bd hj
  refine RL.call zt zr Hg [(vi p0.fy),(vi 1),(vi 10000)] zr (aF (k6 N (p0:=p0.fy) (p1:=1) (p2:=10000) j aj) ?_)
  rintro _ w ⟨rfl,j⟩
  refine RL.not ah (mv (vb (!ah)) (fM hj (fun aa hj=>?_) fun aa hj=>?_))
  ·refine bO aa (bO aa (bO aa (bO aa (fJ aa (vb true) (RL.nil ?_)))))
   obtain rfl:=oi hj
   exact⟨rfl,j.sp 3 [1,0]⟩
  refine RL.aZ (hg:=(cg aa)) zr Am (RL.aP (hg:=(cg aa)) 1 j zr vB sK fun ak j=>?_)
  obtain⟨ai,al,hj⟩:=bd hj
  refine RL.call (cg aa) zr JI [ak] zr (aF (pI N (i0:=0) j zr al) ?_)
  rintro _ w ⟨rfl,j⟩
  refine RL.not (hg:=(cg aa)) ai (fJ aa (vb (!ai)) (RL.nil ?_))
  obtain rfl:=oi hj
  exact⟨rfl,j.sp 4 [2,1]⟩
 rintro _ w ⟨O,rfl,j⟩
 refine aG (eQ o (fun hc o=>?_) fun hc o=>?_)
 ·refine RC.sr (RL.build (⟨0,0,0,0⟩:aI) trivial rfl j [] rfl CL rfl (fun M hs g=>by have h:=rk M;exact cO.nil h) fun a2 j=>?_)
  refine RL.bA 2 j 0 zr fK fun w j=>?_
  refine aK (vi 1) (RL.nt (RC.rt ?_))
  obtain rfl:=oi o
  exact za 2 j fK fun an j=>⟨an,zr,j.pk 4 [0]⟩
 refine RC.sx (RL.aP (f:=(fun x=>x)) 0 j zr Fd.self lf fun ao j=>?_)
 obtain⟨aq,ar,o⟩:=bd o
 refine RL.call zt zr Ej [ao] zr (aF (gQ N (i0:=0) j zr ar) ?_)
 rintro a3 w j
 refine RL.alloc j mI.z fun a4 w j=>?_
 refine RL.bA 0 j 1 zr fK fun w j=>?_
 refine RL.nq (RC.sr (RL.aP (f:=(fun x=>x)) 0 j zr Fd.self fK fun au j=>(RL.dS ([aq]: (List aI)) j [au] kH mI (fun M hs g=>⟨(g.sat 0 _ zr).1,zt⟩) fun av w j=>?_)))
 have j:=j.freeze 0
 obtain⟨a5,aw,o⟩:=bd o
 refine RL.call zt zr FD [av] zr (aF (kL N (i0:=0) j zr aw) ?_)
 rintro ax w j
 have j:=j.freeze 0
 obtain⟨ay,az,o⟩:=bd o
 refine RL.call zt zr JK [ax] zr (aF (uM N (i0:=0) j zr az) ?_)
 rintro _ w ⟨rfl,j⟩
 refine RL.not ay (RL.nt (eQ o (fun hc o=>?_) fun hc o=>?_))
 ·refine RC.sr (RL.build (⟨0,0,0,0⟩:aI) trivial rfl j [] rfl CL rfl (fun M hs g=>by have h:=rk M;exact cO.nil h) fun a6 j=>?_)
  refine RL.bA 8 j 0 zr fK fun w j=>?_
  refine aK (vi 1) (RL.nt (RC.rt ?_))
  obtain rfl:=oi o
  exact za 8 j fK fun a0 j=>⟨a0,zr,j.pk 10 [0]⟩
 refine RC.sx (RL.aP (f:=(fun x=>x)) 3 j zr Fd.self fK fun a7 j=>(RL.bA 8 j 0 zr fK fun w j=>?_))
 refine aK (vi 0) (RL.nt (RC.ret ?_))
 obtain rfl:=oi o
 exact za 8 j fK fun a1 j=>⟨a1,zr,j.pk 10 [0]⟩
def sQ (E:World) (V:List HP) (r:Int) (U:Nat->Value) (w:World):Prop:=l5 bF 47 Tryz.f47 (aQ E V r) .ret U w
theorem ry {p0:gU} (j:Holds E w V) (h0:V[i0]? =some (rd v0 p0)) (o:jm N p0=some res):
    Calls bF 47 [v0].toArray w (gI (aQ E V res)):=by
 unfold jm at o
 refine enter Tryz.func47 zr zr ?_
 have j:=j.dup (i0+0) h0
 refine RC.sr (RL.dB 0 v0 j zr fun a0 w j=>?_)
 refine aK (vi 0) (RL.nq (RC.sr (RL.aZ zr mJ (RL.aP 0 j zr rh vF fun a1 j=>(RL.bD 0 p0.aV j xI (ic ((p0.aV.length:Int)) 500 (RL.nt (eQ o (fun hc o=>?_) fun hc o=>?_))))))))
 ·refine RC.sr (aK (vi 2) (RL.nt (RC.rt ?_)))
  obtain rfl:=oi o
  exact cL ⟨rfl,j.drop 3⟩
 refine RC.sx (RL.aZ zr vE (RL.aP 1 j zr pE Eh fun a2 j=>(RL.bD 0 p0.aL j BF (aK (vi p0.aL.length) (RL.nq (RC.sr (RL.aZ zr mJ (RL.aP 2 j zr rh vF fun ag j=>?_))))))))
 refine RL.bD 0 p0.aV j xI (mv (vi 0) (RL.nt ?_))
 obtain⟨a3,hN,o⟩:=bd o
 refine RC.range (fun(ah:Nat) (ai:Unit)=>SH E V [(3,vi p0.aL.length),(16,ag),(17,vi p0.aV.length),(18,vi ah)] [rd ag p0.aV]) (fun(ai:Unit)=>SH E V [] [rd ag p0.aV]) (sQ E V) hN ?_ ?_ ?_ ?_ ?_
 ·exact j.sp 5 [0]
 ·rintro hm ai _ w ⟨O,rfl,j⟩
  refine RC.sr (ic ((p0.aV.length:Int)) ((p0.aV.length:Int)) (RL.nq (RC.cN lS (RC.ex ?_))))
  exact⟨rfl,j.sp 1 [0]⟩
 ·rintro hm ah ai fl _ w hk ⟨O,rfl,j⟩ o
  refine RC.sr (ic ((ah:Int)) ((p0.aV.length:Int)) (RL.nq (RC.cM (lR hk) (RC.ss (RC.bs ?_)))))
  obtain⟨ad,au,o⟩:=bd o
  refine RL.cC 0 j Al au fun a5 j=>(RL.bV 0 ad j lf fun a6 j=>(RL.alloc j zp.z fun a7 w j=>?_))
  refine RL.bA 0 j 1 zr lf fun w j=>?_
  refine RL.nq (RC.sr (RL.aP (f:=(fun x=>x)) 0 j zr Fd.self lf fun av j=>?_))
  obtain⟨ae,aw,o⟩:=bd o
  refine RL.call zt zr Ly [av] zr (aF (vI N (i0:=0) j zr aw) ?_)
  rintro _ w ⟨an,rfl,j⟩
  refine mv (.tuple #[an,(vi ae.2)]) (RL.extract an (RL.extract (vi ae.2) (RL.alloc j mI.z fun a8 w j=>?_)))
  refine RL.bA 0 j 1 zr fK fun w j=>?_
  refine aK (vi ae.2) (RL.ns (mv (vi ae.2) (ic ae.2 0 (RL.nt (eQ o (fun hc o=>?_) fun hc o=>?_)))))
  ·refine RC.sr (mv (vi ae.2) (aK (vi ae.2) (RL.nt (RC.rt (jR (bS ?_))))))
   obtain rfl:=oi o
   exact⟨rfl,cL ⟨rfl,j.drop 7⟩⟩
  refine RC.ss ?_
  obtain⟨aj,hj,o⟩:=bd o
  refine RC.jn (fun(aj:Bool)=>SH E V [(3,vi p0.aL.length),(16,ag),(17,vi p0.aV.length),(18,vi ah),(45,vb aj)] [rd ag p0.aV]) aj ?_ ?_
  ·refine RC.region (RL.aZ zr qp (RL.aM 3 j zr mE cQ (mv (vi p0.aL.length) (RL.jA (p0.aL.length:Int) 1 ?_))))
   obtain⟨ao,ax,hj⟩:=bd hj
   refine RL.call zt zr Hg [(vi ad.bU),(vi 0),(vi (IntKind.wrap .i64 ((p0.aL.length:Int) - 1)))] zr (aF (k6 N (p0:=ad.bU) (p1:=0) (p2:=(IntKind.wrap .i64 ((p0.aL.length:Int) - 1))) j ax) ?_)
   rintro _ w ⟨rfl,j⟩
   refine RL.not ao (mv (vb (!ao)) (fM hj (fun aa hj=>?_) fun aa hj=>?_))
   ·refine bO aa (bO aa (bO aa (bO aa (bO aa (bO aa (bO aa (bO aa (fJ aa (vb true) ?_))))))))
    refine RL.nil ?_
    obtain rfl:=oi hj
    exact⟨rfl,j.sp 7 [6]⟩
   refine RL.aZ (hg:=(cg aa)) zr sj (RL.aM (hg:=(cg aa)) 3 j zr nP cQ (RL.aZ (hg:=(cg aa)) zr qp (RL.aM (hg:=(cg aa)) 3 j zr mE cQ (RL.move (vi p0.aL.length) (cg aa) (RL.jA (hg:=(cg aa)) (p0.aL.length:Int) 1 ?_)))))
   obtain⟨aq,ay,hj⟩:=bd hj
   refine RL.call (cg aa) zr Hg [(vi ad.To),(vi ad.bU),(vi (IntKind.wrap .i64 ((p0.aL.length:Int) - 1)))] zr (aF (k6 N (p0:=ad.To) (p1:=ad.bU) (p2:=(IntKind.wrap .i64 ((p0.aL.length:Int) - 1))) j ay) ?_)
   rintro _ w ⟨rfl,j⟩
   refine RL.not (hg:=(cg aa)) aq (fJ aa (vb (!aq)) (RL.nil ?_))
   obtain rfl:=oi hj
   exact⟨rfl,j.sp 7 [6]⟩
  rintro _ w ⟨O,rfl,j⟩
  refine aG (eQ o (fun hc o=>?_) fun hc o=>?_)
  rotate_left
  ·refine RC.skip (bK (aG (RC.region (RL.inc hk hm (mv (vi ((ah+1:Nat):Int)) (RL.nil ?_))))))
   obtain rfl:=oi o
   exact⟨rfl,j.sp 1 [0]⟩
  refine RC.sr (aK (vi 1) (RL.nt (RC.rb (bS ?_))))
  obtain rfl:=oi o
  exact⟨rfl,cL ⟨rfl,j.drop 1⟩⟩
 ·intro r U w e hK
  subst e
  refine bS ?_
  obtain rfl:=oi o
  exact hK
 rintro ai _ w rfl ⟨O,rfl,j⟩
 rw [Fo.gl] at o
 refine aG (RC.sr (aK (vi 0) (RL.nt (RC.ret ?_))))
 obtain rfl:=oi o
 exact cL ⟨rfl,j.drop 1⟩
theorem lu {p0:dA} (o:Holds E w V) (j:gF N p0 p1=some res):
    Calls bF 134 [(str p0),(.int .u8 p1)].toArray w (gI (aQ E V res)):=by
 unfold gF at j
 refine enter Tryz.func134 zr zr (RC.sr (aK (vi 0) (RL.ns (mv (str p0) (mv (.int .u8 p1) (RL.xm (vi (Lib.indexByte p0.cR (Int.toNat p1).toUInt8)) zr [(str p0),(.int .u8 p1)] zr (LB p0 p1 w) (aK (vi (Lib.indexByte p0.cR (Int.toNat p1).toUInt8)) (RL.nt ?_))))))))
 refine RC.ret ?_
 obtain rfl:=oi j
 exact cL ⟨rfl,o.drop 0⟩
theorem rz {p0 p1:dA} (o:Holds E w V) (j:jo N p0 p1=some res):
    Calls bF 196 [(str p0),(str p1)].toArray w (gI (aQ E V res)):=by
 unfold jo at j
 refine enter Tryz.func196 zr zr (RC.sr (aK (vi 0) (RL.ns (mv (str p1) (RL.lens p1 zq (aK (vi p1.cR.length) (RL.nq (RC.bs ?_))))))))
 refine mv (vi p1.cR.length) (ic ((p1.cR.length:Int)) 0 (mv (vb ((p1.cR.length:Int)==0)) (RL.gs true ((p1.cR.length:Int)==0) (str p1) rfl rfl rfl dW (RL.gs true ((p1.cR.length:Int)==0) (str p0) rfl rfl rfl dW (RL.gs true ((p1.cR.length:Int)==0) (vb (p1.Cv p0)) rfl rfl rfl (G1 (bop:= .eql) (a:=p1) (b:=p0) rfl (fun h=>by exact(cV h:cv (true&&(((p1.cR.length:Int)==0)==false)) (str p1)= (str p1))) (fun h=>by exact(cV h:cv (true&&(((p1.cR.length:Int)==0)==false)) (str p0)= (str p0))) rfl) (RL.pick ((p1.cR.length:Int)==0) (vb (((p1.cR.length:Int)==0)||(p1.Cv p0))) (nS true rfl) (aK (vb (((p1.cR.length:Int)==0)||(p1.Cv p0))) (RL.nt ?_))))))))
 refine eQ j (fun hc j=>?_) fun hc j=>?_
 ·refine RC.sr (aK (vi 0) (RL.nt (RC.rb (bS ?_))))
  obtain rfl:=oi j
  exact cL ⟨rfl,o.drop 0⟩
 refine RC.sr (mv (vi p1.cR.length) (ic ((p1.cR.length:Int)) 1 (aK (vb ((p1.cR.length:Int)==1)) (RL.nt (eQ j (fun hc j=>?_) fun hc j=>?_)))))
 ·refine RC.sr (mv (str p0) (mv (str p1) ?_))
  obtain⟨ab,ad,j⟩:=bd j
  refine RL.idxs p1 0 ab zr zr zr zq ad ?_
  obtain⟨ae,af,j⟩:=bd j
  refine RL.call zt zr HX [(str p0),(.int .u8 (ab.toNat:Int))] zr (aF (lu N (p0:=p0) (p1:=(ab.toNat:Int)) o af) ?_)
  rintro _ w ⟨rfl,o⟩
  refine aK (vi ae) (RL.nt (RC.rb (bS ?_)))
  obtain rfl:=oi j
  exact cL ⟨rfl,o.drop 0⟩
 refine RC.sr (mv (vi p1.cR.length) (mv (str p0) (RL.lens p0 zq (ic ((p1.cR.length:Int)) ((p0.cR.length:Int)) (aK (vb (decide ((p1.cR.length:Int)>=(p0.cR.length:Int)))) (RL.nt (eQ j (fun hc j=>?_) fun hc j=>?_)))))))
 rotate_left
 ·cases j
 refine RC.sr (aK (vi (-1)) (RL.nt (RC.rb (bS ?_))))
 obtain rfl:=oi j
 exact cL ⟨rfl,o.drop 0⟩
theorem pJ {p0 p1:dA} (o:Holds E w V) (j:ke N p0 p1=some res):
    Calls bF 170 [(str p0),(str p1)].toArray w (gI (aQ E V res)):=by
 unfold ke at j
 refine enter Tryz.func170 zr zr (RC.sr (aK (vi 0) (RL.ns (mv (str p0) (mv (str p1) ?_)))))
 obtain⟨aa,ab,j⟩:=bd j
 refine RL.call zt zr JL [(str p0),(str p1)] zr (aF (rz N (p0:=p0) (p1:=p1) o ab) ?_)
 rintro _ w ⟨rfl,o⟩
 refine aK (vi aa) (RL.nt (RC.ret ?_))
 obtain rfl:=oi j
 exact cL ⟨rfl,o.drop 0⟩
def wQ (E:World) (V:List HP) (r:Int) (U:Nat->Value) (w:World):Prop:=l5 bF 34 Tryz.f169 (aQ E V r) .ret U w
theorem vJ {p0 p1:dA} (hw:Holds E w V) (j:ll N p0 p1=some res):
    Calls bF 169 [(str p0),(str p1)].toArray w (gI (aQ E V res)):=by
 unfold ll at j
 refine enter Tryz.func169 zr zr (RC.sr (aK (vi 0) (RL.nq (RC.sr (mv (str p1) (RL.lens p1 zq (ic ((p1.cR.length:Int)) 0 (RL.nt ?_))))))))
 refine eQ j (fun hc j=>?_) fun hc j=>?_
 ·cases j
 refine RC.ss (RC.sr (mv (str p1) (RL.lens p1 zq (ic ((p1.cR.length:Int)) 1 (RL.nt (eQ j (fun hc j=>?_) fun hc j=>?_))))))
 ·refine RC.sr (mv (str p0) (mv (str p1) ?_))
  obtain⟨ad,af,j⟩:=bd j
  refine RL.idxs p1 0 ad zr zr zr zq af (RL.xm (vi ((Lib.countByte p0.cR (Int.toNat (ad.toNat:Int)).toUInt8:Nat):Int)) zr [(str p0),(.int .u8 (ad.toNat:Int))] zr (LA p0 (ad.toNat:Int) w) (aK (vi ((Lib.countByte p0.cR (Int.toNat (ad.toNat:Int)).toUInt8:Nat):Int)) (RL.nt (RC.rt ?_))))
  obtain rfl:=oi j
  exact cL ⟨rfl,hw.drop 0⟩
 refine RC.sx (aK (vi 0) (RL.nt ?_))
 obtain⟨al,hN,j⟩:=bd j
 refine RC.iter (fun(o:dA×Int)=>SH E V [(0,(str o.1)),(1,(str p1)),(4,vi 0),(5,vi o.2)] []) (fun(o:dA×Int)=>SH E V [(4,vi 0)] []) (wQ E V) hN ?_ ?_ ?_ ?_
 ·exact hw.sp 0 []
 ·rintro o fl _ w ⟨O,rfl,hw⟩ j
  refine RC.bs (mv (str o.1) (mv (str p1) ?_))
  obtain⟨ae,ah,j⟩:=bd j
  refine RL.call zt zr HY [(str o.1),(str p1)] zr (aF (pJ N (p0:=o.1) (p1:=p1) hw ah) ?_)
  rintro _ w ⟨rfl,hw⟩
  refine aK (vi ae) (RL.nq (RC.sr (mv (vi ae) (ic ae ((-1)) (RL.nt (eQ j (fun hc j=>?_) fun hc j=>?_))))))
  ·refine RC.sr (mv (vi o.2) (aK (vi o.2) (RL.nt (RC.rt (jR ?_)))))
   obtain rfl:=oi j
   exact⟨rfl,cL ⟨rfl,hw.drop 0⟩⟩
  refine RC.sx (mv (vi o.2) (RL.jA o.2 1 (aK (vi (IntKind.wrap .i64 (o.2+1))) (RL.nt (RC.region (mv (str o.1) (mv (vi ae) (mv (str p1) ?_))))))))
  refine RL.lens p1 zq (RL.jA ae (p1.cR.length:Int) ?_)
  obtain⟨ai,aj,j⟩:=bd j
  refine RL.tl o.1 zr zr zq (.inl zr) (.inr ⟨rfl,zr⟩) aj (aK (str ai) (RL.nil (bK ?_)))
  obtain rfl:=oi j
  exact⟨rfl,hw.sp 0 []⟩
 ·intro r U w e hK
  subst e
  obtain rfl:=oi j
  exact hK
 rintro o _ w rfl ⟨O,rfl,hw⟩
 rw [Fo.gl] at j
 obtain rfl:=oi j
 refine y8 ?_
 exact cL ⟨rfl,hw.drop 0⟩
theorem sR {p0 p1:dA} {res: (List dA)} (o:Holds E w V) (j:kW N p0 p1 p2 p3=some res):
    Calls bF 133 [(str p0),(str p1),(vi p2),(vi p3)].toArray w (gI (n8 E V res)):=by
 unfold kW at j
 refine enter Tryz.func133 zr zr (RC.sr (aK (.slice none 0 0) (RL.nq (RC.sr (mv (vi p3) (ic p3 0 (RL.nt (eQ j (fun hc j=>?_) fun hc j=>?_))))))))
 ·refine RC.sr (aK (.slice none 0 0) (RL.nt (RC.rt ?_)))
  obtain rfl:=oi j
  have o:=o.cH dA 9
  exact cL (o.pk 1 [0])
 refine RC.ss (RC.sr (mv (str p1) (RL.D2 (a:=p1) (b:=⟨[]⟩) zt zr zr zr zr (RL.nt (eQ j (fun hc j=>?_) fun hc j=>?_)))))
 ·cases j
 refine RC.ss (RC.sr (mv (vi p3) (ic p3 0 (RL.nt ?_))))
 obtain⟨ab,hj,j⟩:=bd j
 refine RC.jn (fun(ab:Int)=>SH E V [(0,(str p0)),(1,(str p1)),(2,vi p2),(3,vi ab)] []) ab ?_ ?_
 ·refine eQ hj (fun hc hj=>?_) fun hc hj=>?_
  rotate_left
  ·refine RC.skip ?_
   obtain rfl:=oi hj
   exact⟨rfl,o.sp 0 []⟩
  refine RC.region (mv (str p0) (mv (str p1) ?_))
  obtain⟨aj,ak,hj⟩:=bd hj
  refine RL.call zt zr JM [(str p0),(str p1)] zr (aF (vJ N (p0:=p0) (p1:=p1) o ak) ?_)
  rintro _ w ⟨rfl,o⟩
  refine RL.jA aj 1 (aK (vi (IntKind.wrap .i64 (aj+1))) (RL.nil ?_))
  obtain rfl:=oi hj
  exact⟨rfl,o.sp 0 []⟩
 rintro _ w ⟨O,rfl,o⟩
 refine aG (RC.sr (mv (vi ab) (mv (str p0) (RL.lens p0 zq (RL.jA (p0.cR.length:Int) 1 (RL.min ab (IntKind.wrap .i64 ((p0.cR.length:Int)+1)) (aK (vi (if (IntKind.wrap .i64 ((p0.cR.length:Int)+1))<ab then (IntKind.wrap .i64 ((p0.cR.length:Int)+1)) else ab)) (RL.ns ?_))))))))
 refine mv (vi (if (IntKind.wrap .i64 ((p0.cR.length:Int)+1))<ab then (IntKind.wrap .i64 ((p0.cR.length:Int)+1)) else ab)) ?_
 obtain⟨ay,al,j⟩:=bd j
 refine RL.mk (if (IntKind.wrap .i64 ((p0.cR.length:Int)+1))<ab then (IntKind.wrap .i64 ((p0.cR.length:Int)+1)) else ab) o JN MN al fun ae w o=>?_
 refine aK ae (RL.ns (mv (vi (if (IntKind.wrap .i64 ((p0.cR.length:Int)+1))<ab then (IntKind.wrap .i64 ((p0.cR.length:Int)+1)) else ab)) (RL.jA (if (IntKind.wrap .i64 ((p0.cR.length:Int)+1))<ab then (IntKind.wrap .i64 ((p0.cR.length:Int)+1)) else ab) 1 (aK (vi (IntKind.wrap .i64 ((if (IntKind.wrap .i64 ((p0.cR.length:Int)+1))<ab then (IntKind.wrap .i64 ((p0.cR.length:Int)+1)) else ab) - 1))) (RL.ns (aK (vi 0) (RL.nq ?_)))))))
 obtain⟨az,hN,j⟩:=bd j
 refine RC.iter (fun(aa:dA×(List dA)×Int)=>SH E V [(0,(str aa.1)),(1,(str p1)),(2,vi p2),(3,(vi (IntKind.wrap .i64 ((if (IntKind.wrap .i64 ((p0.cR.length:Int)+1))<ab then (IntKind.wrap .i64 ((p0.cR.length:Int)+1)) else ab) - 1)))),(9,ae),(10,vi aa.2.2)] [own 9 ae aa.2.1]) (fun(aa:dA×(List dA)×Int)=>SH E V [(0,(str aa.1)),(9,ae),(10,vi aa.2.2)] [own 9 ae aa.2.1]) (fun(r:Empty) _ _=>r.elim) hN ?_ ?_ ?_ ?_
 ·exact o.sp 1 [0]
 ·rintro aa fl _ w ⟨O,rfl,o⟩ j
  refine RC.seq (RC.sr (mv (vi aa.2.2) (mv (vi (IntKind.wrap .i64 ((if (IntKind.wrap .i64 ((p0.cR.length:Int)+1))<ab then (IntKind.wrap .i64 ((p0.cR.length:Int)+1)) else ab) - 1))) (ic aa.2.2 ((IntKind.wrap .i64 ((if (IntKind.wrap .i64 ((p0.cR.length:Int)+1))<ab then (IntKind.wrap .i64 ((p0.cR.length:Int)+1)) else ab) - 1))) (RL.nt (eQ j (fun hc j=>?_) fun hc j=>?_))))))
  rotate_left
  ·refine RC.ex ?_
   obtain rfl:=oi j
   exact⟨rfl,o.sp 1 [0]⟩
  refine RC.sn (RC.bs (mv (str aa.1) (mv (str p1) ?_)))
  obtain⟨ag,ao,j⟩:=bd j
  refine RL.call zt zr HY [(str aa.1),(str p1)] zr (aF (pJ N (p0:=aa.1) (p1:=p1) o ao) ?_)
  rintro _ w ⟨rfl,o⟩
  refine aK (vi ag) (RL.nq (RC.sr (mv (vi ag) (ic ag 0 (RL.nt (eQ j (fun hc j=>?_) fun hc j=>?_))))))
  ·refine RC.ex (Is (by decide) ?_)
   obtain rfl:=oi j
   exact⟨rfl,o.sp 1 [0]⟩
  refine RC.sx (mv ae (mv (vi aa.2.2) (mv (str aa.1) (mv (vi ag) (mv (vi p2) (RL.jA ag p2 ?_))))))
  obtain⟨aq,ar,j⟩:=bd j
  refine RL.tl aa.1 zr zr zq (.inr ⟨rfl,zr⟩) (.inl zr) ar ?_
  obtain⟨a1,ah,j⟩:=bd j
  refine RL.bQ 0 o zr zr Dx ah ?_
  have o:=o.sc dA aq
  refine RL.gE (f:=(fun _ y=>y)) 1 0 o (jG 1 o ah 0) (bB ah).2.1 zr Fs.self FG fun w o=>?_
  refine RL.ns (mv (str aa.1) (mv (vi ag) (mv (str p1) (RL.lens p1 zq (RL.jA ag (p1.cR.length:Int) ?_)))))
  obtain⟨au,av,j⟩:=bd j
  refine RL.tl aa.1 zr zr zq (.inl zr) (.inr ⟨rfl,zr⟩) av (aK (str au) (RL.nt (RC.region (mv (vi aa.2.2) (RL.jA aa.2.2 1 (aK (vi (IntKind.wrap .i64 (aa.2.2+1))) (RL.nil (bK ?_))))))))
  obtain rfl:=oi j
  exact⟨rfl,o.sp 2 [1]⟩
 ·intro r _ _ _ _
  exact r.elim
 rintro aa _ w rfl ⟨O,rfl,o⟩
 rw [Fo.gl] at j
 refine aG (RC.sr (mv ae (mv (vi aa.2.2) (mv (str aa.1) ?_))))
 obtain⟨a2,ai,j⟩:=bd j
 refine RL.bQ 0 o zr zr Dx ai ?_
 have o:=o.sc dA aa.1
 refine RL.gE (f:=(fun _ y=>y)) 1 0 o (jG 1 o ai 0) (bB ai).2.1 zr Fs.self FG fun w o=>?_
 refine RL.ns (mv ae (mv (vi aa.2.2) (RL.jA aa.2.2 1 ?_)))
 obtain⟨a3,aw,j⟩:=bd j
 refine RL.z7 1 zr o zr zr Dx (.inr ⟨rfl,zr⟩) aw fun ax o=>(aK ax (RL.nt (RC.ret ?_)))
 obtain rfl:=oi j
 exact cL (o.pk 2 [1])
theorem vK {p0 p1:dA} {res: (List dA)} (o:Holds E w V) (j:ln N p0 p1=some res):
    Calls bF 110 [(str p0),(str p1)].toArray w (gI (n8 E V res)):=by
 unfold ln at j
 refine enter Tryz.func110 zr zr (RC.sr (aK (.slice none 0 0) (RL.ns (mv (str p0) (mv (str p1) ?_)))))
 obtain⟨ad,aa,j⟩:=bd j
 refine RL.call zt zr JO [(str p0),(str p1),(vi 0),(vi (-1))] zr (aF (sR N (p0:=p0) (p1:=p1) (p2:=0) (p3:=(-1)) o aa) ?_)
 rintro ab w o
 refine aK ab (RL.nt (RC.ret ?_))
 obtain rfl:=oi j
 exact cL (o.pk 1 [0])
def oJ (E:World) (V:List HP) (r:Int) (U:Nat->Value) (w:World):Prop:=l5 bF 19 Tryz.f132 (aQ E V r) .ret U w
theorem og {p0: (List dA)} {p1:dA->Option Bool} (j:Holds E w V) (h0:V[i0]? =some (rd v0 p0)) (h1:GS bF E V v1 p1 (fun(r:Bool)=>Value.bool r)) (o:jI N p0 p1=some res):
    Calls bF 132 [v0,v1].toArray w (gI (aQ E V res)):=by
 unfold jI at o
 refine enter Tryz.func132 zr zr ?_
 have j:=j.dup (i0+0) h0
 refine RC.sr (aK (vi 0) (RL.nq (RC.sr (mv v0 (RL.bD 0 p0 j JQ (mv (vi 0) (RL.nt ?_)))))))
 obtain⟨al,hN,o⟩:=bd o
 refine RC.range (fun(aa:Nat) (ab:Unit)=>SH E V [(0,v0),(1,v1),(7,vi p0.length),(8,vi aa)] [rd v0 p0]) (fun(ab:Unit)=>SH E V [] [rd v0 p0]) (oJ E V) hN ?_ ?_ ?_ ?_ ?_
 ·exact j.sp 1 [0]
 ·rintro hm ab _ w ⟨O,rfl,j⟩
  refine RC.sr (ic ((p0.length:Int)) ((p0.length:Int)) (RL.nq (RC.cN lS (RC.ex ?_))))
  exact⟨rfl,j.sp 1 [0]⟩
 ·rintro hm aa ab fl _ w hk ⟨O,rfl,j⟩ o
  refine RC.sr (ic ((aa:Int)) ((p0.length:Int)) (RL.nq (RC.cM (lR hk) (RC.ss (RC.bs (mv (vi aa) (aK (vi aa) (RL.ns ?_))))))))
  refine mv v1 (mv v0 (mv (vi aa) ?_))
  obtain⟨af,ah,o⟩:=bd o
  refine RL.cC 0 j Dx ah fun ao j=>(RL.bI af 0 j FG ?_)
  have j:=j.sc dA af
  obtain⟨aq,ai,o⟩:=bd o
  refine RL.z6 0 zr j zr h1 3 zr zr zr ai fun w j=>(RL.nt (eQ o (fun hc o=>?_) fun hc o=>?_))
  rotate_left
  ·refine RC.skip (bK (aG (RC.region (RL.inc hk hm (mv (vi ((aa+1:Nat):Int)) (RL.nil ?_))))))
   obtain rfl:=oi o
   exact⟨rfl,j.sp 3 [2]⟩
  refine RC.sr (mv (vi aa) (aK (vi aa) (RL.nt (RC.rb (bS ?_)))))
  obtain rfl:=oi o
  exact⟨rfl,cL ⟨rfl,j.drop 3⟩⟩
 ·intro r U w e hK
  subst e
  refine bS ?_
  obtain rfl:=oi o
  exact hK
 rintro ab _ w rfl ⟨O,rfl,j⟩
 rw [Fo.gl] at o
 refine aG (RC.sr (aK (vi (-1)) (RL.nt (RC.ret ?_))))
 obtain rfl:=oi o
 exact cL ⟨rfl,j.drop 1⟩
theorem mY {p0: (List dA)} {p1:dA->Option Bool} {res:Bool} (j:Holds E w V) (h0:V[i0]? =some (rd v0 p0)) (h1:GS bF E V v1 p1 (fun(r:Bool)=>Value.bool r)) (o:gu N p0 p1=some res):
    Calls bF 109 [v0,v1].toArray w (gI (bE E V res)):=by
 unfold gu at o
 refine enter Tryz.func109 zr zr ?_
 have j:=j.dup (i0+0) h0
 refine RC.sr (aK (vb false) (RL.ns (mv v0 (mv v1 ?_))))
 obtain⟨aa,ab,o⟩:=bd o
 refine RL.call zt zr JR [v0,v1] zr (aF (og N (i0:=0) j zr (h1.lift 1 zr) ab) ?_)
 rintro _ w ⟨rfl,j⟩
 refine ic aa 0 (aK (vb (decide (aa>=0))) (RL.nt (RC.ret ?_)))
 obtain rfl:=oi o
 exact cL ⟨rfl,j.drop 1⟩
theorem rA {p0:dA} (o:Holds E w V) (j:hQ N p0 p1=some res):
    Calls bF 112 [(str p0),(.int .u8 p1)].toArray w (gI (aQ E V res)):=by
 unfold hQ at j
 refine enter Tryz.func112 zr zr (RC.sr (aK (vi 0) (RL.ns (mv (str p0) (mv (.int .u8 p1) ?_)))))
 obtain⟨aa,ab,j⟩:=bd j
 refine RL.call zt zr HX [(str p0),(.int .u8 p1)] zr (aF (lu N (p0:=p0) (p1:=p1) o ab) ?_)
 rintro _ w ⟨rfl,o⟩
 refine aK (vi aa) (RL.nt (RC.ret ?_))
 obtain rfl:=oi j
 exact cL ⟨rfl,o.drop 0⟩
def vL (E:World) (V:List HP) (r:Bool) (U:Nat->Value) (w:World):Prop:=l5 bF 49 Tryz.f75 (bE E V r) .ret U w
theorem oW {p0:dA} {res:Bool} (hw:Holds E w V) (o:gY N p0=some res):
    Calls bF 75 [(str p0)].toArray w (gI (bE E V res)):=by
 unfold gY at o
 refine enter Tryz.func75 zr zr (RC.sr (aK (vb false) (RL.nq (RC.sr (mv (str p0) (RL.lens p0 zq (mv (vi 0) (RL.nt ?_))))))))
 obtain⟨ar,hN,o⟩:=bd o
 refine RC.range (fun(ab:Nat) (af:Unit)=>SH E V [(0,(str p0)),(6,vi p0.cR.length),(7,vi ab)] []) (fun(af:Unit)=>SH E V [(0,(str p0))] []) (vL E V) hN ?_ ?_ ?_ ?_ ?_
 ·exact hw.sp 0 []
 ·rintro hm af _ w ⟨O,rfl,hw⟩
  refine RC.sr (ic ((p0.cR.length:Int)) ((p0.cR.length:Int)) (RL.nq (RC.cN lS (RC.ex ?_))))
  exact⟨rfl,hw.sp 0 []⟩
 ·rintro hm ab af fl _ w hk ⟨O,rfl,hw⟩ o
  refine RC.sr (ic ((ab:Int)) ((p0.cR.length:Int)) (RL.nq (RC.cM (lR hk) (RC.ss (RC.bs (mv (vi ab) (aK (vi ab) (RL.ns ?_))))))))
  refine mv (str p0) (mv (vi ab) ?_)
  obtain⟨j,al,o⟩:=bd o
  refine RL.idxs p0 (ab:Int) j zr zr zr zq al (aK (.int .u8 (j.toNat:Int)) (RL.nq ?_))
  obtain⟨ag,hj,o⟩:=bd o
  refine RC.jn (fun(ag:Bool)=>SH E V [(0,(str p0)),(6,vi p0.cR.length),(7,vi ab),(39,vb ag)] []) ag ?_ ?_
  ·refine RC.region (mv (.int .u8 (j.toNat:Int)) (ic ((j.toNat:Int)) 65 (mv (vb (decide ((j.toNat:Int)<65))) (RL.gs true (decide ((j.toNat:Int)<65)) (.int .u8 (j.toNat:Int)) rfl rfl rfl dW (RL.gs true (decide ((j.toNat:Int)<65)) (vb (decide ((j.toNat:Int)>90))) rfl rfl rfl (eE .gtr .u8 (j.toNat:Int) 90 rfl (fun h=>by exact(cV h:cv (true&&((decide ((j.toNat:Int)<65))==false)) (.int .u8 (j.toNat:Int))= (.int .u8 (j.toNat:Int)))) (fun _=>rfl) rfl) (RL.pick (decide ((j.toNat:Int)<65)) (vb ((decide ((j.toNat:Int)<65))||(decide ((j.toNat:Int)>90)))) (nS true rfl) (mv (vb ((decide ((j.toNat:Int)<65))||(decide ((j.toNat:Int)>90)))) (RL.gs true ((decide ((j.toNat:Int)<65))||(decide ((j.toNat:Int)>90))) (.int .u8 (j.toNat:Int)) rfl rfl rfl dW ?_))))))))
   refine RL.gs true ((decide ((j.toNat:Int)<65))||(decide ((j.toNat:Int)>90))) (vb (decide ((j.toNat:Int)<97))) rfl rfl rfl (eE .lss .u8 (j.toNat:Int) 97 rfl (fun h=>by exact(cV h:cv (true&&(((decide ((j.toNat:Int)<65))||(decide ((j.toNat:Int)>90)))==true)) (.int .u8 (j.toNat:Int))= (.int .u8 (j.toNat:Int)))) (fun _=>rfl) rfl) (RL.gs true ((decide ((j.toNat:Int)<65))||(decide ((j.toNat:Int)>90))) (vb (decide ((j.toNat:Int)<97))) rfl rfl rfl (dW (hx:=fun h=>by exact(cV h:cv (true&&(((decide ((j.toNat:Int)<65))||(decide ((j.toNat:Int)>90)))==true)) (vb (decide ((j.toNat:Int)<97)))= (vb (decide ((j.toNat:Int)<97)))))) (RL.gs (true&&(((decide ((j.toNat:Int)<65))||(decide ((j.toNat:Int)>90)))==true)) (decide ((j.toNat:Int)<97)) (.int .u8 (j.toNat:Int)) rfl rfl rfl dW (RL.gs (true&&(((decide ((j.toNat:Int)<65))||(decide ((j.toNat:Int)>90)))==true)) (decide ((j.toNat:Int)<97)) (vb (decide ((j.toNat:Int)>122))) rfl rfl rfl (eE .gtr .u8 (j.toNat:Int) 122 rfl (fun h=>by exact(cV h:cv ((true&&(((decide ((j.toNat:Int)<65))||(decide ((j.toNat:Int)>90)))==true))&&((decide ((j.toNat:Int)<97))==false)) (.int .u8 (j.toNat:Int))= (.int .u8 (j.toNat:Int)))) (fun _=>rfl) rfl) (RL.gs true ((decide ((j.toNat:Int)<65))||(decide ((j.toNat:Int)>90))) (vb ((decide ((j.toNat:Int)<97))||(decide ((j.toNat:Int)>122)))) rfl rfl rfl (oQ (decide ((j.toNat:Int)<97)) rfl (fun h=>by exact(cV h:cv (true&&(((decide ((j.toNat:Int)<65))||(decide ((j.toNat:Int)>90)))==true)) (vb (decide ((j.toNat:Int)<97)))= (vb (decide ((j.toNat:Int)<97))))) (fun h=>by exact nS (true&&(((decide ((j.toNat:Int)<65))||(decide ((j.toNat:Int)>90)))==true)) h)) (RL.pick ((decide ((j.toNat:Int)<65))||(decide ((j.toNat:Int)>90))) (vb (((decide ((j.toNat:Int)<65))||(decide ((j.toNat:Int)>90)))&&((decide ((j.toNat:Int)<97))||(decide ((j.toNat:Int)>122))))) (i6 true) (mv (vb (((decide ((j.toNat:Int)<65))||(decide ((j.toNat:Int)>90)))&&((decide ((j.toNat:Int)<97))||(decide ((j.toNat:Int)>122))))) (RL.gs true (((decide ((j.toNat:Int)<65))||(decide ((j.toNat:Int)>90)))&&((decide ((j.toNat:Int)<97))||(decide ((j.toNat:Int)>122)))) (.int .u8 (j.toNat:Int)) rfl rfl rfl dW (RL.gs true (((decide ((j.toNat:Int)<65))||(decide ((j.toNat:Int)>90)))&&((decide ((j.toNat:Int)<97))||(decide ((j.toNat:Int)>122)))) (vb (decide ((j.toNat:Int)<48))) rfl rfl rfl (eE .lss .u8 (j.toNat:Int) 48 rfl (fun h=>by exact(cV h:cv (true&&((((decide ((j.toNat:Int)<65))||(decide ((j.toNat:Int)>90)))&&((decide ((j.toNat:Int)<97))||(decide ((j.toNat:Int)>122))))==true)) (.int .u8 (j.toNat:Int))= (.int .u8 (j.toNat:Int)))) (fun _=>rfl) rfl) ?_))))))))
   refine RL.gs true (((decide ((j.toNat:Int)<65))||(decide ((j.toNat:Int)>90)))&&((decide ((j.toNat:Int)<97))||(decide ((j.toNat:Int)>122)))) (vb (decide ((j.toNat:Int)<48))) rfl rfl rfl (dW (hx:=fun h=>by exact(cV h:cv (true&&((((decide ((j.toNat:Int)<65))||(decide ((j.toNat:Int)>90)))&&((decide ((j.toNat:Int)<97))||(decide ((j.toNat:Int)>122))))==true)) (vb (decide ((j.toNat:Int)<48)))= (vb (decide ((j.toNat:Int)<48)))))) (RL.gs (true&&((((decide ((j.toNat:Int)<65))||(decide ((j.toNat:Int)>90)))&&((decide ((j.toNat:Int)<97))||(decide ((j.toNat:Int)>122))))==true)) (decide ((j.toNat:Int)<48)) (.int .u8 (j.toNat:Int)) rfl rfl rfl dW (RL.gs (true&&((((decide ((j.toNat:Int)<65))||(decide ((j.toNat:Int)>90)))&&((decide ((j.toNat:Int)<97))||(decide ((j.toNat:Int)>122))))==true)) (decide ((j.toNat:Int)<48)) (vb (decide ((j.toNat:Int)>57))) rfl rfl rfl (eE .gtr .u8 (j.toNat:Int) 57 rfl (fun h=>by exact(cV h:cv ((true&&((((decide ((j.toNat:Int)<65))||(decide ((j.toNat:Int)>90)))&&((decide ((j.toNat:Int)<97))||(decide ((j.toNat:Int)>122))))==true))&&((decide ((j.toNat:Int)<48))==false)) (.int .u8 (j.toNat:Int))= (.int .u8 (j.toNat:Int)))) (fun _=>rfl) rfl) (RL.gs true (((decide ((j.toNat:Int)<65))||(decide ((j.toNat:Int)>90)))&&((decide ((j.toNat:Int)<97))||(decide ((j.toNat:Int)>122)))) (vb ((decide ((j.toNat:Int)<48))||(decide ((j.toNat:Int)>57)))) rfl rfl rfl (oQ (decide ((j.toNat:Int)<48)) rfl (fun h=>by exact(cV h:cv (true&&((((decide ((j.toNat:Int)<65))||(decide ((j.toNat:Int)>90)))&&((decide ((j.toNat:Int)<97))||(decide ((j.toNat:Int)>122))))==true)) (vb (decide ((j.toNat:Int)<48)))= (vb (decide ((j.toNat:Int)<48))))) (fun h=>by exact nS (true&&((((decide ((j.toNat:Int)<65))||(decide ((j.toNat:Int)>90)))&&((decide ((j.toNat:Int)<97))||(decide ((j.toNat:Int)>122))))==true)) h)) (RL.pick (((decide ((j.toNat:Int)<65))||(decide ((j.toNat:Int)>90)))&&((decide ((j.toNat:Int)<97))||(decide ((j.toNat:Int)>122)))) (vb ((((decide ((j.toNat:Int)<65))||(decide ((j.toNat:Int)>90)))&&((decide ((j.toNat:Int)<97))||(decide ((j.toNat:Int)>122))))&&((decide ((j.toNat:Int)<48))||(decide ((j.toNat:Int)>57))))) (i6 true) (mv (vb ((((decide ((j.toNat:Int)<65))||(decide ((j.toNat:Int)>90)))&&((decide ((j.toNat:Int)<97))||(decide ((j.toNat:Int)>122))))&&((decide ((j.toNat:Int)<48))||(decide ((j.toNat:Int)>57))))) (fM hj (fun ad hj=>?_) fun ad hj=>?_))))))
   rotate_left
   ·refine bO ad (bO ad (bO ad (fJ ad (vb false) (RL.nil ?_))))
    obtain rfl:=oi hj
    exact⟨rfl,hw.sp 0 []⟩
   refine RL.move (.int .u8 (j.toNat:Int)) (cg ad) ?_
   obtain⟨aj,an,hj⟩:=bd hj
   refine RL.call (cg ad) zr JS [(str ⟨[95,43,45,35]⟩),(.int .u8 (j.toNat:Int))] zr (aF (rA N (p0:=⟨[95,43,45,35]⟩) (p1:=(j.toNat:Int)) hw an) ?_)
   rintro _ w ⟨rfl,hw⟩
   refine RL.i7 aj 0 (cg ad) (fJ ad (vb (decide (aj<0))) (RL.nil ?_))
   obtain rfl:=oi hj
   exact⟨rfl,hw.sp 0 []⟩
  rintro _ w ⟨O,rfl,hw⟩
  refine aG (eQ o (fun hc o=>?_) fun hc o=>?_)
  rotate_left
  ·refine RC.skip (bK (aG (RC.region (RL.inc hk hm (mv (vi ((ab+1:Nat):Int)) (RL.nil ?_))))))
   obtain rfl:=oi o
   exact⟨rfl,hw.sp 0 []⟩
  refine RC.sr (aK (vb false) (RL.nt (RC.rb (bS ?_))))
  obtain rfl:=oi o
  exact⟨rfl,cL ⟨rfl,hw.drop 0⟩⟩
 ·intro r U w e hK
  subst e
  refine bS ?_
  obtain rfl:=oi o
  exact hK
 rintro af _ w rfl ⟨O,rfl,hw⟩
 rw [Fo.gl] at o
 refine aG (RC.sr (mv (str p0) (RL.lens p0 zq (ic ((p0.cR.length:Int)) 1 (mv (vb (decide ((p0.cR.length:Int)>=1))) (RL.gs true (decide ((p0.cR.length:Int)>=1)) (str p0) rfl rfl rfl dW (RL.gs true (decide ((p0.cR.length:Int)>=1)) (vi p0.cR.length) rfl rfl rfl (G2 (s:=p0) rfl (fun h=>by exact(cV h:cv (true&&((decide ((p0.cR.length:Int)>=1))==true)) (str p0)= (str p0))) zq) (RL.gs true (decide ((p0.cR.length:Int)>=1)) (vb (decide ((p0.cR.length:Int)<=40))) rfl rfl rfl (eE .leq .i64 (p0.cR.length:Int) 40 rfl (fun h=>by exact(cV h:cv (true&&((decide ((p0.cR.length:Int)>=1))==true)) (vi p0.cR.length)= (vi p0.cR.length))) (fun _=>rfl) rfl) ?_))))))))
 refine RL.pick (decide ((p0.cR.length:Int)>=1)) (vb ((decide ((p0.cR.length:Int)>=1))&&(decide ((p0.cR.length:Int)<=40)))) (i6 true) (aK (vb ((decide ((p0.cR.length:Int)>=1))&&(decide ((p0.cR.length:Int)<=40)))) (RL.nt (RC.ret ?_)))
 obtain rfl:=oi o
 exact cL ⟨rfl,hw.drop 0⟩
theorem rB {p0:dA} {res:Bool} (o:Holds E w V) (j:gv N p0=some res):
    Calls bF 111 [(str p0)].toArray w (gI (bE E V res)):=by
 unfold gv at j
 refine enter Tryz.func111 zr zr (RC.sr (aK (vb false) (RL.ns (mv (str p0) ?_))))
 obtain⟨aa,ab,j⟩:=bd j
 refine RL.call zt zr JT [(str p0)] zr (aF (oW N (p0:=p0) o ab) ?_)
 rintro _ w ⟨rfl,o⟩
 refine RL.not aa (aK (vb (!aa)) (RL.nt (RC.ret ?_)))
 obtain rfl:=oi j
 exact cL ⟨rfl,o.drop 0⟩
theorem uN {p0:dA} {res:Bool} (j:Holds E w V) (hb:kB N p0=some res):
    Calls bF 74 [(str p0)].toArray w (gI (bE E V res)):=by
 unfold kB at hb
 refine enter Tryz.func74 zr zr (RC.sr (aK (vb false) (RL.nq ?_)))
 obtain⟨ad,hj,hb⟩:=bd hb
 refine RC.jn (fun(ad:Bool)=>SH E V [(2,vb ad)] []) ad ?_ ?_
 ·refine RC.region (mv (str p0) (RL.lens p0 zq (ic ((p0.cR.length:Int)) 200 (mv (vb (decide ((p0.cR.length:Int)<=200))) (fM hj (fun o hj=>?_) fun o hj=>?_)))))
  rotate_left
  ·refine bO o (bO o (bO o (bO o (fJ o (vb false) (aK (vb false) (RL.nil ?_))))))
   obtain rfl:=oi hj
   exact⟨rfl,j.sp 0 []⟩
  refine RL.move (str p0) (cg o) ?_
  obtain⟨ai,af,hj⟩:=bd hj
  refine RL.call (cg o) zr JP [(str p0),(str ⟨[47]⟩)] zr (aF (vK N (p0:=p0) (p1:=⟨[47]⟩) j af) ?_)
  rintro ag w j
  have j:=j.freeze 0
  obtain⟨ae,ah,hj⟩:=bd hj
  refine RL.call (cg o) rfl JV [ag,(.func (.func 111) #[] #[])] rfl (aF (mY N (i0:=0) j rfl ⟨111,[],rfl,JU,fun w Γl v y0 r i j hi hr=>by obtain rfl:=j.zY (γ:=dA) hi;exact aF (rB N (p0:=y0) j hr) fun _ _ h=>h⟩ ah) ?_)
  rintro _ w ⟨rfl,j⟩
  refine RL.not (hg:=(cg o)) ae (fJ o (vb (!ae)) (aK (vb (!ae)) (RL.nil ?_)))
  obtain rfl:=oi hj
  exact⟨rfl,j.sp 1 []⟩
 rintro _ w ⟨O,rfl,j⟩
 refine aG (RC.ret ?_)
 obtain rfl:=oi hb
 exact cL ⟨rfl,j.drop 0⟩
def xP (E:World) (V:List HP) (res:fW) (v:Value) (w:World):Prop:=Holds E w ([rd v res]++V)
theorem lJ {p0:cU} {res:fW} (j:Holds E w V) (h0:V[i0]? =some (rd v0 p0)) (o:jU N p0=some res):
    Calls bF 77 [v0].toArray w (gI (xP E V res)):=by
 unfold jU at o
 refine enter Tryz.func77 zr zr ?_
 have j:=j.dup (i0+0) h0
 refine RC.sr (RL.dB 0 v0 j zr fun aa w j=>?_)
 refine RL.alloc j JW.z fun ab w j=>?_
 refine RL.ns (RL.aZ zr FF (RL.aM 1 j zr zk FG (RL.aZ zr FH (RL.aM 1 j zr zm FG ?_))))
 have j:=(j.sc dA p0.Part).sc dA p0.fW
 refine RL.build (⟨p0.Part,p0.fW⟩:fW) trivial rfl j [(0,(str p0.Part)),(1,(str p0.fW))] rfl IL rfl (fun M hs g=>by have h:=FB M;exact cO.cons (f:=fun(x:fW) y=>{x with Part:=y}) h xB (g.sat 1 _ rfl).1 fun _ h=>cO.cons (f:=fun(x:fW) y=>{x with fW:=y}) h xC (g.sat 0 _ rfl).1 fun _ h=>cO.nil h) fun ad j=>?_
 refine RL.bA 3 j 0 zr oH fun w j=>?_
 refine RL.nt (RC.ret ?_)
 obtain rfl:=oi o
 exact E6 3 zr j zr zr oH fun ae j=>(j.pk 7 [0])
theorem pd {p0 p1:dA} (o:Holds E w V) (j:ki N p0 p1=some res):
    Calls bF 119 [(str p0),(str p1)].toArray w (gI (aQ E V res)):=by
 unfold ki at j
 refine enter Tryz.func119 zr zr (RC.sr (aK (vi 0) (RL.ns (mv (str p0) (mv (str p1) (RL.xm (vi (Lib.compareBytes p0.cR p1.cR)) zr [(str p0),(str p1)] zr (eR p0 p1 w) (aK (vi (Lib.compareBytes p0.cR p1.cR)) (RL.nt ?_))))))))
 refine RC.ret ?_
 obtain rfl:=oi j
 exact cL ⟨rfl,o.drop 0⟩
theorem oh {p0 p1:dA} (o:Holds E w V) (j:lG N p0 p1=some res):
    Calls bF 93 [(str p0),(str p1)].toArray w (gI (aQ E V res)):=by
 unfold lG at j
 refine enter Tryz.func93 zr zr (RC.sr (aK (vi 0) (RL.ns (mv (str p0) (mv (str p1) ?_)))))
 obtain⟨aa,ab,j⟩:=bd j
 refine RL.call zt zr JX [(str p0),(str p1)] zr (aF (pd N (p0:=p0) (p1:=p1) o ab) ?_)
 rintro _ w ⟨rfl,o⟩
 refine aK (vi aa) (RL.nt (RC.ret ?_))
 obtain rfl:=oi j
 exact cL ⟨rfl,o.drop 0⟩
theorem fD {p0 p1:fW} (j:Holds E w V) (h0:V[i0]? =some (rd v0 p0)) (h1:V[i1]? =some (rd v1 p1)) (o:dK N p0 p1=some res):
    Calls bF 57 [v0,v1].toArray w (gI (aQ E V res)):=by
 unfold dK at o
 refine enter Tryz.func57 zr zr ?_
 have j:=(j.dup (i0+0) h0).dup (i1+1) h1
 refine RC.sr (RL.dB 1 v0 j zr fun ag w j=>?_)
 refine RL.dB 1 v1 j zr fun ah w j=>?_
 refine aK (vi 0) (RL.nq (RC.sr (RL.aZ zr FI (RL.aM 1 j zr BC FG (RL.aZ zr FI (RL.aM 0 j zr BC FG ?_))))))
 obtain⟨aa,ab,o⟩:=bd o
 refine RL.call zt zr JY [(str p0.Part),(str p1.Part)] zr (aF (oh N (p0:=p0.Part) (p1:=p1.Part) j ab) ?_)
 rintro _ w ⟨rfl,j⟩
 refine aK (vi aa) (RL.ns (mv (vi aa) (ic aa 0 (RL.nt (eQ o (fun hc o=>?_) fun hc o=>?_)))))
 ·refine RC.sr (mv (vi aa) (aK (vi aa) (RL.nt (RC.rt ?_))))
  obtain rfl:=oi o
  exact cL ⟨rfl,j.drop 4⟩
 refine RC.sx (RL.aZ zr FJ (RL.aM 1 j zr BD FG (RL.aZ zr FJ (RL.aM 0 j zr BD FG ?_))))
 obtain⟨ae,af,o⟩:=bd o
 refine RL.call zt zr JY [(str p0.fW),(str p1.fW)] zr (aF (oh N (p0:=p0.fW) (p1:=p1.fW) j af) ?_)
 rintro _ w ⟨rfl,j⟩
 refine aK (vi ae) (RL.nt (RC.ret ?_))
 obtain rfl:=oi o
 exact cL ⟨rfl,j.drop 4⟩
def sS (E:World) (V:List HP) (r:Int) (U:Nat->Value) (w:World):Prop:=l5 bF 60 Tryz.f48 (aQ E V r) .ret U w
theorem rC {p0:gU} (j:Holds E w V) (h0:V[i0]? =some (rd v0 p0)) (hb:jq N p0=some res):
    Calls bF 48 [v0].toArray w (gI (aQ E V res)):=by
 unfold jq at hb
 refine enter Tryz.func48 zr zr ?_
 have j:=j.dup (i0+0) h0
 refine RC.sr (RL.dB 0 v0 j zr fun ag w j=>?_)
 have j:=j.gJ (i:=0) rfl
 refine aK (vi 0) (RL.nq (RC.sr (RL.iu 0 j zr vG ri fun bk j=>(RL.bV 0 p0.bH j Ek fun bl j=>(RL.bD 0 p0.bH j FE (ic ((p0.bH.length:Int)) 1000 (RL.nt (eQ hb (fun hc hb=>?_) fun hc hb=>?_))))))))
 ·refine RC.sr (aK (vi 2) (RL.nt (RC.rt ?_)))
  obtain rfl:=oi hb
  exact cL ⟨rfl,j.drop 4⟩
 refine RC.ss (RC.sr (RL.iu 2 j zr vG ri fun bm j=>(RL.bV 0 p0.bH j Ek fun ah j=>(RL.bD 0 p0.bH j FE (mv (vi 0) (RL.nt ?_))))))
 obtain⟨bn,hN,hb⟩:=bd hb
 refine RC.range (fun(ad:Nat) (ak:Unit)=>SH E V [(1,vp ag 0),(10,ah),(11,vi p0.bH.length),(12,vi ad)] [pt (vp ag 0) p0,rd ah p0.bH]) (fun(ak:Unit)=>SH E V [] [pt (vp ag 0) p0,rd ah p0.bH]) (sS E V) hN ?_ ?_ ?_ ?_ ?_
 ·exact j.sp 6 [4,0]
 ·rintro hm ak _ w ⟨O,rfl,j⟩
  refine RC.sr (ic ((p0.bH.length:Int)) ((p0.bH.length:Int)) (RL.nq (RC.cN lS (RC.ex ?_))))
  exact⟨rfl,j.sp 2 [0,1]⟩
 ·rintro hm ad ak fl _ w hk ⟨O,rfl,j⟩ hb
  refine RC.sr (ic ((ad:Int)) ((p0.bH.length:Int)) (RL.nq (RC.cM (lR hk) (RC.ss (RC.bs (mv (vi ad) ?_))))))
  obtain⟨ai,a1,hb⟩:=bd hb
  refine RL.cC 1 j El a1 fun bp j=>(RL.bV 0 ai j xJ fun bq j=>(RL.alloc j IK.z fun al w j=>?_))
  refine aK (vi ad) (RL.bA 0 j 1 zr xJ fun w j=>?_)
  refine RL.nt (RC.block (RC.seq ?_))
  obtain⟨an,o,hb⟩:=bd hb
  refine RC.jn (fun(an:Bool)=>SH E V [(1,vp ag 0),(3,vi ad),(4,vp al 0),(10,ah),(11,vi p0.bH.length),(12,vi ad),(17,vb an)] [pt (vp ag 0) p0,bx 78 al ai,rd ah p0.bH]) an ?_ ?_
  ·refine RC.region (RL.aZ zr FF (RL.aM 0 j zr zk FG ?_))
   obtain⟨ay,a2,o⟩:=bd o
   refine RL.call zt zr LC [(str ai.Part)] zr (aF (uN N (p0:=ai.Part) j a2) ?_)
   rintro _ w ⟨rfl,j⟩
   refine RL.not ay (mv (vb (!ay)) (fM o (fun ae o=>?_) fun ae o=>?_))
   ·refine bO ae (bO ae (bO ae (bO ae (fJ ae (vb true) (aK (vb true) (RL.nil ?_))))))
    obtain rfl:=oi o
    exact⟨rfl,j.sp 5 [3,0,4]⟩
   refine RL.aZ (hg:=(cg ae)) zr FH (RL.aM (hg:=(cg ae)) 0 j zr zm FG ?_)
   obtain⟨ao,a3,o⟩:=bd o
   refine RL.call (cg ae) zr JT [(str ai.fW)] zr (aF (oW N (p0:=ai.fW) j a3) ?_)
   rintro _ w ⟨rfl,j⟩
   refine RL.not (hg:=(cg ae)) ao (fJ ae (vb (!ao)) (aK (vb (!ao)) (RL.nil ?_)))
   obtain rfl:=oi o
   exact⟨rfl,j.sp 5 [3,0,4]⟩
  rintro _ w ⟨O,rfl,j⟩
  refine aG (eQ hb (fun hc hb=>?_) fun hc hb=>?_)
  ·refine RC.sr (aK (vi 5) (RL.nt (RC.rb (jR (bS ?_)))))
   obtain rfl:=oi hb
   exact⟨rfl,cL ⟨rfl,j.drop 3⟩⟩
  refine RC.seq ?_
  obtain⟨aq,o,hb⟩:=bd hb
  refine RC.jn (fun(aq:Bool)=>SH E V [(1,vp ag 0),(3,vi ad),(4,vp al 0),(10,ah),(11,vi p0.bH.length),(12,vi ad),(28,vb aq)] [pt (vp ag 0) p0,bx 78 al ai,rd ah p0.bH]) aq ?_ ?_
  ·refine RC.region (RL.aZ zr CM (RL.aM 1 j zr vC cQ (RL.iu 0 j zr vE pE fun br j=>(RL.bV 0 p0.aL j Eh fun bt j=>(RL.bD 0 p0.aL j BF (RL.jA (p0.aL.length:Int) 1 ?_))))))
   obtain⟨az,a4,o⟩:=bd o
   refine RL.call zt zr Hg [(vi ai.cX),(vi 0),(vi (IntKind.wrap .i64 ((p0.aL.length:Int) - 1)))] zr (aF (k6 N (p0:=ai.cX) (p1:=0) (p2:=(IntKind.wrap .i64 ((p0.aL.length:Int) - 1))) j a4) ?_)
   rintro _ w ⟨rfl,j⟩
   refine RL.not az (mv (vb (!az)) (fM o (fun af o=>?_) fun af o=>?_))
   ·refine bO af (bO af (bO af (bO af (fJ af (vb true) (aK (vb true) (RL.nil ?_))))))
    obtain rfl:=oi o
    exact⟨rfl,j.sp 5 [2,3,4]⟩
   refine RL.aZ (hg:=(cg af)) zr CN (RL.aP (hg:=(cg af)) 3 j zr vD sK fun a5 j=>?_)
   obtain⟨ar,a6,o⟩:=bd o
   refine RL.call (cg af) zr JI [a5] zr (aF (pI N (i0:=0) j zr a6) ?_)
   rintro _ w ⟨rfl,j⟩
   refine RL.not (hg:=(cg af)) ar (fJ af (vb (!ar)) (aK (vb (!ar)) (RL.nil ?_)))
   obtain rfl:=oi o
   exact⟨rfl,j.sp 6 [3,4,5]⟩
  rintro _ w ⟨O,rfl,j⟩
  refine aG (eQ hb (fun hc hb=>?_) fun hc hb=>?_)
  ·refine RC.sr (aK (vi 1) (RL.nt (RC.rb (jR (bS ?_)))))
   obtain rfl:=oi hb
   exact⟨rfl,cL ⟨rfl,j.drop 3⟩⟩
  refine RC.seq ?_
  obtain⟨au,o,hb⟩:=bd hb
  refine RC.jn (fun(au:Bool)=>SH E V [(1,vp ag 0),(10,ah),(11,vi p0.bH.length),(12,vi ad),(43,vb au)] [pt (vp ag 0) p0,rd ah p0.bH]) au ?_ ?_
  ·refine RC.yC mixed [0,0,0,0,2,1,1,1,1,1,1,2,2,0,0,0] [0,1,2,3,5,6,7,8,9,10,4,11,12,13,14,15] ?_
   have j:=j.drew
   refine DP.e0 zr (mv (vi ad) (cB zr (ic ((ad:Int)) 0 (cB zr (mv (vb (decide ((ad:Int)>0))) (DP.d0 (fM o (fun ab o=>?_) fun ab o=>?_)))))))
   rotate_left
   ·refine DP.e0 zr (bO ab (DP.d0 (DP.e1 undef zr (fun w=>bO ab DP.d1) (DP.e1 undef zr (fun w=>bO ab DP.d1) (DP.e1 undef zr (fun w=>bO ab DP.d1) (DP.e1 undef zr (fun w=>bO ab DP.d1) (DP.e1 undef zr (fun w=>bO ab DP.d1) (DP.e1 undef zr (fun w=>bO ab DP.d1) ?_))))))))
    refine DP.e2 zr (bO ab (Hd zr (bO ab (Hd zr (bO ab (yD zr (bO ab (cB zr ?_))))))))
    refine fJ ab (vb false) (cB zr (aK (vb false) (DP.d0 (DP.z ?_))))
    obtain rfl:=oi o
    exact⟨rfl,j.sp 3 [0,2]⟩
   refine DP.e0 zr (RL.aP (hg:=(cg ab)) (f:=(fun x=>x)) 1 j zr Fd.self xJ fun a7 j=>(DP.d0 (DP.He 1 zr zr (cg ab) zr j zr zr vG ri fun bu j=>(DP.wJ (hg:=(cg ab)) p0.bH 0 zr j Ek fun bw a378 bz j=>(DP.e1 (vi ad) zr (fun w=>RL.move (vi ad) (cg ab) DP.d1) (DP.e1 (vi (IntKind.wrap .i64 ((ad:Int) - 1))) zr (fun w=>RL.jA (hg:=(cg ab)) (ad:Int) 1 DP.d1) ?_))))))
   obtain⟨a8,a9,o⟩:=bd o
   refine DP.IH 1 zr zr (cg ab) zr j zr zr zr El a9 fun b0 j=>(DP.wJ (hg:=(cg ab)) a8 0 zr j xJ fun ba a383 b1 j=>(DP.e2 zr ?_))
   obtain⟨b2,bb,o⟩:=bd o
   refine RL.call (cg ab) zr Hh [a7] zr (aF (lJ N (i0:=6) j zr bb) ?_)
   rintro bc w j
   refine DP.d2 (⟨⟨zt,j.j9 4⟩,j.j9 1⟩) (DP.e2 zr ?_)
   obtain⟨b3,bf,o⟩:=bd o
   refine RL.call (cg ab) zr Hh [ba] zr (aF (lJ N (i0:=2) j zr bf) ?_)
   rintro bg w j
   refine DP.d2 (⟨⟨zt,j.j9 5⟩,j.j9 2⟩) (DP.e2 zr ?_)
   obtain⟨av,bh,o⟩:=bd o
   refine RL.call (cg ab) zr Em [bc,bg] zr (aF (fD N (i0:=1) (i1:=0) j zr zr bh) ?_)
   rintro _ w ⟨rfl,j⟩
   refine DP.d2 (⟨⟨zt,j.j9 5⟩,j.j9 2⟩) (DP.e0 zr (RL.i7 av 0 (cg ab) (cB zr (fJ ab (vb (decide (av<=0))) (cB zr (aK (vb (decide (av<=0))) (DP.d0 ?_)))))))
   have j:=j.pl 12 [0,1,3,4,6,7,8,9,10,11]
   refine DP.z ?_
   obtain rfl:=oi o
   exact⟨rfl,j.sp 10 [7,9]⟩
  rintro _ w ⟨O,rfl,j⟩
  refine aG (eQ hb (fun hc hb=>?_) fun hc hb=>?_)
  rotate_left
  ·refine RC.skip (bK (bK (aG (RC.region (RL.inc hk hm (mv (vi ((ad+1:Nat):Int)) (RL.nil ?_)))))))
   obtain rfl:=oi hb
   exact⟨rfl,j.sp 2 [0,1]⟩
  refine RC.sr (aK (vi 8) (RL.nt (RC.rb (jR (bS ?_)))))
  obtain rfl:=oi hb
  exact⟨rfl,cL ⟨rfl,j.drop 2⟩⟩
 ·intro r U w e hK
  subst e
  refine bS ?_
  obtain rfl:=oi hb
  exact hK
 rintro ak _ w rfl ⟨O,rfl,j⟩
 rw [Fo.gl] at hb
 refine aG (RC.sr (aK (vi 0) (RL.nt (RC.ret ?_))))
 obtain rfl:=oi hb
 exact cL ⟨rfl,j.drop 2⟩
theorem pK (o:Holds E w V) (j:iF N p0 p1 p2 p3=some res):
    Calls bF 78 [(vi p0),(vi p1),(vi p2),(vi p3)].toArray w (gI (aQ E V res)):=by
 unfold iF at j
 refine enter Tryz.func78 zr zr (RC.sr (aK (vi 0) (RL.ns (mv (vi p2) (mv (vi p1) (RL.jA p2 p1 (RL.jA (IntKind.wrap .i64 (p2 - p1)) 1 (mv (vi p0) ?_))))))))
 refine mv (vi p3) (RL.jA p0 p3 (RL.jA (IntKind.wrap .i64 (p0 - p3)) 1 (RL.Lo (a:=0) (b:=(IntKind.wrap .i64 ((IntKind.wrap .i64 (p2 - p1))+1))) (c:=(IntKind.wrap .i64 ((IntKind.wrap .i64 (p0 - p3))+1))) zt zr zr zr zr (aK (vi (if (if 0< (IntKind.wrap .i64 ((IntKind.wrap .i64 (p2 - p1))+1)) then (IntKind.wrap .i64 ((IntKind.wrap .i64 (p2 - p1))+1)) else 0)< (IntKind.wrap .i64 ((IntKind.wrap .i64 (p0 - p3))+1)) then (IntKind.wrap .i64 ((IntKind.wrap .i64 (p0 - p3))+1)) else (if 0< (IntKind.wrap .i64 ((IntKind.wrap .i64 (p2 - p1))+1)) then (IntKind.wrap .i64 ((IntKind.wrap .i64 (p2 - p1))+1)) else 0))) (RL.nt (RC.ret ?_))))))
 obtain rfl:=oi j
 exact cL ⟨rfl,o.drop 0⟩
theorem nJ {p0 p1:aI} (j:Holds E w V) (h0:V[i0]? =some (rd v0 p0)) (h1:V[i1]? =some (rd v1 p1)) (o:jJ N p0 p1=some res):
    Calls bF 49 [v0,v1].toArray w (gI (aQ E V res)):=by
 unfold jJ at o
 refine enter Tryz.func49 zr zr ?_
 have j:=(j.dup (i0+0) h0).dup (i1+1) h1
 refine RC.sr (RL.dB 1 v0 j zr fun aa w j=>?_)
 refine RL.dB 1 v1 j zr fun ab w j=>?_
 refine aK (vi 0) (RL.nq ?_)
 have j:=j.drew
 refine RC.Fu (fun w=>Holds E w ([bx 74 ab p1,bx 74 aa p0]++V)) mixed zr [0,0,0,0,0,0,0,0,2,1,1,1,1,1,1,1,1,2,0,0] [0,1,2,3,4,5,6,7,9,10,11,12,13,14,15,16,8,17,18,19] (j.pk 4 [0,1]) (DP.e0 zr (RL.aZ zr jy (cB zr (RL.aM 1 j zr eW cQ (cB zr (RL.aZ zr kI (cB zr (RL.aM 1 j zr gz cQ ?_))))))))
 refine cB zr (RL.aZ zr jy (cB zr (RL.aM 0 j zr eW cQ (cB zr (RL.aZ zr kI (cB zr (RL.aM 0 j zr gz cQ (DP.d0 ?_))))))))
 refine DP.e1 (vp aa 1) zr (fun w=>RL.aZ zr jX DP.d1) (DP.IF (vi p0.Y0) zr (fun w j=>RL.aM 1 j zr fC cQ DP.d1) (DP.e1 (vp aa 3) zr (fun w=>RL.aZ zr n7 DP.d1) (DP.IF (vi p0.Y1) zr (fun w j=>RL.aM 1 j zr jN cQ DP.d1) (DP.e1 (vp ab 1) zr (fun w=>RL.aZ zr jX DP.d1) (DP.IF (vi p1.Y0) zr (fun w j=>RL.aM 0 j zr fC cQ DP.d1) (DP.e1 (vp ab 3) zr (fun w=>RL.aZ zr n7 DP.d1) (DP.IF (vi p1.Y1) zr (fun w j=>RL.aM 0 j zr jN cQ DP.d1) (DP.e2 zr ?_))))))))
 obtain⟨ad,af,o⟩:=bd o
 refine RL.call zt zr JZ [(vi p0.X0),(vi p0.X1),(vi p1.X0),(vi p1.X1)] zr (aF (pK N (p0:=p0.X0) (p1:=p0.X1) (p2:=p1.X0) (p3:=p1.X1) j af) ?_)
 rintro _ w ⟨rfl,j⟩
 refine DP.d2 (j.pk 4 [0,1]) (DP.e2 zr ?_)
 obtain⟨ae,ag,o⟩:=bd o
 refine RL.call zt zr JZ [(vi p0.Y0),(vi p0.Y1),(vi p1.Y0),(vi p1.Y1)] zr (aF (pK N (p0:=p0.Y0) (p1:=p0.Y1) (p2:=p1.Y0) (p3:=p1.Y1) j ag) ?_)
 rintro _ w ⟨rfl,j⟩
 refine DP.d2 (j.pk 4 [0,1]) (DP.e0 zr (RL.max ad ae (cB zr (aK (vi (if ad<ae then ae else ad)) (DP.d0 (DP.z (aG (RC.ret ?_))))))))
 obtain rfl:=oi o
 exact cL ⟨rfl,j.drop 4⟩
end Go.Gk
