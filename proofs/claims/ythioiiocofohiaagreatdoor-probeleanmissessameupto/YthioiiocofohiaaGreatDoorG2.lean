/-
  Printed texts: Go functions as plain functions, and that they are. No statement of the seed is proved here.
-/
import Derived.Test.YthioiiocofohiaaGreatDoorG1
import Derived.Test.YthioiiocofohiaaGreatDoorA2
set_option linter.unusedVariables false
set_option linter.unusedSimpArgs false
set_option linter.unusedSectionVars false
set_option maxRecDepth 100000
set_option maxHeartbeats 4000000
namespace Go.Gk
open Go Go.Proofs
variable (N:Nat) {E w:World} {i0 i1:Nat} {p0 p1 p2 p3 res:Int} {v0 v1:Value} {V:List HP}
theorem gN {p0:bZ} {res:aI} (j:Holds E w V) (h0:V[i0]? =some (rd v0 p0)) (o:eW N p0=some res):
    Calls bE 50 [v0].toArray w (gF (o1 E V res)):=by
 unfold eW at o
 refine enter Tryz.func50 zr zr ?_
 have j:=j.dup (i0+0) h0
 refine RC.sr (RL.dB 0 v0 j zr fun aa w j=>?_)
 refine RL.alloc j mS.z fun ab w j=>?_
 refine RL.nq (RC.uK mixed ?_)
 have j:=j.drew
 refine RO.go (RL.bB zr Av (RO.nx (RL.bB zr rA (RO.nx (RL.aM (f:=(fun x=>x.At.X)) 1 j zr (Fd.comp (f:=fun(x:bZ)=>x.At) (fun(x:eN)=>x.X) vU kL) cN (RO.nx (RL.bB zr uU (RO.nx ?_))))))))
 refine RL.aM 1 j zr pM cN (RO.nx (RL.quo p0.eZ 2 zr zr zr zr (RO.nx (RL.i6 p0.At.X (IntKind.wrap .i64 (Int.tdiv p0.eZ 2)) (RO.nx (RL.bB zr Av (RO.nx (RL.bB zr po ?_))))))))
 refine RO.nx (RL.aM (f:=(fun x=>x.At.Y)) 1 j zr (Fd.comp (f:=fun(x:bZ)=>x.At) (fun(x:eN)=>x.Y) vU ju) cN (RO.nx (RL.bB zr uU (RO.nx (RL.aM 1 j zr pM cN (RO.nx (RL.quo p0.eZ 2 zr zr zr zr (RO.nx ?_))))))))
 refine RL.i6 p0.At.Y (IntKind.wrap .i64 (Int.tdiv p0.eZ 2)) (RO.nx (aK (vi (IntKind.wrap .i64 (p0.At.X - (IntKind.wrap .i64 (Int.tdiv p0.eZ 2))))) (RO.nx (aK (vi (IntKind.wrap .i64 (p0.At.Y - (IntKind.wrap .i64 (Int.tdiv p0.eZ 2))))) (RO.last (aG (RC.sr (mv (vi (IntKind.wrap .i64 (p0.At.X - (IntKind.wrap .i64 (Int.tdiv p0.eZ 2))))) ?_))))))))
 refine mv (vi (IntKind.wrap .i64 (p0.At.Y - (IntKind.wrap .i64 (Int.tdiv p0.eZ 2))))) (mv (vi (IntKind.wrap .i64 (p0.At.X - (IntKind.wrap .i64 (Int.tdiv p0.eZ 2))))) (RL.bB zr uU (RL.aM 1 j zr pM cN (RL.i6 (IntKind.wrap .i64 (p0.At.X - (IntKind.wrap .i64 (Int.tdiv p0.eZ 2)))) p0.eZ (mv (vi (IntKind.wrap .i64 (p0.At.Y - (IntKind.wrap .i64 (Int.tdiv p0.eZ 2))))) (RL.bB zr uU (RL.aM 1 j zr pM cN (RL.i6 (IntKind.wrap .i64 (p0.At.Y - (IntKind.wrap .i64 (Int.tdiv p0.eZ 2)))) p0.eZ ?_))))))))
 have j:=((j.sc Int (IntKind.wrap .i64 (p0.At.X - (IntKind.wrap .i64 (Int.tdiv p0.eZ 2))))).sc Int (IntKind.wrap .i64 (p0.At.Y - (IntKind.wrap .i64 (Int.tdiv p0.eZ 2))))).sc Int (IntKind.wrap .i64 ((IntKind.wrap .i64 (p0.At.X - (IntKind.wrap .i64 (Int.tdiv p0.eZ 2))))+p0.eZ))
 have j:=j.sc Int (IntKind.wrap .i64 ((IntKind.wrap .i64 (p0.At.Y - (IntKind.wrap .i64 (Int.tdiv p0.eZ 2))))+p0.eZ))
 refine RL.build (⟨(IntKind.wrap .i64 (p0.At.X - (IntKind.wrap .i64 (Int.tdiv p0.eZ 2)))),(IntKind.wrap .i64 (p0.At.Y - (IntKind.wrap .i64 (Int.tdiv p0.eZ 2)))),(IntKind.wrap .i64 ((IntKind.wrap .i64 (p0.At.X - (IntKind.wrap .i64 (Int.tdiv p0.eZ 2))))+p0.eZ)),(IntKind.wrap .i64 ((IntKind.wrap .i64 (p0.At.Y - (IntKind.wrap .i64 (Int.tdiv p0.eZ 2))))+p0.eZ))⟩:aI) trivial rfl j [(0,(vi (IntKind.wrap .i64 (p0.At.X - (IntKind.wrap .i64 (Int.tdiv p0.eZ 2)))))),(1,(vi (IntKind.wrap .i64 (p0.At.Y - (IntKind.wrap .i64 (Int.tdiv p0.eZ 2)))))),(2,(vi (IntKind.wrap .i64 ((IntKind.wrap .i64 (p0.At.X - (IntKind.wrap .i64 (Int.tdiv p0.eZ 2))))+p0.eZ)))),(3,(vi (IntKind.wrap .i64 ((IntKind.wrap .i64 (p0.At.Y - (IntKind.wrap .i64 (Int.tdiv p0.eZ 2))))+p0.eZ))))] rfl C3 rfl (fun M hs g=>by have h:=ry M;exact cO.cons (f:=fun(x:aI) y=>{x with X0:=y}) h pI (g.sat 3 _ rfl).1 fun _ h=>cO.cons (f:=fun(x:aI) y=>{x with Y0:=y}) h sw (g.sat 2 _ rfl).1 fun _ h=>cO.cons (f:=fun(x:aI) y=>{x with X1:=y}) h nZ (g.sat 1 _ rfl).1 fun _ h=>cO.cons (f:=fun(x:aI) y=>{x with Y1:=y}) h pJ (g.sat 0 _ rfl).1 fun _ h=>cO.nil h) fun ad j=>?_
 refine RL.bA 5 j 0 zr fI fun w j=>?_
 refine RL.nt (RC.ret ?_)
 obtain rfl:=oi o
 exact FB 5 zr j zr zr fI fun ae j=>(j.pk 9 [0])
theorem sZ {p0: (List aA)} {res:aI} (j:Holds E w V) (h0:V[i0]? =some (rd v0 p0)) (hb:k6 N p0=some res):
    Calls bE 131 [v0].toArray w (gF (o1 E V res)):=by
 unfold k6 at hb
 refine enter Tryz.func131 zr zr ?_
 have j:=j.dup (i0+0) h0
 refine RC.sr (RL.alloc j mS.z fun bc w j=>?_)
 refine RL.nq ?_
 obtain⟨bh,bn,hb⟩:=bd hb
 obtain⟨ba,bo,hb⟩:=bd hb
 obtain⟨a7,bp,hb⟩:=bd hb
 obtain⟨bj,bq,hb⟩:=bd hb
 obtain⟨bb,br,hb⟩:=bd hb
 obtain⟨a8,bt,hb⟩:=bd hb
 refine RC.Ew E V mixed [1,0,0,0,0,0,1,0,0,0,1,0,0,0,0,0,1,1,0,1,0,0,0,0,0,0] [1,2,3,4,7,8,11,12,13,14,20,21,23,24,25] (fun(x:Value×Value×Value×Value×Value×Value×Value×Value×Value×Value×Value×Value×Value×Nat)=>(fun ah ai aj ak al an ao aq ar au av aw ax ae=>[(0,6,v0),(1,7,ah),(2,8,ai),(3,9,aj),(4,10,ak),(5,11,(vi ba)),(6,12,v0),(7,13,al),(8,14,an),(9,15,(vi a7.Y0)),(10,16,v0),(11,17,ao),(12,18,aq),(13,19,ar),(14,20,au),(15,21,(vi bb)),(16,22,v0),(17,23,v0),(18,24,(vi p0.length)),(19,25,(vi (IntKind.wrap .i64 ((p0.length:Int) - 1)))),(20,26,av),(21,27,aw),(22,28,(vi a8.Y1)),(23,29,ax),(24,3,(vp ae 0))]) x.1 x.2.1 x.2.2.1 x.2.2.2.1 x.2.2.2.2.1 x.2.2.2.2.2.1 x.2.2.2.2.2.2.1 x.2.2.2.2.2.2.2.1 x.2.2.2.2.2.2.2.2.1 x.2.2.2.2.2.2.2.2.2.1 x.2.2.2.2.2.2.2.2.2.2.1 x.2.2.2.2.2.2.2.2.2.2.2.1 x.2.2.2.2.2.2.2.2.2.2.2.2.1 x.2.2.2.2.2.2.2.2.2.2.2.2.2) [(0,v0),(2,vp bc 0)] [] (fun(D:Nat->Bool) (x:Value×Value×Value×Value×Value×Value×Value×Value×Value×Value×Value×Value×Value×Nat)=>(fun ah ai aj ak al an ao aq ar au av aw ax ae=>[bif D 0 then (pt ah bh) else aZ,bif D 1 then (pt ai bh.Xs) else aZ,bif D 2 then (rd aj bh.Xs) else aZ,bif D 3 then (pt ak ba) else aZ,bif D 4 then (pt al a7) else aZ,bif D 5 then (pt an a7.Y0) else aZ,bif D 6 then (pt ao bj) else aZ,bif D 7 then (pt aq bj.Xs) else aZ,bif D 8 then (rd ar bj.Xs) else aZ,bif D 9 then (pt au bb) else aZ,bif D 10 then (pt av a8) else aZ,bif D 11 then (pt aw a8.Y1) else aZ,bif D 12 then (rd ax (⟨ba,a7.Y0,bb,a8.Y1⟩:aI)) else aZ,bif D 14 then (bx 74 ae (⟨ba,a7.Y0,bb,a8.Y1⟩:aI)) else (bif D 13 then (raw 74 ae 4) else aZ),raw 74 bc 4,rd v0 p0]) x.1 x.2.1 x.2.2.1 x.2.2.2.1 x.2.2.2.2.1 x.2.2.2.2.2.1 x.2.2.2.2.2.2.1 x.2.2.2.2.2.2.2.1 x.2.2.2.2.2.2.2.2.1 x.2.2.2.2.2.2.2.2.2.1 x.2.2.2.2.2.2.2.2.2.2.1 x.2.2.2.2.2.2.2.2.2.2.2.1 x.2.2.2.2.2.2.2.2.2.2.2.2.1 x.2.2.2.2.2.2.2.2.2.2.2.2.2) (fun x=>by kernel_rfl) ?_ ⟨fun _=>jt gn,?_,?_,?_,?_,?_,fun _=>jt gn,?_,?_,?_,fun _=>jt gn,?_,?_,?_,?_,?_,fun _=>jt gn,fun _=>jt gn,?_,fun _=>HF gn rfl,?_,?_,?_,?_,?_,?_,trivial⟩ ?_
 ·have j:=((((((((((((j.drew).aZ).aZ).aZ).aZ).aZ).aZ).aZ).aZ).aZ).aZ).aZ).aZ
  have j:=(j.aZ).aZ
  exact⟨(undef,undef,undef,undef,undef,undef,undef,undef,undef,undef,undef,undef,undef,0),dX.none,(CX zr),zt,j⟩
 ·rintro D U w hD o ag ⟨⟨ah,ai,aj,ak,al,an,ao,aq,ar,au,av,aw,ax,ae⟩,hv,ha,_,j⟩
  obtain⟨O,rfl⟩:=(ac (hv.at 0 rfl (o.1 rfl)) az).eV
  have j:=j.cA 0 hD
  refine RL.bW 15 j kc bn fun bu j=>?_
  have j:=(j.pl 17 [0,2,3,4,5,6,7,8,9,10,11,12,13,14,15,16]).cL 0 true aZ
  exact RL.nil ⟨rfl,(bu,ai,aj,ak,al,an,ao,aq,ar,au,av,aw,ax,ae),hv.pu 1,ha.u,zt,j⟩
 ·rintro D U w hD o ag ⟨⟨ah,ai,aj,ak,al,an,ao,aq,ar,au,av,aw,ax,ae⟩,hv,ha,_,j⟩
  obtain⟨O,rfl⟩:=(ac (hv.at 1 rfl (o.1 rfl)) az).eV
  have j:=(j.cK 0 (o.1 rfl)).cA 1 hD
  refine RL.iu 0 j zr ku dG fun bw j=>?_
  have j:=((j.pl 17 [1,0,3,4,5,6,7,8,9,10,11,12,13,14,15,16]).cL (hb:=o.1 rfl) 0 (D 1) aZ).cL 1 true aZ
  exact RL.nil ⟨rfl,(ah,bw,aj,ak,al,an,ao,aq,ar,au,av,aw,ax,ae),hv.pu 2,ha.u,zt,j⟩
 ·rintro D U w hD o ag ⟨⟨ah,ai,aj,ak,al,an,ao,aq,ar,au,av,aw,ax,ae⟩,hv,ha,_,j⟩
  obtain⟨O,rfl⟩:=(ac (hv.at 2 rfl (o.1 rfl)) az).eV
  have j:=(j.cK 1 (o.1 rfl)).cA 2 hD
  refine RL.bL 1 bh.Xs j fE fun bz j=>?_
  have j:=((j.pl 17 [1,2,0,4,5,6,7,8,9,10,11,12,13,14,15,16]).cL (hb:=o.1 rfl) 1 (D 2) aZ).cL 2 true aZ
  exact RL.nil ⟨rfl,(ah,ai,bz,ak,al,an,ao,aq,ar,au,av,aw,ax,ae),hv.pu 3,ha.u,zt,j⟩
 ·rintro D U w hD o ag ⟨⟨ah,ai,aj,ak,al,an,ao,aq,ar,au,av,aw,ax,ae⟩,hv,ha,_,j⟩
  obtain⟨O,rfl⟩:=(ac (hv.at 3 rfl (o.1 rfl)) az).eV
  have j:=(j.cK 2 (o.1 rfl)).cA 3 hD
  refine RL.bW 2 j dV bo fun b0 j=>?_
  have j:=((j.pl 17 [1,2,3,0,5,6,7,8,9,10,11,12,13,14,15,16]).cL (hb:=o.1 rfl) 2 (D 3) aZ).cL 3 true aZ
  exact RL.nil ⟨rfl,(ah,ai,aj,b0,al,an,ao,aq,ar,au,av,aw,ax,ae),hv.pu 4,ha.u,zt,j⟩
 ·rintro D U w hD o ag ⟨⟨ah,ai,aj,ak,al,an,ao,aq,ar,au,av,aw,ax,ae⟩,hv,ha,_,j⟩
  obtain⟨O,rfl⟩:=(ac (hv.at 4 rfl (o.1 rfl)) az).eV
  have j:=j.cK 3 (o.1 rfl)
  refine RL.bH ba 3 j cN ?_
  have j:=j.cL (hb:=o.1 rfl) 3 (D 4) aZ
  exact RL.nil ⟨rfl,(ah,ai,aj,ak,al,an,ao,aq,ar,au,av,aw,ax,ae),hv.pu 5,ha.u,zt,j⟩
 ·rintro D U w hD o ag ⟨⟨ah,ai,aj,ak,al,an,ao,aq,ar,au,av,aw,ax,ae⟩,hv,ha,_,j⟩
  obtain⟨O,rfl⟩:=(ac (hv.at 6 rfl (o.1 rfl)) az).eV
  have j:=j.cA 4 hD
  refine RL.bW 15 j kc bp fun b1 j=>?_
  have j:=(j.pl 17 [1,2,3,4,0,6,7,8,9,10,11,12,13,14,15,16]).cL 4 true aZ
  exact RL.nil ⟨rfl,(ah,ai,aj,ak,b1,an,ao,aq,ar,au,av,aw,ax,ae),hv.pu 7,ha.u,zt,j⟩
 ·rintro D U w hD o ag ⟨⟨ah,ai,aj,ak,al,an,ao,aq,ar,au,av,aw,ax,ae⟩,hv,ha,_,j⟩
  obtain⟨O,rfl⟩:=(ac (hv.at 7 rfl (o.1 rfl)) az).eV
  have j:=(j.cK 4 (o.1 rfl)).cA 5 hD
  refine RL.iu 4 j zr nR fQ fun b2 j=>?_
  have j:=((j.pl 17 [1,2,3,4,5,0,7,8,9,10,11,12,13,14,15,16]).cL (hb:=o.1 rfl) 4 (D 7) aZ).cL 5 true aZ
  exact RL.nil ⟨rfl,(ah,ai,aj,ak,al,b2,ao,aq,ar,au,av,aw,ax,ae),hv.pu 8,ha.u,zt,j⟩
 ·rintro D U w hD o ag ⟨⟨ah,ai,aj,ak,al,an,ao,aq,ar,au,av,aw,ax,ae⟩,hv,ha,_,j⟩
  obtain⟨O,rfl⟩:=(ac (hv.at 8 rfl (o.1 rfl)) az).eV
  have j:=j.cK 5 (o.1 rfl)
  refine RL.bH a7.Y0 5 j cN ?_
  have j:=j.cL (hb:=o.1 rfl) 5 (D 8) aZ
  exact RL.nil ⟨rfl,(ah,ai,aj,ak,al,an,ao,aq,ar,au,av,aw,ax,ae),hv.pu 9,ha.u,zt,j⟩
 ·rintro D U w hD o ag ⟨⟨ah,ai,aj,ak,al,an,ao,aq,ar,au,av,aw,ax,ae⟩,hv,ha,_,j⟩
  obtain⟨O,rfl⟩:=(ac (hv.at 10 rfl (o.1 rfl)) az).eV
  have j:=j.cA 6 hD
  refine RL.bW 15 j kc bq fun b3 j=>?_
  have j:=(j.pl 17 [1,2,3,4,5,6,0,8,9,10,11,12,13,14,15,16]).cL 6 true aZ
  exact RL.nil ⟨rfl,(ah,ai,aj,ak,al,an,b3,aq,ar,au,av,aw,ax,ae),hv.pu 11,ha.u,zt,j⟩
 ·rintro D U w hD o ag ⟨⟨ah,ai,aj,ak,al,an,ao,aq,ar,au,av,aw,ax,ae⟩,hv,ha,_,j⟩
  obtain⟨O,rfl⟩:=(ac (hv.at 11 rfl (o.1 rfl)) az).eV
  have j:=(j.cK 6 (o.1 rfl)).cA 7 hD
  refine RL.iu 6 j zr ku dG fun b4 j=>?_
  have j:=((j.pl 17 [1,2,3,4,5,6,7,0,9,10,11,12,13,14,15,16]).cL (hb:=o.1 rfl) 6 (D 11) aZ).cL 7 true aZ
  exact RL.nil ⟨rfl,(ah,ai,aj,ak,al,an,ao,b4,ar,au,av,aw,ax,ae),hv.pu 12,ha.u,zt,j⟩
 ·rintro D U w hD o ag ⟨⟨ah,ai,aj,ak,al,an,ao,aq,ar,au,av,aw,ax,ae⟩,hv,ha,_,j⟩
  obtain⟨O,rfl⟩:=(ac (hv.at 12 rfl (o.1 rfl)) az).eV
  have j:=(j.cK 7 (o.1 rfl)).cA 8 hD
  refine RL.bL 7 bj.Xs j fE fun b5 j=>?_
  have j:=((j.pl 17 [1,2,3,4,5,6,7,8,0,10,11,12,13,14,15,16]).cL (hb:=o.1 rfl) 7 (D 12) aZ).cL 8 true aZ
  exact RL.nil ⟨rfl,(ah,ai,aj,ak,al,an,ao,aq,b5,au,av,aw,ax,ae),hv.pu 13,ha.u,zt,j⟩
 ·rintro D U w hD o ag ⟨⟨ah,ai,aj,ak,al,an,ao,aq,ar,au,av,aw,ax,ae⟩,hv,ha,_,j⟩
  obtain⟨O,rfl⟩:=(ac (hv.at 13 rfl (o.1 rfl)) az).eV
  have j:=(j.cK 8 (o.1 rfl)).cA 9 hD
  refine RL.bW 8 j dV br fun b6 j=>?_
  have j:=((j.pl 17 [1,2,3,4,5,6,7,8,9,0,11,12,13,14,15,16]).cL (hb:=o.1 rfl) 8 (D 13) aZ).cL 9 true aZ
  exact RL.nil ⟨rfl,(ah,ai,aj,ak,al,an,ao,aq,ar,b6,av,aw,ax,ae),hv.pu 14,ha.u,zt,j⟩
 ·rintro D U w hD o ag ⟨⟨ah,ai,aj,ak,al,an,ao,aq,ar,au,av,aw,ax,ae⟩,hv,ha,_,j⟩
  obtain⟨O,rfl⟩:=(ac (hv.at 14 rfl (o.1 rfl)) az).eV
  have j:=j.cK 9 (o.1 rfl)
  refine RL.bH bb 9 j cN ?_
  have j:=j.cL (hb:=o.1 rfl) 9 (D 14) aZ
  exact RL.nil ⟨rfl,(ah,ai,aj,ak,al,an,ao,aq,ar,au,av,aw,ax,ae),hv.pu 15,ha.u,zt,j⟩
 ·rintro D U w hD o ag ⟨⟨ah,ai,aj,ak,al,an,ao,aq,ar,au,av,aw,ax,ae⟩,hv,ha,_,j⟩
  obtain⟨O,rfl⟩:=(ac (hv.at 17 rfl (o.1 rfl)) az).eV
  refine RL.bC 15 p0 j nH ?_
  exact RL.nil ⟨rfl,(ah,ai,aj,ak,al,an,ao,aq,ar,au,av,aw,ax,ae),hv.pu 18,ha.u,zt,j⟩
 ·rintro D U w hD o ag ⟨⟨ah,ai,aj,ak,al,an,ao,aq,ar,au,av,aw,ax,ae⟩,hv,ha,_,j⟩
  obtain⟨O,rfl⟩:=(ac (hv.at 16 rfl (o.1 rfl)) (ac (hv.at 19 rfl (o.2.1 rfl)) az)).eV
  have j:=j.cA 10 hD
  refine RL.bW 15 j kc bt fun b7 j=>?_
  have j:=(j.pl 17 [1,2,3,4,5,6,7,8,9,10,0,12,13,14,15,16]).cL 10 true aZ
  exact RL.nil ⟨rfl,(ah,ai,aj,ak,al,an,ao,aq,ar,au,b7,aw,ax,ae),hv.pu 20,ha.u,zt,j⟩
 ·rintro D U w hD o ag ⟨⟨ah,ai,aj,ak,al,an,ao,aq,ar,au,av,aw,ax,ae⟩,hv,ha,_,j⟩
  obtain⟨O,rfl⟩:=(ac (hv.at 20 rfl (o.1 rfl)) az).eV
  have j:=(j.cK 10 (o.1 rfl)).cA 11 hD
  refine RL.iu 10 j zr lV eF fun b8 j=>?_
  have j:=((j.pl 17 [1,2,3,4,5,6,7,8,9,10,11,0,13,14,15,16]).cL (hb:=o.1 rfl) 10 (D 20) aZ).cL 11 true aZ
  exact RL.nil ⟨rfl,(ah,ai,aj,ak,al,an,ao,aq,ar,au,av,b8,ax,ae),hv.pu 21,ha.u,zt,j⟩
 ·rintro D U w hD o ag ⟨⟨ah,ai,aj,ak,al,an,ao,aq,ar,au,av,aw,ax,ae⟩,hv,ha,_,j⟩
  obtain⟨O,rfl⟩:=(ac (hv.at 21 rfl (o.1 rfl)) az).eV
  have j:=j.cK 11 (o.1 rfl)
  refine RL.bH a8.Y1 11 j cN ?_
  have j:=j.cL (hb:=o.1 rfl) 11 (D 21) aZ
  exact RL.nil ⟨rfl,(ah,ai,aj,ak,al,an,ao,aq,ar,au,av,aw,ax,ae),hv.pu 22,ha.u,zt,j⟩
 ·rintro D U w hD o ag ⟨⟨ah,ai,aj,ak,al,an,ao,aq,ar,au,av,aw,ax,ae⟩,hv,ha,_,j⟩
  obtain⟨O,rfl⟩:=(ac (hv.at 5 rfl (o.1 rfl)) (ac (hv.at 9 rfl (o.2.1 rfl)) (ac (hv.at 15 rfl (o.2.2.1 rfl)) (ac (hv.at 22 rfl (o.2.2.2.1 rfl)) az)))).eV
  have j:=((((j.cA 12 hD).sc Int ba).sc Int a7.Y0).sc Int bb).sc Int a8.Y1
  refine RL.build (⟨ba,a7.Y0,bb,a8.Y1⟩:aI) trivial rfl j [(0,vi ba),(1,vi a7.Y0),(2,vi bb),(3,vi a8.Y1)] rfl C3 rfl (fun M hs g=>by have h:=ry M;exact cO.cons (f:=fun(x:aI) y=>{x with X0:=y}) h pI (g.sat 3 _ rfl).1 fun _ h=>cO.cons (f:=fun(x:aI) y=>{x with Y0:=y}) h sw (g.sat 2 _ rfl).1 fun _ h=>cO.cons (f:=fun(x:aI) y=>{x with X1:=y}) h nZ (g.sat 1 _ rfl).1 fun _ h=>cO.cons (f:=fun(x:aI) y=>{x with Y1:=y}) h pJ (g.sat 0 _ rfl).1 fun _ h=>cO.nil h) fun b9 j=>?_
  have j:=(j.pl 21 [5,6,7,8,9,10,11,12,13,14,15,16,0,18,19,20]).cL 12 true aZ
  exact RL.nil ⟨rfl,(ah,ai,aj,ak,al,an,ao,aq,ar,au,av,aw,b9,ae),hv.pu 23,ha.u,zt,j⟩
 ·rintro D U w hD o ag ⟨⟨ah,ai,aj,ak,al,an,ao,aq,ar,au,av,aw,ax,ae⟩,hv,ha,_,j⟩
  obtain⟨O,rfl⟩:=(az (U:=U)).eV
  have j:=(j.cA 13 (nh ag hD 25)).cA 13 hD
  refine RL.alloc j mS.z fun bk w j=>?_
  have j:=((j.pl 17 [1,2,3,4,5,6,7,8,9,10,11,12,13,0,15,16]).cL 13 true aZ).eY 13 (D 25) (nh ag hD 25) (bx 74 bk (⟨ba,a7.Y0,bb,a8.Y1⟩:aI))
  exact RL.nil ⟨rfl,(ah,ai,aj,ak,al,an,ao,aq,ar,au,av,aw,ax,bk),hv.pu 24,ha.u,zt,j⟩
 ·rintro D U w hD o ag ⟨⟨ah,ai,aj,ak,al,an,ao,aq,ar,au,av,aw,ax,ae⟩,hv,ha,_,j⟩
  obtain⟨O,rfl⟩:=(ac (hv.at 23 rfl (o.2.1 rfl)) (ac (hv.at 24 rfl (o.1 rfl)) az)).eV
  have j:=((j.cK 12 (o.2.1 rfl)).cA 13 hD).cK 13 (o.1 rfl)
  refine RL.bA 13 j 12 zr fI fun w j=>?_
  have j:=(j.cL (hb:=o.2.1 rfl) 12 (D 23) aZ).cL 13 true (bif D 24 then (raw 74 ae 4) else aZ)
  exact RL.nil ⟨rfl,(ah,ai,aj,ak,al,an,ao,aq,ar,au,av,aw,ax,ae),hv.n1,ha,zt,j⟩
 rintro D U w a5 ⟨⟨ah,ai,aj,ak,al,an,ao,aq,ar,au,av,aw,ax,ae⟩,hv,ha,_,j⟩
 have j:=((((((j.cK 0 (jC a5 1)).cK 1 (jC a5 2)).cK 2 (jC a5 3)).cK 3 (jC a5 4)).cK 4 (jC a5 7)).cK 5 (jC a5 8)).cK 6 (jC a5 11)
 have j:=((((((j.cK 7 (jC a5 12)).cK 8 (jC a5 13)).cK 9 (jC a5 14)).cK 10 (jC a5 20)).cK 11 (jC a5 21)).cK 12 (jC a5 23)).cK 13 (jC a5 25)
 obtain⟨O,rfl⟩:=(ac (hv.at 24 rfl (jC a5 24)) (ac (ha.at 0 rfl) (ac (ha.at 1 rfl) az))).eV
 refine aG (RC.seq (RC.sr (mv v0 (RL.bC 15 p0 j nH (mv (vi 0) (RL.nt ?_))))))
 obtain⟨af,hN,hb⟩:=bd hb
 refine RC.fold (fun(bf:Nat) (af:aI)=>SH E V [(2,vp bc 0),(3,vp ae 0),(30,v0),(31,vi p0.length),(32,vi bf)] [raw 74 bc 4,bx 74 ae af,rd v0 p0]) (fun(af:aI)=>SH E V [(2,vp bc 0),(3,vp ae 0)] [raw 74 bc 4,bx 74 ae af,rd v0 p0]) hN ?_ ?_ ?_ ?_
 ·exact j.sp 16 [14,13,15]
 ·rintro hm af _ w ⟨O,rfl,j⟩
  refine RC.sr (ic ((p0.length:Int)) ((p0.length:Int)) (RL.nq (RC.cH lD (RC.ex ?_))))
  exact⟨rfl,j.sp 3 [0,1,2]⟩
 ·rintro hm bf af s' _ w hk ⟨O,rfl,j⟩ hb
  refine RC.sr (ic ((bf:Int)) ((p0.length:Int)) (RL.nq (RC.cG (lC hk) (RC.ss (RC.bs ?_)))))
  obtain⟨a9,cb,hb⟩:=bd hb
  refine RL.bW 2 j kc cb fun cc j=>(RL.bL 0 a9 j uT fun cd j=>(RL.alloc j BX.z fun bg w j=>?_))
  refine RL.bA 0 j 1 zr uT fun w j=>?_
  refine RL.nt ?_
  obtain⟨a4,cf,hb⟩:=bd hb
  obtain⟨a6,cg,hb⟩:=bd hb
  refine RC.Ew E V mixed [1,0,1,0,0,0,0,1,0,1,0,1,0,0,1,0,0,0,1,0,1,0] [3,4,10,12,15,19,21] (fun(x:Value×Value×Value×Value×Value)=>(fun ay a0 a1 a2 a3=>[(0,36,(vp ae 0)),(1,37,(vi af.X0)),(2,38,(vp bg 2)),(3,39,ay),(4,40,a0),(5,41,(vi a4)),(6,42,(vi (if a4<af.X0 then a4 else af.X0))),(7,43,(vp ae 2)),(8,44,(vi af.X1)),(9,45,(vp bg 2)),(10,46,a1),(11,47,(vp bg 2)),(12,48,a2),(13,49,(vi a9.Xs.length)),(14,50,(vi (IntKind.wrap .i64 ((a9.Xs.length:Int) - 1)))),(15,51,a3),(16,52,(vi a6)),(17,53,(vi (if af.X1<a6 then a6 else af.X1))),(18,54,(vp ae 0)),(20,55,(vp ae 2))]) x.1 x.2.1 x.2.2.1 x.2.2.2.1 x.2.2.2.2) [(2,vp bc 0),(3,vp ae 0),(5,vp bg 0),(30,v0),(31,vi p0.length),(32,vi bf)] [] (fun(D:Nat->Bool) (x:Value×Value×Value×Value×Value)=>(fun ay a0 a1 a2 a3=>[bif D 0 then (rd ay a9.Xs) else aZ,bif D 1 then (pt a0 a4) else aZ,bif D 2 then (rd a1 a9.Xs) else aZ,bif D 3 then (rd a2 a9.Xs) else aZ,bif D 4 then (pt a3 a6) else aZ,bx 187 bg a9,rd cd a9,pt cc a9,raw 74 bc 4,bif D 6 then (bx 74 ae {{af with X0:=(if a4<af.X0 then a4 else af.X0)} with X1:=(if af.X1<a6 then a6 else af.X1)}) else (bif D 5 then (bx 74 ae {af with X0:=(if a4<af.X0 then a4 else af.X0)}) else (bx 74 ae af)),rd v0 p0]) x.1 x.2.1 x.2.2.1 x.2.2.2.1 x.2.2.2.2) (fun x=>by kernel_rfl) ?_ ⟨fun _=>mN gn jv,?_,fun _=>mN gn ku,?_,?_,?_,?_,fun _=>mN gn kO,?_,fun _=>mN gn ku,?_,fun _=>mN gn ku,?_,?_,fun _=>HF gn rfl,?_,?_,?_,fun _=>mN gn jv,?_,fun _=>mN gn kO,?_,trivial⟩ ?_
  ·have j:=(((((j.drew).aZ).aZ).aZ).aZ).aZ
   exact⟨(undef,undef,undef,undef,undef),dX.none,(CX zr),zt,j⟩
  ·rintro D U w hD o ag ⟨⟨ay,a0,a1,a2,a3⟩,hv,ha,_,j⟩
   obtain⟨O,rfl⟩:=(ac (hv.at 0 rfl (o.1 rfl)) az).eV
   have j:=(j.cA 9 (nh ag hD 21)).cA 9 (nh ag hD 19)
   refine RL.aM 9 j zr eO cN ?_
   have j:=(j.eY 9 (D 19) (nh ag hD 19) (bx 74 ae {af with X0:=(if a4<af.X0 then a4 else af.X0)})).eY 9 (D 21) (nh ag hD 21) (bx 74 ae {{af with X0:=(if a4<af.X0 then a4 else af.X0)} with X1:=(if af.X1<a6 then a6 else af.X1)})
   exact RL.nil ⟨rfl,(ay,a0,a1,a2,a3),hv.pu 1,ha.u,zt,j⟩
  ·rintro D U w hD o ag ⟨⟨ay,a0,a1,a2,a3⟩,hv,ha,_,j⟩
   obtain⟨O,rfl⟩:=(ac (hv.at 2 rfl (o.1 rfl)) az).eV
   have j:=j.cA 0 hD
   refine RL.aQ 5 j zr dG fE fun ch j=>?_
   have j:=(j.pl 12 [0,2,3,4,5,6,7,8,9,10,11]).cL 0 true aZ
   exact RL.nil ⟨rfl,(ch,a0,a1,a2,a3),hv.pu 3,ha.u,zt,j⟩
  ·rintro D U w hD o ag ⟨⟨ay,a0,a1,a2,a3⟩,hv,ha,_,j⟩
   obtain⟨O,rfl⟩:=(ac (hv.at 3 rfl (o.1 rfl)) az).eV
   have j:=(j.cK 0 (o.1 rfl)).cA 1 hD
   refine RL.bW 0 j dV cf fun cj j=>?_
   have j:=((j.pl 12 [1,0,3,4,5,6,7,8,9,10,11]).cL (hb:=o.1 rfl) 0 (D 3) aZ).cL 1 true aZ
   exact RL.nil ⟨rfl,(ay,cj,a1,a2,a3),hv.pu 4,ha.u,zt,j⟩
  ·rintro D U w hD o ag ⟨⟨ay,a0,a1,a2,a3⟩,hv,ha,_,j⟩
   obtain⟨O,rfl⟩:=(ac (hv.at 4 rfl (o.1 rfl)) az).eV
   have j:=j.cK 1 (o.1 rfl)
   refine RL.bH a4 1 j cN ?_
   have j:=j.cL (hb:=o.1 rfl) 1 (D 4) aZ
   exact RL.nil ⟨rfl,(ay,a0,a1,a2,a3),hv.pu 5,ha.u,zt,j⟩
  ·rintro D U w hD o ag ⟨⟨ay,a0,a1,a2,a3⟩,hv,ha,_,j⟩
   obtain⟨O,rfl⟩:=(ac (hv.at 1 rfl (o.1 rfl)) (ac (hv.at 5 rfl (o.2.1 rfl)) az)).eV
   refine RL.min af.X0 a4 ?_
   exact RL.nil ⟨rfl,(ay,a0,a1,a2,a3),hv.pu 6,ha.u,zt,j⟩
  ·rintro D U w hD o ag ⟨⟨ay,a0,a1,a2,a3⟩,hv,ha,_,j⟩
   obtain⟨O,rfl⟩:=(ac (hv.at 7 rfl (o.1 rfl)) az).eV
   have j:=(j.cA 9 (nh ag hD 21)).cA 9 (nh ag hD 19)
   refine RL.aM 9 j zr gA cN ?_
   have j:=(j.eY 9 (D 19) (nh ag hD 19) (bx 74 ae {af with X0:=(if a4<af.X0 then a4 else af.X0)})).eY 9 (D 21) (nh ag hD 21) (bx 74 ae {{af with X0:=(if a4<af.X0 then a4 else af.X0)} with X1:=(if af.X1<a6 then a6 else af.X1)})
   exact RL.nil ⟨rfl,(ay,a0,a1,a2,a3),hv.pu 8,ha.u,zt,j⟩
  ·rintro D U w hD o ag ⟨⟨ay,a0,a1,a2,a3⟩,hv,ha,_,j⟩
   obtain⟨O,rfl⟩:=(ac (hv.at 9 rfl (o.1 rfl)) az).eV
   have j:=j.cA 2 hD
   refine RL.aQ 5 j zr dG fE fun ck j=>?_
   have j:=(j.pl 12 [1,2,0,4,5,6,7,8,9,10,11]).cL 2 true aZ
   exact RL.nil ⟨rfl,(ay,a0,ck,a2,a3),hv.pu 10,ha.u,zt,j⟩
  ·rintro D U w hD o ag ⟨⟨ay,a0,a1,a2,a3⟩,hv,ha,_,j⟩
   obtain⟨O,rfl⟩:=(ac (hv.at 11 rfl (o.1 rfl)) az).eV
   have j:=j.cA 3 hD
   refine RL.aQ 5 j zr dG fE fun cl j=>?_
   have j:=(j.pl 12 [1,2,3,0,5,6,7,8,9,10,11]).cL 3 true aZ
   exact RL.nil ⟨rfl,(ay,a0,a1,cl,a3),hv.pu 12,ha.u,zt,j⟩
  ·rintro D U w hD o ag ⟨⟨ay,a0,a1,a2,a3⟩,hv,ha,_,j⟩
   obtain⟨O,rfl⟩:=(ac (hv.at 12 rfl (o.1 rfl)) az).eV
   have j:=j.cK 3 (o.1 rfl)
   refine RL.bC 3 a9.Xs j l3 ?_
   have j:=j.cL (hb:=o.1 rfl) 3 (D 12) aZ
   exact RL.nil ⟨rfl,(ay,a0,a1,a2,a3),hv.pu 13,ha.u,zt,j⟩
  ·rintro D U w hD o ag ⟨⟨ay,a0,a1,a2,a3⟩,hv,ha,_,j⟩
   obtain⟨O,rfl⟩:=(ac (hv.at 10 rfl (o.1 rfl)) (ac (hv.at 14 rfl (o.2.1 rfl)) az)).eV
   have j:=(j.cK 2 (o.1 rfl)).cA 4 hD
   refine RL.bW 2 j dV cg fun cm j=>?_
   have j:=((j.pl 12 [1,2,3,4,0,6,7,8,9,10,11]).cL (hb:=o.1 rfl) 2 (D 10) aZ).cL 4 true aZ
   exact RL.nil ⟨rfl,(ay,a0,a1,a2,cm),hv.pu 15,ha.u,zt,j⟩
  ·rintro D U w hD o ag ⟨⟨ay,a0,a1,a2,a3⟩,hv,ha,_,j⟩
   obtain⟨O,rfl⟩:=(ac (hv.at 15 rfl (o.1 rfl)) az).eV
   have j:=j.cK 4 (o.1 rfl)
   refine RL.bH a6 4 j cN ?_
   have j:=j.cL (hb:=o.1 rfl) 4 (D 15) aZ
   exact RL.nil ⟨rfl,(ay,a0,a1,a2,a3),hv.pu 16,ha.u,zt,j⟩
  ·rintro D U w hD o ag ⟨⟨ay,a0,a1,a2,a3⟩,hv,ha,_,j⟩
   obtain⟨O,rfl⟩:=(ac (hv.at 8 rfl (o.1 rfl)) (ac (hv.at 16 rfl (o.2.1 rfl)) az)).eV
   refine RL.max af.X1 a6 ?_
   exact RL.nil ⟨rfl,(ay,a0,a1,a2,a3),hv.pu 17,ha.u,zt,j⟩
  ·rintro D U w hD o ag ⟨⟨ay,a0,a1,a2,a3⟩,hv,ha,_,j⟩
   obtain⟨O,rfl⟩:=(ac (hv.at 6 rfl (o.2.1 rfl)) (ac (hv.at 18 rfl (o.1 rfl)) az)).eV
   have j:=((j.cA 9 (nh ag hD 21)).cA 9 hD).sc Int (if a4<af.X0 then a4 else af.X0)
   refine RL.uA 10 j zr zr zr 0 zr pI cN fun w j=>?_
   have j:=((j.pl 12 [1,2,3,4,5,6,7,8,9,10,11]).cL 9 true (bx 74 ae af)).eY 9 (D 21) (nh ag hD 21) (bx 74 ae {{af with X0:=(if a4<af.X0 then a4 else af.X0)} with X1:=(if af.X1<a6 then a6 else af.X1)})
   exact RL.nil ⟨rfl,(ay,a0,a1,a2,a3),hv.n1,ha,zt,j⟩
  ·rintro D U w hD o ag ⟨⟨ay,a0,a1,a2,a3⟩,hv,ha,_,j⟩
   obtain⟨O,rfl⟩:=(ac (hv.at 17 rfl (o.2.1 rfl)) (ac (hv.at 19 rfl (o.1 rfl)) az)).eV
   have j:=((j.cA 9 hD).cK 9 (o.2.2.1 rfl)).sc Int (if af.X1<a6 then a6 else af.X1)
   refine RL.uA 10 j zr zr zr 0 zr nZ cN fun w j=>?_
   have j:=(j.pl 12 [1,2,3,4,5,6,7,8,9,10,11]).cL 9 true (bif D 19 then (bx 74 ae {af with X0:=(if a4<af.X0 then a4 else af.X0)}) else (bx 74 ae af))
   exact RL.nil ⟨rfl,(ay,a0,a1,a2,a3),hv.n1,ha,zt,j⟩
  rintro D U w a5 ⟨⟨ay,a0,a1,a2,a3⟩,hv,ha,_,j⟩
  have j:=(((((j.cK 0 (jC a5 3)).cK 1 (jC a5 4)).cK 2 (jC a5 10)).cK 3 (jC a5 12)).cK 4 (jC a5 15)).cK 9 (jC a5 21)
  obtain⟨O,rfl⟩:=(ac (ha.at 0 rfl) (ac (ha.at 1 rfl) (ac (ha.at 2 rfl) (ac (ha.at 3 rfl) (ac (ha.at 4 rfl) (ac (ha.at 5 rfl) az)))))).eV
  refine bI (aG (RC.region (RL.inc hk hm (mv (vi ((bf+1:Nat):Int)) (RL.nil ?_)))))
  obtain rfl:=oi hb
  exact⟨rfl,j.sp 11 [8,9,10]⟩
 rintro _ w ⟨O,rfl,j⟩
 refine aG (RC.sr (RL.aQ (f:=(fun x=>x)) 1 j zr Fd.self fI fun cn j=>(RL.bA 1 j 0 zr fI fun w j=>?_)))
 refine RL.nt (RC.ret ?_)
 obtain rfl:=oi hb
 exact FB 1 zr j zr zr fI fun cp j=>(j.pk 5 [0])
theorem u9 {p0: (List aA)} {res:Bool} (j:Holds E w V) (h0:V[i0]? =some (rd v0 p0)) (hb:kG N p0=some res):
    Calls bE 108 [v0].toArray w (gF (aY E V res)):=by
 unfold kG at hb
 refine enter Tryz.func108 zr zr ?_
 have j:=j.dup (i0+0) h0
 refine RC.sr (aK (vb false) (RL.nq ?_))
 obtain⟨ad,o,hb⟩:=bd hb
 refine RC.jn (fun(ad:Bool)=>SH E V [(2,vb ad)] []) ad ?_ ?_
 ·refine RC.region (mv v0 (RL.bC 0 p0 j nH (ic ((p0.length:Int)) 0 (mv (vb ((p0.length:Int)==0)) (fU o (fun aa o=>?_) fun aa o=>?_)))))
  ·refine bN aa (bN aa (bN aa (fP aa (vb true) (aK (vb true) (RL.nil ?_)))))
   obtain rfl:=oi o
   exact⟨rfl,j.sp 1 []⟩
  refine RL.move v0 (cg aa) ?_
  obtain⟨ai,af,o⟩:=bd o
  refine RL.call (cg aa) zr Kc [v0] zr (aF (sZ N (i0:=0) j zr af) ?_)
  rintro ag w j
  obtain⟨ae,ah,o⟩:=bd o
  refine RL.call (cg aa) zr JW [ag] zr (aF (qO N (i0:=0) j zr ah) ?_)
  rintro _ w ⟨rfl,j⟩
  refine fP aa (vb ae) (aK (vb ae) (RL.nil ?_))
  obtain rfl:=oi o
  exact⟨rfl,j.sp 2 []⟩
 rintro _ w ⟨O,rfl,j⟩
 refine aG (RC.ret ?_)
 obtain rfl:=oi hb
 exact cF ⟨rfl,j.drop 0⟩
def w9 (E:World) (V:List HP) (res:aI×Int) (v:Value) (w:World):Prop:=∃u0:Value,v = .tuple #[u0,(vi res.2)]/\Holds E w ([rd u0 res.1]++V)
theorem v9 {p0:bZ} {res:aI×Int} (j:Holds E w V) (h0:V[i0]? =some (rd v0 p0)) (o:kf N p0=some res):
    Calls bE 72 [v0].toArray w (gF (w9 E V res)):=by
 unfold kf at o
 refine enter Tryz.func72 zr zr ?_
 have j:=j.dup (i0+0) h0
 refine RC.sr (RL.dB 0 v0 j zr fun af w j=>?_)
 refine RL.alloc j mS.z fun ag w j=>?_
 refine aK (vi 0) (RL.nq (RC.seq ?_))
 obtain⟨ad,hj,o⟩:=bd o
 refine RC.jn (fun(ad:Bool)=>SH E V [(1,vp af 0),(2,vp ag 0),(14,vb ad)] [bx 117 af p0,raw 74 ag 4]) ad ?_ ?_
 ·refine RC.region (RL.bB zr uU (RL.aM 1 j zr pM cN ?_))
  obtain⟨ah,aj,hj⟩:=bd hj
  refine RL.call zt zr HJ [(vi p0.eZ),(vi 1),(vi 10000)] zr (aF (lh N (p0:=p0.eZ) (p1:=1) (p2:=10000) j aj) ?_)
  rintro _ w ⟨rfl,j⟩
  refine RL.not ah (mv (vb (!ah)) (fU hj (fun aa hj=>?_) fun aa hj=>?_))
  ·refine bN aa (bN aa (bN aa (bN aa (fP aa (vb true) (RL.nil ?_)))))
   obtain rfl:=oi hj
   exact⟨rfl,j.sp 3 [1,0]⟩
  refine RL.bB (hg:=(cg aa)) zr Av (RL.aQ (hg:=(cg aa)) 1 j zr vU sU fun ak j=>?_)
  obtain⟨ai,al,hj⟩:=bd hj
  refine RL.call (cg aa) zr Kb [ak] zr (aF (pQ N (i0:=0) j zr al) ?_)
  rintro _ w ⟨rfl,j⟩
  refine RL.not (hg:=(cg aa)) ai (fP aa (vb (!ai)) (RL.nil ?_))
  obtain rfl:=oi hj
  exact⟨rfl,j.sp 4 [2,1]⟩
 rintro _ w ⟨O,rfl,j⟩
 refine aG (eI o (fun hc o=>?_) fun hc o=>?_)
 ·refine RC.sr (RL.build (⟨0,0,0,0⟩:aI) trivial rfl j [] rfl C3 rfl (fun M hs g=>by have h:=ry M;exact cO.nil h) fun a2 j=>?_)
  refine RL.bA 2 j 0 zr fI fun w j=>?_
  refine aK (vi 1) (RL.nt (RC.rt ?_))
  obtain rfl:=oi o
  exact zn 2 j fI fun an j=>⟨an,zr,j.pk 4 [0]⟩
 refine RC.sx (RL.aQ (f:=(fun x=>x)) 0 j zr Fd.self lx fun ao j=>?_)
 obtain⟨aq,ar,o⟩:=bd o
 refine RL.call zt zr EJ [ao] zr (aF (gN N (i0:=0) j zr ar) ?_)
 rintro a3 w j
 refine RL.alloc j mS.z fun a4 w j=>?_
 refine RL.bA 0 j 1 zr fI fun w j=>?_
 refine RL.nq (RC.sr (RL.aQ (f:=(fun x=>x)) 0 j zr Fd.self fI fun au j=>(RL.eE ([aq]: (List aI)) j [au] kN mS (fun M hs g=>⟨(g.sat 0 _ zr).1,zt⟩) fun av w j=>?_)))
 have j:=j.freeze 0
 obtain⟨a5,aw,o⟩:=bd o
 refine RL.call zt zr F2 [av] zr (aF (kR N (i0:=0) j zr aw) ?_)
 rintro ax w j
 have j:=j.freeze 0
 obtain⟨ay,az,o⟩:=bd o
 refine RL.call zt zr Kd [ax] zr (aF (u9 N (i0:=0) j zr az) ?_)
 rintro _ w ⟨rfl,j⟩
 refine RL.not ay (RL.nt (eI o (fun hc o=>?_) fun hc o=>?_))
 ·refine RC.sr (RL.build (⟨0,0,0,0⟩:aI) trivial rfl j [] rfl C3 rfl (fun M hs g=>by have h:=ry M;exact cO.nil h) fun a6 j=>?_)
  refine RL.bA 8 j 0 zr fI fun w j=>?_
  refine aK (vi 1) (RL.nt (RC.rt ?_))
  obtain rfl:=oi o
  exact zn 8 j fI fun a0 j=>⟨a0,zr,j.pk 10 [0]⟩
 refine RC.sx (RL.aQ (f:=(fun x=>x)) 3 j zr Fd.self fI fun a7 j=>(RL.bA 8 j 0 zr fI fun w j=>?_))
 refine aK (vi 0) (RL.nt (RC.ret ?_))
 obtain rfl:=oi o
 exact zn 8 j fI fun a1 j=>⟨a1,zr,j.pk 10 [0]⟩
def s8 (E:World) (V:List HP) (r:Int) (U:Nat->Value) (w:World):Prop:=ly bE 47 Tryz.f47 (aN E V r) .ret U w
theorem rG {p0:gS} (j:Holds E w V) (h0:V[i0]? =some (rd v0 p0)) (o:jh N p0=some res):
    Calls bE 47 [v0].toArray w (gF (aN E V res)):=by
 unfold jh at o
 refine enter Tryz.func47 zr zr ?_
 have j:=j.dup (i0+0) h0
 refine RC.sr (RL.dB 0 v0 j zr fun a0 w j=>?_)
 refine aK (vi 0) (RL.nq (RC.sr (RL.bB zr mT (RL.aQ 0 j zr rp vY fun a1 j=>(RL.bC 0 p0.aW j xV (ic ((p0.aW.length:Int)) 500 (RL.nt (eI o (fun hc o=>?_) fun hc o=>?_))))))))
 ·refine RC.sr (aK (vi 2) (RL.nt (RC.rt ?_)))
  obtain rfl:=oi o
  exact cF ⟨rfl,j.drop 3⟩
 refine RC.sx (RL.bB zr vX (RL.aQ 1 j zr pN EH fun a2 j=>(RL.bC 0 p0.aL j BW (aK (vi p0.aL.length) (RL.nq (RC.sr (RL.bB zr mT (RL.aQ 2 j zr rp vY fun ag j=>?_))))))))
 refine RL.bC 0 p0.aW j xV (mv (vi 0) (RL.nt ?_))
 obtain⟨a3,hN,o⟩:=bd o
 refine RC.range (fun(ah:Nat) (ai:Unit)=>SH E V [(3,vi p0.aL.length),(16,ag),(17,vi p0.aW.length),(18,vi ah)] [rd ag p0.aW]) (fun(ai:Unit)=>SH E V [] [rd ag p0.aW]) (s8 E V) hN ?_ ?_ ?_ ?_ ?_
 ·exact j.sp 5 [0]
 ·rintro hm ai _ w ⟨O,rfl,j⟩
  refine RC.sr (ic ((p0.aW.length:Int)) ((p0.aW.length:Int)) (RL.nq (RC.cH lD (RC.ex ?_))))
  exact⟨rfl,j.sp 1 [0]⟩
 ·rintro hm ah ai fl _ w hk ⟨O,rfl,j⟩ o
  refine RC.sr (ic ((ah:Int)) ((p0.aW.length:Int)) (RL.nq (RC.cG (lC hk) (RC.ss (RC.bs ?_)))))
  obtain⟨ad,au,o⟩:=bd o
  refine RL.bW 0 j Au au fun a5 j=>(RL.bL 0 ad j lx fun a6 j=>(RL.alloc j zD.z fun a7 w j=>?_))
  refine RL.bA 0 j 1 zr lx fun w j=>?_
  refine RL.nq (RC.sr (RL.aQ (f:=(fun x=>x)) 0 j zr Fd.self lx fun av j=>?_))
  obtain⟨ae,aw,o⟩:=bd o
  refine RL.call zt zr LY [av] zr (aF (v9 N (i0:=0) j zr aw) ?_)
  rintro _ w ⟨an,rfl,j⟩
  refine mv (.tuple #[an,(vi ae.2)]) (RL.extract an (RL.extract (vi ae.2) (RL.alloc j mS.z fun a8 w j=>?_)))
  refine RL.bA 0 j 1 zr fI fun w j=>?_
  refine aK (vi ae.2) (RL.ns (mv (vi ae.2) (ic ae.2 0 (RL.nt (eI o (fun hc o=>?_) fun hc o=>?_)))))
  ·refine RC.sr (mv (vi ae.2) (aK (vi ae.2) (RL.nt (RC.rt (jS (bM ?_))))))
   obtain rfl:=oi o
   exact⟨rfl,cF ⟨rfl,j.drop 7⟩⟩
  refine RC.ss ?_
  obtain⟨aj,hj,o⟩:=bd o
  refine RC.jn (fun(aj:Bool)=>SH E V [(3,vi p0.aL.length),(16,ag),(17,vi p0.aW.length),(18,vi ah),(45,vb aj)] [rd ag p0.aW]) aj ?_ ?_
  ·refine RC.region (RL.bB zr qw (RL.aM 3 j zr mO cN (mv (vi p0.aL.length) (RL.i6 (p0.aL.length:Int) 1 ?_))))
   obtain⟨ao,ax,hj⟩:=bd hj
   refine RL.call zt zr HJ [(vi ad.bU),(vi 0),(vi (IntKind.wrap .i64 ((p0.aL.length:Int) - 1)))] zr (aF (lh N (p0:=ad.bU) (p1:=0) (p2:=(IntKind.wrap .i64 ((p0.aL.length:Int) - 1))) j ax) ?_)
   rintro _ w ⟨rfl,j⟩
   refine RL.not ao (mv (vb (!ao)) (fU hj (fun aa hj=>?_) fun aa hj=>?_))
   ·refine bN aa (bN aa (bN aa (bN aa (bN aa (bN aa (bN aa (bN aa (fP aa (vb true) ?_))))))))
    refine RL.nil ?_
    obtain rfl:=oi hj
    exact⟨rfl,j.sp 7 [6]⟩
   refine RL.bB (hg:=(cg aa)) zr sE (RL.aM (hg:=(cg aa)) 3 j zr n0 cN (RL.bB (hg:=(cg aa)) zr qw (RL.aM (hg:=(cg aa)) 3 j zr mO cN (RL.move (vi p0.aL.length) (cg aa) (RL.i6 (hg:=(cg aa)) (p0.aL.length:Int) 1 ?_)))))
   obtain⟨aq,ay,hj⟩:=bd hj
   refine RL.call (cg aa) zr HJ [(vi ad.To),(vi ad.bU),(vi (IntKind.wrap .i64 ((p0.aL.length:Int) - 1)))] zr (aF (lh N (p0:=ad.To) (p1:=ad.bU) (p2:=(IntKind.wrap .i64 ((p0.aL.length:Int) - 1))) j ay) ?_)
   rintro _ w ⟨rfl,j⟩
   refine RL.not (hg:=(cg aa)) aq (fP aa (vb (!aq)) (RL.nil ?_))
   obtain rfl:=oi hj
   exact⟨rfl,j.sp 7 [6]⟩
  rintro _ w ⟨O,rfl,j⟩
  refine aG (eI o (fun hc o=>?_) fun hc o=>?_)
  rotate_left
  ·refine RC.skip (bI (aG (RC.region (RL.inc hk hm (mv (vi ((ah+1:Nat):Int)) (RL.nil ?_))))))
   obtain rfl:=oi o
   exact⟨rfl,j.sp 1 [0]⟩
  refine RC.sr (aK (vi 1) (RL.nt (RC.rb (bM ?_))))
  obtain rfl:=oi o
  exact⟨rfl,cF ⟨rfl,j.drop 1⟩⟩
 ·intro r U w e hK
  subst e
  refine bM ?_
  obtain rfl:=oi o
  exact hK
 rintro ai _ w rfl ⟨O,rfl,j⟩
 rw [Fo.fB] at o
 refine aG (RC.sr (aK (vi 0) (RL.nt (RC.ret ?_))))
 obtain rfl:=oi o
 exact cF ⟨rfl,j.drop 1⟩
theorem lI {p0:dJ} (o:Holds E w V) (j:gG N p0 p1=some res):
    Calls bE 134 [(str p0),(.int .u8 p1)].toArray w (gF (aN E V res)):=by
 unfold gG at j
 refine enter Tryz.func134 zr zr (RC.sr (aK (vi 0) (RL.ns (mv (str p0) (mv (.int .u8 p1) (RL.xD (vi (Lib.indexByte p0.cS (Int.toNat p1).toUInt8)) zr [(str p0),(.int .u8 p1)] zr (L1 p0 p1 w) (aK (vi (Lib.indexByte p0.cS (Int.toNat p1).toUInt8)) (RL.nt ?_))))))))
 refine RC.ret ?_
 obtain rfl:=oi j
 exact cF ⟨rfl,o.drop 0⟩
theorem rH {p0 p1:dJ} (o:Holds E w V) (j:ji N p0 p1=some res):
    Calls bE 196 [(str p0),(str p1)].toArray w (gF (aN E V res)):=by
 unfold ji at j
 refine enter Tryz.func196 zr zr (RC.sr (aK (vi 0) (RL.ns (mv (str p1) (RL.lens p1 yW (aK (vi p1.cS.length) (RL.nq (RC.bs ?_))))))))
 refine mv (vi p1.cS.length) (ic ((p1.cS.length:Int)) 0 (mv (vb ((p1.cS.length:Int)==0)) (RL.gs true ((p1.cS.length:Int)==0) (str p1) rfl rfl rfl dT (RL.gs true ((p1.cS.length:Int)==0) (str p0) rfl rfl rfl dT (RL.gs true ((p1.cS.length:Int)==0) (vb (p1.CL p0)) rfl rfl rfl (Ht (bop:= .eql) (a:=p1) (b:=p0) rfl (fun h=>by exact(cV h:cv (true&&(((p1.cS.length:Int)==0)==false)) (str p1)= (str p1))) (fun h=>by exact(cV h:cv (true&&(((p1.cS.length:Int)==0)==false)) (str p0)= (str p0))) rfl) (RL.pick ((p1.cS.length:Int)==0) (vb (((p1.cS.length:Int)==0)||(p1.CL p0))) (oX true rfl) (aK (vb (((p1.cS.length:Int)==0)||(p1.CL p0))) (RL.nt ?_))))))))
 refine eI j (fun hc j=>?_) fun hc j=>?_
 ·refine RC.sr (aK (vi 0) (RL.nt (RC.rb (bM ?_))))
  obtain rfl:=oi j
  exact cF ⟨rfl,o.drop 0⟩
 refine RC.sr (mv (vi p1.cS.length) (ic ((p1.cS.length:Int)) 1 (aK (vb ((p1.cS.length:Int)==1)) (RL.nt (eI j (fun hc j=>?_) fun hc j=>?_)))))
 ·refine RC.sr (mv (str p0) (mv (str p1) ?_))
  obtain⟨ab,ad,j⟩:=bd j
  refine RL.idxs p1 0 ab zr zr zr yW ad ?_
  obtain⟨ae,af,j⟩:=bd j
  refine RL.call zt zr It [(str p0),(.int .u8 (ab.toNat:Int))] zr (aF (lI N (p0:=p0) (p1:=(ab.toNat:Int)) o af) ?_)
  rintro _ w ⟨rfl,o⟩
  refine aK (vi ae) (RL.nt (RC.rb (bM ?_)))
  obtain rfl:=oi j
  exact cF ⟨rfl,o.drop 0⟩
 refine RC.sr (mv (vi p1.cS.length) (mv (str p0) (RL.lens p0 yW (ic ((p1.cS.length:Int)) ((p0.cS.length:Int)) (aK (vb (decide ((p1.cS.length:Int)>=(p0.cS.length:Int)))) (RL.nt (eI j (fun hc j=>?_) fun hc j=>?_)))))))
 rotate_left
 ·cases j
 refine RC.sr (aK (vi (-1)) (RL.nt (RC.rb (bM ?_))))
 obtain rfl:=oi j
 exact cF ⟨rfl,o.drop 0⟩
theorem pR {p0 p1:dJ} (o:Holds E w V) (j:kg N p0 p1=some res):
    Calls bE 170 [(str p0),(str p1)].toArray w (gF (aN E V res)):=by
 unfold kg at j
 refine enter Tryz.func170 zr zr (RC.sr (aK (vi 0) (RL.ns (mv (str p0) (mv (str p1) ?_)))))
 obtain⟨aa,ab,j⟩:=bd j
 refine RL.call zt zr Ke [(str p0),(str p1)] zr (aF (rH N (p0:=p0) (p1:=p1) o ab) ?_)
 rintro _ w ⟨rfl,o⟩
 refine aK (vi aa) (RL.nt (RC.ret ?_))
 obtain rfl:=oi j
 exact cF ⟨rfl,o.drop 0⟩
def xc (E:World) (V:List HP) (r:Int) (U:Nat->Value) (w:World):Prop:=ly bE 34 Tryz.f169 (aN E V r) .ret U w
theorem wc {p0 p1:dJ} (hw:Holds E w V) (j:lE N p0 p1=some res):
    Calls bE 169 [(str p0),(str p1)].toArray w (gF (aN E V res)):=by
 unfold lE at j
 refine enter Tryz.func169 zr zr (RC.sr (aK (vi 0) (RL.nq (RC.sr (mv (str p1) (RL.lens p1 yW (ic ((p1.cS.length:Int)) 0 (RL.nt ?_))))))))
 refine eI j (fun hc j=>?_) fun hc j=>?_
 ·cases j
 refine RC.ss (RC.sr (mv (str p1) (RL.lens p1 yW (ic ((p1.cS.length:Int)) 1 (RL.nt (eI j (fun hc j=>?_) fun hc j=>?_))))))
 ·refine RC.sr (mv (str p0) (mv (str p1) ?_))
  obtain⟨ad,af,j⟩:=bd j
  refine RL.idxs p1 0 ad zr zr zr yW af (RL.xD (vi ((Lib.countByte p0.cS (Int.toNat (ad.toNat:Int)).toUInt8:Nat):Int)) zr [(str p0),(.int .u8 (ad.toNat:Int))] zr (L0 p0 (ad.toNat:Int) w) (aK (vi ((Lib.countByte p0.cS (Int.toNat (ad.toNat:Int)).toUInt8:Nat):Int)) (RL.nt (RC.rt ?_))))
  obtain rfl:=oi j
  exact cF ⟨rfl,hw.drop 0⟩
 refine RC.sx (aK (vi 0) (RL.nt ?_))
 obtain⟨al,hN,j⟩:=bd j
 refine RC.iter (fun(o:dJ×Int)=>SH E V [(0,(str o.1)),(1,(str p1)),(4,vi 0),(5,vi o.2)] []) (fun(o:dJ×Int)=>SH E V [(4,vi 0)] []) (xc E V) hN ?_ ?_ ?_ ?_
 ·exact hw.sp 0 []
 ·rintro o fl _ w ⟨O,rfl,hw⟩ j
  refine RC.bs (mv (str o.1) (mv (str p1) ?_))
  obtain⟨ae,ah,j⟩:=bd j
  refine RL.call zt zr Iu [(str o.1),(str p1)] zr (aF (pR N (p0:=o.1) (p1:=p1) hw ah) ?_)
  rintro _ w ⟨rfl,hw⟩
  refine aK (vi ae) (RL.nq (RC.sr (mv (vi ae) (ic ae ((-1)) (RL.nt (eI j (fun hc j=>?_) fun hc j=>?_))))))
  ·refine RC.sr (mv (vi o.2) (aK (vi o.2) (RL.nt (RC.rt (jS ?_)))))
   obtain rfl:=oi j
   exact⟨rfl,cF ⟨rfl,hw.drop 0⟩⟩
  refine RC.sx (mv (vi o.2) (RL.i6 o.2 1 (aK (vi (IntKind.wrap .i64 (o.2+1))) (RL.nt (RC.region (mv (str o.1) (mv (vi ae) (mv (str p1) ?_))))))))
  refine RL.lens p1 yW (RL.i6 ae (p1.cS.length:Int) ?_)
  obtain⟨ai,aj,j⟩:=bd j
  refine RL.tI o.1 zr zr yW (.inl zr) (.inr ⟨rfl,zr⟩) aj (aK (str ai) (RL.nil (bI ?_)))
  obtain rfl:=oi j
  exact⟨rfl,hw.sp 0 []⟩
 ·intro r U w e hK
  subst e
  obtain rfl:=oi j
  exact hK
 rintro o _ w rfl ⟨O,rfl,hw⟩
 rw [Fo.fB] at j
 obtain rfl:=oi j
 refine xz ?_
 exact cF ⟨rfl,hw.drop 0⟩
theorem s9 {p0 p1:dJ} {res: (List dJ)} (o:Holds E w V) (j:k7 N p0 p1 p2 p3=some res):
    Calls bE 133 [(str p0),(str p1),(vi p2),(vi p3)].toArray w (gF (ov E V res)):=by
 unfold k7 at j
 refine enter Tryz.func133 zr zr (RC.sr (aK (.slice none 0 0) (RL.nq (RC.sr (mv (vi p3) (ic p3 0 (RL.nt (eI j (fun hc j=>?_) fun hc j=>?_))))))))
 ·refine RC.sr (aK (.slice none 0 0) (RL.nt (RC.rt ?_)))
  obtain rfl:=oi j
  have o:=o.cT dJ 9
  exact cF (o.pk 1 [0])
 refine RC.ss (RC.sr (mv (str p1) (RL.Er (a:=p1) (b:=⟨[]⟩) zt zr zr zr zr (RL.nt (eI j (fun hc j=>?_) fun hc j=>?_)))))
 ·cases j
 refine RC.ss (RC.sr (mv (vi p3) (ic p3 0 (RL.nt ?_))))
 obtain⟨ab,hj,j⟩:=bd j
 refine RC.jn (fun(ab:Int)=>SH E V [(0,(str p0)),(1,(str p1)),(2,vi p2),(3,vi ab)] []) ab ?_ ?_
 ·refine eI hj (fun hc hj=>?_) fun hc hj=>?_
  rotate_left
  ·refine RC.skip ?_
   obtain rfl:=oi hj
   exact⟨rfl,o.sp 0 []⟩
  refine RC.region (mv (str p0) (mv (str p1) ?_))
  obtain⟨aj,ak,hj⟩:=bd hj
  refine RL.call zt zr Kf [(str p0),(str p1)] zr (aF (wc N (p0:=p0) (p1:=p1) o ak) ?_)
  rintro _ w ⟨rfl,o⟩
  refine RL.i6 aj 1 (aK (vi (IntKind.wrap .i64 (aj+1))) (RL.nil ?_))
  obtain rfl:=oi hj
  exact⟨rfl,o.sp 0 []⟩
 rintro _ w ⟨O,rfl,o⟩
 refine aG (RC.sr (mv (vi ab) (mv (str p0) (RL.lens p0 yW (RL.i6 (p0.cS.length:Int) 1 (RL.min ab (IntKind.wrap .i64 ((p0.cS.length:Int)+1)) (aK (vi (if (IntKind.wrap .i64 ((p0.cS.length:Int)+1))<ab then (IntKind.wrap .i64 ((p0.cS.length:Int)+1)) else ab)) (RL.ns ?_))))))))
 refine mv (vi (if (IntKind.wrap .i64 ((p0.cS.length:Int)+1))<ab then (IntKind.wrap .i64 ((p0.cS.length:Int)+1)) else ab)) ?_
 obtain⟨ay,al,j⟩:=bd j
 refine RL.mk (if (IntKind.wrap .i64 ((p0.cS.length:Int)+1))<ab then (IntKind.wrap .i64 ((p0.cS.length:Int)+1)) else ab) o Kg Nc al fun ae w o=>?_
 refine aK ae (RL.ns (mv (vi (if (IntKind.wrap .i64 ((p0.cS.length:Int)+1))<ab then (IntKind.wrap .i64 ((p0.cS.length:Int)+1)) else ab)) (RL.i6 (if (IntKind.wrap .i64 ((p0.cS.length:Int)+1))<ab then (IntKind.wrap .i64 ((p0.cS.length:Int)+1)) else ab) 1 (aK (vi (IntKind.wrap .i64 ((if (IntKind.wrap .i64 ((p0.cS.length:Int)+1))<ab then (IntKind.wrap .i64 ((p0.cS.length:Int)+1)) else ab) - 1))) (RL.ns (aK (vi 0) (RL.nq ?_)))))))
 obtain⟨az,hN,j⟩:=bd j
 refine RC.iter (fun(aa:dJ×(List dJ)×Int)=>SH E V [(0,(str aa.1)),(1,(str p1)),(2,vi p2),(3,(vi (IntKind.wrap .i64 ((if (IntKind.wrap .i64 ((p0.cS.length:Int)+1))<ab then (IntKind.wrap .i64 ((p0.cS.length:Int)+1)) else ab) - 1)))),(9,ae),(10,vi aa.2.2)] [own 9 ae aa.2.1]) (fun(aa:dJ×(List dJ)×Int)=>SH E V [(0,(str aa.1)),(9,ae),(10,vi aa.2.2)] [own 9 ae aa.2.1]) (fun(r:Empty) _ _=>r.elim) hN ?_ ?_ ?_ ?_
 ·exact o.sp 1 [0]
 ·rintro aa fl _ w ⟨O,rfl,o⟩ j
  refine RC.seq (RC.sr (mv (vi aa.2.2) (mv (vi (IntKind.wrap .i64 ((if (IntKind.wrap .i64 ((p0.cS.length:Int)+1))<ab then (IntKind.wrap .i64 ((p0.cS.length:Int)+1)) else ab) - 1))) (ic aa.2.2 ((IntKind.wrap .i64 ((if (IntKind.wrap .i64 ((p0.cS.length:Int)+1))<ab then (IntKind.wrap .i64 ((p0.cS.length:Int)+1)) else ab) - 1))) (RL.nt (eI j (fun hc j=>?_) fun hc j=>?_))))))
  rotate_left
  ·refine RC.ex ?_
   obtain rfl:=oi j
   exact⟨rfl,o.sp 1 [0]⟩
  refine RC.sn (RC.bs (mv (str aa.1) (mv (str p1) ?_)))
  obtain⟨ag,ao,j⟩:=bd j
  refine RL.call zt zr Iu [(str aa.1),(str p1)] zr (aF (pR N (p0:=aa.1) (p1:=p1) o ao) ?_)
  rintro _ w ⟨rfl,o⟩
  refine aK (vi ag) (RL.nq (RC.sr (mv (vi ag) (ic ag 0 (RL.nt (eI j (fun hc j=>?_) fun hc j=>?_))))))
  ·refine RC.ex (I0 (by decide) ?_)
   obtain rfl:=oi j
   exact⟨rfl,o.sp 1 [0]⟩
  refine RC.sx (mv ae (mv (vi aa.2.2) (mv (str aa.1) (mv (vi ag) (mv (vi p2) (RL.i6 ag p2 ?_))))))
  obtain⟨aq,ar,j⟩:=bd j
  refine RL.tI aa.1 zr zr yW (.inr ⟨rfl,zr⟩) (.inl zr) ar ?_
  obtain⟨a1,ah,j⟩:=bd j
  refine RL.bG 0 o zr zr DS ah ?_
  have o:=o.sc dJ aq
  refine RL.fA (f:=(fun _ y=>y)) 1 0 o (iX 1 o ah 0) (aU ah).2.1 zr Fs.self Aw fun w o=>?_
  refine RL.ns (mv (str aa.1) (mv (vi ag) (mv (str p1) (RL.lens p1 yW (RL.i6 ag (p1.cS.length:Int) ?_)))))
  obtain⟨au,av,j⟩:=bd j
  refine RL.tI aa.1 zr zr yW (.inl zr) (.inr ⟨rfl,zr⟩) av (aK (str au) (RL.nt (RC.region (mv (vi aa.2.2) (RL.i6 aa.2.2 1 (aK (vi (IntKind.wrap .i64 (aa.2.2+1))) (RL.nil (bI ?_))))))))
  obtain rfl:=oi j
  exact⟨rfl,o.sp 2 [1]⟩
 ·intro r _ _ _ _
  exact r.elim
 rintro aa _ w rfl ⟨O,rfl,o⟩
 rw [Fo.fB] at j
 refine aG (RC.sr (mv ae (mv (vi aa.2.2) (mv (str aa.1) ?_))))
 obtain⟨a2,ai,j⟩:=bd j
 refine RL.bG 0 o zr zr DS ai ?_
 have o:=o.sc dJ aa.1
 refine RL.fA (f:=(fun _ y=>y)) 1 0 o (iX 1 o ai 0) (aU ai).2.1 zr Fs.self Aw fun w o=>?_
 refine RL.ns (mv ae (mv (vi aa.2.2) (RL.i6 aa.2.2 1 ?_)))
 obtain⟨a3,aw,j⟩:=bd j
 refine RL.Ae 1 zr o zr zr DS (.inr ⟨rfl,zr⟩) aw fun ax o=>(aK ax (RL.nt (RC.ret ?_)))
 obtain rfl:=oi j
 exact cF (o.pk 2 [1])
theorem we {p0 p1:dJ} {res: (List dJ)} (o:Holds E w V) (j:lF N p0 p1=some res):
    Calls bE 110 [(str p0),(str p1)].toArray w (gF (ov E V res)):=by
 unfold lF at j
 refine enter Tryz.func110 zr zr (RC.sr (aK (.slice none 0 0) (RL.ns (mv (str p0) (mv (str p1) ?_)))))
 obtain⟨ad,aa,j⟩:=bd j
 refine RL.call zt zr Kh [(str p0),(str p1),(vi 0),(vi (-1))] zr (aF (s9 N (p0:=p0) (p1:=p1) (p2:=0) (p3:=(-1)) o aa) ?_)
 rintro ab w o
 refine aK ab (RL.nt (RC.ret ?_))
 obtain rfl:=oi j
 exact cF (o.pk 1 [0])
def oR (E:World) (V:List HP) (r:Int) (U:Nat->Value) (w:World):Prop:=ly bE 19 Tryz.f132 (aN E V r) .ret U w
theorem oz {p0: (List dJ)} {p1:dJ->Option Bool} (j:Holds E w V) (h0:V[i0]? =some (rd v0 p0)) (h1:Hk bE E V v1 p1 (fun(r:Bool)=>Value.bool r)) (o:jH N p0 p1=some res):
    Calls bE 132 [v0,v1].toArray w (gF (aN E V res)):=by
 unfold jH at o
 refine enter Tryz.func132 zr zr ?_
 have j:=j.dup (i0+0) h0
 refine RC.sr (aK (vi 0) (RL.nq (RC.sr (mv v0 (RL.bC 0 p0 j Kj (mv (vi 0) (RL.nt ?_)))))))
 obtain⟨al,hN,o⟩:=bd o
 refine RC.range (fun(aa:Nat) (ab:Unit)=>SH E V [(0,v0),(1,v1),(7,vi p0.length),(8,vi aa)] [rd v0 p0]) (fun(ab:Unit)=>SH E V [] [rd v0 p0]) (oR E V) hN ?_ ?_ ?_ ?_ ?_
 ·exact j.sp 1 [0]
 ·rintro hm ab _ w ⟨O,rfl,j⟩
  refine RC.sr (ic ((p0.length:Int)) ((p0.length:Int)) (RL.nq (RC.cH lD (RC.ex ?_))))
  exact⟨rfl,j.sp 1 [0]⟩
 ·rintro hm aa ab fl _ w hk ⟨O,rfl,j⟩ o
  refine RC.sr (ic ((aa:Int)) ((p0.length:Int)) (RL.nq (RC.cG (lC hk) (RC.ss (RC.bs (mv (vi aa) (aK (vi aa) (RL.ns ?_))))))))
  refine mv v1 (mv v0 (mv (vi aa) ?_))
  obtain⟨af,ah,o⟩:=bd o
  refine RL.bW 0 j DS ah fun ao j=>(RL.bH af 0 j Aw ?_)
  have j:=j.sc dJ af
  obtain⟨aq,ai,o⟩:=bd o
  refine RL.Ad 0 zr j zr h1 3 zr zr zr ai fun w j=>(RL.nt (eI o (fun hc o=>?_) fun hc o=>?_))
  rotate_left
  ·refine RC.skip (bI (aG (RC.region (RL.inc hk hm (mv (vi ((aa+1:Nat):Int)) (RL.nil ?_))))))
   obtain rfl:=oi o
   exact⟨rfl,j.sp 3 [2]⟩
  refine RC.sr (mv (vi aa) (aK (vi aa) (RL.nt (RC.rb (bM ?_)))))
  obtain rfl:=oi o
  exact⟨rfl,cF ⟨rfl,j.drop 3⟩⟩
 ·intro r U w e hK
  subst e
  refine bM ?_
  obtain rfl:=oi o
  exact hK
 rintro ab _ w rfl ⟨O,rfl,j⟩
 rw [Fo.fB] at o
 refine aG (RC.sr (aK (vi (-1)) (RL.nt (RC.ret ?_))))
 obtain rfl:=oi o
 exact cF ⟨rfl,j.drop 1⟩
theorem nb {p0: (List dJ)} {p1:dJ->Option Bool} {res:Bool} (j:Holds E w V) (h0:V[i0]? =some (rd v0 p0)) (h1:Hk bE E V v1 p1 (fun(r:Bool)=>Value.bool r)) (o:gu N p0 p1=some res):
    Calls bE 109 [v0,v1].toArray w (gF (aY E V res)):=by
 unfold gu at o
 refine enter Tryz.func109 zr zr ?_
 have j:=j.dup (i0+0) h0
 refine RC.sr (aK (vb false) (RL.ns (mv v0 (mv v1 ?_))))
 obtain⟨aa,ab,o⟩:=bd o
 refine RL.call zt zr Kk [v0,v1] zr (aF (oz N (i0:=0) j zr (h1.lift 1 zr) ab) ?_)
 rintro _ w ⟨rfl,j⟩
 refine ic aa 0 (aK (vb (decide (aa>=0))) (RL.nt (RC.ret ?_)))
 obtain rfl:=oi o
 exact cF ⟨rfl,j.drop 1⟩
theorem rI {p0:dJ} (o:Holds E w V) (j:hU N p0 p1=some res):
    Calls bE 112 [(str p0),(.int .u8 p1)].toArray w (gF (aN E V res)):=by
 unfold hU at j
 refine enter Tryz.func112 zr zr (RC.sr (aK (vi 0) (RL.ns (mv (str p0) (mv (.int .u8 p1) ?_)))))
 obtain⟨aa,ab,j⟩:=bd j
 refine RL.call zt zr It [(str p0),(.int .u8 p1)] zr (aF (lI N (p0:=p0) (p1:=p1) o ab) ?_)
 rintro _ w ⟨rfl,o⟩
 refine aK (vi aa) (RL.nt (RC.ret ?_))
 obtain rfl:=oi j
 exact cF ⟨rfl,o.drop 0⟩
def wg (E:World) (V:List HP) (r:Bool) (U:Nat->Value) (w:World):Prop:=ly bE 49 Tryz.f75 (aY E V r) .ret U w
theorem o6 {p0:dJ} {res:Bool} (hw:Holds E w V) (o:gX N p0=some res):
    Calls bE 75 [(str p0)].toArray w (gF (aY E V res)):=by
 unfold gX at o
 refine enter Tryz.func75 zr zr (RC.sr (aK (vb false) (RL.nq (RC.sr (mv (str p0) (RL.lens p0 yW (mv (vi 0) (RL.nt ?_))))))))
 obtain⟨ar,hN,o⟩:=bd o
 refine RC.range (fun(ab:Nat) (af:Unit)=>SH E V [(0,(str p0)),(6,vi p0.cS.length),(7,vi ab)] []) (fun(af:Unit)=>SH E V [(0,(str p0))] []) (wg E V) hN ?_ ?_ ?_ ?_ ?_
 ·exact hw.sp 0 []
 ·rintro hm af _ w ⟨O,rfl,hw⟩
  refine RC.sr (ic ((p0.cS.length:Int)) ((p0.cS.length:Int)) (RL.nq (RC.cH lD (RC.ex ?_))))
  exact⟨rfl,hw.sp 0 []⟩
 ·rintro hm ab af fl _ w hk ⟨O,rfl,hw⟩ o
  refine RC.sr (ic ((ab:Int)) ((p0.cS.length:Int)) (RL.nq (RC.cG (lC hk) (RC.ss (RC.bs (mv (vi ab) (aK (vi ab) (RL.ns ?_))))))))
  refine mv (str p0) (mv (vi ab) ?_)
  obtain⟨j,al,o⟩:=bd o
  refine RL.idxs p0 (ab:Int) j zr zr zr yW al (aK (.int .u8 (j.toNat:Int)) (RL.nq ?_))
  obtain⟨ag,hj,o⟩:=bd o
  refine RC.jn (fun(ag:Bool)=>SH E V [(0,(str p0)),(6,vi p0.cS.length),(7,vi ab),(39,vb ag)] []) ag ?_ ?_
  ·refine RC.region (mv (.int .u8 (j.toNat:Int)) (ic ((j.toNat:Int)) 65 (mv (vb (decide ((j.toNat:Int)<65))) (RL.gs true (decide ((j.toNat:Int)<65)) (.int .u8 (j.toNat:Int)) rfl rfl rfl dT (RL.gs true (decide ((j.toNat:Int)<65)) (vb (decide ((j.toNat:Int)>90))) rfl rfl rfl (dZ .gtr .u8 (j.toNat:Int) 90 rfl (fun h=>by exact(cV h:cv (true&&((decide ((j.toNat:Int)<65))==false)) (.int .u8 (j.toNat:Int))= (.int .u8 (j.toNat:Int)))) (fun _=>rfl) rfl) (RL.pick (decide ((j.toNat:Int)<65)) (vb ((decide ((j.toNat:Int)<65))||(decide ((j.toNat:Int)>90)))) (oX true rfl) (mv (vb ((decide ((j.toNat:Int)<65))||(decide ((j.toNat:Int)>90)))) (RL.gs true ((decide ((j.toNat:Int)<65))||(decide ((j.toNat:Int)>90))) (.int .u8 (j.toNat:Int)) rfl rfl rfl dT ?_))))))))
   refine RL.gs true ((decide ((j.toNat:Int)<65))||(decide ((j.toNat:Int)>90))) (vb (decide ((j.toNat:Int)<97))) rfl rfl rfl (dZ .lss .u8 (j.toNat:Int) 97 rfl (fun h=>by exact(cV h:cv (true&&(((decide ((j.toNat:Int)<65))||(decide ((j.toNat:Int)>90)))==true)) (.int .u8 (j.toNat:Int))= (.int .u8 (j.toNat:Int)))) (fun _=>rfl) rfl) (RL.gs true ((decide ((j.toNat:Int)<65))||(decide ((j.toNat:Int)>90))) (vb (decide ((j.toNat:Int)<97))) rfl rfl rfl (dT (hx:=fun h=>by exact(cV h:cv (true&&(((decide ((j.toNat:Int)<65))||(decide ((j.toNat:Int)>90)))==true)) (vb (decide ((j.toNat:Int)<97)))= (vb (decide ((j.toNat:Int)<97)))))) (RL.gs (true&&(((decide ((j.toNat:Int)<65))||(decide ((j.toNat:Int)>90)))==true)) (decide ((j.toNat:Int)<97)) (.int .u8 (j.toNat:Int)) rfl rfl rfl dT (RL.gs (true&&(((decide ((j.toNat:Int)<65))||(decide ((j.toNat:Int)>90)))==true)) (decide ((j.toNat:Int)<97)) (vb (decide ((j.toNat:Int)>122))) rfl rfl rfl (dZ .gtr .u8 (j.toNat:Int) 122 rfl (fun h=>by exact(cV h:cv ((true&&(((decide ((j.toNat:Int)<65))||(decide ((j.toNat:Int)>90)))==true))&&((decide ((j.toNat:Int)<97))==false)) (.int .u8 (j.toNat:Int))= (.int .u8 (j.toNat:Int)))) (fun _=>rfl) rfl) (RL.gs true ((decide ((j.toNat:Int)<65))||(decide ((j.toNat:Int)>90))) (vb ((decide ((j.toNat:Int)<97))||(decide ((j.toNat:Int)>122)))) rfl rfl rfl (oY (decide ((j.toNat:Int)<97)) rfl (fun h=>by exact(cV h:cv (true&&(((decide ((j.toNat:Int)<65))||(decide ((j.toNat:Int)>90)))==true)) (vb (decide ((j.toNat:Int)<97)))= (vb (decide ((j.toNat:Int)<97))))) (fun h=>by exact oX (true&&(((decide ((j.toNat:Int)<65))||(decide ((j.toNat:Int)>90)))==true)) h)) (RL.pick ((decide ((j.toNat:Int)<65))||(decide ((j.toNat:Int)>90))) (vb (((decide ((j.toNat:Int)<65))||(decide ((j.toNat:Int)>90)))&&((decide ((j.toNat:Int)<97))||(decide ((j.toNat:Int)>122))))) (iL true) (mv (vb (((decide ((j.toNat:Int)<65))||(decide ((j.toNat:Int)>90)))&&((decide ((j.toNat:Int)<97))||(decide ((j.toNat:Int)>122))))) (RL.gs true (((decide ((j.toNat:Int)<65))||(decide ((j.toNat:Int)>90)))&&((decide ((j.toNat:Int)<97))||(decide ((j.toNat:Int)>122)))) (.int .u8 (j.toNat:Int)) rfl rfl rfl dT (RL.gs true (((decide ((j.toNat:Int)<65))||(decide ((j.toNat:Int)>90)))&&((decide ((j.toNat:Int)<97))||(decide ((j.toNat:Int)>122)))) (vb (decide ((j.toNat:Int)<48))) rfl rfl rfl (dZ .lss .u8 (j.toNat:Int) 48 rfl (fun h=>by exact(cV h:cv (true&&((((decide ((j.toNat:Int)<65))||(decide ((j.toNat:Int)>90)))&&((decide ((j.toNat:Int)<97))||(decide ((j.toNat:Int)>122))))==true)) (.int .u8 (j.toNat:Int))= (.int .u8 (j.toNat:Int)))) (fun _=>rfl) rfl) ?_))))))))
   refine RL.gs true (((decide ((j.toNat:Int)<65))||(decide ((j.toNat:Int)>90)))&&((decide ((j.toNat:Int)<97))||(decide ((j.toNat:Int)>122)))) (vb (decide ((j.toNat:Int)<48))) rfl rfl rfl (dT (hx:=fun h=>by exact(cV h:cv (true&&((((decide ((j.toNat:Int)<65))||(decide ((j.toNat:Int)>90)))&&((decide ((j.toNat:Int)<97))||(decide ((j.toNat:Int)>122))))==true)) (vb (decide ((j.toNat:Int)<48)))= (vb (decide ((j.toNat:Int)<48)))))) (RL.gs (true&&((((decide ((j.toNat:Int)<65))||(decide ((j.toNat:Int)>90)))&&((decide ((j.toNat:Int)<97))||(decide ((j.toNat:Int)>122))))==true)) (decide ((j.toNat:Int)<48)) (.int .u8 (j.toNat:Int)) rfl rfl rfl dT (RL.gs (true&&((((decide ((j.toNat:Int)<65))||(decide ((j.toNat:Int)>90)))&&((decide ((j.toNat:Int)<97))||(decide ((j.toNat:Int)>122))))==true)) (decide ((j.toNat:Int)<48)) (vb (decide ((j.toNat:Int)>57))) rfl rfl rfl (dZ .gtr .u8 (j.toNat:Int) 57 rfl (fun h=>by exact(cV h:cv ((true&&((((decide ((j.toNat:Int)<65))||(decide ((j.toNat:Int)>90)))&&((decide ((j.toNat:Int)<97))||(decide ((j.toNat:Int)>122))))==true))&&((decide ((j.toNat:Int)<48))==false)) (.int .u8 (j.toNat:Int))= (.int .u8 (j.toNat:Int)))) (fun _=>rfl) rfl) (RL.gs true (((decide ((j.toNat:Int)<65))||(decide ((j.toNat:Int)>90)))&&((decide ((j.toNat:Int)<97))||(decide ((j.toNat:Int)>122)))) (vb ((decide ((j.toNat:Int)<48))||(decide ((j.toNat:Int)>57)))) rfl rfl rfl (oY (decide ((j.toNat:Int)<48)) rfl (fun h=>by exact(cV h:cv (true&&((((decide ((j.toNat:Int)<65))||(decide ((j.toNat:Int)>90)))&&((decide ((j.toNat:Int)<97))||(decide ((j.toNat:Int)>122))))==true)) (vb (decide ((j.toNat:Int)<48)))= (vb (decide ((j.toNat:Int)<48))))) (fun h=>by exact oX (true&&((((decide ((j.toNat:Int)<65))||(decide ((j.toNat:Int)>90)))&&((decide ((j.toNat:Int)<97))||(decide ((j.toNat:Int)>122))))==true)) h)) (RL.pick (((decide ((j.toNat:Int)<65))||(decide ((j.toNat:Int)>90)))&&((decide ((j.toNat:Int)<97))||(decide ((j.toNat:Int)>122)))) (vb ((((decide ((j.toNat:Int)<65))||(decide ((j.toNat:Int)>90)))&&((decide ((j.toNat:Int)<97))||(decide ((j.toNat:Int)>122))))&&((decide ((j.toNat:Int)<48))||(decide ((j.toNat:Int)>57))))) (iL true) (mv (vb ((((decide ((j.toNat:Int)<65))||(decide ((j.toNat:Int)>90)))&&((decide ((j.toNat:Int)<97))||(decide ((j.toNat:Int)>122))))&&((decide ((j.toNat:Int)<48))||(decide ((j.toNat:Int)>57))))) (fU hj (fun ad hj=>?_) fun ad hj=>?_))))))
   rotate_left
   ·refine bN ad (bN ad (bN ad (fP ad (vb false) (RL.nil ?_))))
    obtain rfl:=oi hj
    exact⟨rfl,hw.sp 0 []⟩
   refine RL.move (.int .u8 (j.toNat:Int)) (cg ad) ?_
   obtain⟨aj,an,hj⟩:=bd hj
   refine RL.call (cg ad) zr Kl [(str ⟨[95,43,45,35]⟩),(.int .u8 (j.toNat:Int))] zr (aF (rI N (p0:=⟨[95,43,45,35]⟩) (p1:=(j.toNat:Int)) hw an) ?_)
   rintro _ w ⟨rfl,hw⟩
   refine RL.jO aj 0 (cg ad) (fP ad (vb (decide (aj<0))) (RL.nil ?_))
   obtain rfl:=oi hj
   exact⟨rfl,hw.sp 0 []⟩
  rintro _ w ⟨O,rfl,hw⟩
  refine aG (eI o (fun hc o=>?_) fun hc o=>?_)
  rotate_left
  ·refine RC.skip (bI (aG (RC.region (RL.inc hk hm (mv (vi ((ab+1:Nat):Int)) (RL.nil ?_))))))
   obtain rfl:=oi o
   exact⟨rfl,hw.sp 0 []⟩
  refine RC.sr (aK (vb false) (RL.nt (RC.rb (bM ?_))))
  obtain rfl:=oi o
  exact⟨rfl,cF ⟨rfl,hw.drop 0⟩⟩
 ·intro r U w e hK
  subst e
  refine bM ?_
  obtain rfl:=oi o
  exact hK
 rintro af _ w rfl ⟨O,rfl,hw⟩
 rw [Fo.fB] at o
 refine aG (RC.sr (mv (str p0) (RL.lens p0 yW (ic ((p0.cS.length:Int)) 1 (mv (vb (decide ((p0.cS.length:Int)>=1))) (RL.gs true (decide ((p0.cS.length:Int)>=1)) (str p0) rfl rfl rfl dT (RL.gs true (decide ((p0.cS.length:Int)>=1)) (vi p0.cS.length) rfl rfl rfl (Hu (s:=p0) rfl (fun h=>by exact(cV h:cv (true&&((decide ((p0.cS.length:Int)>=1))==true)) (str p0)= (str p0))) yW) (RL.gs true (decide ((p0.cS.length:Int)>=1)) (vb (decide ((p0.cS.length:Int)<=40))) rfl rfl rfl (dZ .leq .i64 (p0.cS.length:Int) 40 rfl (fun h=>by exact(cV h:cv (true&&((decide ((p0.cS.length:Int)>=1))==true)) (vi p0.cS.length)= (vi p0.cS.length))) (fun _=>rfl) rfl) ?_))))))))
 refine RL.pick (decide ((p0.cS.length:Int)>=1)) (vb ((decide ((p0.cS.length:Int)>=1))&&(decide ((p0.cS.length:Int)<=40)))) (iL true) (aK (vb ((decide ((p0.cS.length:Int)>=1))&&(decide ((p0.cS.length:Int)<=40)))) (RL.nt (RC.ret ?_)))
 obtain rfl:=oi o
 exact cF ⟨rfl,hw.drop 0⟩
theorem rJ {p0:dJ} {res:Bool} (o:Holds E w V) (j:gv N p0=some res):
    Calls bE 111 [(str p0)].toArray w (gF (aY E V res)):=by
 unfold gv at j
 refine enter Tryz.func111 zr zr (RC.sr (aK (vb false) (RL.ns (mv (str p0) ?_))))
 obtain⟨aa,ab,j⟩:=bd j
 refine RL.call zt zr Km [(str p0)] zr (aF (o6 N (p0:=p0) o ab) ?_)
 rintro _ w ⟨rfl,o⟩
 refine RL.not aa (aK (vb (!aa)) (RL.nt (RC.ret ?_)))
 obtain rfl:=oi j
 exact cF ⟨rfl,o.drop 0⟩
theorem va {p0:dJ} {res:Bool} (j:Holds E w V) (hb:kH N p0=some res):
    Calls bE 74 [(str p0)].toArray w (gF (aY E V res)):=by
 unfold kH at hb
 refine enter Tryz.func74 zr zr (RC.sr (aK (vb false) (RL.nq ?_)))
 obtain⟨ad,hj,hb⟩:=bd hb
 refine RC.jn (fun(ad:Bool)=>SH E V [(2,vb ad)] []) ad ?_ ?_
 ·refine RC.region (mv (str p0) (RL.lens p0 yW (ic ((p0.cS.length:Int)) 200 (mv (vb (decide ((p0.cS.length:Int)<=200))) (fU hj (fun o hj=>?_) fun o hj=>?_)))))
  rotate_left
  ·refine bN o (bN o (bN o (bN o (fP o (vb false) (aK (vb false) (RL.nil ?_))))))
   obtain rfl:=oi hj
   exact⟨rfl,j.sp 0 []⟩
  refine RL.move (str p0) (cg o) ?_
  obtain⟨ai,af,hj⟩:=bd hj
  refine RL.call (cg o) zr Ki [(str p0),(str ⟨[47]⟩)] zr (aF (we N (p0:=p0) (p1:=⟨[47]⟩) j af) ?_)
  rintro ag w j
  have j:=j.freeze 0
  obtain⟨ae,ah,hj⟩:=bd hj
  refine RL.call (cg o) rfl Ko [ag,(.func (.func 111) #[] #[])] rfl (aF (nb N (i0:=0) j rfl ⟨111,[],rfl,Kn,fun w Γl v y0 r i j hi hr=>by obtain rfl:=j.Aa (γ:=dJ) hi;exact aF (rJ N (p0:=y0) j hr) fun _ _ h=>h⟩ ah) ?_)
  rintro _ w ⟨rfl,j⟩
  refine RL.not (hg:=(cg o)) ae (fP o (vb (!ae)) (aK (vb (!ae)) (RL.nil ?_)))
  obtain rfl:=oi hj
  exact⟨rfl,j.sp 1 []⟩
 rintro _ w ⟨O,rfl,j⟩
 refine aG (RC.ret ?_)
 obtain rfl:=oi hb
 exact cF ⟨rfl,j.drop 0⟩
def x5 (E:World) (V:List HP) (res:fV) (v:Value) (w:World):Prop:=Holds E w ([rd v res]++V)
theorem lX {p0:cY} {res:fV} (j:Holds E w V) (h0:V[i0]? =some (rd v0 p0)) (o:jW N p0=some res):
    Calls bE 77 [v0].toArray w (gF (x5 E V res)):=by
 unfold jW at o
 refine enter Tryz.func77 zr zr ?_
 have j:=j.dup (i0+0) h0
 refine RC.sr (RL.dB 0 v0 j zr fun aa w j=>?_)
 refine RL.alloc j Kp.z fun ab w j=>?_
 refine RL.ns (RL.bB zr F4 (RL.aM 1 j zr zz Aw (RL.bB zr F5 (RL.aM 1 j zr zA Aw ?_))))
 have j:=(j.sc dJ p0.Part).sc dJ p0.fV
 refine RL.build (⟨p0.Part,p0.fV⟩:fV) trivial rfl j [(0,(str p0.Part)),(1,(str p0.fV))] rfl Jl rfl (fun M hs g=>by have h:=F0 M;exact cO.cons (f:=fun(x:fV) y=>{x with Part:=y}) h xP (g.sat 1 _ rfl).1 fun _ h=>cO.cons (f:=fun(x:fV) y=>{x with fV:=y}) h xQ (g.sat 0 _ rfl).1 fun _ h=>cO.nil h) fun ad j=>?_
 refine RL.bA 3 j 0 zr m8 fun w j=>?_
 refine RL.nt (RC.ret ?_)
 obtain rfl:=oi o
 exact FB 3 zr j zr zr m8 fun ae j=>(j.pk 7 [0])
theorem py {p0 p1:dJ} (o:Holds E w V) (j:km N p0 p1=some res):
    Calls bE 119 [(str p0),(str p1)].toArray w (gF (aN E V res)):=by
 unfold km at j
 refine enter Tryz.func119 zr zr (RC.sr (aK (vi 0) (RL.ns (mv (str p0) (mv (str p1) (RL.xD (vi (Lib.compareBytes p0.cS p1.cS)) zr [(str p0),(str p1)] zr (eJ p0 p1 w) (aK (vi (Lib.compareBytes p0.cS p1.cS)) (RL.nt ?_))))))))
 refine RC.ret ?_
 obtain rfl:=oi j
 exact cF ⟨rfl,o.drop 0⟩
theorem oA {p0 p1:dJ} (o:Holds E w V) (j:lT N p0 p1=some res):
    Calls bE 93 [(str p0),(str p1)].toArray w (gF (aN E V res)):=by
 unfold lT at j
 refine enter Tryz.func93 zr zr (RC.sr (aK (vi 0) (RL.ns (mv (str p0) (mv (str p1) ?_)))))
 obtain⟨aa,ab,j⟩:=bd j
 refine RL.call zt zr Kq [(str p0),(str p1)] zr (aF (py N (p0:=p0) (p1:=p1) o ab) ?_)
 rintro _ w ⟨rfl,o⟩
 refine aK (vi aa) (RL.nt (RC.ret ?_))
 obtain rfl:=oi j
 exact cF ⟨rfl,o.drop 0⟩
theorem fz {p0 p1:fV} (j:Holds E w V) (h0:V[i0]? =some (rd v0 p0)) (h1:V[i1]? =some (rd v1 p1)) (o:dK N p0 p1=some res):
    Calls bE 57 [v0,v1].toArray w (gF (aN E V res)):=by
 unfold dK at o
 refine enter Tryz.func57 zr zr ?_
 have j:=(j.dup (i0+0) h0).dup (i1+1) h1
 refine RC.sr (RL.dB 1 v0 j zr fun ag w j=>?_)
 refine RL.dB 1 v1 j zr fun ah w j=>?_
 refine aK (vi 0) (RL.nq (RC.sr (RL.bB zr F6 (RL.aM 1 j zr BT Aw (RL.bB zr F6 (RL.aM 0 j zr BT Aw ?_))))))
 obtain⟨aa,ab,o⟩:=bd o
 refine RL.call zt zr Kr [(str p0.Part),(str p1.Part)] zr (aF (oA N (p0:=p0.Part) (p1:=p1.Part) j ab) ?_)
 rintro _ w ⟨rfl,j⟩
 refine aK (vi aa) (RL.ns (mv (vi aa) (ic aa 0 (RL.nt (eI o (fun hc o=>?_) fun hc o=>?_)))))
 ·refine RC.sr (mv (vi aa) (aK (vi aa) (RL.nt (RC.rt ?_))))
  obtain rfl:=oi o
  exact cF ⟨rfl,j.drop 4⟩
 refine RC.sx (RL.bB zr F7 (RL.aM 1 j zr BU Aw (RL.bB zr F7 (RL.aM 0 j zr BU Aw ?_))))
 obtain⟨ae,af,o⟩:=bd o
 refine RL.call zt zr Kr [(str p0.fV),(str p1.fV)] zr (aF (oA N (p0:=p0.fV) (p1:=p1.fV) j af) ?_)
 rintro _ w ⟨rfl,j⟩
 refine aK (vi ae) (RL.nt (RC.ret ?_))
 obtain rfl:=oi o
 exact cF ⟨rfl,j.drop 4⟩
def tc (E:World) (V:List HP) (r:Int) (U:Nat->Value) (w:World):Prop:=ly bE 60 Tryz.f48 (aN E V r) .ret U w
theorem rK {p0:gS} (j:Holds E w V) (h0:V[i0]? =some (rd v0 p0)) (hb:jk N p0=some res):
    Calls bE 48 [v0].toArray w (gF (aN E V res)):=by
 unfold jk at hb
 refine enter Tryz.func48 zr zr ?_
 have j:=j.dup (i0+0) h0
 refine RC.sr (RL.dB 0 v0 j zr fun ag w j=>?_)
 have j:=j.gJ (i:=0) rfl
 refine aK (vi 0) (RL.nq (RC.sr (RL.iu 0 j zr vZ rq fun bk j=>(RL.bL 0 p0.bJ j EK fun bl j=>(RL.bC 0 p0.bJ j F3 (ic ((p0.bJ.length:Int)) 1000 (RL.nt (eI hb (fun hc hb=>?_) fun hc hb=>?_))))))))
 ·refine RC.sr (aK (vi 2) (RL.nt (RC.rt ?_)))
  obtain rfl:=oi hb
  exact cF ⟨rfl,j.drop 4⟩
 refine RC.ss (RC.sr (RL.iu 2 j zr vZ rq fun bm j=>(RL.bL 0 p0.bJ j EK fun ah j=>(RL.bC 0 p0.bJ j F3 (mv (vi 0) (RL.nt ?_))))))
 obtain⟨bn,hN,hb⟩:=bd hb
 refine RC.range (fun(ad:Nat) (ak:Unit)=>SH E V [(1,vp ag 0),(10,ah),(11,vi p0.bJ.length),(12,vi ad)] [pt (vp ag 0) p0,rd ah p0.bJ]) (fun(ak:Unit)=>SH E V [] [pt (vp ag 0) p0,rd ah p0.bJ]) (tc E V) hN ?_ ?_ ?_ ?_ ?_
 ·exact j.sp 6 [4,0]
 ·rintro hm ak _ w ⟨O,rfl,j⟩
  refine RC.sr (ic ((p0.bJ.length:Int)) ((p0.bJ.length:Int)) (RL.nq (RC.cH lD (RC.ex ?_))))
  exact⟨rfl,j.sp 2 [0,1]⟩
 ·rintro hm ad ak fl _ w hk ⟨O,rfl,j⟩ hb
  refine RC.sr (ic ((ad:Int)) ((p0.bJ.length:Int)) (RL.nq (RC.cG (lC hk) (RC.ss (RC.bs (mv (vi ad) ?_))))))
  obtain⟨ai,a1,hb⟩:=bd hb
  refine RL.bW 1 j EL a1 fun bp j=>(RL.bL 0 ai j xW fun bq j=>(RL.alloc j Jk.z fun al w j=>?_))
  refine aK (vi ad) (RL.bA 0 j 1 zr xW fun w j=>?_)
  refine RL.nt (RC.block (RC.seq ?_))
  obtain⟨an,o,hb⟩:=bd hb
  refine RC.jn (fun(an:Bool)=>SH E V [(1,vp ag 0),(3,vi ad),(4,vp al 0),(10,ah),(11,vi p0.bJ.length),(12,vi ad),(17,vb an)] [pt (vp ag 0) p0,bx 78 al ai,rd ah p0.bJ]) an ?_ ?_
  ·refine RC.region (RL.bB zr F4 (RL.aM 0 j zr zz Aw ?_))
   obtain⟨ay,a2,o⟩:=bd o
   refine RL.call zt zr L2 [(str ai.Part)] zr (aF (va N (p0:=ai.Part) j a2) ?_)
   rintro _ w ⟨rfl,j⟩
   refine RL.not ay (mv (vb (!ay)) (fU o (fun ae o=>?_) fun ae o=>?_))
   ·refine bN ae (bN ae (bN ae (bN ae (fP ae (vb true) (aK (vb true) (RL.nil ?_))))))
    obtain rfl:=oi o
    exact⟨rfl,j.sp 5 [3,0,4]⟩
   refine RL.bB (hg:=(cg ae)) zr F5 (RL.aM (hg:=(cg ae)) 0 j zr zA Aw ?_)
   obtain⟨ao,a3,o⟩:=bd o
   refine RL.call (cg ae) zr Km [(str ai.fV)] zr (aF (o6 N (p0:=ai.fV) j a3) ?_)
   rintro _ w ⟨rfl,j⟩
   refine RL.not (hg:=(cg ae)) ao (fP ae (vb (!ao)) (aK (vb (!ao)) (RL.nil ?_)))
   obtain rfl:=oi o
   exact⟨rfl,j.sp 5 [3,0,4]⟩
  rintro _ w ⟨O,rfl,j⟩
  refine aG (eI hb (fun hc hb=>?_) fun hc hb=>?_)
  ·refine RC.sr (aK (vi 5) (RL.nt (RC.rb (jS (bM ?_)))))
   obtain rfl:=oi hb
   exact⟨rfl,cF ⟨rfl,j.drop 3⟩⟩
  refine RC.seq ?_
  obtain⟨aq,o,hb⟩:=bd hb
  refine RC.jn (fun(aq:Bool)=>SH E V [(1,vp ag 0),(3,vi ad),(4,vp al 0),(10,ah),(11,vi p0.bJ.length),(12,vi ad),(28,vb aq)] [pt (vp ag 0) p0,bx 78 al ai,rd ah p0.bJ]) aq ?_ ?_
  ·refine RC.region (RL.bB zr C4 (RL.aM 1 j zr vV cN (RL.iu 0 j zr vX pN fun br j=>(RL.bL 0 p0.aL j EH fun bt j=>(RL.bC 0 p0.aL j BW (RL.i6 (p0.aL.length:Int) 1 ?_))))))
   obtain⟨az,a4,o⟩:=bd o
   refine RL.call zt zr HJ [(vi ai.cZ),(vi 0),(vi (IntKind.wrap .i64 ((p0.aL.length:Int) - 1)))] zr (aF (lh N (p0:=ai.cZ) (p1:=0) (p2:=(IntKind.wrap .i64 ((p0.aL.length:Int) - 1))) j a4) ?_)
   rintro _ w ⟨rfl,j⟩
   refine RL.not az (mv (vb (!az)) (fU o (fun af o=>?_) fun af o=>?_))
   ·refine bN af (bN af (bN af (bN af (fP af (vb true) (aK (vb true) (RL.nil ?_))))))
    obtain rfl:=oi o
    exact⟨rfl,j.sp 5 [2,3,4]⟩
   refine RL.bB (hg:=(cg af)) zr C5 (RL.aQ (hg:=(cg af)) 3 j zr vW sU fun a5 j=>?_)
   obtain⟨ar,a6,o⟩:=bd o
   refine RL.call (cg af) zr Kb [a5] zr (aF (pQ N (i0:=0) j zr a6) ?_)
   rintro _ w ⟨rfl,j⟩
   refine RL.not (hg:=(cg af)) ar (fP af (vb (!ar)) (aK (vb (!ar)) (RL.nil ?_)))
   obtain rfl:=oi o
   exact⟨rfl,j.sp 6 [3,4,5]⟩
  rintro _ w ⟨O,rfl,j⟩
  refine aG (eI hb (fun hc hb=>?_) fun hc hb=>?_)
  ·refine RC.sr (aK (vi 1) (RL.nt (RC.rb (jS (bM ?_)))))
   obtain rfl:=oi hb
   exact⟨rfl,cF ⟨rfl,j.drop 3⟩⟩
  refine RC.seq ?_
  obtain⟨au,o,hb⟩:=bd hb
  refine RC.jn (fun(au:Bool)=>SH E V [(1,vp ag 0),(10,ah),(11,vi p0.bJ.length),(12,vi ad),(43,vb au)] [pt (vp ag 0) p0,rd ah p0.bJ]) au ?_ ?_
  ·refine RC.xM mixed [0,0,0,0,2,1,1,1,1,1,1,2,2,0,0,0] [0,1,2,3,5,6,7,8,9,10,4,11,12,13,14,15] ?_
   have j:=j.drew
   refine DP.e0 zr (mv (vi ad) (cB zr (ic ((ad:Int)) 0 (cB zr (mv (vb (decide ((ad:Int)>0))) (DP.d0 (fU o (fun ab o=>?_) fun ab o=>?_)))))))
   rotate_left
   ·refine DP.e0 zr (bN ab (DP.d0 (DP.e1 undef zr (fun w=>bN ab DP.d1) (DP.e1 undef zr (fun w=>bN ab DP.d1) (DP.e1 undef zr (fun w=>bN ab DP.d1) (DP.e1 undef zr (fun w=>bN ab DP.d1) (DP.e1 undef zr (fun w=>bN ab DP.d1) (DP.e1 undef zr (fun w=>bN ab DP.d1) ?_))))))))
    refine DP.e2 zr (bN ab (HG zr (bN ab (HG zr (bN ab (xN zr (bN ab (cB zr ?_))))))))
    refine fP ab (vb false) (cB zr (aK (vb false) (DP.d0 (DP.z ?_))))
    obtain rfl:=oi o
    exact⟨rfl,j.sp 3 [0,2]⟩
   refine DP.e0 zr (RL.aQ (hg:=(cg ab)) (f:=(fun x=>x)) 1 j zr Fd.self xW fun a7 j=>(DP.d0 (DP.HH 1 zr zr (cg ab) zr j zr zr vZ rq fun bu j=>(DP.wZ (hg:=(cg ab)) p0.bJ 0 zr j EK fun bw a378 bz j=>(DP.e1 (vi ad) zr (fun w=>RL.move (vi ad) (cg ab) DP.d1) (DP.e1 (vi (IntKind.wrap .i64 ((ad:Int) - 1))) zr (fun w=>RL.i6 (hg:=(cg ab)) (ad:Int) 1 DP.d1) ?_))))))
   obtain⟨a8,a9,o⟩:=bd o
   refine DP.Jg 1 zr zr (cg ab) zr j zr zr zr EL a9 fun b0 j=>(DP.wZ (hg:=(cg ab)) a8 0 zr j xW fun ba a383 b1 j=>(DP.e2 zr ?_))
   obtain⟨b2,bb,o⟩:=bd o
   refine RL.call (cg ab) zr HK [a7] zr (aF (lX N (i0:=6) j zr bb) ?_)
   rintro bc w j
   refine DP.d2 (⟨⟨zt,j.kb 4⟩,j.kb 1⟩) (DP.e2 zr ?_)
   obtain⟨b3,bf,o⟩:=bd o
   refine RL.call (cg ab) zr HK [ba] zr (aF (lX N (i0:=2) j zr bf) ?_)
   rintro bg w j
   refine DP.d2 (⟨⟨zt,j.kb 5⟩,j.kb 2⟩) (DP.e2 zr ?_)
   obtain⟨av,bh,o⟩:=bd o
   refine RL.call (cg ab) zr EM [bc,bg] zr (aF (fz N (i0:=1) (i1:=0) j zr zr bh) ?_)
   rintro _ w ⟨rfl,j⟩
   refine DP.d2 (⟨⟨zt,j.kb 5⟩,j.kb 2⟩) (DP.e0 zr (RL.jO av 0 (cg ab) (cB zr (fP ab (vb (decide (av<=0))) (cB zr (aK (vb (decide (av<=0))) (DP.d0 ?_)))))))
   have j:=j.pl 12 [0,1,3,4,6,7,8,9,10,11]
   refine DP.z ?_
   obtain rfl:=oi o
   exact⟨rfl,j.sp 10 [7,9]⟩
  rintro _ w ⟨O,rfl,j⟩
  refine aG (eI hb (fun hc hb=>?_) fun hc hb=>?_)
  rotate_left
  ·refine RC.skip (bI (bI (aG (RC.region (RL.inc hk hm (mv (vi ((ad+1:Nat):Int)) (RL.nil ?_)))))))
   obtain rfl:=oi hb
   exact⟨rfl,j.sp 2 [0,1]⟩
  refine RC.sr (aK (vi 8) (RL.nt (RC.rb (jS (bM ?_)))))
  obtain rfl:=oi hb
  exact⟨rfl,cF ⟨rfl,j.drop 2⟩⟩
 ·intro r U w e hK
  subst e
  refine bM ?_
  obtain rfl:=oi hb
  exact hK
 rintro ak _ w rfl ⟨O,rfl,j⟩
 rw [Fo.fB] at hb
 refine aG (RC.sr (aK (vi 0) (RL.nt (RC.ret ?_))))
 obtain rfl:=oi hb
 exact cF ⟨rfl,j.drop 2⟩
theorem pS (o:Holds E w V) (j:iH N p0 p1 p2 p3=some res):
    Calls bE 78 [(vi p0),(vi p1),(vi p2),(vi p3)].toArray w (gF (aN E V res)):=by
 unfold iH at j
 refine enter Tryz.func78 zr zr (RC.sr (aK (vi 0) (RL.ns (mv (vi p2) (mv (vi p1) (RL.i6 p2 p1 (RL.i6 (IntKind.wrap .i64 (p2 - p1)) 1 (mv (vi p0) ?_))))))))
 refine mv (vi p3) (RL.i6 p0 p3 (RL.i6 (IntKind.wrap .i64 (p0 - p3)) 1 (RL.LN (a:=0) (b:=(IntKind.wrap .i64 ((IntKind.wrap .i64 (p2 - p1))+1))) (c:=(IntKind.wrap .i64 ((IntKind.wrap .i64 (p0 - p3))+1))) zt zr zr zr zr (aK (vi (if (if 0< (IntKind.wrap .i64 ((IntKind.wrap .i64 (p2 - p1))+1)) then (IntKind.wrap .i64 ((IntKind.wrap .i64 (p2 - p1))+1)) else 0)< (IntKind.wrap .i64 ((IntKind.wrap .i64 (p0 - p3))+1)) then (IntKind.wrap .i64 ((IntKind.wrap .i64 (p0 - p3))+1)) else (if 0< (IntKind.wrap .i64 ((IntKind.wrap .i64 (p2 - p1))+1)) then (IntKind.wrap .i64 ((IntKind.wrap .i64 (p2 - p1))+1)) else 0))) (RL.nt (RC.ret ?_))))))
 obtain rfl:=oi j
 exact cF ⟨rfl,o.drop 0⟩
theorem nU {p0 p1:aI} (j:Holds E w V) (h0:V[i0]? =some (rd v0 p0)) (h1:V[i1]? =some (rd v1 p1)) (o:jI N p0 p1=some res):
    Calls bE 49 [v0,v1].toArray w (gF (aN E V res)):=by
 unfold jI at o
 refine enter Tryz.func49 zr zr ?_
 have j:=(j.dup (i0+0) h0).dup (i1+1) h1
 refine RC.sr (RL.dB 1 v0 j zr fun aa w j=>?_)
 refine RL.dB 1 v1 j zr fun ab w j=>?_
 refine aK (vi 0) (RL.nq ?_)
 have j:=j.drew
 refine RC.FT (fun w=>Holds E w ([bx 74 ab p1,bx 74 aa p0]++V)) mixed zr [0,0,0,0,0,0,0,0,2,1,1,1,1,1,1,1,1,2,0,0] [0,1,2,3,4,5,6,7,9,10,11,12,13,14,15,16,8,17,18,19] (j.pk 4 [0,1]) (DP.e0 zr (RL.bB zr jv (cB zr (RL.aM 1 j zr eO cN (cB zr (RL.bB zr kO (cB zr (RL.aM 1 j zr gA cN ?_))))))))
 refine cB zr (RL.bB zr jv (cB zr (RL.aM 0 j zr eO cN (cB zr (RL.bB zr kO (cB zr (RL.aM 0 j zr gA cN (DP.d0 ?_))))))))
 refine DP.e1 (vp aa 1) zr (fun w=>RL.bB zr jY DP.d1) (DP.Je (vi p0.Y0) zr (fun w j=>RL.aM 1 j zr fy cN DP.d1) (DP.e1 (vp aa 3) zr (fun w=>RL.bB zr ou DP.d1) (DP.Je (vi p0.Y1) zr (fun w j=>RL.aM 1 j zr jM cN DP.d1) (DP.e1 (vp ab 1) zr (fun w=>RL.bB zr jY DP.d1) (DP.Je (vi p1.Y0) zr (fun w j=>RL.aM 0 j zr fy cN DP.d1) (DP.e1 (vp ab 3) zr (fun w=>RL.bB zr ou DP.d1) (DP.Je (vi p1.Y1) zr (fun w j=>RL.aM 0 j zr jM cN DP.d1) (DP.e2 zr ?_))))))))
 obtain⟨ad,af,o⟩:=bd o
 refine RL.call zt zr Ks [(vi p0.X0),(vi p0.X1),(vi p1.X0),(vi p1.X1)] zr (aF (pS N (p0:=p0.X0) (p1:=p0.X1) (p2:=p1.X0) (p3:=p1.X1) j af) ?_)
 rintro _ w ⟨rfl,j⟩
 refine DP.d2 (j.pk 4 [0,1]) (DP.e2 zr ?_)
 obtain⟨ae,ag,o⟩:=bd o
 refine RL.call zt zr Ks [(vi p0.Y0),(vi p0.Y1),(vi p1.Y0),(vi p1.Y1)] zr (aF (pS N (p0:=p0.Y0) (p1:=p0.Y1) (p2:=p1.Y0) (p3:=p1.Y1) j ag) ?_)
 rintro _ w ⟨rfl,j⟩
 refine DP.d2 (j.pk 4 [0,1]) (DP.e0 zr (RL.max ad ae (cB zr (aK (vi (if ad<ae then ae else ad)) (DP.d0 (DP.z (aG (RC.ret ?_))))))))
 obtain rfl:=oi o
 exact cF ⟨rfl,j.drop 4⟩
end Go.Gk
