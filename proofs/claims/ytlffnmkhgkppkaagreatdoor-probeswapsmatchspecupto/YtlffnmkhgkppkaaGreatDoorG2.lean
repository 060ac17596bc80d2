/-
  Printed texts: Go functions as plain functions, and that they are. No statement of the seed is proved here.
-/
import Derived.Test.YtlffnmkhgkppkaaGreatDoorG1
import Derived.Test.YtlffnmkhgkppkaaGreatDoorA2
set_option linter.unusedVariables false
set_option linter.unusedSimpArgs false
set_option linter.unusedSectionVars false
set_option maxRecDepth 100000
set_option maxHeartbeats 40000000
namespace Go.Gk
open Go IntKind Go.Proofs
variable (N:Nat){E w:World}{i0 i1:Nat}{p0 p1 p2 p3 res:Int}{v0 v1:Value}{V:List HP}
theorem jz{p0:cP}{res:aI}(j:Holds E w V)(h0:V[i0]? =some (rd v0 p0))(o:gK N p0=some res):c_ 54 [v0] w<|pG E V res:=by
 unfold gK at o;refine enter Tryz.func54 zr zr ?_;have j:=j.dup (i0+0) h0;refine w_<|Tm 0 v0 j zr λaa w j=>?_;refine TC j pQ.z λab w j=>?_;refine BY<|T1 mixed ?_;have j:=j.drew;refine T0<|By zr xn<|AT<|By zr n9<|AT<|S4 (f:=(λx=>x.At.X)) 1 j zr (Fd.comp (f:=λ(x:cP)=>x.At) (λ(x:bL)=>x.X) r5 g9) cI<|AT<|By zr qu<|AT<|S4 1 j zr mI cI<|AT<|Us p0.dQ 2 zr<|AT<|S5 p0.At.X (wrap .i64<|Int.tdiv p0.dQ 2)<|AT<|By zr xn<|AT<|By zr oc ?_;refine AT<|S4 (f:=(λx=>x.At.Y)) 1 j zr (Fd.comp (f:=λ(x:cP)=>x.At) (λ(x:bL)=>x.Y) r5 hG) cI<|AT<|By zr qu<|AT<|S4 1 j zr mI cI<|AT<|Us p0.dQ 2 zr<|AT<|S5 p0.At.Y (wrap .i64<|Int.tdiv p0.dQ 2)<|AT<|aP (vi<|wrap .i64<|p0.At.X -(wrap .i64<|Int.tdiv p0.dQ 2))<|AT<|aP (vi<|wrap .i64<|p0.At.Y -(wrap .i64<|Int.tdiv p0.dQ 2))<|TS<|aG<|w_<|mv (vi<|wrap .i64<|p0.At.X -(wrap .i64<|Int.tdiv p0.dQ 2)) ?_;refine mv (vi<|wrap .i64<|p0.At.Y -(wrap .i64<|Int.tdiv p0.dQ 2))<|mv (vi<|wrap .i64<|p0.At.X -(wrap .i64<|Int.tdiv p0.dQ 2))<|By zr qu<|S4 1 j zr mI cI<|S5 (wrap .i64<|p0.At.X -(wrap .i64<|Int.tdiv p0.dQ 2)) p0.dQ<|mv (vi<|wrap .i64<|p0.At.Y -(wrap .i64<|Int.tdiv p0.dQ 2))<|By zr qu<|S4 1 j zr mI cI<|S5 (wrap .i64<|p0.At.Y -(wrap .i64<|Int.tdiv p0.dQ 2)) p0.dQ ?_;have j:=((j.sc Int<|wrap .i64<|p0.At.X -(wrap .i64<|Int.tdiv p0.dQ 2)).sc Int<|wrap .i64<|p0.At.Y -(wrap .i64<|Int.tdiv p0.dQ 2)).sc Int<|wrap .i64<|wrap .i64 (p0.At.X -(wrap .i64<|Int.tdiv p0.dQ 2))+p0.dQ;have j:=j.sc Int<|wrap .i64<|wrap .i64 (p0.At.Y -(wrap .i64<|Int.tdiv p0.dQ 2))+p0.dQ;refine TZ (⟨wrap .i64<|p0.At.X -(wrap .i64<|Int.tdiv p0.dQ 2),wrap .i64<|p0.At.Y -(wrap .i64<|Int.tdiv p0.dQ 2),wrap .i64<|wrap .i64 (p0.At.X -(wrap .i64<|Int.tdiv p0.dQ 2))+p0.dQ,wrap .i64<|wrap .i64 (p0.At.Y -(wrap .i64<|Int.tdiv p0.dQ 2))+p0.dQ⟩:aI) trivial rfl j [(0,vi<|wrap .i64<|p0.At.X -(wrap .i64<|Int.tdiv p0.dQ 2)),(1,vi<|wrap .i64<|p0.At.Y -(wrap .i64<|Int.tdiv p0.dQ 2)),(2,vi<|wrap .i64<|wrap .i64 (p0.At.X -(wrap .i64<|Int.tdiv p0.dQ 2))+p0.dQ),(3,vi<|wrap .i64<|wrap .i64 (p0.At.Y -(wrap .i64<|Int.tdiv p0.dQ 2))+p0.dQ)] rfl Ge rfl (λM hs g=>by have h:=u4 M;exact cM.cons (f:=λ(x:aI)y=>{x with X0:=y}) h rY (g.sat 3 _ rfl).1 λ_ h=>cM.cons (f:=λ(x:aI)y=>{x with Y0:=y}) h tX (g.sat 2 _ rfl).1 λ_ h=>cM.cons (f:=λ(x:aI)y=>{x with X1:=y}) h qf (g.sat 1 _ rfl).1 λ_ h=>cM.cons (f:=λ(x:aI)y=>{x with Y1:=y}) h rZ (g.sat 0 _ rfl).1 λ_ h=>cM.nil h) λad j=>?_;refine Tx 5 j 0 zr iX λw j=>?_;refine AI<|Tb ?_;obtain rfl:=oi o;exact Ke 5 j iX λae j=>j.pk 9 [0]
theorem xS{p0:List aA}{res:aI}(j:Holds E w V)(h0:V[i0]? =some (rd v0 p0))(hb:nP N p0=some res):
    c_ 129 [v0] w<|pG E V res:=by
 unfold nP at hb
 refine enter Tryz.func129 zr zr ?_
 have j:=j.dup (i0+0) h0
 refine w_<|TC j pQ.z λbf w j=>?_
 refine BY ?_
 obtain⟨bj,bo,hb⟩:=bd hb
 obtain⟨bb,bp,hb⟩:=bd hb
 obtain⟨a8,bq,hb⟩:=bd hb
 obtain⟨bk,br,hb⟩:=bd hb
 obtain⟨bc,bt,hb⟩:=bd hb
 obtain⟨a9,bu,hb⟩:=bd hb
 refine T7 E V mixed [1,0,0,0,0,0,1,0,0,0,1,0,0,0,0,0,1,1,0,1,0,0,0,0,0,0] [1,2,3,4,7,8,11,12,13,14,20,21,23,24,25] (λ(x:Value×Value×Value×Value×Value×Value×Value×Value×Value×Value×Value×Value×Value×Nat)=>(λah ai aj ak al an ao aq ar au av aw ax ae=>[(0,6,v0),(1,7,ah),(2,8,ai),(3,9,aj),(4,10,ak),(5,11,vi bb),(6,12,v0),(7,13,al),(8,14,an),(9,15,vi a8.Y0),(10,16,v0),(11,17,ao),(12,18,aq),(13,19,ar),(14,20,au),(15,21,vi bc),(16,22,v0),(17,23,v0),(18,24,vi p0.length),(19,25,vi<|wrap .i64<|(p0.length:Int) - 1),(20,26,av),(21,27,aw),(22,28,vi a9.Y1),(23,29,ax),(24,3,vp ae 0)]) x.1 x.2.1 x.2.2.1 x.2.2.2.1 x.2.2.2.2.1 x.2.2.2.2.2.1 x.2.2.2.2.2.2.1 x.2.2.2.2.2.2.2.1 x.2.2.2.2.2.2.2.2.1 x.2.2.2.2.2.2.2.2.2.1 x.2.2.2.2.2.2.2.2.2.2.1 x.2.2.2.2.2.2.2.2.2.2.2.1 x.2.2.2.2.2.2.2.2.2.2.2.2.1 x.2.2.2.2.2.2.2.2.2.2.2.2.2) [(0,v0),(2,vp bf 0)] [] (λ(D:Nat->Bool)(x:Value×Value×Value×Value×Value×Value×Value×Value×Value×Value×Value×Value×Value×Nat)=>(λah ai aj ak al an ao aq ar au av aw ax ae=>[bif D 0 then pt ah bj else aJ,bif D 1 then pt ai bj.Xs else aJ,bif D 2 then rd aj bj.Xs else aJ,bif D 3 then pt ak bb else aJ,bif D 4 then pt al a8 else aJ,bif D 5 then pt an a8.Y0 else aJ,bif D 6 then pt ao bk else aJ,bif D 7 then pt aq bk.Xs else aJ,bif D 8 then rd ar bk.Xs else aJ,bif D 9 then pt au bc else aJ,bif D 10 then pt av a9 else aJ,bif D 11 then pt aw a9.Y1 else aJ,bif D 12 then rd ax (⟨bb,a8.Y0,bc,a9.Y1⟩:aI)else aJ,bif D 14 then bx 75 ae (⟨bb,a8.Y0,bc,a9.Y1⟩:aI)else(bif D 13 then raw 75 ae 4 else aJ),raw 75 bf 4,rd v0 p0]) x.1 x.2.1 x.2.2.1 x.2.2.2.1 x.2.2.2.2.1 x.2.2.2.2.2.1 x.2.2.2.2.2.2.1 x.2.2.2.2.2.2.2.1 x.2.2.2.2.2.2.2.2.1 x.2.2.2.2.2.2.2.2.2.1 x.2.2.2.2.2.2.2.2.2.2.1 x.2.2.2.2.2.2.2.2.2.2.2.1 x.2.2.2.2.2.2.2.2.2.2.2.2.1 x.2.2.2.2.2.2.2.2.2.2.2.2.2) (λx=>by kernel_rfl) ?_ ⟨λ_=>gL gn,?_,?_,?_,?_,?_,λ_=>gL gn,?_,?_,?_,λ_=>gL gn,?_,?_,?_,?_,?_,λ_=>gL gn,λ_=>gL gn,?_,λ_=>ym gn,?_,?_,?_,?_,?_,?_,trivial⟩ ?_
 ·have j:=((((((((((((j.drew).aJ).aJ).aJ).aJ).aJ).aJ).aJ).aJ).aJ).aJ).aJ).aJ
  have j:=(j.aJ).aJ
  exact⟨(undef,undef,undef,undef,undef,undef,undef,undef,undef,undef,undef,undef,undef,0),eR.none,A3 zr,zt,j⟩
 ·rintro D U w hD aa ag⟨⟨ah,ai,aj,ak,al,an,ao,aq,ar,au,av,aw,ax,ae⟩,o,ha,_,j⟩
  dsimp only at o j
  obtain⟨O,rfl⟩:=(ac (o.at 0 rfl<|aa.1 rfl) az).cY
  have j:=j.bI 0 hD
  refine S7 15 j mq bo λbw j=>?_
  have j:=(j.pl 17 [0,2,3,4,5,6,7,8,9,10,11,12,13,14,15,16]).bB 0 true rfl aJ
  exact AS ⟨rfl,(bw,ai,aj,ak,al,an,ao,aq,ar,au,av,aw,ax,ae),o.pu 1,ha.u,zt,j⟩
 ·rintro D U w hD aa ag⟨⟨ah,ai,aj,ak,al,an,ao,aq,ar,au,av,aw,ax,ae⟩,o,ha,_,j⟩
  dsimp only at o j
  obtain⟨O,rfl⟩:=(ac (o.at 1 rfl<|aa.1 rfl) az).cY
  have j:=(j.cK 0<|aa.1 rfl).bI 1 hD
  refine Tt 0 j zr mX eO λbz j=>?_
  have j:=((j.pl 17 [1,0,3,4,5,6,7,8,9,10,11,12,13,14,15,16]).bB 0 (D 1) (aa.1 rfl) aJ).bB 1 true rfl aJ
  exact AS ⟨rfl,(ah,bz,aj,ak,al,an,ao,aq,ar,au,av,aw,ax,ae),o.pu 2,ha.u,zt,j⟩
 ·rintro D U w hD aa ag⟨⟨ah,ai,aj,ak,al,an,ao,aq,ar,au,av,aw,ax,ae⟩,o,ha,_,j⟩
  dsimp only at o j
  obtain⟨O,rfl⟩:=(ac (o.at 2 rfl<|aa.1 rfl) az).cY
  have j:=(j.cK 1<|aa.1 rfl).bI 2 hD
  refine Tf 1 bj.Xs j iC λb0 j=>?_
  have j:=((j.pl 17 [1,2,0,4,5,6,7,8,9,10,11,12,13,14,15,16]).bB 1 (D 2) (aa.1 rfl) aJ).bB 2 true rfl aJ
  exact AS ⟨rfl,(ah,ai,b0,ak,al,an,ao,aq,ar,au,av,aw,ax,ae),o.pu 3,ha.u,zt,j⟩
 ·rintro D U w hD aa ag⟨⟨ah,ai,aj,ak,al,an,ao,aq,ar,au,av,aw,ax,ae⟩,o,ha,_,j⟩
  dsimp only at o j
  obtain⟨O,rfl⟩:=(ac (o.at 3 rfl<|aa.1 rfl) az).cY
  have j:=(j.cK 2<|aa.1 rfl).bI 3 hD
  refine S7 2 j fG bp λb1 j=>?_
  have j:=((j.pl 17 [1,2,3,0,5,6,7,8,9,10,11,12,13,14,15,16]).bB 2 (D 3) (aa.1 rfl) aJ).bB 3 true rfl aJ
  exact AS ⟨rfl,(ah,ai,aj,b1,al,an,ao,aq,ar,au,av,aw,ax,ae),o.pu 4,ha.u,zt,j⟩
 ·rintro D U w hD aa ag⟨⟨ah,ai,aj,ak,al,an,ao,aq,ar,au,av,aw,ax,ae⟩,o,ha,_,j⟩
  dsimp only at o j
  obtain⟨O,rfl⟩:=(ac (o.at 4 rfl<|aa.1 rfl) az).cY
  have j:=j.cK 3<|aa.1 rfl
  refine Tq bb 3 j cI ?_
  have j:=j.bB 3 (D 4) (aa.1 rfl) aJ
  exact AS ⟨rfl,(ah,ai,aj,ak,al,an,ao,aq,ar,au,av,aw,ax,ae),o.pu 5,ha.u,zt,j⟩
 ·rintro D U w hD aa ag⟨⟨ah,ai,aj,ak,al,an,ao,aq,ar,au,av,aw,ax,ae⟩,o,ha,_,j⟩
  dsimp only at o j
  obtain⟨O,rfl⟩:=(ac (o.at 6 rfl<|aa.1 rfl) az).cY
  have j:=j.bI 4 hD
  refine S7 15 j mq bq λb2 j=>?_
  have j:=(j.pl 17 [1,2,3,4,0,6,7,8,9,10,11,12,13,14,15,16]).bB 4 true rfl aJ
  exact AS ⟨rfl,(ah,ai,aj,ak,b2,an,ao,aq,ar,au,av,aw,ax,ae),o.pu 7,ha.u,zt,j⟩
 ·rintro D U w hD aa ag⟨⟨ah,ai,aj,ak,al,an,ao,aq,ar,au,av,aw,ax,ae⟩,o,ha,_,j⟩
  dsimp only at o j
  obtain⟨O,rfl⟩:=(ac (o.at 7 rfl<|aa.1 rfl) az).cY
  have j:=(j.cK 4<|aa.1 rfl).bI 5 hD
  refine Tt 4 j zr rJ iw λb3 j=>?_
  have j:=((j.pl 17 [1,2,3,4,5,0,7,8,9,10,11,12,13,14,15,16]).bB 4 (D 7) (aa.1 rfl) aJ).bB 5 true rfl aJ
  exact AS ⟨rfl,(ah,ai,aj,ak,al,b3,ao,aq,ar,au,av,aw,ax,ae),o.pu 8,ha.u,zt,j⟩
 ·rintro D U w hD aa ag⟨⟨ah,ai,aj,ak,al,an,ao,aq,ar,au,av,aw,ax,ae⟩,o,ha,_,j⟩
  dsimp only at o j
  obtain⟨O,rfl⟩:=(ac (o.at 8 rfl<|aa.1 rfl) az).cY
  have j:=j.cK 5<|aa.1 rfl
  refine Tq a8.Y0 5 j cI ?_
  have j:=j.bB 5 (D 8) (aa.1 rfl) aJ
  exact AS ⟨rfl,(ah,ai,aj,ak,al,an,ao,aq,ar,au,av,aw,ax,ae),o.pu 9,ha.u,zt,j⟩
 ·rintro D U w hD aa ag⟨⟨ah,ai,aj,ak,al,an,ao,aq,ar,au,av,aw,ax,ae⟩,o,ha,_,j⟩
  dsimp only at o j
  obtain⟨O,rfl⟩:=(ac (o.at 10 rfl<|aa.1 rfl) az).cY
  have j:=j.bI 6 hD
  refine S7 15 j mq br λb4 j=>?_
  have j:=(j.pl 17 [1,2,3,4,5,6,0,8,9,10,11,12,13,14,15,16]).bB 6 true rfl aJ
  exact AS ⟨rfl,(ah,ai,aj,ak,al,an,b4,aq,ar,au,av,aw,ax,ae),o.pu 11,ha.u,zt,j⟩
 ·rintro D U w hD aa ag⟨⟨ah,ai,aj,ak,al,an,ao,aq,ar,au,av,aw,ax,ae⟩,o,ha,_,j⟩
  dsimp only at o j
  obtain⟨O,rfl⟩:=(ac (o.at 11 rfl<|aa.1 rfl) az).cY
  have j:=(j.cK 6<|aa.1 rfl).bI 7 hD
  refine Tt 6 j zr mX eO λb5 j=>?_
  have j:=((j.pl 17 [1,2,3,4,5,6,7,0,9,10,11,12,13,14,15,16]).bB 6 (D 11) (aa.1 rfl) aJ).bB 7 true rfl aJ
  exact AS ⟨rfl,(ah,ai,aj,ak,al,an,ao,b5,ar,au,av,aw,ax,ae),o.pu 12,ha.u,zt,j⟩
 ·rintro D U w hD aa ag⟨⟨ah,ai,aj,ak,al,an,ao,aq,ar,au,av,aw,ax,ae⟩,o,ha,_,j⟩
  dsimp only at o j
  obtain⟨O,rfl⟩:=(ac (o.at 12 rfl<|aa.1 rfl) az).cY
  have j:=(j.cK 7<|aa.1 rfl).bI 8 hD
  refine Tf 7 bk.Xs j iC λb6 j=>?_
  have j:=((j.pl 17 [1,2,3,4,5,6,7,8,0,10,11,12,13,14,15,16]).bB 7 (D 12) (aa.1 rfl) aJ).bB 8 true rfl aJ
  exact AS ⟨rfl,(ah,ai,aj,ak,al,an,ao,aq,b6,au,av,aw,ax,ae),o.pu 13,ha.u,zt,j⟩
 ·rintro D U w hD aa ag⟨⟨ah,ai,aj,ak,al,an,ao,aq,ar,au,av,aw,ax,ae⟩,o,ha,_,j⟩
  dsimp only at o j
  obtain⟨O,rfl⟩:=(ac (o.at 13 rfl<|aa.1 rfl) az).cY
  have j:=(j.cK 8<|aa.1 rfl).bI 9 hD
  refine S7 8 j fG bt λb7 j=>?_
  have j:=((j.pl 17 [1,2,3,4,5,6,7,8,9,0,11,12,13,14,15,16]).bB 8 (D 13) (aa.1 rfl) aJ).bB 9 true rfl aJ
  exact AS ⟨rfl,(ah,ai,aj,ak,al,an,ao,aq,ar,b7,av,aw,ax,ae),o.pu 14,ha.u,zt,j⟩
 ·rintro D U w hD aa ag⟨⟨ah,ai,aj,ak,al,an,ao,aq,ar,au,av,aw,ax,ae⟩,o,ha,_,j⟩
  dsimp only at o j
  obtain⟨O,rfl⟩:=(ac (o.at 14 rfl<|aa.1 rfl) az).cY
  have j:=j.cK 9<|aa.1 rfl
  refine Tq bc 9 j cI ?_
  have j:=j.bB 9 (D 14) (aa.1 rfl) aJ
  exact AS ⟨rfl,(ah,ai,aj,ak,al,an,ao,aq,ar,au,av,aw,ax,ae),o.pu 15,ha.u,zt,j⟩
 ·rintro D U w hD aa ag⟨⟨ah,ai,aj,ak,al,an,ao,aq,ar,au,av,aw,ax,ae⟩,o,ha,_,j⟩
  dsimp only at o j
  obtain⟨O,rfl⟩:=(ac (o.at 17 rfl<|aa.1 rfl) az).cY
  refine S8 15 p0 j rj ?_
  exact AS ⟨rfl,(ah,ai,aj,ak,al,an,ao,aq,ar,au,av,aw,ax,ae),o.pu 18,ha.u,zt,j⟩
 ·rintro D U w hD aa ag⟨⟨ah,ai,aj,ak,al,an,ao,aq,ar,au,av,aw,ax,ae⟩,o,ha,_,j⟩
  dsimp only at o j
  obtain⟨O,rfl⟩:=(ac (o.at 16 rfl<|aa.1 rfl)<|ac (o.at 19 rfl<|aa.2.1 rfl) az).cY
  have j:=j.bI 10 hD
  refine S7 15 j mq bu λb8 j=>?_
  have j:=(j.pl 17 [1,2,3,4,5,6,7,8,9,10,0,12,13,14,15,16]).bB 10 true rfl aJ
  exact AS ⟨rfl,(ah,ai,aj,ak,al,an,ao,aq,ar,au,b8,aw,ax,ae),o.pu 20,ha.u,zt,j⟩
 ·rintro D U w hD aa ag⟨⟨ah,ai,aj,ak,al,an,ao,aq,ar,au,av,aw,ax,ae⟩,o,ha,_,j⟩
  dsimp only at o j
  obtain⟨O,rfl⟩:=(ac (o.at 20 rfl<|aa.1 rfl) az).cY
  have j:=(j.cK 10<|aa.1 rfl).bI 11 hD
  refine Tt 10 j zr oM f9 λb9 j=>?_
  have j:=((j.pl 17 [1,2,3,4,5,6,7,8,9,10,11,0,13,14,15,16]).bB 10 (D 20) (aa.1 rfl) aJ).bB 11 true rfl aJ
  exact AS ⟨rfl,(ah,ai,aj,ak,al,an,ao,aq,ar,au,av,b9,ax,ae),o.pu 21,ha.u,zt,j⟩
 ·rintro D U w hD aa ag⟨⟨ah,ai,aj,ak,al,an,ao,aq,ar,au,av,aw,ax,ae⟩,o,ha,_,j⟩
  dsimp only at o j
  obtain⟨O,rfl⟩:=(ac (o.at 21 rfl<|aa.1 rfl) az).cY
  have j:=j.cK 11<|aa.1 rfl
  refine Tq a9.Y1 11 j cI ?_
  have j:=j.bB 11 (D 21) (aa.1 rfl) aJ
  exact AS ⟨rfl,(ah,ai,aj,ak,al,an,ao,aq,ar,au,av,aw,ax,ae),o.pu 22,ha.u,zt,j⟩
 ·rintro D U w hD aa ag⟨⟨ah,ai,aj,ak,al,an,ao,aq,ar,au,av,aw,ax,ae⟩,o,ha,_,j⟩
  dsimp only at o j
  obtain⟨O,rfl⟩:=(ac (o.at 5 rfl<|aa.1 rfl)<|ac (o.at 9 rfl<|aa.2.1 rfl)<|ac (o.at 15 rfl<|aa.2.2.1 rfl)<|ac (o.at 22 rfl<|aa.2.2.2.1 rfl) az).cY
  have j:=((((j.bI 12 hD).sc Int bb).sc Int a8.Y0).sc Int bc).sc Int a9.Y1
  refine TZ (⟨bb,a8.Y0,bc,a9.Y1⟩:aI) trivial rfl j [(0,vi bb),(1,vi a8.Y0),(2,vi bc),(3,vi a9.Y1)] rfl Ge rfl (λM hs g=>by have h:=u4 M;exact cM.cons (f:=λ(x:aI)y=>{x with X0:=y}) h rY (g.sat 3 _ rfl).1 λ_ h=>cM.cons (f:=λ(x:aI)y=>{x with Y0:=y}) h tX (g.sat 2 _ rfl).1 λ_ h=>cM.cons (f:=λ(x:aI)y=>{x with X1:=y}) h qf (g.sat 1 _ rfl).1 λ_ h=>cM.cons (f:=λ(x:aI)y=>{x with Y1:=y}) h rZ (g.sat 0 _ rfl).1 λ_ h=>cM.nil h) λca j=>?_
  have j:=(j.pl 21 [5,6,7,8,9,10,11,12,13,14,15,16,0,18,19,20]).bB 12 true rfl aJ
  exact AS ⟨rfl,(ah,ai,aj,ak,al,an,ao,aq,ar,au,av,aw,ca,ae),o.pu 23,ha.u,zt,j⟩
 ·rintro D U w hD aa ag⟨⟨ah,ai,aj,ak,al,an,ao,aq,ar,au,av,aw,ax,ae⟩,o,ha,_,j⟩
  dsimp only at o j
  obtain⟨O,rfl⟩:=(az (U:=U)).cY
  have j:=(j.bI 13<|nh ag hD 25).bI 13 hD
  refine TC j pQ.z λbl w j=>?_
  have j:=((j.pl 17 [1,2,3,4,5,6,7,8,9,10,11,12,13,0,15,16]).bB 13 true rfl aJ).fM 13 (D 25) (nh ag hD 25)<|bx 75 bl (⟨bb,a8.Y0,bc,a9.Y1⟩:aI)
  exact AS ⟨rfl,(ah,ai,aj,ak,al,an,ao,aq,ar,au,av,aw,ax,bl),o.pu 24,ha.u,zt,j⟩
 ·rintro D U w hD aa ag⟨⟨ah,ai,aj,ak,al,an,ao,aq,ar,au,av,aw,ax,ae⟩,o,ha,_,j⟩
  dsimp only at o j
  obtain⟨O,rfl⟩:=(ac (o.at 23 rfl<|aa.2.1 rfl)<|ac (o.at 24 rfl<|aa.1 rfl) az).cY
  have j:=((j.cK 12<|aa.2.1 rfl).bI 13 hD).cK 13<|aa.1 rfl
  refine Tx 13 j 12 zr iX λw j=>?_
  have j:=(j.bB 12 (D 23) (aa.2.1 rfl) aJ).bB 13 true rfl (bif D 24 then raw 75 ae 4 else aJ)
  exact AS ⟨rfl,(ah,ai,aj,ak,al,an,ao,aq,ar,au,av,aw,ax,ae),o.n1,ha,zt,j⟩
 rintro D U w a6⟨⟨ah,ai,aj,ak,al,an,ao,aq,ar,au,av,aw,ax,ae⟩,o,ha,_,j⟩
 simp only[List.getD_cons_zero,List.getD_cons_succ,a6 1 (by decide),a6 2 (by decide),a6 3 (by decide),a6 4 (by decide),a6 7 (by decide),a6 8 (by decide),a6 11 (by decide),a6 12 (by decide),a6 13 (by decide),a6 14 (by decide),a6 20 (by decide),a6 21 (by decide),a6 23 (by decide),a6 25 (by decide),aQ]at j
 obtain⟨O,rfl⟩:=(ac (o.at 24 rfl<|pU a6 24)<|ac (ha.at 0 rfl)<|ac (ha.at 1 rfl) az).cY
 refine aG<|S6<|w_<|mv v0<|S8 15 p0 j rj<|mv (vi 0)<|AI ?_
 obtain⟨af,hN,hb⟩:=bd hb
 refine TX (λ(bg:Nat)(af:aI)=>SH E V [(2,vp bf 0),(3,vp ae 0),(30,v0),(31,vi p0.length),(32,vi bg)] [raw 75 bf 4,bx 75 ae af,rd v0 p0]) (λ(af:aI)=>SH E V [(2,vp bf 0),(3,vp ae 0)] [raw 75 bf 4,bx 75 ae af,rd v0 p0]) hN ?_ ?_ ?_ ?_
 ·exact j.sp 16 [14,13,15]
 ·rintro hm af _ w⟨O,rfl,j⟩
  refine w_<|ic ((p0.length:Int)) ((p0.length:Int))<|BY<|TJ qC<|Te ?_
  exact⟨rfl,j.sp 3 [0,1,2]⟩
 ·rintro hm bg af s' _ w hk⟨O,rfl,j⟩hb
  refine w_<|ic ((bg:Int)) ((p0.length:Int))<|BY<|TI (qB hk)<|Ta<|Tn ?_
  obtain⟨ba,cc,hb⟩:=bd hb
  refine S7 2 j mq cc λcd j=>Tf 0 ba j zn λcf j=>TC j Gd.z λbh w j=>?_
  refine Tx 0 j 1 zr zn λw j=>?_
  refine AI ?_
  obtain⟨a5,cg,hb⟩:=bd hb
  obtain⟨a7,ch,hb⟩:=bd hb
  refine T7 E V mixed [1,0,1,0,0,0,0,1,0,1,0,1,0,0,1,0,0,0,1,0,1,0] [3,4,10,12,15,19,21] (λ(x:Value×Value×Value×Value×Value)=>(λay a0 a1 a2 a3=>[(0,36,vp ae 0),(1,37,vi af.X0),(2,38,vp bh 2),(3,39,ay),(4,40,a0),(5,41,vi a5),(6,42,vi (if a5<af.X0 then a5 else af.X0)),(7,43,vp ae 2),(8,44,vi af.X1),(9,45,vp bh 2),(10,46,a1),(11,47,vp bh 2),(12,48,a2),(13,49,vi ba.Xs.length),(14,50,vi<|wrap .i64<|(ba.Xs.length:Int) - 1),(15,51,a3),(16,52,vi a7),(17,53,vi (if af.X1<a7 then a7 else af.X1)),(18,54,vp ae 0),(20,55,vp ae 2)]) x.1 x.2.1 x.2.2.1 x.2.2.2.1 x.2.2.2.2) [(2,vp bf 0),(3,vp ae 0),(5,vp bh 0),(30,v0),(31,vi p0.length),(32,vi bg)] [] (λ(D:Nat->Bool)(x:Value×Value×Value×Value×Value)=>(λay a0 a1 a2 a3=>[bif D 0 then rd ay ba.Xs else aJ,bif D 1 then pt a0 a5 else aJ,bif D 2 then rd a1 ba.Xs else aJ,bif D 3 then rd a2 ba.Xs else aJ,bif D 4 then pt a3 a7 else aJ,bx 188 bh ba,rd cf ba,pt cd ba,raw 75 bf 4,bif D 6 then bx 75 ae {{af with X0:=(if a5<af.X0 then a5 else af.X0)}with X1:=(if af.X1<a7 then a7 else af.X1)}else(bif D 5 then bx 75 ae {af with X0:=(if a5<af.X0 then a5 else af.X0)}else bx 75 ae af),rd v0 p0]) x.1 x.2.1 x.2.2.1 x.2.2.2.1 x.2.2.2.2) (λx=>by kernel_rfl) ?_ ⟨λ_=>nu gn jc,?_,λ_=>nu gn mX,?_,?_,?_,?_,λ_=>nu gn j5,?_,λ_=>nu gn mX,?_,λ_=>nu gn mX,?_,?_,λ_=>ym gn,?_,?_,?_,λ_=>nu gn jc,?_,λ_=>nu gn j5,?_,trivial⟩ ?_
  ·have j:=(((((j.drew).aJ).aJ).aJ).aJ).aJ
   exact⟨(undef,undef,undef,undef,undef),eR.none,A3 zr,zt,j⟩
  ·rintro D U w hD aa ag⟨⟨ay,a0,a1,a2,a3⟩,o,ha,_,j⟩
   obtain⟨O,rfl⟩:=(ac (o.at 0 rfl<|aa.1 rfl) az).cY
   have j:=(j.bI 9<|nh ag hD 21).bI 9<|nh ag hD 19
   refine S4 9 j zr eF cI ?_
   have j:=(j.fM 9 (D 19) (nh ag hD 19)<|bx 75 ae {af with X0:=(if a5<af.X0 then a5 else af.X0)}).fM 9 (D 21) (nh ag hD 21)<|bx 75 ae {{af with X0:=(if a5<af.X0 then a5 else af.X0)}with X1:=(if af.X1<a7 then a7 else af.X1)}
   exact AS ⟨rfl,(ay,a0,a1,a2,a3),o.pu 1,ha.u,zt,j⟩
  ·rintro D U w hD aa ag⟨⟨ay,a0,a1,a2,a3⟩,o,ha,_,j⟩
   obtain⟨O,rfl⟩:=(ac (o.at 2 rfl<|aa.1 rfl) az).cY
   have j:=j.bI 0 hD
   refine S3 5 j zr eO iC λcj j=>?_
   have j:=(j.pl 12 [0,2,3,4,5,6,7,8,9,10,11]).bB 0 true rfl aJ
   exact AS ⟨rfl,(cj,a0,a1,a2,a3),o.pu 3,ha.u,zt,j⟩
  ·rintro D U w hD aa ag⟨⟨ay,a0,a1,a2,a3⟩,o,ha,_,j⟩
   obtain⟨O,rfl⟩:=(ac (o.at 3 rfl<|aa.1 rfl) az).cY
   have j:=(j.cK 0<|aa.1 rfl).bI 1 hD
   refine S7 0 j fG cg λck j=>?_
   have j:=((j.pl 12 [1,0,3,4,5,6,7,8,9,10,11]).bB 0 (D 3) (aa.1 rfl) aJ).bB 1 true rfl aJ
   exact AS ⟨rfl,(ay,ck,a1,a2,a3),o.pu 4,ha.u,zt,j⟩
  ·rintro D U w hD aa ag⟨⟨ay,a0,a1,a2,a3⟩,o,ha,_,j⟩
   obtain⟨O,rfl⟩:=(ac (o.at 4 rfl<|aa.1 rfl) az).cY
   have j:=j.cK 1<|aa.1 rfl
   refine Tq a5 1 j cI ?_
   have j:=j.bB 1 (D 4) (aa.1 rfl) aJ
   exact AS ⟨rfl,(ay,a0,a1,a2,a3),o.pu 5,ha.u,zt,j⟩
  ·rintro D U w hD aa ag⟨⟨ay,a0,a1,a2,a3⟩,o,ha,_,j⟩
   obtain⟨O,rfl⟩:=(ac (o.at 1 rfl<|aa.1 rfl)<|ac (o.at 5 rfl<|aa.2.1 rfl) az).cY
   refine Ud af.X0 a5 ?_
   exact AS ⟨rfl,(ay,a0,a1,a2,a3),o.pu 6,ha.u,zt,j⟩
  ·rintro D U w hD aa ag⟨⟨ay,a0,a1,a2,a3⟩,o,ha,_,j⟩
   obtain⟨O,rfl⟩:=(ac (o.at 7 rfl<|aa.1 rfl) az).cY
   have j:=(j.bI 9<|nh ag hD 21).bI 9<|nh ag hD 19
   refine S4 9 j zr fF cI ?_
   have j:=(j.fM 9 (D 19) (nh ag hD 19)<|bx 75 ae {af with X0:=(if a5<af.X0 then a5 else af.X0)}).fM 9 (D 21) (nh ag hD 21)<|bx 75 ae {{af with X0:=(if a5<af.X0 then a5 else af.X0)}with X1:=(if af.X1<a7 then a7 else af.X1)}
   exact AS ⟨rfl,(ay,a0,a1,a2,a3),o.pu 8,ha.u,zt,j⟩
  ·rintro D U w hD aa ag⟨⟨ay,a0,a1,a2,a3⟩,o,ha,_,j⟩
   obtain⟨O,rfl⟩:=(ac (o.at 9 rfl<|aa.1 rfl) az).cY
   have j:=j.bI 2 hD
   refine S3 5 j zr eO iC λcl j=>?_
   have j:=(j.pl 12 [1,2,0,4,5,6,7,8,9,10,11]).bB 2 true rfl aJ
   exact AS ⟨rfl,(ay,a0,cl,a2,a3),o.pu 10,ha.u,zt,j⟩
  ·rintro D U w hD aa ag⟨⟨ay,a0,a1,a2,a3⟩,o,ha,_,j⟩
   obtain⟨O,rfl⟩:=(ac (o.at 11 rfl<|aa.1 rfl) az).cY
   have j:=j.bI 3 hD
   refine S3 5 j zr eO iC λcm j=>?_
   have j:=(j.pl 12 [1,2,3,0,5,6,7,8,9,10,11]).bB 3 true rfl aJ
   exact AS ⟨rfl,(ay,a0,a1,cm,a3),o.pu 12,ha.u,zt,j⟩
  ·rintro D U w hD aa ag⟨⟨ay,a0,a1,a2,a3⟩,o,ha,_,j⟩
   obtain⟨O,rfl⟩:=(ac (o.at 12 rfl<|aa.1 rfl) az).cY
   have j:=j.cK 3<|aa.1 rfl
   refine S8 3 ba.Xs j n8 ?_
   have j:=j.bB 3 (D 12) (aa.1 rfl) aJ
   exact AS ⟨rfl,(ay,a0,a1,a2,a3),o.pu 13,ha.u,zt,j⟩
  ·rintro D U w hD aa ag⟨⟨ay,a0,a1,a2,a3⟩,o,ha,_,j⟩
   obtain⟨O,rfl⟩:=(ac (o.at 10 rfl<|aa.1 rfl)<|ac (o.at 14 rfl<|aa.2.1 rfl) az).cY
   have j:=(j.cK 2<|aa.1 rfl).bI 4 hD
   refine S7 2 j fG ch λcn j=>?_
   have j:=((j.pl 12 [1,2,3,4,0,6,7,8,9,10,11]).bB 2 (D 10) (aa.1 rfl) aJ).bB 4 true rfl aJ
   exact AS ⟨rfl,(ay,a0,a1,a2,cn),o.pu 15,ha.u,zt,j⟩
  ·rintro D U w hD aa ag⟨⟨ay,a0,a1,a2,a3⟩,o,ha,_,j⟩
   obtain⟨O,rfl⟩:=(ac (o.at 15 rfl<|aa.1 rfl) az).cY
   have j:=j.cK 4<|aa.1 rfl
   refine Tq a7 4 j cI ?_
   have j:=j.bB 4 (D 15) (aa.1 rfl) aJ
   exact AS ⟨rfl,(ay,a0,a1,a2,a3),o.pu 16,ha.u,zt,j⟩
  ·rintro D U w hD aa ag⟨⟨ay,a0,a1,a2,a3⟩,o,ha,_,j⟩
   obtain⟨O,rfl⟩:=(ac (o.at 8 rfl<|aa.1 rfl)<|ac (o.at 16 rfl<|aa.2.1 rfl) az).cY
   refine Uo af.X1 a7 ?_
   exact AS ⟨rfl,(ay,a0,a1,a2,a3),o.pu 17,ha.u,zt,j⟩
  ·rintro D U w hD aa ag⟨⟨ay,a0,a1,a2,a3⟩,o,ha,_,j⟩
   obtain⟨O,rfl⟩:=(ac (o.at 6 rfl<|aa.2.1 rfl)<|ac (o.at 18 rfl<|aa.1 rfl) az).cY
   have j:=((j.bI 9<|nh ag hD 21).bI 9 hD).sc Int (if a5<af.X0 then a5 else af.X0)
   refine UI 10 j zr zr zr 0 zr rY cI λw j=>?_
   have j:=((j.pl 12 [1,2,3,4,5,6,7,8,9,10,11]).bB 9 true rfl<|bx 75 ae af).fM 9 (D 21) (nh ag hD 21)<|bx 75 ae {{af with X0:=(if a5<af.X0 then a5 else af.X0)}with X1:=(if af.X1<a7 then a7 else af.X1)}
   exact AS ⟨rfl,(ay,a0,a1,a2,a3),o.n1,ha,zt,j⟩
  ·rintro D U w hD aa ag⟨⟨ay,a0,a1,a2,a3⟩,o,ha,_,j⟩
   obtain⟨O,rfl⟩:=(ac (o.at 17 rfl<|aa.2.1 rfl)<|ac (o.at 19 rfl<|aa.1 rfl) az).cY
   have j:=((j.bI 9 hD).cK 9<|aa.2.2.1 rfl).sc Int (if af.X1<a7 then a7 else af.X1)
   refine UI 10 j zr zr zr 0 zr qf cI λw j=>?_
   have j:=(j.pl 12 [1,2,3,4,5,6,7,8,9,10,11]).bB 9 true rfl (bif D 19 then bx 75 ae {af with X0:=(if a5<af.X0 then a5 else af.X0)}else bx 75 ae af)
   exact AS ⟨rfl,(ay,a0,a1,a2,a3),o.n1,ha,zt,j⟩
  rintro D U w a6⟨⟨ay,a0,a1,a2,a3⟩,o,ha,_,j⟩
  simp only[List.getD_cons_zero,List.getD_cons_succ,a6 3 (by decide),a6 4 (by decide),a6 10 (by decide),a6 12 (by decide),a6 15 (by decide),a6 21 (by decide),aQ]at j
  obtain⟨O,rfl⟩:=(ac (ha.at 0 rfl)<|ac (ha.at 1 rfl)<|ac (ha.at 2 rfl)<|ac (ha.at 3 rfl)<|ac (ha.at 4 rfl)<|ac (ha.at 5 rfl) az).cY
  refine bR<|aG<|IT<|TF hk hm<|mv (vi ((bg+1:Nat):Int))<|AS ?_
  obtain rfl:=oi hb
  exact⟨rfl,j.sp 11 [8,9,10]⟩
 rintro _ w⟨O,rfl,j⟩
 refine aG<|w_<|S3 (f:=(λx=>x)) 1 j zr Fd.self iX λcp j=>Tx 1 j 0 zr iX λw j=>?_
 refine AI<|Tb ?_
 obtain rfl:=oi hb
 exact Ke 1 j iX λcq j=>j.pk 5 [0]
theorem zz{p0:List aA}{res:Bool}(j:Holds E w V)(h0:V[i0]? =some (rd v0 p0))(hb:ni N p0=some res):c_ 74 [v0] w<|aX E V res:=by
 unfold ni at hb;refine enter Tryz.func74 zr zr ?_;have j:=j.dup (i0+0) h0;refine w_<|aP (vb false)<|BY<|q_ hb λad o hb=>Tg (λ(ad:Bool)=>SH E V [(2,vb ad)] []) ad ?_ ?_;refine IT<|mv v0<|S8 0 p0 j rj<|ic ((p0.length:Int)) 0<|mv (vb<|(p0.length:Int)==0)<|fI o (λaa o=>?_) λaa o=>?_;exact bO aa<|bO aa<|bO aa<|fH aa (vb true)<|aP (vb true)<|AS<|oi o▸⟨rfl,j.sp 1 []⟩;refine Tc v0 (cg aa)<|q_ o λai af o=>IN (cg aa) zr Pe [v0] zr<|aF (xS N (i0:=0) j zr af) ?_;rintro ag w j;refine q_ o λae ah o=>IN (cg aa) zr MO [ag] zr<|aF (vB N (i0:=0) j zr ah) ?_;rintro _ w⟨rfl,j⟩;exact fH aa (vb ae)<|aP (vb ae)<|AS<|oi o▸⟨rfl,j.sp 2 []⟩;rintro _ w⟨O,rfl,j⟩;exact aG<|Tb<|oi hb▸cC ⟨rfl,j.drop 0⟩
def BB(E:World)(V:List HP)(res:aI×Int)(v:Value)(w:World):Prop:=∃u0:Value,v = .tuple #[u0,vi res.2]/\Holds E w ([rd u0 res.1]++V)
theorem Ax{p0:cP}{res:aI×Int}(j:Holds E w V)(h0:V[i0]? =some (rd v0 p0))(o:mD N p0=some res):c_ 37 [v0] w<|BB E V res:=by
 unfold mD at o;refine enter Tryz.func37 zr zr ?_;have j:=j.dup (i0+0) h0;refine w_<|Tm 0 v0 j zr λaf w j=>?_;refine TC j pQ.z λag w j=>?_;refine aP (vi 0)<|BY<|S6<|q_ o λad hj o=>Tg (λ(ad:Bool)=>SH E V [(1,vp af 0),(2,vp ag 0),(14,vb ad)] [bx 101 af p0,raw 75 ag 4]) ad ?_ ?_;refine IT<|By zr qu<|S4 1 j zr mI cI<|q_ hj λah aj hj=>IN zt zr LZ [vi p0.dQ,vi 1,vi 10000] zr<|aF (nV N (p0:=p0.dQ) (p1:=1) (p2:=10000) j aj) ?_;rintro _ w⟨rfl,j⟩;refine TH ah<|mv (vb<|!ah)<|fI hj (λaa hj=>?_) λaa hj=>?_;exact bO aa<|bO aa<|bO aa<|bO aa<|fH aa (vb true)<|AS<|oi hj▸⟨rfl,j.sp 3 [1,0]⟩;refine By (hg:=cg aa) zr xn<|S3 (hg:=cg aa) 1 j zr r5 jD λak j=>?_;refine q_ hj λai al hj=>IN (cg aa) zr Pd [ak] zr<|aF (ue N (i0:=0) j zr al) ?_;rintro _ w⟨rfl,j⟩;exact TH (hg:=cg aa) ai<|fH aa (vb<|!ai)<|AS<|oi hj▸⟨rfl,j.sp 4 [2,1]⟩;rintro _ w⟨O,rfl,j⟩;refine aG<|dR o (λhc o=>?_) λhc o=>?_;refine w_<|TZ (⟨0,0,0,0⟩:aI) trivial rfl j [] rfl Ge rfl (λM hs g=>by have h:=u4 M;exact cM.nil h) λa2 j=>?_;refine Tx 2 j 0 zr iX λw j=>?_;refine aP (vi 1)<|AI<|Tp ?_;obtain rfl:=oi o;exact y5 2 j iX λan j=>⟨an,zr,j.pk 4 [0]⟩;refine TV<|S3 (f:=(λx=>x)) 0 j zr Fd.self kl λao j=>?_;refine q_ o λaq ar o=>IN zt zr Jp [ao] zr<|aF (jz N (i0:=0) j zr ar) ?_;rintro a3 w j;refine TC j pQ.z λa4 w j=>?_;refine Tx 0 j 1 zr iX λw j=>?_;refine BY<|w_<|S3 (f:=(λx=>x)) 0 j zr Fd.self iX λau j=>TN ([aq]:List aI) j [au] j4 pQ (λM hs g=>⟨(g.sat 0 _ zr).1,zt⟩) λav w j=>?_;have j:=j.freeze 0;refine q_ o λa5 aw o=>IN zt zr Kz [av] zr<|aF (nA N (i0:=0) j zr aw) ?_;rintro ax w j;have j:=j.freeze 0;refine q_ o λay az o=>IN zt zr Ro [ax] zr<|aF (zz N (i0:=0) j zr az) ?_;rintro _ w⟨rfl,j⟩;refine TH ay<|AI<|dR o (λhc o=>?_) λhc o=>?_;refine w_<|TZ (⟨0,0,0,0⟩:aI) trivial rfl j [] rfl Ge rfl (λM hs g=>by have h:=u4 M;exact cM.nil h) λa6 j=>?_;refine Tx 8 j 0 zr iX λw j=>?_;refine aP (vi 1)<|AI<|Tp ?_;obtain rfl:=oi o;exact y5 8 j iX λa0 j=>⟨a0,zr,j.pk 10 [0]⟩;refine TV<|S3 (f:=(λx=>x)) 3 j zr Fd.self iX λa7 j=>Tx 8 j 0 zr iX λw j=>?_;refine aP (vi 0)<|AI<|Tb ?_;obtain rfl:=oi o;exact y5 8 j iX λa1 j=>⟨a1,zr,j.pk 10 [0]⟩
def xT(E:World)(V:List HP)(r:Int)(U:Nat->Value)(w:World):Prop:=lZ bH 47 Tryz.f51 (aR E V r) .ret U w
theorem wz{p0:fE}(j:Holds E w V)(h0:V[i0]? =some (rd v0 p0))(o:lj N p0=some res):c_ 51 [v0] w<|aR E V res:=by
 unfold lj at o;refine enter Tryz.func51 zr zr ?_;have j:=j.dup (i0+0) h0;refine w_<|Tm 0 v0 j zr λa0 w j=>?_;refine aP (vi 0)<|BY<|w_<|By zr kh<|S3 0 j zr j9 rK λa1 j=>S8 0 p0.aV j yq<|ic ((p0.aV.length:Int)) 500<|AI<|dR o (λhc o=>?_) λhc o=>?_;exact w_<|aP (vi 2)<|AI<|Tp<|oi o▸cC ⟨rfl,j.drop 3⟩;refine TV<|By zr n7<|S3 1 j zr j8 xL λa2 j=>S8 0 p0.aL j wk<|aP (vi p0.aL.length)<|BY<|w_<|By zr kh<|S3 2 j zr j9 rK λag j=>?_;refine S8 0 p0.aV j yq<|mv (vi 0)<|AI<|q_ o λa3 hN o=>T9 (λ(ah:Nat)(ai:Unit)=>SH E V [(3,vi p0.aL.length),(16,ag),(17,vi p0.aV.length),(18,vi ah)] [rd ag p0.aV]) (λ(ai:Unit)=>SH E V [] [rd ag p0.aV]) (xT E V) hN ?_ ?_ ?_ ?_ ?_;exact j.sp 5 [0];rintro hm ai _ w⟨O,rfl,j⟩;exact w_<|ic ((p0.aV.length:Int)) ((p0.aV.length:Int))<|BY<|TJ qC<|Te<|⟨rfl,j.sp 1 [0]⟩;rintro hm ah ai fl _ w hk⟨O,rfl,j⟩o;refine w_<|ic ((ah:Int)) ((p0.aV.length:Int))<|BY<|TI (qB hk)<|Ta<|Tn<|q_ o λad au o=>S7 0 j xM au λa5 j=>Tf 0 ad j kl λa6 j=>TC j Ck.z λa7 w j=>?_;refine Tx 0 j 1 zr kl λw j=>?_;refine BY<|w_<|S3 (f:=(λx=>x)) 0 j zr Fd.self kl λav j=>?_;refine q_ o λae aw o=>IN zt zr Rp [av] zr<|aF (Ax N (i0:=0) j zr aw) ?_;rintro _ w⟨an,rfl,j⟩;refine mv (.tuple #[an,vi ae.2])<|TK an<|TK (vi ae.2)<|TC j pQ.z λa8 w j=>?_;refine Tx 0 j 1 zr iX λw j=>?_;refine aP (vi ae.2)<|OF<|mv (vi ae.2)<|ic ae.2 0<|AI<|dR o (λhc o=>?_) λhc o=>?_;exact w_<|mv (vi ae.2)<|aP (vi ae.2)<|AI<|Tp<|jW<|bQ<|oi o▸⟨rfl,cC ⟨rfl,j.drop 7⟩⟩;refine Ta<|q_ o λaj hj o=>Tg (λ(aj:Bool)=>SH E V [(3,vi p0.aL.length),(16,ag),(17,vi p0.aV.length),(18,vi ah),(45,vb aj)] [rd ag p0.aV]) aj ?_ ?_;refine IT<|By zr oN<|S4 3 j zr k6 cI<|mv (vi p0.aL.length)<|S5 (p0.aL.length:Int) 1<|q_ hj λao ax hj=>IN zt zr LZ [vi ad.cR,vi 0,vi<|wrap .i64<|(p0.aL.length:Int) - 1] zr<|aF (nV N (p0:=ad.cR) (p1:=0) (p2:=wrap .i64<|(p0.aL.length:Int) - 1) j ax) ?_;rintro _ w⟨rfl,j⟩;refine TH ao<|mv (vb<|!ao)<|fI hj (λaa hj=>?_) λaa hj=>?_;refine bO aa<|bO aa<|bO aa<|bO aa<|bO aa<|bO aa<|bO aa<|bO aa<|fH aa (vb true)<|AS ?_;exact oi hj▸⟨rfl,j.sp 7 [6]⟩;refine By (hg:=cg aa) zr qw<|S4 (hg:=cg aa) 3 j zr mJ cI<|By (hg:=cg aa) zr oN<|S4 (hg:=cg aa) 3 j zr k6 cI<|Tc (vi p0.aL.length) (cg aa)<|S5 (hg:=cg aa) (p0.aL.length:Int) 1<|q_ hj λaq ay hj=>IN (cg aa) zr LZ [vi ad.To,vi ad.cR,vi<|wrap .i64<|(p0.aL.length:Int) - 1] zr<|aF (nV N (p0:=ad.To) (p1:=ad.cR) (p2:=wrap .i64<|(p0.aL.length:Int) - 1) j ay) ?_;rintro _ w⟨rfl,j⟩;exact TH (hg:=cg aa) aq<|fH aa (vb<|!aq)<|AS<|oi hj▸⟨rfl,j.sp 7 [6]⟩;rintro _ w⟨O,rfl,j⟩;refine aG<|dR o (λhc o=>?_) λhc o=>?_;exact w_<|aP (vi 1)<|AI<|TL<|bQ<|oi o▸⟨rfl,cC ⟨rfl,j.drop 1⟩⟩;exact Tw<|bR<|aG<|IT<|TF hk hm<|mv (vi ((ah+1:Nat):Int))<|AS<|oi o▸⟨rfl,j.sp 1 [0]⟩;intro r U w e hK;subst e;exact bQ<|oi o▸hK;rintro ai _ w rfl⟨O,rfl,j⟩;rw[Fo.dN]at o;exact aG<|w_<|aP (vi 0)<|AI<|Tb<|oi o▸cC ⟨rfl,j.drop 1⟩
theorem ou{p0:eJ}(o:Holds E w V)(j:jq N p0 p1=some res):c_ 167 [str p0,(.int .u8 p1)] w<|aR E V res:=by
 unfold jq at j;refine enter Tryz.func167 zr zr<|w_<|aP (vi 0)<|OF<|mv (str p0)<|mv (.int .u8 p1)<|UQ (vi<|Lib.indexByte p0.dD (Int.toNat p1).toUInt8) zr [str p0,(.int .u8 p1)] zr (LX p0 p1 w)<|aP (vi<|Lib.indexByte p0.dD (Int.toNat p1).toUInt8)<|AI ?_;exact Tb<|oi j▸cC ⟨rfl,o.drop 0⟩
theorem wA{p0 p1:eJ}(o:Holds E w V)(j:lk N p0 p1=some res):c_ 217 [str p0,str p1] w<|aR E V res:=by
 unfold lk at j;refine enter Tryz.func217 zr zr<|w_<|aP (vi 0)<|OF<|mv (str p1)<|Ul p1 Cl<|aP (vi p1.dD.length)<|BY<|Tn ?_;refine mv (vi p1.dD.length)<|ic ((p1.dD.length:Int)) 0<|mv (vb<|(p1.dD.length:Int)==0)<|IS true ((p1.dD.length:Int)==0) (str p1) rfl rfl rfl cJ<|IS true ((p1.dD.length:Int)==0) (str p0) rfl rfl rfl cJ<|IS true ((p1.dD.length:Int)==0) (vb<|p1.oj p0) rfl rfl rfl (yX .eql p1 p0 rfl (by exact z_ (str p1)) (by exact z_ (str p0)) rfl)<|Tu ((p1.dD.length:Int)==0) (vb<|((p1.dD.length:Int)==0)||p1.oj p0) (nb true)<|aP (vb<|((p1.dD.length:Int)==0)||p1.oj p0)<|AI ?_;refine dR j (λhc j=>?_) λhc j=>?_;exact w_<|aP (vi 0)<|AI<|TL<|bQ<|oi j▸cC ⟨rfl,o.drop 0⟩;refine w_<|mv (vi p1.dD.length)<|ic ((p1.dD.length:Int)) 1<|aP (vb<|(p1.dD.length:Int)==1)<|AI<|dR j (λhc j=>?_) λhc j=>?_;refine w_<|mv (str p0)<|mv (str p1)<|q_ j λab ad j=>UH p1 0 ab zr zr zr Cl ad<|q_ j λae af j=>IN zt zr MU [str p0,(.int .u8 (ab.toNat:Int))] zr<|aF (ou N (p0:=p0) (p1:=(ab.toNat:Int)) o af) ?_;rintro _ w⟨rfl,o⟩;exact aP (vi ae)<|AI<|TL<|bQ<|oi j▸cC ⟨rfl,o.drop 0⟩;refine w_<|mv (vi p1.dD.length)<|mv (str p0)<|Ul p0 Cl<|ic ((p1.dD.length:Int)) ((p0.dD.length:Int))<|aP (vb<|decide<|(p1.dD.length:Int)>=(p0.dD.length:Int))<|AI<|dR j (λhc j=>?_) λhc j=>?_;exact w_<|aP (vi<|-1)<|AI<|TL<|bQ<|oi j▸cC ⟨rfl,o.drop 0⟩;cases j
theorem ug{p0 p1:eJ}(o:Holds E w V)(j:mE N p0 p1=some res):c_ 203 [str p0,str p1] w<|aR E V res:=by
 unfold mE at j;refine enter Tryz.func203 zr zr<|w_<|aP (vi 0)<|OF<|mv (str p0)<|mv (str p1)<|q_ j λaa ab j=>IN zt zr Pf [str p0,str p1] zr<|aF (wA N (p0:=p0) (p1:=p1) o ab) ?_;rintro _ w⟨rfl,o⟩;exact aP (vi aa)<|AI<|Tb<|oi j▸cC ⟨rfl,o.drop 0⟩
def BC(E:World)(V:List HP)(r:Int)(U:Nat->Value)(w:World):Prop:=lZ bH 34 Tryz.f202 (aR E V r) .ret U w
theorem Ay{p0 p1:eJ}(hw:Holds E w V)(j:om N p0 p1=some res):c_ 202 [str p0,str p1] w<|aR E V res:=by
 unfold om at j;refine enter Tryz.func202 zr zr<|w_<|aP (vi 0)<|BY<|w_<|mv (str p1)<|Ul p1 Cl<|ic ((p1.dD.length:Int)) 0<|AI<|dR j (λhc j=>?_) λhc j=>?_;cases j;refine Ta<|w_<|mv (str p1)<|Ul p1 Cl<|ic ((p1.dD.length:Int)) 1<|AI<|dR j (λhc j=>?_) λhc j=>?_;exact w_<|mv (str p0)<|mv (str p1)<|q_ j λad af j=>UH p1 0 ad zr zr zr Cl af<|UQ (vi ((Lib.countByte p0.dD (Int.toNat (ad.toNat:Int)).toUInt8:Nat):Int)) zr [str p0,(.int .u8 (ad.toNat:Int))] zr (Rr p0 (ad.toNat:Int) w)<|aP (vi ((Lib.countByte p0.dD (Int.toNat (ad.toNat:Int)).toUInt8:Nat):Int))<|AI<|Tp<|oi j▸cC ⟨rfl,hw.drop 0⟩;refine TV<|aP (vi 0)<|AI<|q_ j λal hN j=>TD (λ(o:eJ×Int)=>SH E V [(0,str o.1),(1,str p1),(4,vi 0),(5,vi o.2)] []) (λ(o:eJ×Int)=>SH E V [(4,vi 0)] []) (BC E V) hN ?_ ?_ ?_ ?_;exact hw.sp 0 [];rintro o fl _ w⟨O,rfl,hw⟩j;refine Tn<|mv (str o.1)<|mv (str p1)<|q_ j λae ah j=>IN zt zr MV [str o.1,str p1] zr<|aF (ug N (p0:=o.1) (p1:=p1) hw ah) ?_;rintro _ w⟨rfl,hw⟩;refine aP (vi ae)<|BY<|w_<|mv (vi ae)<|ic ae ((-1))<|AI<|dR j (λhc j=>?_) λhc j=>?_;exact w_<|mv (vi o.2)<|aP (vi o.2)<|AI<|Tp<|jW<|oi j▸⟨rfl,cC ⟨rfl,hw.drop 0⟩⟩;refine TV<|mv (vi o.2)<|S5 o.2 1<|aP (vi<|wrap .i64<|o.2+1)<|AI<|IT<|mv (str o.1)<|mv (vi ae)<|mv (str p1) ?_;refine Ul p1 Cl<|S5 ae (p1.dD.length:Int)<|q_ j λai aj j=>UR o.1 zr zr Cl (.inl zr) (.inr ⟨rfl,zr⟩) aj<|aP (str ai)<|AS<|bR ?_;exact oi j▸⟨rfl,hw.sp 0 []⟩;intro r U w e hK;subst e;exact oi j▸hK;rintro o _ w rfl⟨O,rfl,hw⟩;rw[Fo.dN]at j;obtain rfl:=oi j;exact Fy<|cC ⟨rfl,hw.drop 0⟩
theorem xU{p0 p1:eJ}{res:List eJ}(o:Holds E w V)(j:nQ N p0 p1 p2 p3=some res):c_ 166 [str p0,str p1,vi p2,vi p3] w<|su E V res:=by
 unfold nQ at j;refine enter Tryz.func166 zr zr<|w_<|aP n_<|BY<|w_<|mv (vi p3)<|ic p3 0<|AI<|dR j (λhc j=>?_) λhc j=>?_;refine w_<|aP n_<|AI<|Tp ?_;obtain rfl:=oi j;have o:=o.dB eJ 9;exact cC<|o.pk 1 [0];refine Ta<|w_<|mv (str p1)<|Uz p1 ⟨[]⟩<|AI<|dR j (λhc j=>?_) λhc j=>?_;cases j;refine Ta<|w_<|mv (vi p3)<|ic p3 0<|AI<|q_ j λab hj j=>Tg (λ(ab:Int)=>SH E V [(0,str p0),(1,str p1),(2,vi p2),(3,vi ab)] []) ab ?_ ?_;refine dR hj (λhc hj=>?_) λhc hj=>?_;refine IT<|mv (str p0)<|mv (str p1)<|q_ hj λaj ak hj=>IN zt zr Pg [str p0,str p1] zr<|aF (Ay N (p0:=p0) (p1:=p1) o ak) ?_;rintro _ w⟨rfl,o⟩;refine S5 aj 1<|aP (vi<|wrap .i64<|aj+1)<|AS ?_;exact oi hj▸⟨rfl,o.sp 0 []⟩;exact Tw<|oi hj▸⟨rfl,o.sp 0 []⟩;rintro _ w⟨O,rfl,o⟩;refine aG<|w_<|mv (vi ab)<|mv (str p0)<|Ul p0 Cl<|S5 (p0.dD.length:Int) 1<|Ud ab (wrap .i64<|(p0.dD.length:Int)+1)<|aP (vi (if wrap .i64 ((p0.dD.length:Int)+1)<ab then wrap .i64 ((p0.dD.length:Int)+1)else ab))<|OF ?_;refine mv (vi (if wrap .i64 ((p0.dD.length:Int)+1)<ab then wrap .i64 ((p0.dD.length:Int)+1)else ab))<|q_ j λay al j=>Un (if wrap .i64 ((p0.dD.length:Int)+1)<ab then wrap .i64 ((p0.dD.length:Int)+1)else ab) o Ph SJ al λae w o=>?_;refine aP ae<|OF<|mv (vi (if wrap .i64 ((p0.dD.length:Int)+1)<ab then wrap .i64 ((p0.dD.length:Int)+1)else ab))<|S5 (if wrap .i64 ((p0.dD.length:Int)+1)<ab then wrap .i64 ((p0.dD.length:Int)+1)else ab) 1<|aP (vi<|wrap .i64<|(if wrap .i64 ((p0.dD.length:Int)+1)<ab then wrap .i64 ((p0.dD.length:Int)+1)else ab) - 1)<|OF<|aP (vi 0)<|BY ?_;refine q_ j λaz hN j=>TD (λ(aa:eJ×List eJ×Int)=>SH E V [(0,str aa.1),(1,str p1),(2,vi p2),(3,vi<|wrap .i64<|(if wrap .i64 ((p0.dD.length:Int)+1)<ab then wrap .i64 ((p0.dD.length:Int)+1)else ab) - 1),(9,ae),(10,vi aa.2.2)] [own 9 ae aa.2.1]) (λ(aa:eJ×List eJ×Int)=>SH E V [(0,str aa.1),(9,ae),(10,vi aa.2.2)] [own 9 ae aa.2.1]) (λ(r:Empty)_ _=>r.elim) hN ?_ ?_ ?_ ?_;exact o.sp 1 [0];rintro aa fl _ w⟨O,rfl,o⟩j;refine S6<|w_<|mv (vi aa.2.2)<|mv (vi<|wrap .i64<|(if wrap .i64 ((p0.dD.length:Int)+1)<ab then wrap .i64 ((p0.dD.length:Int)+1)else ab) - 1)<|ic aa.2.2 (wrap .i64<|(if wrap .i64 ((p0.dD.length:Int)+1)<ab then wrap .i64 ((p0.dD.length:Int)+1)else ab) - 1)<|AI<|dR j (λhc j=>?_) λhc j=>?_;refine Ub<|Tn<|mv (str aa.1)<|mv (str p1)<|q_ j λag ao j=>IN zt zr MV [str aa.1,str p1] zr<|aF (ug N (p0:=aa.1) (p1:=p1) o ao) ?_;rintro _ w⟨rfl,o⟩;refine aP (vi ag)<|BY<|w_<|mv (vi ag)<|ic ag 0<|AI<|dR j (λhc j=>?_) λhc j=>?_;exact Te<|NM<|oi j▸⟨rfl,o.sp 1 [0]⟩;refine TV<|mv ae<|mv (vi aa.2.2)<|mv (str aa.1)<|mv (vi ag)<|mv (vi p2)<|S5 ag p2<|q_ j λaq ar j=>UR aa.1 zr zr Cl (.inr ⟨rfl,zr⟩) (.inl zr) ar<|q_ j λa1 ah j=>Tk 0 o zr zr Gg ah ?_;have o:=o.sc eJ aq;refine T5 (f:=(λ_ y=>y)) 1 0 o (jl 1 o ah 0) (bD ah).2.1 zr Fs.self xo λw o=>?_;refine OF<|mv (str aa.1)<|mv (vi ag)<|mv (str p1)<|Ul p1 Cl<|S5 ag (p1.dD.length:Int)<|q_ j λau av j=>UR aa.1 zr zr Cl (.inl zr) (.inr ⟨rfl,zr⟩) av<|aP (str au)<|AI<|IT<|mv (vi aa.2.2)<|S5 aa.2.2 1<|aP (vi<|wrap .i64<|aa.2.2+1)<|AS<|bR ?_;exact oi j▸⟨rfl,o.sp 2 [1]⟩;exact Te<|oi j▸⟨rfl,o.sp 1 [0]⟩;intro r _ _ _ _;exact r.elim;rintro aa _ w rfl⟨O,rfl,o⟩;rw[Fo.dN]at j;refine aG<|w_<|mv ae<|mv (vi aa.2.2)<|mv (str aa.1)<|q_ j λa2 ai j=>Tk 0 o zr zr Gg ai ?_;have o:=o.sc eJ aa.1;refine T5 (f:=(λ_ y=>y)) 1 0 o (jl 1 o ai 0) (bD ai).2.1 zr Fs.self xo λw o=>?_;refine OF<|mv ae<|mv (vi aa.2.2)<|S5 aa.2.2 1<|q_ j λa3 aw j=>US 1 zr o zr zr Gg (.inr ⟨rfl,zr⟩) (.inl zr) aw λax o=>aP ax<|AI<|Tb ?_;obtain rfl:=oi j;exact cC<|o.pk 2 [1]
theorem uh{p0 p1:eJ}{res:List eJ}(o:Holds E w V)(j:mF N p0 p1=some res):c_ 134 [str p0,str p1] w<|su E V res:=by
 unfold mF at j;refine enter Tryz.func134 zr zr<|w_<|aP n_<|OF<|mv (str p0)<|mv (str p1)<|q_ j λad aa j=>IN zt zr Pj [str p0,str p1,vi 0,vi<|-1] zr<|aF (xU N (p0:=p0) (p1:=p1) (p2:=0) (p3:=(-1)) o aa) ?_;rintro ab w o;refine aP ab<|AI<|Tb ?_;obtain rfl:=oi j;exact cC<|o.pk 1 [0]
def sX(E:World)(V:List HP)(r:Int)(U:Nat->Value)(w:World):Prop:=lZ bH 19 Tryz.f165 (aR E V r) .ret U w
theorem sD{p0:List eJ}{p1:eJ->Option Bool}(j:Holds E w V)(h0:V[i0]? =some (rd v0 p0))(h1:Lz bH E V v1 p1 (λ(r:Bool)=>Value.bool r))(o:lL N p0 p1=some res):c_ 165 [v0,v1] w<|aR E V res:=by
 unfold lL at o;refine enter Tryz.func165 zr zr ?_;have j:=j.dup (i0+0) h0;refine w_<|aP (vi 0)<|BY<|w_<|mv v0<|S8 0 p0 j MX<|mv (vi 0)<|AI<|q_ o λal hN o=>T9 (λ(aa:Nat)(ab:Unit)=>SH E V [(0,v0),(1,v1),(7,vi p0.length),(8,vi aa)] [rd v0 p0]) (λ(ab:Unit)=>SH E V [] [rd v0 p0]) (sX E V) hN ?_ ?_ ?_ ?_ ?_;exact j.sp 1 [0];rintro hm ab _ w⟨O,rfl,j⟩;exact w_<|ic ((p0.length:Int)) ((p0.length:Int))<|BY<|TJ qC<|Te<|⟨rfl,j.sp 1 [0]⟩;rintro hm aa ab fl _ w hk⟨O,rfl,j⟩o;refine w_<|ic ((aa:Int)) ((p0.length:Int))<|BY<|TI (qB hk)<|Ta<|Tn<|mv (vi aa)<|aP (vi aa)<|OF<|mv v1<|mv v0<|mv (vi aa) ?_;refine q_ o λaf ah o=>S7 0 j Gg ah λao j=>Tq af 0 j xo ?_;have j:=j.sc eJ af;refine q_ o λaq ai o=>UJ 0 zr j zr h1 3 zr zr zr ai λw j=>AI<|dR o (λhc o=>?_) λhc o=>?_;exact w_<|mv (vi aa)<|aP (vi aa)<|AI<|TL<|bQ<|oi o▸⟨rfl,cC ⟨rfl,j.drop 3⟩⟩;exact Tw<|bR<|aG<|IT<|TF hk hm<|mv (vi ((aa+1:Nat):Int))<|AS<|oi o▸⟨rfl,j.sp 3 [2]⟩;intro r U w e hK;subst e;exact bQ<|oi o▸hK;rintro ab _ w rfl⟨O,rfl,j⟩;rw[Fo.dN]at o;exact aG<|w_<|aP (vi<|-1)<|AI<|Tb<|oi o▸cC ⟨rfl,j.drop 1⟩
theorem qM{p0:List eJ}{p1:eJ->Option Bool}{res:Bool}(j:Holds E w V)(h0:V[i0]? =some (rd v0 p0))(h1:Lz bH E V v1 p1 (λ(r:Bool)=>Value.bool r))(o:i6 N p0 p1=some res):c_ 133 [v0,v1] w<|aX E V res:=by
 unfold i6 at o;refine enter Tryz.func133 zr zr ?_;have j:=j.dup (i0+0) h0;refine w_<|aP (vb false)<|OF<|mv v0<|mv v1<|q_ o λaa ab o=>IN zt zr Pk [v0,v1] zr<|aF (sD N (i0:=0) j zr (h1.lift 1 zr) ab) ?_;rintro _ w⟨rfl,j⟩;refine ic aa 0<|aP (vb<|decide<|aa>=0)<|AI<|Tb ?_;exact oi o▸cC ⟨rfl,j.drop 1⟩
theorem qN{p0:eJ}(o:Holds E w V)(j:ig N p0 p1=some res):c_ 136 [str p0,(.int .u8 p1)] w<|aR E V res:=by
 unfold ig at j;refine enter Tryz.func136 zr zr<|w_<|aP (vi 0)<|OF<|mv (str p0)<|mv (.int .u8 p1)<|q_ j λaa ab j=>IN zt zr MU [str p0,(.int .u8 p1)] zr<|aF (ou N (p0:=p0) (p1:=p1) o ab) ?_;rintro _ w⟨rfl,o⟩;exact aP (vi aa)<|AI<|Tb<|oi j▸cC ⟨rfl,o.drop 0⟩
def Az(E:World)(V:List HP)(r:Bool)(U:Nat->Value)(w:World):Prop:=lZ bH 49 Tryz.f94 (aX E V r) .ret U w
theorem tu{p0:eJ}{res:Bool}(hw:Holds E w V)(o:jH N p0=some res):c_ 94 [str p0] w<|aX E V res:=by
 unfold jH at o;refine enter Tryz.func94 zr zr<|w_<|aP (vb false)<|BY<|w_<|mv (str p0)<|Ul p0 Cl<|mv (vi 0)<|AI<|q_ o λar hN o=>T9 (λ(ab:Nat)(af:Unit)=>SH E V [(0,str p0),(6,vi p0.dD.length),(7,vi ab)] []) (λ(af:Unit)=>SH E V [(0,str p0)] []) (Az E V) hN ?_ ?_ ?_ ?_ ?_;exact hw.sp 0 [];rintro hm af _ w⟨O,rfl,hw⟩;exact w_<|ic ((p0.dD.length:Int)) ((p0.dD.length:Int))<|BY<|TJ qC<|Te<|⟨rfl,hw.sp 0 []⟩;rintro hm ab af fl _ w hk⟨O,rfl,hw⟩o;refine w_<|ic ((ab:Int)) ((p0.dD.length:Int))<|BY<|TI (qB hk)<|Ta<|Tn<|mv (vi ab)<|aP (vi ab)<|OF<|mv (str p0)<|mv (vi ab) ?_;refine q_ o λj al o=>UH p0 (ab:Int) j zr zr zr Cl al<|aP (.int .u8 (j.toNat:Int))<|BY<|q_ o λag hj o=>Tg (λ(ag:Bool)=>SH E V [(0,str p0),(6,vi p0.dD.length),(7,vi ab),(39,vb ag)] []) ag ?_ ?_;refine IT<|mv (.int .u8 (j.toNat:Int))<|ic ((j.toNat:Int)) 65<|mv (vb<|decide<|(j.toNat:Int)<65)<|IS true (decide<|(j.toNat:Int)<65) (.int .u8 (j.toNat:Int)) rfl rfl rfl cJ<|IS true (decide<|(j.toNat:Int)<65) (vb<|decide<|(j.toNat:Int)>90) rfl rfl rfl (dE .gtr .u8 (j.toNat:Int) 90 rfl (by exact z_ (.int .u8 (j.toNat:Int))) (λ_=>rfl) rfl)<|Tu (decide<|(j.toNat:Int)<65) (vb<|decide ((j.toNat:Int)<65)||decide ((j.toNat:Int)>90)) (nb true)<|mv (vb<|decide ((j.toNat:Int)<65)||decide ((j.toNat:Int)>90))<|IS true (decide ((j.toNat:Int)<65)||decide ((j.toNat:Int)>90)) (.int .u8 (j.toNat:Int)) rfl rfl rfl cJ ?_;refine IS true (decide ((j.toNat:Int)<65)||decide ((j.toNat:Int)>90)) (vb<|decide<|(j.toNat:Int)<97) rfl rfl rfl (dE .lss .u8 (j.toNat:Int) 97 rfl (by exact z_ (.int .u8 (j.toNat:Int))) (λ_=>rfl) rfl)<|IS true (decide ((j.toNat:Int)<65)||decide ((j.toNat:Int)>90)) (vb<|decide<|(j.toNat:Int)<97) rfl rfl rfl (cJ (hx:=λh=>by exact(cH h:cv (true&&((decide ((j.toNat:Int)<65)||decide ((j.toNat:Int)>90))==true)) (vb<|decide<|(j.toNat:Int)<97)= vb (decide<|(j.toNat:Int)<97))))<|IS (true&&((decide ((j.toNat:Int)<65)||decide ((j.toNat:Int)>90))==true)) (decide<|(j.toNat:Int)<97) (.int .u8 (j.toNat:Int)) rfl rfl rfl cJ<|IS (true&&((decide ((j.toNat:Int)<65)||decide ((j.toNat:Int)>90))==true)) (decide<|(j.toNat:Int)<97) (vb<|decide<|(j.toNat:Int)>122) rfl rfl rfl (dE .gtr .u8 (j.toNat:Int) 122 rfl (by exact z_ (.int .u8 (j.toNat:Int))) (λ_=>rfl) rfl)<|IS true (decide ((j.toNat:Int)<65)||decide ((j.toNat:Int)>90)) (vb<|decide ((j.toNat:Int)<97)||decide ((j.toNat:Int)>122)) rfl rfl rfl (kP (decide<|(j.toNat:Int)<97) rfl (by exact z_ (vb<|decide<|(j.toNat:Int)<97)) (λh=>by exact nb (h:=h)<|true&&((decide ((j.toNat:Int)<65)||decide ((j.toNat:Int)>90))==true)))<|Tu (decide ((j.toNat:Int)<65)||decide ((j.toNat:Int)>90)) (vb<|(decide ((j.toNat:Int)<65)||decide ((j.toNat:Int)>90))&&(decide ((j.toNat:Int)<97)||decide ((j.toNat:Int)>122))) (fR true)<|mv (vb<|(decide ((j.toNat:Int)<65)||decide ((j.toNat:Int)>90))&&(decide ((j.toNat:Int)<97)||decide ((j.toNat:Int)>122)))<|IS true ((decide ((j.toNat:Int)<65)||decide ((j.toNat:Int)>90))&&(decide ((j.toNat:Int)<97)||decide ((j.toNat:Int)>122))) (.int .u8 (j.toNat:Int)) rfl rfl rfl cJ<|IS true ((decide ((j.toNat:Int)<65)||decide ((j.toNat:Int)>90))&&(decide ((j.toNat:Int)<97)||decide ((j.toNat:Int)>122))) (vb<|decide<|(j.toNat:Int)<48) rfl rfl rfl (dE .lss .u8 (j.toNat:Int) 48 rfl (by exact z_ (.int .u8 (j.toNat:Int))) (λ_=>rfl) rfl) ?_;refine IS true ((decide ((j.toNat:Int)<65)||decide ((j.toNat:Int)>90))&&(decide ((j.toNat:Int)<97)||decide ((j.toNat:Int)>122))) (vb<|decide<|(j.toNat:Int)<48) rfl rfl rfl (cJ (hx:=λh=>by exact(cH h:cv (true&&(((decide ((j.toNat:Int)<65)||decide ((j.toNat:Int)>90))&&(decide ((j.toNat:Int)<97)||decide ((j.toNat:Int)>122)))==true)) (vb<|decide<|(j.toNat:Int)<48)= vb (decide<|(j.toNat:Int)<48))))<|IS (true&&(((decide ((j.toNat:Int)<65)||decide ((j.toNat:Int)>90))&&(decide ((j.toNat:Int)<97)||decide ((j.toNat:Int)>122)))==true)) (decide<|(j.toNat:Int)<48) (.int .u8 (j.toNat:Int)) rfl rfl rfl cJ<|IS (true&&(((decide ((j.toNat:Int)<65)||decide ((j.toNat:Int)>90))&&(decide ((j.toNat:Int)<97)||decide ((j.toNat:Int)>122)))==true)) (decide<|(j.toNat:Int)<48) (vb<|decide<|(j.toNat:Int)>57) rfl rfl rfl (dE .gtr .u8 (j.toNat:Int) 57 rfl (by exact z_ (.int .u8 (j.toNat:Int))) (λ_=>rfl) rfl)<|IS true ((decide ((j.toNat:Int)<65)||decide ((j.toNat:Int)>90))&&(decide ((j.toNat:Int)<97)||decide ((j.toNat:Int)>122))) (vb<|decide ((j.toNat:Int)<48)||decide ((j.toNat:Int)>57)) rfl rfl rfl (kP (decide<|(j.toNat:Int)<48) rfl (by exact z_ (vb<|decide<|(j.toNat:Int)<48)) (λh=>by exact nb (h:=h)<|true&&(((decide ((j.toNat:Int)<65)||decide ((j.toNat:Int)>90))&&(decide ((j.toNat:Int)<97)||decide ((j.toNat:Int)>122)))==true)))<|Tu ((decide ((j.toNat:Int)<65)||decide ((j.toNat:Int)>90))&&(decide ((j.toNat:Int)<97)||decide ((j.toNat:Int)>122))) (vb<|((decide ((j.toNat:Int)<65)||decide ((j.toNat:Int)>90))&&(decide ((j.toNat:Int)<97)||decide ((j.toNat:Int)>122)))&&(decide ((j.toNat:Int)<48)||decide ((j.toNat:Int)>57))) (fR true)<|mv (vb<|((decide ((j.toNat:Int)<65)||decide ((j.toNat:Int)>90))&&(decide ((j.toNat:Int)<97)||decide ((j.toNat:Int)>122)))&&(decide ((j.toNat:Int)<48)||decide ((j.toNat:Int)>57)))<|fI hj (λad hj=>?_) λad hj=>?_;refine Tc (.int .u8 (j.toNat:Int)) (cg ad)<|q_ hj λaj an hj=>IN (cg ad) zr MY [str ⟨[95,43,45,35]⟩,(.int .u8 (j.toNat:Int))] zr<|aF (qN N (p0:=⟨[95,43,45,35]⟩) (p1:=(j.toNat:Int)) hw an) ?_;rintro _ w⟨rfl,hw⟩;refine TR aj 0 (cg ad)<|fH ad (vb<|decide<|aj<0)<|AS ?_;exact oi hj▸⟨rfl,hw.sp 0 []⟩;exact bO ad<|bO ad<|bO ad<|fH ad (vb false)<|AS<|oi hj▸⟨rfl,hw.sp 0 []⟩;rintro _ w⟨O,rfl,hw⟩;refine aG<|dR o (λhc o=>?_) λhc o=>?_;exact w_<|aP (vb false)<|AI<|TL<|bQ<|oi o▸⟨rfl,cC ⟨rfl,hw.drop 0⟩⟩;exact Tw<|bR<|aG<|IT<|TF hk hm<|mv (vi ((ab+1:Nat):Int))<|AS<|oi o▸⟨rfl,hw.sp 0 []⟩;intro r U w e hK;subst e;exact bQ<|oi o▸hK;rintro af _ w rfl⟨O,rfl,hw⟩;rw[Fo.dN]at o;refine aG<|w_<|mv (str p0)<|Ul p0 Cl<|ic ((p0.dD.length:Int)) 1<|mv (vb<|decide<|(p0.dD.length:Int)>=1)<|IS true (decide<|(p0.dD.length:Int)>=1) (str p0) rfl rfl rfl cJ<|IS true (decide<|(p0.dD.length:Int)>=1) (vi p0.dD.length) rfl rfl rfl (LJ (s:=p0) rfl (by exact z_ (str p0)) Cl)<|IS true (decide<|(p0.dD.length:Int)>=1) (vb<|decide<|(p0.dD.length:Int)<=40) rfl rfl rfl (dE .leq .i64 (p0.dD.length:Int) 40 rfl (by exact z_ (vi p0.dD.length)) (λ_=>rfl) rfl) ?_;exact Tu (decide<|(p0.dD.length:Int)>=1) (vb<|decide ((p0.dD.length:Int)>=1)&&decide ((p0.dD.length:Int)<=40)) (fR true)<|aP (vb<|decide ((p0.dD.length:Int)>=1)&&decide ((p0.dD.length:Int)<=40))<|AI<|Tb<|oi o▸cC ⟨rfl,hw.drop 0⟩
theorem wB{p0:eJ}{res:Bool}(o:Holds E w V)(j:i7 N p0=some res):c_ 135 [str p0] w<|aX E V res:=by
 unfold i7 at j;refine enter Tryz.func135 zr zr<|w_<|aP (vb false)<|OF<|mv (str p0)<|q_ j λaa ab j=>IN zt zr Pl [str p0] zr<|aF (tu N (p0:=p0) o ab) ?_;rintro _ w⟨rfl,o⟩;exact TH aa<|aP (vb<|!aa)<|AI<|Tb<|oi j▸cC ⟨rfl,o.drop 0⟩
theorem zA{p0:eJ}{res:Bool}(j:Holds E w V)(hb:nj N p0=some res):c_ 93 [str p0] w<|aX E V res:=by
 unfold nj at hb;refine enter Tryz.func93 zr zr<|w_<|aP (vb false)<|BY<|q_ hb λad hj hb=>Tg (λ(ad:Bool)=>SH E V [(2,vb ad)] []) ad ?_ ?_;refine IT<|mv (str p0)<|Ul p0 Cl<|ic ((p0.dD.length:Int)) 200<|mv (vb<|decide<|(p0.dD.length:Int)<=200)<|fI hj (λo hj=>?_) λo hj=>?_;refine Tc (str p0) (cg o)<|q_ hj λai af hj=>IN (cg o) zr MW [str p0,str ⟨[47]⟩] zr<|aF (uh N (p0:=p0) (p1:=⟨[47]⟩) j af) ?_;rintro ag w j;have j:=j.freeze 0;refine q_ hj λae ah hj=>IN (cg o) rfl Pn [ag,(.func (.func 135) #[] #[])] rfl<|aF (qM N (i0:=0) j rfl ⟨135,[],rfl,Pm,λw Γl v y0 r i j hi hr=>by obtain rfl:=j.FB (γ:=eJ) hi;exact aF (wB N (p0:=y0) j hr) λ_ _ h=>h⟩ ah) ?_;rintro _ w⟨rfl,j⟩;exact TH (hg:=cg o) ae<|fH o (vb<|!ae)<|aP (vb<|!ae)<|AS<|oi hj▸⟨rfl,j.sp 1 []⟩;exact bO o<|bO o<|bO o<|bO o<|fH o (vb false)<|aP (vb false)<|AS<|oi hj▸⟨rfl,j.sp 0 []⟩;rintro _ w⟨O,rfl,j⟩;exact aG<|Tb<|oi hb▸cC ⟨rfl,j.drop 0⟩
def Cr(E:World)(V:List HP)(res:eE)(v:Value)(w:World):Prop:=Holds E w<|[rd v res]++V
theorem oR{p0:dV}{res:eE}(j:Holds E w V)(h0:V[i0]? =some (rd v0 p0))(o:l6 N p0=some res):c_ 78 [v0] w<|Cr E V res:=by
 unfold l6 at o;refine enter Tryz.func78 zr zr ?_;have j:=j.dup (i0+0) h0;refine w_<|Tm 0 v0 j zr λaa w j=>?_;refine TC j Po.z λab w j=>?_;refine OF<|By zr wq<|S4 1 j zr o6 xo<|By zr Au<|S4 1 j zr r6 xo ?_;have j:=(j.sc eJ p0.Part).sc eJ p0.eE;refine TZ (⟨p0.Part,p0.eE⟩:eE) trivial rfl j [(0,str p0.Part),(1,str p0.eE)] rfl N5 rfl (λM hs g=>by have h:=Ky M;exact cM.cons (f:=λ(x:eE)y=>{x with Part:=y}) h Ce (g.sat 1 _ rfl).1 λ_ h=>cM.cons (f:=λ(x:eE)y=>{x with eE:=y}) h Cf (g.sat 0 _ rfl).1 λ_ h=>cM.nil h) λad j=>?_;refine Tx 3 j 0 zr nT λw j=>?_;refine AI<|Tb ?_;obtain rfl:=oi o;exact Ke 3 j nT λae j=>j.pk 7 [0]
theorem tI{p0 p1:eJ}(o:Holds E w V)(j:mN N p0 p1=some res):c_ 163 [str p0,str p1] w<|aR E V res:=by
 unfold mN at j;refine enter Tryz.func163 zr zr<|w_<|aP (vi 0)<|OF<|mv (str p0)<|mv (str p1)<|UQ (vi<|Lib.compareBytes p0.dD p1.dD) zr [str p0,str p1] zr (Ru p0 p1 w)<|aP (vi<|Lib.compareBytes p0.dD p1.dD)<|AI ?_;exact Tb<|oi j▸cC ⟨rfl,o.drop 0⟩
theorem sE{p0 p1:eJ}(o:Holds E w V)(j:oL N p0 p1=some res):c_ 130 [str p0,str p1] w<|aR E V res:=by
 unfold oL at j;refine enter Tryz.func130 zr zr<|w_<|aP (vi 0)<|OF<|mv (str p0)<|mv (str p1)<|q_ j λaa ab j=>IN zt zr Pp [str p0,str p1] zr<|aF (tI N (p0:=p0) (p1:=p1) o ab) ?_;rintro _ w⟨rfl,o⟩;exact aP (vi aa)<|AI<|Tb<|oi j▸cC ⟨rfl,o.drop 0⟩
theorem gW{p0 p1:eE}(j:Holds E w V)(h0:V[i0]? =some (rd v0 p0))(h1:V[i1]? =some (rd v1 p1))(o:eV N p0 p1=some res):c_ 77 [v0,v1] w<|aR E V res:=by
 unfold eV at o;refine enter Tryz.func77 zr zr ?_;have j:=(j.dup (i0+0) h0).dup (i1+1) h1;refine w_<|Tm 1 v0 j zr λag w j=>?_;refine Tm 1 v1 j zr λah w j=>?_;refine aP (vi 0)<|BY<|w_<|By zr yt<|S4 1 j zr sj xo<|By zr yt<|S4 0 j zr sj xo<|q_ o λaa ab o=>IN zt zr MZ [str p0.Part,str p1.Part] zr<|aF (sE N (p0:=p0.Part) (p1:=p1.Part) j ab) ?_;rintro _ w⟨rfl,j⟩;refine aP (vi aa)<|OF<|mv (vi aa)<|ic aa 0<|AI<|dR o (λhc o=>?_) λhc o=>?_;exact w_<|mv (vi aa)<|aP (vi aa)<|AI<|Tp<|oi o▸cC ⟨rfl,j.drop 4⟩;refine TV<|By zr Cm<|S4 1 j zr wi xo<|By zr Cm<|S4 0 j zr wi xo<|q_ o λae af o=>IN zt zr MZ [str p0.eE,str p1.eE] zr<|aF (sE N (p0:=p0.eE) (p1:=p1.eE) j af) ?_;rintro _ w⟨rfl,j⟩;exact aP (vi ae)<|AI<|Tb<|oi o▸cC ⟨rfl,j.drop 4⟩
def xV(E:World)(V:List HP)(r:Int)(U:Nat->Value)(w:World):Prop:=lZ bH 60 Tryz.f52 (aR E V r) .ret U w
theorem wC{p0:fE}(j:Holds E w V)(h0:V[i0]? =some (rd v0 p0))(hb:ll N p0=some res):c_ 52 [v0] w<|aR E V res:=by
 unfold ll at hb;refine enter Tryz.func52 zr zr ?_;have j:=j.dup (i0+0) h0;refine w_<|Tm 0 v0 j zr λag w j=>?_;have j:=j.iE (i:=0) rfl;refine aP (vi 0)<|BY<|w_<|Tt 0 j zr nv ka λbk j=>Tf 0 p0.bN j wo λbl j=>S8 0 p0.bN j Gf<|ic ((p0.bN.length:Int)) 1000<|AI<|dR hb (λhc hb=>?_) λhc hb=>?_;exact w_<|aP (vi 2)<|AI<|Tp<|oi hb▸cC ⟨rfl,j.drop 4⟩;refine Ta<|w_<|Tt 2 j zr nv ka λbm j=>Tf 0 p0.bN j wo λah j=>S8 0 p0.bN j Gf<|mv (vi 0)<|AI<|q_ hb λbn hN hb=>T9 (λ(ad:Nat)(ak:Unit)=>SH E V [(1,vp ag 0),(10,ah),(11,vi p0.bN.length),(12,vi ad)] [pt (vp ag 0) p0,rd ah p0.bN]) (λ(ak:Unit)=>SH E V [] [pt (vp ag 0) p0,rd ah p0.bN]) (xV E V) hN ?_ ?_ ?_ ?_ ?_;exact j.sp 6 [4,0];rintro hm ak _ w⟨O,rfl,j⟩;exact w_<|ic ((p0.bN.length:Int)) ((p0.bN.length:Int))<|BY<|TJ qC<|Te<|⟨rfl,j.sp 2 [0,1]⟩;rintro hm ad ak fl _ w hk⟨O,rfl,j⟩hb;refine w_<|ic ((ad:Int)) ((p0.bN.length:Int))<|BY<|TI (qB hk)<|Ta<|Tn<|mv (vi ad)<|q_ hb λai a1 hb=>S7 1 j zo a1 λbp j=>Tf 0 ai j yr λbq j=>TC j KA.z λal w j=>?_;refine aP (vi ad)<|Tx 0 j 1 zr yr λw j=>?_;refine AI<|TT<|S6<|q_ hb λan o hb=>Tg (λ(an:Bool)=>SH E V [(1,vp ag 0),(3,vi ad),(4,vp al 0),(10,ah),(11,vi p0.bN.length),(12,vi ad),(17,vb an)] [pt (vp ag 0) p0,bx 77 al ai,rd ah p0.bN]) an ?_ ?_;refine IT<|By zr wq<|S4 0 j zr o6 xo<|q_ o λay a2 o=>IN zt zr Rs [str ai.Part] zr<|aF (zA N (p0:=ai.Part) j a2) ?_;rintro _ w⟨rfl,j⟩;refine TH ay<|mv (vb<|!ay)<|fI o (λae o=>?_) λae o=>?_;exact bO ae<|bO ae<|bO ae<|bO ae<|fH ae (vb true)<|aP (vb true)<|AS<|oi o▸⟨rfl,j.sp 5 [3,0,4]⟩;refine By (hg:=cg ae) zr Au<|S4 (hg:=cg ae) 0 j zr r6 xo<|q_ o λao a3 o=>IN (cg ae) zr Pl [str ai.eE] zr<|aF (tu N (p0:=ai.eE) j a3) ?_;rintro _ w⟨rfl,j⟩;exact TH (hg:=cg ae) ao<|fH ae (vb<|!ao)<|aP (vb<|!ao)<|AS<|oi o▸⟨rfl,j.sp 5 [3,0,4]⟩;rintro _ w⟨O,rfl,j⟩;refine aG<|dR hb (λhc hb=>?_) λhc hb=>?_;exact w_<|aP (vi 5)<|AI<|TL<|jW<|bQ<|oi hb▸⟨rfl,cC ⟨rfl,j.drop 3⟩⟩;refine S6<|q_ hb λaq o hb=>Tg (λ(aq:Bool)=>SH E V [(1,vp ag 0),(3,vi ad),(4,vp al 0),(10,ah),(11,vi p0.bN.length),(12,vi ad),(28,vb aq)] [pt (vp ag 0) p0,bx 77 al ai,rd ah p0.bN]) aq ?_ ?_;refine IT<|By zr EF<|S4 1 j zr xh cI<|Tt 0 j zr n7 j8 λbr j=>Tf 0 p0.aL j xL λbt j=>S8 0 p0.aL j wk<|S5 (p0.aL.length:Int) 1<|q_ o λaz a4 o=>IN zt zr LZ [vi ai.fP,vi 0,vi<|wrap .i64<|(p0.aL.length:Int) - 1] zr<|aF (nV N (p0:=ai.fP) (p1:=0) (p2:=wrap .i64<|(p0.aL.length:Int) - 1) j a4) ?_;rintro _ w⟨rfl,j⟩;refine TH az<|mv (vb<|!az)<|fI o (λaf o=>?_) λaf o=>?_;exact bO af<|bO af<|bO af<|bO af<|fH af (vb true)<|aP (vb true)<|AS<|oi o▸⟨rfl,j.sp 5 [2,3,4]⟩;refine By (hg:=cg af) zr wt<|S3 (hg:=cg af) 3 j zr o7 jD λa5 j=>?_;refine q_ o λar a6 o=>IN (cg af) zr Pd [a5] zr<|aF (ue N (i0:=0) j zr a6) ?_;rintro _ w⟨rfl,j⟩;exact TH (hg:=cg af) ar<|fH af (vb<|!ar)<|aP (vb<|!ar)<|AS<|oi o▸⟨rfl,j.sp 6 [3,4,5]⟩;rintro _ w⟨O,rfl,j⟩;refine aG<|dR hb (λhc hb=>?_) λhc hb=>?_;exact w_<|aP (vi 1)<|AI<|TL<|jW<|bQ<|oi hb▸⟨rfl,cC ⟨rfl,j.drop 3⟩⟩;refine S6<|q_ hb λau o hb=>Tg (λ(au:Bool)=>SH E V [(1,vp ag 0),(10,ah),(11,vi p0.bN.length),(12,vi ad),(43,vb au)] [pt (vp ag 0) p0,rd ah p0.bN]) au ?_ ?_;refine TU mixed [0,0,0,0,2,1,1,1,1,1,1,2,2,0,0,0] [0,1,2,3,5,6,7,8,9,10,4,11,12,13,14,15] ?_;have j:=j.drew;refine Th zr<|mv (vi ad)<|bJ zr<|ic ((ad:Int)) 0<|bJ zr<|mv (vb<|decide<|(ad:Int)>0)<|Tj<|fI o (λab o=>?_) λab o=>?_;refine Th zr<|S3 (hg:=cg ab) (f:=(λx=>x)) 1 j zr Fd.self yr λa7 j=>Tj<|Ur (hg:=cg ab) 1 zr j zr nv ka λbu j=>Uf (hg:=cg ab) p0.bN 0 zr j wo λbw a378 bz j=>Tr (vi ad) zr (λw=>Tc (vi ad) (cg ab) Tl)<|Tr (vi<|wrap .i64<|(ad:Int) - 1) zr (λw=>S5 (hg:=cg ab) (ad:Int) 1 Tl)<|q_ o λa8 a9 o=>Ui (hg:=cg ab) 1 zr j zo a9 λb0 j=>Uf (hg:=cg ab) a8 0 zr j yr λba a383 b1 j=>TO zr<|q_ o λb2 bb o=>IN (cg ab) zr L0 [a7] zr<|aF (oR N (i0:=6) j zr bb) ?_;rintro bc w j;refine TB (⟨⟨zt,j.gw 4⟩,j.gw 1⟩)<|TO zr<|q_ o λb3 bf o=>IN (cg ab) zr L0 [ba] zr<|aF (oR N (i0:=2) j zr bf) ?_;rintro bg w j;refine TB (⟨⟨zt,j.gw 5⟩,j.gw 2⟩)<|TO zr<|q_ o λav bh o=>IN (cg ab) zr Jq [bc,bg] zr<|aF (gW N (i0:=1) (i1:=0) j zr zr bh) ?_;rintro _ w⟨rfl,j⟩;refine TB (⟨⟨zt,j.gw 5⟩,j.gw 2⟩)<|Th zr<|TR av 0 (cg ab)<|bJ zr<|fH ab (vb<|decide<|av<=0)<|bJ zr<|aP (vb<|decide<|av<=0)<|Tj ?_;have j:=j.pl 12 [0,1,3,4,6,7,8,9,10,11];exact TA<|oi o▸⟨rfl,j.sp 10 [7,9]⟩;refine Th zr<|bO ab<|Tj<|Tr undef zr (λw=>bO ab Tl)<|Tr undef zr (λw=>bO ab Tl)<|Tr undef zr (λw=>bO ab Tl)<|Tr undef zr (λw=>bO ab Tl)<|Tr undef zr (λw=>bO ab Tl)<|Tr undef zr (λw=>bO ab Tl)<|TO zr<|bO ab<|LD zr<|bO ab<|LD zr<|bO ab<|uW zr<|bO ab<|bJ zr ?_;exact fH ab (vb false)<|bJ zr<|aP (vb false)<|Tj<|TA<|oi o▸⟨rfl,j.sp 3 [0,2]⟩;rintro _ w⟨O,rfl,j⟩;refine aG<|dR hb (λhc hb=>?_) λhc hb=>?_;exact w_<|aP (vi 8)<|AI<|TL<|jW<|bQ<|oi hb▸⟨rfl,cC ⟨rfl,j.drop 2⟩⟩;exact Tw<|bR<|bR<|aG<|IT<|TF hk hm<|mv (vi ((ad+1:Nat):Int))<|AS<|oi hb▸⟨rfl,j.sp 2 [0,1]⟩;intro r U w e hK;subst e;exact bQ<|oi hb▸hK;rintro ak _ w rfl⟨O,rfl,j⟩;rw[Fo.dN]at hb;exact aG<|w_<|aP (vi 0)<|AI<|Tb<|oi hb▸cC ⟨rfl,j.drop 2⟩
theorem ui(o:Holds E w V)(j:mG N p0 p1 p2 p3=some res):c_ 95 [vi p0,vi p1,vi p2,vi p3] w<|aR E V res:=by
 unfold mG at j;refine enter Tryz.func95 zr zr<|w_<|aP (vi 0)<|OF<|mv (vi p2)<|mv (vi p1)<|S5 p2 p1<|S5 (wrap .i64<|p2 - p1) 1<|mv (vi p0) ?_;refine mv (vi p3)<|S5 p0 p3<|S5 (wrap .i64<|p0 - p3) 1<|Vd 0 (wrap .i64<|wrap .i64 (p2 - p1)+1) (wrap .i64<|wrap .i64 (p0 - p3)+1) zt zr zr zr zr<|aP (vi (if(if 0<(wrap .i64<|wrap .i64 (p2 - p1)+1)then wrap .i64 (wrap .i64 (p2 - p1)+1)else 0)<(wrap .i64<|wrap .i64 (p0 - p3)+1)then wrap .i64 (wrap .i64 (p0 - p3)+1)else(if 0<(wrap .i64<|wrap .i64 (p2 - p1)+1)then wrap .i64 (wrap .i64 (p2 - p1)+1)else 0)))<|AI<|Tb ?_;exact oi j▸cC ⟨rfl,o.drop 0⟩
theorem ET{p0 p1:aI}(j:Holds E w V)(h0:V[i0]? =some (rd v0 p0))(h1:V[i1]? =some (rd v1 p1))(o:tV N p0 p1=some res):c_ 53 [v0,v1] w<|aR E V res:=by
 unfold tV at o;refine enter Tryz.func53 zr zr ?_;have j:=(j.dup (i0+0) h0).dup (i1+1) h1;refine w_<|Tm 1 v0 j zr λaa w j=>?_;refine Tm 1 v1 j zr λab w j=>?_;refine aP (vi 0)<|BY ?_;have j:=j.drew;refine Uy (λw=>Holds E w<|[bx 75 ab p1,bx 75 aa p0]++V) mixed [0,0,0,0,0,0,0,0,2,1,1,1,1,1,1,1,1,2,0,0] [0,1,2,3,4,5,6,7,9,10,11,12,13,14,15,16,8,17,18,19] (j.pk 4 [0,1])<|Th zr<|By zr jc<|bJ zr<|S4 1 j zr eF cI<|bJ zr<|By zr j5<|bJ zr<|S4 1 j zr fF cI ?_;refine bJ zr<|By zr jc<|bJ zr<|S4 0 j zr eF cI<|bJ zr<|By zr j5<|bJ zr<|S4 0 j zr fF cI<|Tj<|Tr (vp aa 1) zr (λw=>By zr iV Tl)<|Uu (vi p0.Y0) zr (λw j=>S4 1 j zr dX cI Tl)<|Tr (vp aa 3) zr (λw=>By zr lT Tl)<|Uu (vi p0.Y1) zr (λw j=>S4 1 j zr gz cI Tl)<|Tr (vp ab 1) zr (λw=>By zr iV Tl)<|Uu (vi p1.Y0) zr (λw j=>S4 0 j zr dX cI Tl)<|Tr (vp ab 3) zr (λw=>By zr lT Tl)<|Uu (vi p1.Y1) zr (λw j=>S4 0 j zr gz cI Tl)<|TO zr ?_;refine q_ o λad af o=>IN zt zr Pq [vi p0.X0,vi p0.X1,vi p1.X0,vi p1.X1] zr<|aF (ui N (p0:=p0.X0) (p1:=p0.X1) (p2:=p1.X0) (p3:=p1.X1) j af) ?_;rintro _ w⟨rfl,j⟩;refine TB (j.pk 4 [0,1])<|TO zr<|q_ o λae ag o=>IN zt zr Pq [vi p0.Y0,vi p0.Y1,vi p1.Y0,vi p1.Y1] zr<|aF (ui N (p0:=p0.Y0) (p1:=p0.Y1) (p2:=p1.Y0) (p3:=p1.Y1) j ag) ?_;rintro _ w⟨rfl,j⟩;refine TB (j.pk 4 [0,1])<|Th zr<|Uo ad ae<|bJ zr<|aP (vi (if ad<ae then ae else ad))<|Tj<|TA<|aG<|Tb ?_;exact oi o▸cC ⟨rfl,j.drop 4⟩
end Go.Gk
