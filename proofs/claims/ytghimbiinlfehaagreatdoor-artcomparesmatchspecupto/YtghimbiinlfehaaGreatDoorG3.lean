/-
  Printed texts: Go functions as plain functions, and that they are. No statement of the seed is proved here.
-/
import Derived.Test.YtghimbiinlfehaaGreatDoorG1
import Derived.Test.YtghimbiinlfehaaGreatDoorG2
import Derived.Test.YtghimbiinlfehaaGreatDoorA2
set_option linter.defProp false
set_option linter.unusedVariables false
set_option linter.unusedSimpArgs false
set_option linter.unusedSectionVars false
set_option maxRecDepth 100000
set_option maxHeartbeats 40000000
namespace Go.Gk
open Go IntKind Go.Proofs
variable (N:Nat){E w:aY}{b1 i0 i1:Nat}{p0 p1 p2 p3 res:Int}{v0 v1 C_ v2:aW}{V:Z HP}
def kC{p0:cL}{res:aJ}(j:Holds E w V)(h0:V[i0]? =some (rd v0 p0))(o:iJ N p0=some res):c_ 57 [v0] w<|sq E V res:=by
 unfold iJ at o;refine enter Tryz.func57 zr zr ?_;have j:=j.dup (i0+0) h0;refine w_<|YC 0 v0 j zr λaa w j=>?_;refine YN j sj.z λab w j=>?_;refine OF<|Zb mixed ?_;have j:=j.drew;refine Za<|AT zr Ey<|AS<|AT zr CC<|AS<|T_ (f:=(λx=>x.At.X)) 1 j zr (Fd.comp (f:=λ(x:cL)=>x.At) (λ(x:kF)=>x.X) uW rC) cT<|AS<|AT zr wM<|AS<|T_ 1 j zr oW cT<|AS<|ZU p0.eC 2<|AS<|W_ p0.At.X (cE<|Int.tdiv p0.eC 2)<|AS<|AT zr Ey<|AS<|AT zr CD ?_;refine AS<|T_ (f:=(λx=>x.At.Y)) 1 j zr (Fd.comp (f:=λ(x:cL)=>x.At) (λ(x:kF)=>x.Y) uW rD) cT<|AS<|AT zr wM<|AS<|T_ 1 j zr oW cT<|AS<|ZU p0.eC 2<|AS<|W_ p0.At.Y (cE<|Int.tdiv p0.eC 2)<|AS<|aH (cE<|p0.At.X -(cE<|Int.tdiv p0.eC 2))<|AS<|aH (cE<|p0.At.Y -(cE<|Int.tdiv p0.eC 2))<|YZ<|aC<|w_<|aX (cE<|p0.At.X -(cE<|Int.tdiv p0.eC 2)) ?_;refine aX (cE<|p0.At.Y -(cE<|Int.tdiv p0.eC 2))<|aX (cE<|p0.At.X -(cE<|Int.tdiv p0.eC 2))<|AT zr wM<|T_ 1 j zr oW cT<|W_ (cE<|p0.At.X -(cE<|Int.tdiv p0.eC 2)) p0.eC<|aX (cE<|p0.At.Y -(cE<|Int.tdiv p0.eC 2))<|AT zr wM<|T_ 1 j zr oW cT<|W_ (cE<|p0.At.Y -(cE<|Int.tdiv p0.eC 2)) p0.eC ?_;have j:=((j.sc Int<|cE<|p0.At.X -(cE<|Int.tdiv p0.eC 2)).sc Int<|cE<|p0.At.Y -(cE<|Int.tdiv p0.eC 2)).sc Int<|cE<|cE (p0.At.X -(cE<|Int.tdiv p0.eC 2))+p0.eC;have j:=j.sc Int<|cE<|cE (p0.At.Y -(cE<|Int.tdiv p0.eC 2))+p0.eC;refine Ze (⟨cE<|p0.At.X -(cE<|Int.tdiv p0.eC 2),cE<|p0.At.Y -(cE<|Int.tdiv p0.eC 2),cE<|cE (p0.At.X -(cE<|Int.tdiv p0.eC 2))+p0.eC,cE<|cE (p0.At.Y -(cE<|Int.tdiv p0.eC 2))+p0.eC⟩:aJ) trivial rfl j [(0,vi<|cE<|p0.At.X -(cE<|Int.tdiv p0.eC 2)),(1,vi<|cE<|p0.At.Y -(cE<|Int.tdiv p0.eC 2)),(2,vi<|cE<|cE (p0.At.X -(cE<|Int.tdiv p0.eC 2))+p0.eC),(3,vi<|cE<|cE (p0.At.Y -(cE<|Int.tdiv p0.eC 2))+p0.eC)] rfl KY rfl (λM hs g=>by have h:=yk M;exact cM.cons (f:=λ(x:aJ)y=>{x with X0:=y}) h tf (g.sat 3 _ rfl).1 λ_ h=>cM.cons (f:=λ(x:aJ)y=>{x with Y0:=y}) h uU (g.sat 2 _ rfl).1 λ_ h=>cM.cons (f:=λ(x:aJ)y=>{x with X1:=y}) h tg (g.sat 1 _ rfl).1 λ_ h=>cM.cons (f:=λ(x:aJ)y=>{x with Y1:=y}) h uV (g.sat 0 _ rfl).1 λ_ h=>cM.nil h) λad j=>?_;refine YH 5 j 0 zr jK λw j=>?_;refine AI<|Yj ?_;obtain rfl:=oi o;exact Rl 5 zr j zr zr jK λae j=>j.pk 9 [0]
def BR{p0:Z aB}{res:aJ}(j:Holds E w V)(h0:V[i0]? =some (rd v0 p0))(hb:qx N p0=some res):
    c_ 117 [v0] w<|sq E V res:=by
 unfold qx at hb
 refine enter Tryz.func117 zr zr ?_
 have j:=j.dup (i0+0) h0
 refine w_<|YN j sj.z λbf w j=>?_
 refine OF ?_
 obtain⟨bh,bm,hb⟩:=bd hb
 obtain⟨bb,bn,hb⟩:=bd hb
 obtain⟨a8,bo,hb⟩:=bd hb
 obtain⟨bj,bp,hb⟩:=bd hb
 obtain⟨bc,bq,hb⟩:=bd hb
 obtain⟨a9,br,hb⟩:=bd hb
 refine Zt E V mixed [1,0,0,0,0,0,1,0,0,0,1,0,0,0,0,0,1,1,0,1,0,0,0,0,0,0] [1,2,3,4,7,8,11,12,13,14,20,21,23,24,25] (λ(x:aW×aW×aW×aW×aW×aW×aW×aW×aW×aW×aW×aW×aW×Nat)=>(λah ai aj ak al an ao aq ar au av aw ax ae=>[(0,6,v0),(1,7,ah),(2,8,ai),(3,9,aj),(4,10,ak),(5,11,vi bb),(6,12,v0),(7,13,al),(8,14,an),(9,15,vi a8.Y0),(10,16,v0),(11,17,ao),(12,18,aq),(13,19,ar),(14,20,au),(15,21,vi bc),(16,22,v0),(17,23,v0),(18,24,vi p0.length),(19,25,vi<|cE<|(p0.length:Int) - 1),(20,26,av),(21,27,aw),(22,28,vi a9.Y1),(23,29,ax),(24,3,vp ae 0)]) x.1 x.2.1 x.2.2.1 x.2.2.2.1 x.2.2.2.2.1 x.2.2.2.2.2.1 x.2.2.2.2.2.2.1 x.2.2.2.2.2.2.2.1 x.2.2.2.2.2.2.2.2.1 x.2.2.2.2.2.2.2.2.2.1 x.2.2.2.2.2.2.2.2.2.2.1 x.2.2.2.2.2.2.2.2.2.2.2.1 x.2.2.2.2.2.2.2.2.2.2.2.2.1 x.2.2.2.2.2.2.2.2.2.2.2.2.2) [(0,v0),(2,vp bf 0)] [] (λ(D:Nat->Bool)(x:aW×aW×aW×aW×aW×aW×aW×aW×aW×aW×aW×aW×aW×Nat)=>(λah ai aj ak al an ao aq ar au av aw ax ae=>[bif D 0 then pt ah bh else bJ,bif D 1 then pt ai bh.Xs else bJ,bif D 2 then rd aj bh.Xs else bJ,bif D 3 then pt ak bb else bJ,bif D 4 then pt al a8 else bJ,bif D 5 then pt an a8.Y0 else bJ,bif D 6 then pt ao bj else bJ,bif D 7 then pt aq bj.Xs else bJ,bif D 8 then rd ar bj.Xs else bJ,bif D 9 then pt au bc else bJ,bif D 10 then pt av a9 else bJ,bif D 11 then pt aw a9.Y1 else bJ,bif D 12 then rd ax (⟨bb,a8.Y0,bc,a9.Y1⟩:aJ)else bJ,bif D 14 then bx 95 ae (⟨bb,a8.Y0,bc,a9.Y1⟩:aJ)else(bif D 13 then raw 95 ae 4 else bJ),raw 95 bf 4,rd v0 p0]) x.1 x.2.1 x.2.2.1 x.2.2.2.1 x.2.2.2.2.1 x.2.2.2.2.2.1 x.2.2.2.2.2.2.1 x.2.2.2.2.2.2.2.1 x.2.2.2.2.2.2.2.2.1 x.2.2.2.2.2.2.2.2.2.1 x.2.2.2.2.2.2.2.2.2.2.1 x.2.2.2.2.2.2.2.2.2.2.2.1 x.2.2.2.2.2.2.2.2.2.2.2.2.1 x.2.2.2.2.2.2.2.2.2.2.2.2.2) (λx=>by kernel_rfl) ?_ ⟨λ_=>jh gn,?_,?_,?_,?_,?_,λ_=>jh gn,?_,?_,?_,λ_=>jh gn,?_,?_,?_,?_,?_,λ_=>jh gn,λ_=>jh gn,?_,λ_=>Ta gn rfl,?_,?_,?_,?_,?_,?_,trivial⟩ ?_
 ·have j:=((((((((((((j.drew).bJ).bJ).bJ).bJ).bJ).bJ).bJ).bJ).bJ).bJ).bJ).bJ
  have j:=(j.bJ).bJ
  exact⟨(undef,undef,undef,undef,undef,undef,undef,undef,undef,undef,undef,undef,undef,0),eH.none,Jw zr,zt,j⟩
 ·rintro D U w hD aa ag⟨⟨ah,ai,aj,ak,al,an,ao,aq,ar,au,av,aw,ax,ae⟩,o,ha,_,j⟩
  dsimp only at o j
  obtain⟨O,rfl⟩:=o.o1 0 aa
  have j:=j.bZ 0 hD
  refine IT 15 j oH bm λbt j=>?_
  have j:=j.nw 0
  exact Yl (bt,ai,aj,ak,al,an,ao,aq,ar,au,av,aw,ax,ae) 1 o ha j
 ·rintro D U w hD aa ag⟨⟨ah,ai,aj,ak,al,an,ao,aq,ar,au,av,aw,ax,ae⟩,o,ha,_,j⟩
  dsimp only at o j
  obtain⟨O,rfl⟩:=o.o1 1 aa
  have j:=(j.dY 0<|aa.1 rfl).bZ 1 hD
  refine Yw 0 j zr py eW λbu j=>?_
  have j:=((j.pl 17 [1,0,3,4,5,6,7,8,9,10,11,12,13,14,15,16] rfl).cU 0 (D 1) (aa.1 rfl) bJ).cU 1 true rfl bJ
  exact Yl (ah,bu,aj,ak,al,an,ao,aq,ar,au,av,aw,ax,ae) 2 o ha j
 ·rintro D U w hD aa ag⟨⟨ah,ai,aj,ak,al,an,ao,aq,ar,au,av,aw,ax,ae⟩,o,ha,_,j⟩
  dsimp only at o j
  obtain⟨O,rfl⟩:=o.o1 2 aa
  have j:=(j.dY 1<|aa.1 rfl).bZ 2 hD
  refine Yk 1 bh.Xs j gF λbw j=>?_
  have j:=((j.pl 17 [1,2,0,4,5,6,7,8,9,10,11,12,13,14,15,16] rfl).cU 1 (D 2) (aa.1 rfl) bJ).cU 2 true rfl bJ
  exact Yl (ah,ai,bw,ak,al,an,ao,aq,ar,au,av,aw,ax,ae) 3 o ha j
 ·rintro D U w hD aa ag⟨⟨ah,ai,aj,ak,al,an,ao,aq,ar,au,av,aw,ax,ae⟩,o,ha,_,j⟩
  dsimp only at o j
  obtain⟨O,rfl⟩:=o.o1 3 aa
  have j:=(j.dY 2<|aa.1 rfl).bZ 3 hD
  refine IT 2 j eR bn λbz j=>?_
  have j:=((j.pl 17 [1,2,3,0,5,6,7,8,9,10,11,12,13,14,15,16] rfl).cU 2 (D 3) (aa.1 rfl) bJ).cU 3 true rfl bJ
  exact Yl (ah,ai,aj,bz,al,an,ao,aq,ar,au,av,aw,ax,ae) 4 o ha j
 ·rintro D U w hD aa ag⟨⟨ah,ai,aj,ak,al,an,ao,aq,ar,au,av,aw,ax,ae⟩,o,ha,_,j⟩
  dsimp only at o j
  obtain⟨O,rfl⟩:=o.o1 4 aa
  have j:=j.dY 3<|aa.1 rfl
  refine Yu bb 3 j cT ?_
  have j:=j.cU 3 (D 4) (aa.1 rfl) bJ
  exact Yl (ah,ai,aj,ak,al,an,ao,aq,ar,au,av,aw,ax,ae) 5 o ha j
 ·rintro D U w hD aa ag⟨⟨ah,ai,aj,ak,al,an,ao,aq,ar,au,av,aw,ax,ae⟩,o,ha,_,j⟩
  dsimp only at o j
  obtain⟨O,rfl⟩:=o.o1 6 aa
  have j:=j.bZ 4 hD
  refine IT 15 j oH bo λb0 j=>?_
  have j:=j.nw 4
  exact Yl (ah,ai,aj,ak,b0,an,ao,aq,ar,au,av,aw,ax,ae) 7 o ha j
 ·rintro D U w hD aa ag⟨⟨ah,ai,aj,ak,al,an,ao,aq,ar,au,av,aw,ax,ae⟩,o,ha,_,j⟩
  dsimp only at o j
  obtain⟨O,rfl⟩:=o.o1 7 aa
  have j:=(j.dY 4<|aa.1 rfl).bZ 5 hD
  refine Yw 4 j zr ux jk λb2 j=>?_
  have j:=((j.pl 17 [1,2,3,4,5,0,7,8,9,10,11,12,13,14,15,16] rfl).cU 4 (D 7) (aa.1 rfl) bJ).cU 5 true rfl bJ
  exact Yl (ah,ai,aj,ak,al,b2,ao,aq,ar,au,av,aw,ax,ae) 8 o ha j
 ·rintro D U w hD aa ag⟨⟨ah,ai,aj,ak,al,an,ao,aq,ar,au,av,aw,ax,ae⟩,o,ha,_,j⟩
  dsimp only at o j
  obtain⟨O,rfl⟩:=o.o1 8 aa
  have j:=j.dY 5<|aa.1 rfl
  refine Yu a8.Y0 5 j cT ?_
  have j:=j.cU 5 (D 8) (aa.1 rfl) bJ
  exact Yl (ah,ai,aj,ak,al,an,ao,aq,ar,au,av,aw,ax,ae) 9 o ha j
 ·rintro D U w hD aa ag⟨⟨ah,ai,aj,ak,al,an,ao,aq,ar,au,av,aw,ax,ae⟩,o,ha,_,j⟩
  dsimp only at o j
  obtain⟨O,rfl⟩:=o.o1 10 aa
  have j:=j.bZ 6 hD
  refine IT 15 j oH bp λb3 j=>?_
  have j:=j.nw 6
  exact Yl (ah,ai,aj,ak,al,an,b3,aq,ar,au,av,aw,ax,ae) 11 o ha j
 ·rintro D U w hD aa ag⟨⟨ah,ai,aj,ak,al,an,ao,aq,ar,au,av,aw,ax,ae⟩,o,ha,_,j⟩
  dsimp only at o j
  obtain⟨O,rfl⟩:=o.o1 11 aa
  have j:=(j.dY 6<|aa.1 rfl).bZ 7 hD
  refine Yw 6 j zr py eW λb4 j=>?_
  have j:=((j.pl 17 [1,2,3,4,5,6,7,0,9,10,11,12,13,14,15,16] rfl).cU 6 (D 11) (aa.1 rfl) bJ).cU 7 true rfl bJ
  exact Yl (ah,ai,aj,ak,al,an,ao,b4,ar,au,av,aw,ax,ae) 12 o ha j
 ·rintro D U w hD aa ag⟨⟨ah,ai,aj,ak,al,an,ao,aq,ar,au,av,aw,ax,ae⟩,o,ha,_,j⟩
  dsimp only at o j
  obtain⟨O,rfl⟩:=o.o1 12 aa
  have j:=(j.dY 7<|aa.1 rfl).bZ 8 hD
  refine Yk 7 bj.Xs j gF λb5 j=>?_
  have j:=((j.pl 17 [1,2,3,4,5,6,7,8,0,10,11,12,13,14,15,16] rfl).cU 7 (D 12) (aa.1 rfl) bJ).cU 8 true rfl bJ
  exact Yl (ah,ai,aj,ak,al,an,ao,aq,b5,au,av,aw,ax,ae) 13 o ha j
 ·rintro D U w hD aa ag⟨⟨ah,ai,aj,ak,al,an,ao,aq,ar,au,av,aw,ax,ae⟩,o,ha,_,j⟩
  dsimp only at o j
  obtain⟨O,rfl⟩:=o.o1 13 aa
  have j:=(j.dY 8<|aa.1 rfl).bZ 9 hD
  refine IT 8 j eR bq λb6 j=>?_
  have j:=((j.pl 17 [1,2,3,4,5,6,7,8,9,0,11,12,13,14,15,16] rfl).cU 8 (D 13) (aa.1 rfl) bJ).cU 9 true rfl bJ
  exact Yl (ah,ai,aj,ak,al,an,ao,aq,ar,b6,av,aw,ax,ae) 14 o ha j
 ·rintro D U w hD aa ag⟨⟨ah,ai,aj,ak,al,an,ao,aq,ar,au,av,aw,ax,ae⟩,o,ha,_,j⟩
  dsimp only at o j
  obtain⟨O,rfl⟩:=o.o1 14 aa
  have j:=j.dY 9<|aa.1 rfl
  refine Yu bc 9 j cT ?_
  have j:=j.cU 9 (D 14) (aa.1 rfl) bJ
  exact Yl (ah,ai,aj,ak,al,an,ao,aq,ar,au,av,aw,ax,ae) 15 o ha j
 ·rintro D U w hD aa ag⟨⟨ah,ai,aj,ak,al,an,ao,aq,ar,au,av,aw,ax,ae⟩,o,ha,_,j⟩
  dsimp only at o j
  obtain⟨O,rfl⟩:=o.o1 17 aa
  refine S_ 15 p0 j uk ?_
  exact Yl (ah,ai,aj,ak,al,an,ao,aq,ar,au,av,aw,ax,ae) 18 o ha j
 ·rintro D U w hD aa ag⟨⟨ah,ai,aj,ak,al,an,ao,aq,ar,au,av,aw,ax,ae⟩,o,ha,_,j⟩
  dsimp only at o j
  obtain⟨O,rfl⟩:=o.o2 16 19 aa
  have j:=j.bZ 10 hD
  refine IT 15 j oH br λb7 j=>?_
  have j:=j.nw 10
  exact Yl (ah,ai,aj,ak,al,an,ao,aq,ar,au,b7,aw,ax,ae) 20 o ha j
 ·rintro D U w hD aa ag⟨⟨ah,ai,aj,ak,al,an,ao,aq,ar,au,av,aw,ax,ae⟩,o,ha,_,j⟩
  dsimp only at o j
  obtain⟨O,rfl⟩:=o.o1 20 aa
  have j:=(j.dY 10<|aa.1 rfl).bZ 11 hD
  refine Yw 10 j zr ry gR λb8 j=>?_
  have j:=((j.pl 17 [1,2,3,4,5,6,7,8,9,10,11,0,13,14,15,16] rfl).cU 10 (D 20) (aa.1 rfl) bJ).cU 11 true rfl bJ
  exact Yl (ah,ai,aj,ak,al,an,ao,aq,ar,au,av,b8,ax,ae) 21 o ha j
 ·rintro D U w hD aa ag⟨⟨ah,ai,aj,ak,al,an,ao,aq,ar,au,av,aw,ax,ae⟩,o,ha,_,j⟩
  dsimp only at o j
  obtain⟨O,rfl⟩:=o.o1 21 aa
  have j:=j.dY 11<|aa.1 rfl
  refine Yu a9.Y1 11 j cT ?_
  have j:=j.cU 11 (D 21) (aa.1 rfl) bJ
  exact Yl (ah,ai,aj,ak,al,an,ao,aq,ar,au,av,aw,ax,ae) 22 o ha j
 ·rintro D U w hD aa ag⟨⟨ah,ai,aj,ak,al,an,ao,aq,ar,au,av,aw,ax,ae⟩,o,ha,_,j⟩
  dsimp only at o j
  obtain⟨O,rfl⟩:=(ac (o.at 5 rfl<|aa.1 rfl)<|ac (o.at 9 rfl<|aa.2.1 rfl)<|ac (o.at 15 rfl<|aa.2.2.1 rfl)<|ac (o.at 22 rfl<|aa.2.2.2.1 rfl) az).uR
  have j:=((((j.bZ 12 hD).sc Int bb).sc Int a8.Y0).sc Int bc).sc Int a9.Y1
  refine Ze (⟨bb,a8.Y0,bc,a9.Y1⟩:aJ) trivial rfl j [(0,vi bb),(1,vi a8.Y0),(2,vi bc),(3,vi a9.Y1)] rfl KY rfl (λM hs g=>by have h:=yk M;exact cM.cons (f:=λ(x:aJ)y=>{x with X0:=y}) h tf (g.sat 3 _ rfl).1 λ_ h=>cM.cons (f:=λ(x:aJ)y=>{x with Y0:=y}) h uU (g.sat 2 _ rfl).1 λ_ h=>cM.cons (f:=λ(x:aJ)y=>{x with X1:=y}) h tg (g.sat 1 _ rfl).1 λ_ h=>cM.cons (f:=λ(x:aJ)y=>{x with Y1:=y}) h uV (g.sat 0 _ rfl).1 λ_ h=>cM.nil h) λb9 j=>?_
  have j:=(j.pl 21 [5,6,7,8,9,10,11,12,13,14,15,16,0,18,19,20] rfl).cU 12 true rfl bJ
  exact Yl (ah,ai,aj,ak,al,an,ao,aq,ar,au,av,aw,b9,ae) 23 o ha j
 ·rintro D U w hD aa ag⟨⟨ah,ai,aj,ak,al,an,ao,aq,ar,au,av,aw,ax,ae⟩,o,ha,_,j⟩
  dsimp only at o j
  obtain⟨O,rfl⟩:=TK U
  have j:=(j.bZ 13<|nh ag hD 25).bZ 13 hD
  refine YN j sj.z λbl w j=>?_
  have j:=(j.nw 13).eD 13 (D 25) (nh ag hD 25)<|bx 95 bl (⟨bb,a8.Y0,bc,a9.Y1⟩:aJ)
  exact Yl (ah,ai,aj,ak,al,an,ao,aq,ar,au,av,aw,ax,bl) 24 o ha j
 ·rintro D U w hD aa ag⟨⟨ah,ai,aj,ak,al,an,ao,aq,ar,au,av,aw,ax,ae⟩,o,ha,_,j⟩
  dsimp only at o j
  obtain⟨O,rfl⟩:=o.o2 24 23 aa
  have j:=((j.dY 12<|aa.2.1 rfl).bZ 13 hD).dY 13<|aa.1 rfl
  refine YH 13 j 12 zr jK λw j=>?_
  have j:=(j.cU 12 (D 23) (aa.2.1 rfl) bJ).cU 13 true rfl (bif D 24 then raw 95 ae 4 else bJ)
  exact Zu (ah,ai,aj,ak,al,an,ao,aq,ar,au,av,aw,ax,ae) o ha j
 rintro D U w a6⟨⟨ah,ai,aj,ak,al,an,ao,aq,ar,au,av,aw,ax,ae⟩,o,ha,_,j⟩
 simp only[List.getD_cons_zero,List.getD_cons_succ,a6 1 (by decide),a6 2 (by decide),a6 3 (by decide),a6 4 (by decide),a6 7 (by decide),a6 8 (by decide),a6 11 (by decide),a6 12 (by decide),a6 13 (by decide),a6 14 (by decide),a6 20 (by decide),a6 21 (by decide),a6 23 (by decide),a6 25 (by decide),aO]at j
 obtain⟨O,rfl⟩:=(ac (o.at 24 rfl<|BG a6 24) ha).uR
 refine aC<|BY<|w_<|mv v0<|S_ 15 p0 j uk<|aX 0<|AI<|ZI E V (λ(af:aJ)=>[raw 95 bf 4,bx 95 ae af,rd v0 p0]) (λ_=>[(2,vp bf 0),(3,vp ae 0)]) (λbk _=>[(30,v0),(31,vi p0.length),(32,vi bk)]) hb ?_ ?_ ?_
 ·exact j.sp 16 [14,13,15]
 ·rintro hm bk af s' _ w hk⟨O,rfl,j⟩hb
  refine BY<|Yr ?_
  obtain⟨ba,cc,hb⟩:=bd hb
  refine IT 2 j oH cc λcd j=>Yk 0 ba j DB λcf j=>YN j KX.z λbg w j=>?_
  refine YH 0 j 1 zr DB λw j=>?_
  refine AI ?_
  obtain⟨a5,cg,hb⟩:=bd hb
  obtain⟨a7,ch,hb⟩:=bd hb
  refine Zt E V mixed [1,0,1,0,0,0,0,1,0,1,0,1,0,0,1,0,0,0,1,0,1,0] [3,4,10,12,15,19,21] (λ(x:aW×aW×aW×aW×aW)=>(λay a0 a1 a2 a3=>[(0,36,vp ae 0),(1,37,vi af.X0),(2,38,vp bg 2),(3,39,ay),(4,40,a0),(5,41,vi a5),(6,42,vi (if a5<af.X0 then a5 else af.X0)),(7,43,vp ae 2),(8,44,vi af.X1),(9,45,vp bg 2),(10,46,a1),(11,47,vp bg 2),(12,48,a2),(13,49,vi ba.Xs.length),(14,50,vi<|cE<|(ba.Xs.length:Int) - 1),(15,51,a3),(16,52,vi a7),(17,53,vi (if af.X1<a7 then a7 else af.X1)),(18,54,vp ae 0),(20,55,vp ae 2)]) x.1 x.2.1 x.2.2.1 x.2.2.2.1 x.2.2.2.2) [(2,vp bf 0),(3,vp ae 0),(5,vp bg 0),(30,v0),(31,vi p0.length),(32,vi bk)] [] (λ(D:Nat->Bool)(x:aW×aW×aW×aW×aW)=>(λay a0 a1 a2 a3=>[bif D 0 then rd ay ba.Xs else bJ,bif D 1 then pt a0 a5 else bJ,bif D 2 then rd a1 ba.Xs else bJ,bif D 3 then rd a2 ba.Xs else bJ,bif D 4 then pt a3 a7 else bJ,bx 182 bg ba,rd cf ba,pt cd ba,raw 95 bf 4,bif D 6 then bx 95 ae {{af with X0:=(if a5<af.X0 then a5 else af.X0)}with X1:=(if af.X1<a7 then a7 else af.X1)}else(bif D 5 then bx 95 ae {af with X0:=(if a5<af.X0 then a5 else af.X0)}else bx 95 ae af),rd v0 p0]) x.1 x.2.1 x.2.2.1 x.2.2.2.1 x.2.2.2.2) (λx=>by kernel_rfl) ?_ ⟨λ_=>qM gn jq,?_,λ_=>qM gn py,?_,?_,?_,?_,λ_=>qM gn kA,?_,λ_=>qM gn py,?_,λ_=>qM gn py,?_,?_,λ_=>Ta gn rfl,?_,?_,?_,λ_=>qM gn jq,?_,λ_=>qM gn kA,?_,trivial⟩ ?_
  ·have j:=(((((j.drew).bJ).bJ).bJ).bJ).bJ
   exact⟨(undef,undef,undef,undef,undef),eH.none,Jw zr,zt,j⟩
  ·rintro D U w hD aa ag⟨⟨ay,a0,a1,a2,a3⟩,o,ha,_,j⟩
   obtain⟨O,rfl⟩:=o.o1 0 aa
   have j:=(j.bZ 9<|nh ag hD 21).bZ 9<|nh ag hD 19
   refine T_ 9 j zr eG cT ?_
   have j:=(j.eD 9 (D 19) (nh ag hD 19)<|bx 95 ae {af with X0:=(if a5<af.X0 then a5 else af.X0)}).eD 9 (D 21) (nh ag hD 21)<|bx 95 ae {{af with X0:=(if a5<af.X0 then a5 else af.X0)}with X1:=(if af.X1<a7 then a7 else af.X1)}
   exact Yl (ay,a0,a1,a2,a3) 1 o ha j
  ·rintro D U w hD aa ag⟨⟨ay,a0,a1,a2,a3⟩,o,ha,_,j⟩
   obtain⟨O,rfl⟩:=o.o1 2 aa
   have j:=j.bZ 0 hD
   refine Yt 5 j zr eW gF λcj j=>?_
   have j:=j.nw 0
   exact Yl (cj,a0,a1,a2,a3) 3 o ha j
  ·rintro D U w hD aa ag⟨⟨ay,a0,a1,a2,a3⟩,o,ha,_,j⟩
   obtain⟨O,rfl⟩:=o.o1 3 aa
   have j:=(j.dY 0<|aa.1 rfl).bZ 1 hD
   refine IT 0 j eR cg λck j=>?_
   have j:=((j.pl 12 [1,0,3,4,5,6,7,8,9,10,11] rfl).cU 0 (D 3) (aa.1 rfl) bJ).cU 1 true rfl bJ
   exact Yl (ay,ck,a1,a2,a3) 4 o ha j
  ·rintro D U w hD aa ag⟨⟨ay,a0,a1,a2,a3⟩,o,ha,_,j⟩
   obtain⟨O,rfl⟩:=o.o1 4 aa
   have j:=j.dY 1<|aa.1 rfl
   refine Yu a5 1 j cT ?_
   have j:=j.cU 1 (D 4) (aa.1 rfl) bJ
   exact Yl (ay,a0,a1,a2,a3) 5 o ha j
  ·rintro D U w hD aa ag⟨⟨ay,a0,a1,a2,a3⟩,o,ha,_,j⟩
   obtain⟨O,rfl⟩:=o.o2 1 5 aa
   refine Zy af.X0 a5 ?_
   exact Yl (ay,a0,a1,a2,a3) 6 o ha j
  ·rintro D U w hD aa ag⟨⟨ay,a0,a1,a2,a3⟩,o,ha,_,j⟩
   obtain⟨O,rfl⟩:=o.o1 7 aa
   have j:=(j.bZ 9<|nh ag hD 21).bZ 9<|nh ag hD 19
   refine T_ 9 j zr fD cT ?_
   have j:=(j.eD 9 (D 19) (nh ag hD 19)<|bx 95 ae {af with X0:=(if a5<af.X0 then a5 else af.X0)}).eD 9 (D 21) (nh ag hD 21)<|bx 95 ae {{af with X0:=(if a5<af.X0 then a5 else af.X0)}with X1:=(if af.X1<a7 then a7 else af.X1)}
   exact Yl (ay,a0,a1,a2,a3) 8 o ha j
  ·rintro D U w hD aa ag⟨⟨ay,a0,a1,a2,a3⟩,o,ha,_,j⟩
   obtain⟨O,rfl⟩:=o.o1 9 aa
   have j:=j.bZ 2 hD
   refine Yt 5 j zr eW gF λcl j=>?_
   have j:=j.nw 2
   exact Yl (ay,a0,cl,a2,a3) 10 o ha j
  ·rintro D U w hD aa ag⟨⟨ay,a0,a1,a2,a3⟩,o,ha,_,j⟩
   obtain⟨O,rfl⟩:=o.o1 11 aa
   have j:=j.bZ 3 hD
   refine Yt 5 j zr eW gF λcm j=>?_
   have j:=j.nw 3
   exact Yl (ay,a0,a1,cm,a3) 12 o ha j
  ·rintro D U w hD aa ag⟨⟨ay,a0,a1,a2,a3⟩,o,ha,_,j⟩
   obtain⟨O,rfl⟩:=o.o1 12 aa
   have j:=j.dY 3<|aa.1 rfl
   refine S_ 3 ba.Xs j pd ?_
   have j:=j.cU 3 (D 12) (aa.1 rfl) bJ
   exact Yl (ay,a0,a1,a2,a3) 13 o ha j
  ·rintro D U w hD aa ag⟨⟨ay,a0,a1,a2,a3⟩,o,ha,_,j⟩
   obtain⟨O,rfl⟩:=o.o2 10 14 aa
   have j:=(j.dY 2<|aa.1 rfl).bZ 4 hD
   refine IT 2 j eR ch λcn j=>?_
   have j:=((j.pl 12 [1,2,3,4,0,6,7,8,9,10,11] rfl).cU 2 (D 10) (aa.1 rfl) bJ).cU 4 true rfl bJ
   exact Yl (ay,a0,a1,a2,cn) 15 o ha j
  ·rintro D U w hD aa ag⟨⟨ay,a0,a1,a2,a3⟩,o,ha,_,j⟩
   obtain⟨O,rfl⟩:=o.o1 15 aa
   have j:=j.dY 4<|aa.1 rfl
   refine Yu a7 4 j cT ?_
   have j:=j.cU 4 (D 15) (aa.1 rfl) bJ
   exact Yl (ay,a0,a1,a2,a3) 16 o ha j
  ·rintro D U w hD aa ag⟨⟨ay,a0,a1,a2,a3⟩,o,ha,_,j⟩
   obtain⟨O,rfl⟩:=o.o2 8 16 aa
   refine ZC af.X1 a7 ?_
   exact Yl (ay,a0,a1,a2,a3) 17 o ha j
  ·rintro D U w hD aa ag⟨⟨ay,a0,a1,a2,a3⟩,o,ha,_,j⟩
   obtain⟨O,rfl⟩:=o.o2 18 6 aa
   have j:=((j.bZ 9<|nh ag hD 21).bZ 9 hD).sc Int (if a5<af.X0 then a5 else af.X0)
   refine aa0 10 j zr zr zr 0 zr tf cT λw j=>?_
   have j:=((j.pl 12 [1,2,3,4,5,6,7,8,9,10,11] rfl).cU 9 true rfl<|bx 95 ae af).eD 9 (D 21) (nh ag hD 21)<|bx 95 ae {{af with X0:=(if a5<af.X0 then a5 else af.X0)}with X1:=(if af.X1<a7 then a7 else af.X1)}
   exact Zu (ay,a0,a1,a2,a3) o ha j
  ·rintro D U w hD aa ag⟨⟨ay,a0,a1,a2,a3⟩,o,ha,_,j⟩
   obtain⟨O,rfl⟩:=o.o2 19 17 aa
   have j:=((j.bZ 9 hD).dY 9<|aa.2.2.1 rfl).sc Int (if af.X1<a7 then a7 else af.X1)
   refine aa0 10 j zr zr zr 0 zr tg cT λw j=>?_
   have j:=(j.pl 12 [1,2,3,4,5,6,7,8,9,10,11] rfl).cU 9 true rfl (bif D 19 then bx 95 ae {af with X0:=(if a5<af.X0 then a5 else af.X0)}else bx 95 ae af)
   exact Zu (ay,a0,a1,a2,a3) o ha j
  rintro D U w a6⟨⟨ay,a0,a1,a2,a3⟩,o,ha,_,j⟩
  simp only[List.getD_cons_zero,List.getD_cons_succ,a6 3 (by decide),a6 4 (by decide),a6 10 (by decide),a6 12 (by decide),a6 15 (by decide),a6 21 (by decide),aO]at j
  obtain⟨O,rfl⟩:=ha.uR
  refine bE<|aC<|IN<|YL hk hm<|aX ((bk+1:Nat):Int)<|By ?_
  obtain rfl:=oi hb
  exact⟨rfl,j.sp 11 [8,9,10]⟩
 rintro af _ w hb⟨O,rfl,j⟩
 refine aC<|w_<|YA 1 j zr jK λcp j=>YH 1 j 0 zr jK λw j=>?_
 refine AI<|Yj ?_
 obtain rfl:=oi hb
 exact Rl 1 zr j zr zr jK λcq j=>j.pk 5 [0]
def DO{p0:Z aB}{res:Bool}(j:Holds E w V)(h0:V[i0]? =some (rd v0 p0))(hb:pO N p0=some res):c_ 59 [v0] w<|aN E V res:=by
 unfold pO at hb;refine enter Tryz.func59 zr zr ?_;have j:=j.dup (i0+0) h0;refine w_<|bV false<|OF<|q_ hb λad o hb=>Yo (λ(ad:Bool)=>SH E V [(2,vb ad)] []) ad ?_ ?_;refine IN<|mv v0<|S_ 0 p0 j uk<|ic ((p0.length:Int)) 0<|eV ((p0.length:Int)==0)<|eE o (λaa o=>?_) λaa o=>?_;exact bB aa<|bB aa<|bB aa<|eI aa (vb true)<|bV true<|By<|oi o▸⟨rfl,j.sp 1 []⟩;refine U_ v0 (cg aa)<|q_ o λah af o=>Yv (hg:=cg aa) (fO Tryz.func117) (BR N (i0:=0) j zr af) λai w j=>?_;exact q_ o λae ag o=>Yi (hg:=cg aa) Sn (zm N (i0:=0) j zr ag) λw j=>eI aa (vb ae)<|bV ae<|By<|oi o▸⟨rfl,j.sp 2 []⟩;rintro _ w⟨O,rfl,j⟩;exact aC<|Yj<|oi hb▸bL ⟨rfl,j.drop 0⟩
def FX(E:aY)(V:Z HP)(res:aJ×Int)(v:aW)(w:aY):Prop:=∃u0:aW,v = .tuple #[u0,vi res.2]/\Holds E w ([rd u0 res.1]++V)
def xv{p0:cL}{res:aJ×Int}(j:Holds E w V)(h0:V[i0]? =some (rd v0 p0))(o:nz N p0=some res):c_ 30 [v0] w<|FX E V res:=by
 unfold nz at o;refine enter Tryz.func30 zr zr ?_;have j:=j.dup (i0+0) h0;refine w_<|YC 0 v0 j zr λae w j=>?_;refine YN j sj.z λaf w j=>?_;refine aH 0<|OF<|BY<|q_ o λad hj o=>Yo (λ(ad:Bool)=>SH E V [(1,vp ae 0),(2,vp af 0),(14,vb ad)] [bx 99 ae p0,raw 95 af 4]) ad ?_ ?_;refine IN<|AT zr wM<|T_ 1 j zr oW cT<|q_ hj λag ai hj=>Yi RB (qE N (p0:=p0.eC) (p1:=1) (p2:=10000) j ai) λw j=>YU ag<|eV (!ag)<|eE hj (λaa hj=>?_) λaa hj=>?_;exact bB aa<|bB aa<|bB aa<|bB aa<|eI aa (vb true)<|By<|oi hj▸⟨rfl,j.sp 3 [1,0]⟩;refine AT (hg:=cg aa) zr Ey<|Yt (hg:=cg aa) 1 j zr uW KZ λax j=>?_;exact q_ hj λah aj hj=>Yi (hg:=cg aa) UH (xu N (i0:=0) j zr aj) λw j=>YU (hg:=cg aa) ah<|eI aa (vb<|!ah)<|By<|oi hj▸⟨rfl,j.sp 4 [2,1]⟩;rintro _ w⟨O,rfl,j⟩;refine aC<|cW o (λo=>?_) λo=>?_;refine w_<|Ze (⟨0,0,0,0⟩:aJ) trivial rfl j [] rfl KY rfl (λM hs g=>by have h:=yk M;exact cM.nil h) λay j=>?_;refine YH 2 j 0 zr jK λw j=>?_;refine aH 1<|AI<|YF ?_;obtain rfl:=oi o;exact Da 2 j jK λak j=>⟨ak,zr,j.pk 4 [0]⟩;refine Y7<|YA 0 j zr pf λaz j=>?_;refine q_ o λal an o=>Yv N7 (kC N (i0:=0) j zr an) λa0 w j=>YN j sj.z λa1 w j=>?_;refine YH 0 j 1 zr jK λw j=>?_;refine OF<|w_<|YA 0 j zr jK λao j=>YR ([al]:Z aJ) j [ao] kz sj (λM hs g=>⟨(g.sat 0 _ zr).1,zt⟩) λa2 w j=>?_;have j:=j.freeze 0;refine q_ o λa3 aq o=>Yv PF (p5 N (i0:=0) j zr aq) λa4 w j=>?_;have j:=j.freeze 0;refine q_ o λar au o=>Yi (fO Tryz.func59) (DO N (i0:=0) j zr au) λw j=>YU ar<|AI<|cW o (λo=>?_) λo=>?_;refine w_<|Ze (⟨0,0,0,0⟩:aJ) trivial rfl j [] rfl KY rfl (λM hs g=>by have h:=yk M;exact cM.nil h) λa5 j=>?_;refine YH 8 j 0 zr jK λw j=>?_;refine aH 1<|AI<|YF ?_;obtain rfl:=oi o;exact Da 8 j jK λav j=>⟨av,zr,j.pk 10 [0]⟩;refine Y7<|YA 3 j zr jK λa6 j=>YH 8 j 0 zr jK λw j=>?_;refine aH 0<|AI<|Yj ?_;obtain rfl:=oi o;exact Da 8 j jK λaw j=>⟨aw,zr,j.pk 10 [0]⟩
def Aw{p0:lj}(j:Holds E w V)(h0:V[i0]? =some (rd v0 p0))(o:m0 N p0=some res):c_ 67 [v0] w<|aD E V res:=by
 unfold m0 at o;refine enter Tryz.func67 zr zr ?_;have j:=j.dup (i0+0) h0;refine w_<|YC 0 v0 j zr λax w j=>?_;refine aH 0<|OF<|w_<|AT zr jr<|Yt 0 j zr iS rE λay j=>S_ 0 p0.aZ j CB<|ic ((p0.aZ.length:Int)) 500<|AI<|cW o (λo=>?_) λo=>?_;exact w_<|aH 2<|AI<|YF<|oi o▸bL ⟨rfl,j.drop 3⟩;refine Y7<|AT zr pU<|Yt 1 j zr kn t5 λaz j=>S_ 0 p0.aP j vm<|aH (p0.aP.length:Int)<|OF<|w_<|AT zr jr<|Yt 2 j zr iS rE λae j=>?_;refine S_ 0 p0.aZ j CB<|aX 0<|AI<|Zd E V (λ(ai:Unit)=>[rd ae p0.aZ]) (λ_=>[]) (λaf _=>[(3,vi p0.aP.length),(16,ae),(17,vi p0.aZ.length),(18,vi af)]) (λr=>jS bK 47 Tryz.f67 (aD E V r) .ret) o ?_ ?_ ?_ ?_;exact j.sp 5 [0];rintro hm af ai fl _ w hk⟨O,rfl,j⟩o;refine BY<|Yr<|q_ o λag aq o=>IT 0 j vo aq λa1 j=>Yk 0 ag j pf λa2 j=>YN j Mt.z λa3 w j=>?_;refine YH 0 j 1 zr pf λw j=>?_;refine OF<|w_<|YA 0 j zr pf λa4 j=>?_;refine q_ o λad ar o=>Yv UJ (xv N (i0:=0) j zr ar) ?_;rintro _ w⟨aj,rfl,j⟩;refine mv (.tuple #[aj,vi ad.2])<|Y4 aj<|Y4 (vi ad.2)<|YN j sj.z λa5 w j=>?_;refine YH 0 j 1 zr jK λw j=>?_;refine aH ad.2<|IS<|aX ad.2<|ic ad.2 0<|AI<|cW o (λo=>?_) λo=>?_;exact w_<|aX ad.2<|aH ad.2<|AI<|YF<|eL<|aU<|oi o▸⟨rfl,bL ⟨rfl,j.drop 7⟩⟩;refine Ys<|q_ o λah hj o=>Yo (λ(ah:Bool)=>SH E V [(3,vi p0.aP.length),(16,ae),(17,vi p0.aZ.length),(18,vi af),(45,vb ah)] [rd ae p0.aZ]) ah ?_ ?_;refine IN<|AT zr t6<|T_ 3 j zr mR cT<|aX (p0.aP.length:Int)<|W_ (p0.aP.length:Int) 1<|q_ hj λak au hj=>Yi RB (qE N (p0:=ag.dS) (p1:=0) (p2:=cE<|(p0.aP.length:Int) - 1) j au) λw j=>YU ak<|eV (!ak)<|eE hj (λaa hj=>?_) λaa hj=>?_;refine bB aa<|bB aa<|bB aa<|bB aa<|bB aa<|bB aa<|bB aa<|bB aa<|eI aa (vb true)<|By ?_;exact oi hj▸⟨rfl,j.sp 7 [6]⟩;refine AT (hg:=cg aa) zr wN<|T_ (hg:=cg aa) 3 j zr oX cT<|AT (hg:=cg aa) zr t6<|T_ (hg:=cg aa) 3 j zr mR cT<|U_ (vi p0.aP.length) (cg aa)<|W_ (hg:=cg aa) (p0.aP.length:Int) 1<|q_ hj λal av hj=>Yi (hg:=cg aa) RB (qE N (p0:=ag.To) (p1:=ag.dS) (p2:=cE<|(p0.aP.length:Int) - 1) j av) λw j=>YU (hg:=cg aa) al<|eI aa (vb<|!al)<|By ?_;exact oi hj▸⟨rfl,j.sp 7 [6]⟩;rintro _ w⟨O,rfl,j⟩;refine aC<|cW o (λo=>?_) λo=>?_;exact w_<|aH 1<|AI<|YI<|aU<|oi o▸⟨rfl,bL ⟨rfl,j.drop 1⟩⟩;exact YB<|bE<|aC<|IN<|YL hk hm<|aX ((af+1:Nat):Int)<|By<|oi o▸⟨rfl,j.sp 1 [0]⟩;intro r U w o hK;exact aU<|oi o▸hK;rintro ai _ w o⟨O,rfl,j⟩;exact aC<|w_<|aH 0<|AI<|Yj<|oi o▸bL ⟨rfl,j.drop 1⟩
def GU(E:aY)(V:Z HP)(res:bC)(v:aW)(w:aY):Prop:=Holds E w<|[rd v res]++V
def mS{p0:eQ}{res:bC}(j:Holds E w V)(h0:V[i0]? =some (rd v0 p0))(o:lU N p0=some res):c_ 18 [v0] w<|GU E V res:=by
 unfold lU at o;refine enter Tryz.func18 zr zr ?_;have j:=j.dup (i0+0) h0;refine w_<|YC 0 v0 j zr λaa w j=>?_;refine YN j tN.z λab w j=>?_;refine IS<|AT zr wO<|T_ 1 j zr oY lI<|AT zr Ag<|T_ 1 j zr rK lI ?_;have j:=(j.sc cD p0.Part).sc cD p0.bC;refine Ze (⟨p0.Part,p0.bC⟩:bC) trivial rfl j [(0,str p0.Part),(1,str p0.bC)] rfl RD rfl (λM hs g=>by have h:=KU M;exact cM.cons (f:=λ(x:bC)y=>{x with Part:=y}) h Dq (g.sat 1 _ rfl).1 λ_ h=>cM.cons (f:=λ(x:bC)y=>{x with bC:=y}) h Dr (g.sat 0 _ rfl).1 λ_ h=>cM.nil h) λad j=>?_;refine YH 3 j 0 zr ij λw j=>?_;refine AI<|Yj ?_;obtain rfl:=oi o;exact Rl 3 zr j zr zr ij λae j=>j.pk 7 [0]
def Ax{p0:lj}(j:Holds E w V)(h0:V[i0]? =some (rd v0 p0))(hb:m6 N p0=some res):c_ 68 [v0] w<|aD E V res:=by
 unfold m6 at hb;refine enter Tryz.func68 zr zr ?_;have j:=j.dup (i0+0) h0;refine w_<|YC 0 v0 j zr λag w j=>?_;have j:=j.kp (i:=0) rfl;refine aH 0<|OF<|w_<|Yw 0 j zr ot kY λba j=>Yk 0 p0.bW j ym λbb j=>S_ 0 p0.bW j Ie<|ic ((p0.bW.length:Int)) 1000<|AI<|cW hb (λhb=>?_) λhb=>?_;exact w_<|aH 2<|AI<|YF<|oi hb▸bL ⟨rfl,j.drop 4⟩;refine Ys<|w_<|Yw 2 j zr ot kY λbc j=>Yk 0 p0.bW j ym λah j=>S_ 0 p0.bW j Ie<|aX 0<|AI<|Zd E V (λ(au:Unit)=>[pt (vp ag 0) p0,rd ah p0.bW]) (λ_=>[]) (λad _=>[(1,vp ag 0),(10,ah),(11,vi p0.bW.length),(12,vi ad)]) (λr=>jS bK 60 Tryz.f68 (aD E V r) .ret) hb ?_ ?_ ?_ ?_;exact j.sp 6 [4,0];rintro hm ad au fl _ w hk⟨O,rfl,j⟩hb;refine BY<|Yr<|aX (ad:Int)<|q_ hb λai az hb=>IT 1 j DC az λbg j=>Yk 0 ai j t7 λbh j=>YN j N8.z λaj w j=>?_;refine aH (ad:Int)<|YH 0 j 1 zr t7 λw j=>?_;refine AI<|Y3<|BY<|q_ hb λak o hb=>Yo (λ(ak:Bool)=>SH E V [(1,vp ag 0),(3,vi ad),(4,vp aj 0),(10,ah),(11,vi p0.bW.length),(12,vi ad),(17,vb ak)] [pt (vp ag 0) p0,bx 77 aj ai,rd ah p0.bW]) ak ?_ ?_;refine IN<|AT zr wO<|T_ 0 j zr oY lI<|q_ o λav a0 o=>Yi Tg (sA N (p0:=ai.Part) j a0) λw j=>YU av<|eV (!av)<|eE o (λae o=>?_) λae o=>?_;exact bB ae<|bB ae<|bB ae<|bB ae<|eI ae (vb true)<|bV true<|By<|oi o▸⟨rfl,j.sp 5 [3,0,4]⟩;exact AT (hg:=cg ae) zr Ag<|T_ (hg:=cg ae) 0 j zr rK lI<|q_ o λal a1 o=>Yi (hg:=cg ae) Nr (pz N (p0:=ai.bC) j a1) λw j=>YU (hg:=cg ae) al<|eI ae (vb<|!al)<|bV (!al)<|By<|oi o▸⟨rfl,j.sp 5 [3,0,4]⟩;rintro _ w⟨O,rfl,j⟩;refine aC<|cW hb (λhb=>?_) λhb=>?_;exact w_<|aH 5<|AI<|YI<|eL<|aU<|oi hb▸⟨rfl,bL ⟨rfl,j.drop 3⟩⟩;refine BY<|q_ hb λan o hb=>Yo (λ(an:Bool)=>SH E V [(1,vp ag 0),(3,vi ad),(4,vp aj 0),(10,ah),(11,vi p0.bW.length),(12,vi ad),(28,vb an)] [pt (vp ag 0) p0,bx 77 aj ai,rd ah p0.bW]) an ?_ ?_;refine IN<|AT zr Ez<|T_ 1 j zr uY cT<|Yw 0 j zr pU kn λbj j=>Yk 0 p0.aP j t5 λbk j=>S_ 0 p0.aP j vm<|W_ (p0.aP.length:Int) 1<|q_ o λaw a2 o=>Yi RB (qE N (p0:=ai.dW) (p1:=0) (p2:=cE<|(p0.aP.length:Int) - 1) j a2) λw j=>YU aw<|eV (!aw)<|eE o (λaf o=>?_) λaf o=>?_;exact bB af<|bB af<|bB af<|bB af<|eI af (vb true)<|bV true<|By<|oi o▸⟨rfl,j.sp 5 [2,3,4]⟩;refine AT (hg:=cg af) zr EA<|Yt (hg:=cg af) 3 j zr uZ KZ λbl j=>?_;exact q_ o λao a3 o=>Yi (hg:=cg af) UH (xu N (i0:=0) j zr a3) λw j=>YU (hg:=cg af) ao<|eI af (vb<|!ao)<|bV (!ao)<|By<|oi o▸⟨rfl,j.sp 6 [3,4,5]⟩;rintro _ w⟨O,rfl,j⟩;refine aC<|cW hb (λhb=>?_) λhb=>?_;exact w_<|aH 1<|AI<|YI<|eL<|aU<|oi hb▸⟨rfl,bL ⟨rfl,j.drop 3⟩⟩;refine BY<|q_ hb λaq o hb=>Yo (λ(aq:Bool)=>SH E V [(1,vp ag 0),(10,ah),(11,vi p0.bW.length),(12,vi ad),(43,vb aq)] [pt (vp ag 0) p0,rd ah p0.bW]) aq ?_ ?_;refine Y8 mixed [0,0,0,0,2,1,1,1,1,1,1,2,2,0,0,0] [0,1,2,3,5,6,7,8,9,10,4,11,12,13,14,15] ?_;have j:=j.drew;refine Yn zr zr<|aX (ad:Int)<|bA zr<|ic ((ad:Int)) 0<|bA zr<|eV (decide<|(ad:Int)>0)<|Yq<|eE o (λab o=>?_) λab o=>?_;refine Yn zr zr<|YA (hg:=cg ab) 1 j zr t7 λbm j=>Yq<|ZK 1 zr (cg ab) j zr ot kY λbn j=>ZD p0.bW 0 zr (cg ab) j ym λbo a378 bp j=>YE (vi ad) zr (λw=>U_ (vi ad) (cg ab) Yz)<|YE (vi<|cE<|(ad:Int) - 1) zr (λw=>W_ (hg:=cg ab) (ad:Int) 1 Yz)<|q_ o λa4 a5 o=>Zz (hg:=cg ab) 1 zr j DC a5 λbq j=>ZD a4 0 zr (cg ab) j t7 λbr a383 bt j=>Y5 zr zr<|q_ o λbu a6 o=>Yv (hg:=cg ab) N9 (mS N (i0:=6) j zr a6) λbw w j=>YV (⟨⟨zt,j.je 4⟩,j.je 1⟩)<|Y5 zr zr<|q_ o λbz a7 o=>Yv (hg:=cg ab) N9 (mS N (i0:=2) j zr a7) λb0 w j=>YV (⟨⟨zt,j.je 5⟩,j.je 2⟩)<|Y5 zr zr ?_;refine q_ o λar a8 o=>Yi (hg:=cg ab) Rz (lW N (i0:=1) (i1:=0) j zr zr a8) λw j=>YV (⟨⟨zt,j.je 5⟩,j.je 2⟩)<|Yn zr zr<|Y6 ar 0 (cg ab)<|bA zr<|eI ab (vb<|decide<|ar<=0)<|bA zr<|bV (decide<|ar<=0)<|Yq ?_;have j:=j.pl 12 [0,1,3,4,6,7,8,9,10,11] rfl;exact YM<|oi o▸⟨rfl,j.sp 10 [7,9]⟩;refine Yn zr zr<|bB ab<|Yq<|YE undef zr (λw=>bB ab Yz)<|YE undef zr (λw=>bB ab Yz)<|YE undef zr (λw=>bB ab Yz)<|YE undef zr (λw=>bB ab Yz)<|YE undef zr (λw=>bB ab Yz)<|YE undef zr (λw=>bB ab Yz)<|Y5 zr zr<|bB ab<|L8 zr<|bB ab<|L8 zr<|bB ab<|sS zr<|bB ab<|bA zr ?_;exact eI ab (vb false)<|bA zr<|bV false<|Yq<|YM<|oi o▸⟨rfl,j.sp 3 [0,2]⟩;rintro _ w⟨O,rfl,j⟩;refine aC<|cW hb (λhb=>?_) λhb=>?_;exact w_<|aH 8<|AI<|YI<|eL<|aU<|oi hb▸⟨rfl,bL ⟨rfl,j.drop 2⟩⟩;exact YB<|bE<|bE<|aC<|IN<|YL hk hm<|aX ((ad+1:Nat):Int)<|By<|oi hb▸⟨rfl,j.sp 2 [0,1]⟩;intro r U w hb hK;exact aU<|oi hb▸hK;rintro au _ w hb⟨O,rfl,j⟩;exact aC<|w_<|aH 0<|AI<|Yj<|oi hb▸bL ⟨rfl,j.drop 2⟩
def xw(o:Holds E w V)(j:oT N p0 p1 p2 p3=some res):c_ 128 [vi p0,vi p1,vi p2,vi p3] w<|aD E V res:=by
 unfold oT at j;refine enter Tryz.func128 zr zr<|w_<|aH 0<|IS<|aX p2<|aX p1<|W_ p2 p1<|W_ (cE<|p2 - p1) 1<|aX p0 ?_;refine aX p3<|W_ p0 p3<|W_ (cE<|p0 - p3) 1<|ae3 (a:=0) (b:=cE<|cE (p2 - p1)+1) (c:=cE<|cE (p0 - p3)+1) zt zr zr zr zr<|aH (if(if 0<(cE<|cE (p2 - p1)+1)then cE (cE (p2 - p1)+1)else 0)<(cE<|cE (p0 - p3)+1)then cE (cE (p0 - p3)+1)else(if 0<(cE<|cE (p2 - p1)+1)then cE (cE (p2 - p1)+1)else 0))<|AI<|Yj ?_;exact oi j▸bL ⟨rfl,o.drop 0⟩
def JH{p0 p1:aJ}(j:Holds E w V)(h0:V[i0]? =some (rd v0 p0))(h1:V[i1]? =some (rd v1 p1))(o:xf N p0 p1=some res):c_ 69 [v0,v1] w<|aD E V res:=by
 unfold xf at o;refine enter Tryz.func69 zr zr ?_;have j:=(j.dup (i0+0) h0).dup (i1+1) h1;refine w_<|YC 1 v0 j zr λaa w j=>?_;refine YC 1 v1 j zr λab w j=>?_;refine aH 0<|OF ?_;have j:=j.drew;refine ZH (λw=>Holds E w<|[bx 95 ab p1,bx 95 aa p0]++V) mixed [0,0,0,0,0,0,0,0,2,1,1,1,1,1,1,1,1,2,0,0] [0,1,2,3,4,5,6,7,9,10,11,12,13,14,15,16,8,17,18,19] (j.pk 4 [0,1])<|Yn zr zr<|AT zr jq<|bA zr<|T_ 1 j zr eG cT<|bA zr<|AT zr kA<|bA zr<|T_ 1 j zr fD cT ?_;refine bA zr<|AT zr jq<|bA zr<|T_ 0 j zr eG cT<|bA zr<|AT zr kA<|bA zr<|T_ 0 j zr fD cT<|Yq<|YE (vp aa 1) zr (λw=>AT zr jf Yz)<|ZE (vi p0.Y0) zr (λw j=>T_ 1 j zr dX cT Yz)<|YE (vp aa 3) zr (λw=>AT zr mK Yz)<|ZE (vi p0.Y1) zr (λw j=>T_ 1 j zr gJ cT Yz)<|YE (vp ab 1) zr (λw=>AT zr jf Yz)<|ZE (vi p1.Y0) zr (λw j=>T_ 0 j zr dX cT Yz)<|YE (vp ab 3) zr (λw=>AT zr mK Yz)<|ZE (vi p1.Y1) zr (λw j=>T_ 0 j zr gJ cT Yz)<|Y5 zr zr ?_;refine q_ o λad af o=>Yi Ss (xw N (p0:=p0.X0) (p1:=p0.X1) (p2:=p1.X0) (p3:=p1.X1) j af) λw j=>YV (j.pk 4 [0,1])<|Y5 zr zr<|q_ o λae ag o=>Yi Ss (xw N (p0:=p0.Y0) (p1:=p0.Y1) (p2:=p1.Y0) (p3:=p1.Y1) j ag) λw j=>YV (j.pk 4 [0,1])<|Yn zr zr<|ZC ad ae<|bA zr<|aH (if ad<ae then ae else ad)<|Yq<|YM<|aC ?_;exact Yj<|oi o▸bL ⟨rfl,j.drop 4⟩
def sC{p0:cL}{res:Bool}(j:Holds E w V)(h0:V[i0]? =some (rd v0 p0))(hb:nL N p0 p1=some res):c_ 129 [v0,vi p1] w<|aN E V res:=by
 unfold nL at hb;refine enter Tryz.func129 zr zr ?_;have j:=j.dup (i0+0) h0;refine w_<|YC 0 v0 j zr λo w j=>?_;refine bV false<|IS<|AT zr t6<|T_ 0 j zr mR cT<|aX p1<|ic p0.dS p1<|eV (decide<|p0.dS<=p1)<|Yp (vi p1) zr zr gm<|YQ true (decide<|p0.dS<=p1) (vp o 4) zr zr zr (dL wN) ?_;refine YQ true (decide<|p0.dS<=p1) (vi p0.To) rfl rfl rfl (bX 0 rfl j (by exact z_ (vp o 4)) rfl oX cT)<|Yp (vb<|decide<|p1<=p0.To) rfl rfl (Au .leq)<|YP (b:=decide<|p0.dS<=p1) (v:=vb<|decide (p0.dS<=p1)&&decide (p1<=p0.To)) trivial rfl rfl (jX true)<|bV (decide (p0.dS<=p1)&&decide (p1<=p0.To))<|AI<|Yj ?_;exact oi hb▸bL ⟨rfl,j.drop 2⟩
def GV(E:aY)(V:Z HP)(res:Z Int×Int)(v:aW)(w:aY):Prop:=∃u0:aW,v = .tuple #[u0,vi res.2]/\Holds E w ([rd u0 res.1]++V)
def zn{p0:Z aB}{res:Z Int×Int}(j:Holds E w V)(h0:V[i0]? =some (rd v0 p0))(o:qy N p0 p1 p2=some res):c_ 230 [v0,vi p1,vi p2] w<|GV E V res:=by
 unfold qy at o;refine enter Tryz.func230 zr zr ?_;have j:=j.dup (i0+0) h0;refine w_<|dG n_<|aH 0<|OF<|Yr<|mv v0<|S_ 0 p0 j uk<|ic ((p0.length:Int)) 0<|bV ((p0.length:Int)==0)<|AI<|cW o (λo=>?_) λo=>?_;refine w_<|aX p2<|dG n_<|aH p2<|AI<|YI<|aU ?_;obtain rfl:=oi o;have j:=j.Cm Int;exact s8 ⟨n_,zr,j.pk 2 [0]⟩;refine w_<|aX p1<|mv v0<|q_ o λad af o=>IT 0 j oH af λak j=>Yw 0 j zr ux jk λal j=>Yu ad.Y0 0 j cT<|ic p1 ad.Y0<|bV (decide<|p1<ad.Y0)<|AI<|cW o (λo=>?_) λo=>?_;refine BY<|Zb mixed ?_;have j:=j.drew;refine Za<|aX p2<|AS<|mv v0<|AS<|q_ o λaa ag o=>IT 2 j oH ag λan j=>AS<|Yw 0 j zr ux jk λao j=>AS<|Yu aa.Y0 0 j cT<|AS<|Zy p2 aa.Y0<|AS<|dG n_ ?_;refine AS<|aH (if aa.Y0<p2 then aa.Y0 else p2)<|YZ<|aC<|YI<|aU ?_;obtain rfl:=oi o;have j:=j.Cm Int;exact s8 ⟨n_,zr,j.pk 6 [0]⟩;refine YB<|bE<|aC<|BY<|Zb mixed ?_;have j:=j.drew;refine Za<|mv v0<|AS<|q_ o λah ai o=>IT 2 j oH ai λaq j=>AS<|Yw 0 j zr py eW λar j=>AS<|Yk 0 ah.Xs j gF λae j=>AS<|aX p2<|AS<|mv v0<|AS ?_;refine q_ o λab aj o=>IT 5 j oH aj λau j=>AS<|Yw 0 j zr ry gR λav j=>AS<|Yu ab.Y1 0 j cT<|AS<|Zy p2 ab.Y1<|AS<|dG ae<|AS<|aH (if ab.Y1<p2 then ab.Y1 else p2)<|YZ<|aC<|Yj ?_;exact oi o▸s8 ⟨ae,zr,j.pk 8 [2]⟩
def Il{p0:Z Int}{p1:Z Int}{p2:Bool->Bool->aV Bool}{res:Z Int}(j:Holds E w V)(h0:V[i0]? =some (rd v0 p0))(h1:V[i1]? =some (rd v1 p1))(h2:Pk bK E V v2 p2 (λ(r:Bool)=>Value.bool r))(hb:vf N p0 p1 p2=some res):c_ 231 [v0,v1,v2] w<|pW E V res:=by
 unfold vf at hb;refine enter Tryz.func231 zr zr ?_;have j:=(j.dup (i0+0) h0).dup (i1+1) h1;refine w_<|dG n_<|IS<|dG n_<|IS<|bV false<|bV false<|bV false<|OF<|q_ hb λbt hN hb=>ZJ (λ(o:Z Int×Z Int×Z Int×Bool×Bool×Bool)U w=>∃a6 a7 a8:aW,SH E V [(0,a6),(1,a7),(2,v2),(7,a8),(8,vb o.2.2.2.1),(9,vb o.2.2.2.2.1),(10,vb o.2.2.2.2.2)] [rd a6 o.1,rd a7 o.2.1,own 3 a8 o.2.2.1] U w) (λ(o:Z Int×Z Int×Z Int×Bool×Bool×Bool)U w=>∃au:aW,SH E V [(7,au)] [own 3 au o.2.2.1] U w) (λ(r:Empty)_ _=>r.elim) hN ?_ ?_ ?_ ?_;have j:=j.cJ Int 3;exact⟨v0,v1,n_,j.sp 3 [2,1,0]⟩;rintro o fl _ w⟨ah,ad,ae,O,rfl,j⟩hb;refine BY<|BY<|q_ hb λa0 hj hb=>Yo (λ(a0:Bool)=>SH E V [(0,ah),(1,ad),(2,v2),(7,ae),(8,vb o.2.2.2.1),(9,vb o.2.2.2.2.1),(10,vb o.2.2.2.2.2),(20,vb a0)] [rd ah o.1,rd ad o.2.1,own 3 ae o.2.2.1]) a0 ?_ ?_;refine IN<|mv ah<|S_ 0 o.1 j pd<|ic ((o.1.length:Int)) 0<|eV (decide<|(o.1.length:Int)>0)<|eE hj (λao hj=>?_) λao hj=>?_;exact bB ao<|bB ao<|bB ao<|eI ao (vb true)<|By<|oi hj▸⟨rfl,j.sp 3 [0,1,2]⟩;refine U_ ad (cg ao)<|S_ (hg:=cg ao) 1 o.2.1 j pd<|Y6 (o.2.1.length:Int) 0 (cg ao)<|eI ao (vb<|decide<|(o.2.1.length:Int)>0)<|By ?_;exact oi hj▸⟨rfl,j.sp 3 [0,1,2]⟩;rintro _ w⟨O,rfl,j⟩;refine aC<|cW hb (λhb=>?_) λhb=>?_;refine Zi<|Yr<|aH 0<|OF<|BY<|q_ hb λa1 hj hb=>Yo (λ(a1:Bool)=>SH E V [(0,ah),(1,ad),(2,v2),(7,ae),(8,vb o.2.2.2.1),(9,vb o.2.2.2.2.1),(10,vb o.2.2.2.2.2),(37,vb a1)] [rd ah o.1,rd ad o.2.1,own 3 ae o.2.2.1]) a1 ?_ ?_;refine Zb mixed ?_;have j:=j.drew;refine Za<|mv ad<|AS<|S_ 1 o.2.1 j pd<|AS<|ic ((o.2.1.length:Int)) 0<|AS<|eV ((o.2.1.length:Int)==0)<|eE hj (λai hj=>?_) λai hj=>?_;refine AS<|bB ai<|AS<|bB ai<|AS<|bB ai<|AS<|bB ai<|AS<|Dn<|AS<|Dn<|AS<|Dn<|AS<|Dn<|AS<|Dn ?_;exact AS<|Dn<|AS<|Dn<|AS<|bB ai<|AS<|eI ai (vb true)<|YZ<|oi hj▸⟨rfl,j.sp 3 [0,1,2]⟩;refine AS<|U_ ah (cg ai)<|AS<|S_ (hg:=cg ai) 0 o.1 j pd<|AS<|Y6 (o.1.length:Int) 0 (cg ai)<|AS<|U_ (vb<|decide<|(o.1.length:Int)>0) (cg ai)<|eE hj (λaf hj=>?_) λaf hj=>?_;refine AS<|U_ ah (cg af)<|AS<|q_ hj λaw bh hj=>IT (hg:=cg af) 0 j eR bh λbw j=>AS<|Yu (hg:=cg af) aw 0 j cT<|AS<|U_ ad (cg af)<|AS<|q_ hj λax bj hj=>IT (hg:=cg af) 2 j eR bj λbx j=>AS<|Yu (hg:=cg af) ax 0 j cT<|AS<|Y6 aw ax (cg af)<|AS<|eI af (vb<|decide<|aw<=ax) (hg:=cg ai)<|AS<|eI ai (vb<|decide<|aw<=ax) ?_;exact YZ<|oi hj▸⟨rfl,j.sp 5 [2,3,4]⟩;refine AS<|bB af<|AS<|bB af<|AS<|bB af<|AS<|bB af<|AS<|bB af<|AS<|bB af<|AS<|bB af<|AS<|eI af (vb false) (hg:=cg ai)<|AS<|eI ai (vb false) ?_;exact YZ<|oi hj▸⟨rfl,j.sp 3 [0,1,2]⟩;rintro _ w⟨O,rfl,j⟩;refine aC<|q_ hb λag hj hb=>Yo (λ(ag:Int)=>SH E V [(0,ah),(1,ad),(2,v2),(7,ae),(8,vb o.2.2.2.1),(9,vb o.2.2.2.2.1),(10,vb o.2.2.2.2.2),(11,vi ag)] [rd ah o.1,rd ad o.2.1,own 3 ae o.2.2.1]) ag ?_ ?_;refine cW hj (λhj=>?_) λhj=>?_;refine IN<|mv ah<|q_ hj λa9 bk hj=>IT 0 j eR bk λbz j=>Yu a9 0 j cT<|aH a9<|By ?_;exact oi hj▸⟨rfl,j.sp 4 [1,2,3]⟩;refine IN<|mv ad<|q_ hj λba bl hj=>IT 1 j eR bl λb0 j=>Yu ba 0 j cT<|aH ba<|By ?_;exact oi hj▸⟨rfl,j.sp 4 [1,2,3]⟩;rintro _ w⟨O,rfl,j⟩;refine aC<|BY<|BY<|q_ hb λa2 hj hb=>Yo (λ(a2:Bool)=>SH E V [(0,ah),(1,ad),(2,v2),(7,ae),(8,vb o.2.2.2.1),(9,vb o.2.2.2.2.1),(10,vb o.2.2.2.2.2),(11,vi ag),(53,vb a2)] [rd ah o.1,rd ad o.2.1,own 3 ae o.2.2.1]) a2 ?_ ?_;refine IN<|mv ah<|S_ 0 o.1 j pd<|ic ((o.1.length:Int)) 0<|eV (decide<|(o.1.length:Int)>0)<|eE hj (λaj hj=>?_) λaj hj=>?_;refine U_ ah (cg aj)<|q_ hj λa3 bm hj=>IT (hg:=cg aj) 0 j eR bm λb1 j=>Yu (hg:=cg aj) a3 0 j cT<|U_ (vi ag) (cg aj)<|Y6 a3 ag (cg aj)<|eI aj (vb<|a3==ag)<|By ?_;exact oi hj▸⟨rfl,j.sp 4 [1,2,3]⟩;exact bB aj<|bB aj<|bB aj<|bB aj<|bB aj<|eI aj (vb false)<|By<|oi hj▸⟨rfl,j.sp 3 [0,1,2]⟩;rintro _ w⟨O,rfl,j⟩;refine aC<|q_ hb λal hj hb=>Yo (λ(al:Z Int×Bool)U w=>∃an:aW,SH E V [(0,an),(1,ad),(2,v2),(7,ae),(8,vb al.2),(9,vb o.2.2.2.2.1),(10,vb o.2.2.2.2.2),(11,vi ag)] [rd ad o.2.1,own 3 ae o.2.2.1,rd an al.1] U w) al ?_ ?_;refine cW hj (λhj=>?_) λhj=>?_;exact IN<|mv ah<|q_ hj λb2 bn hj=>Zr (hh:= .inr ⟨rfl,zr⟩) 0 j eR bn λbb j=>eV o.2.2.2.1<|YU o.2.2.2.1<|dG bb<|bV (!o.2.2.2.1)<|By<|oi hj▸⟨rfl,bb,j.sp 4 [2,3,0]⟩;exact YB<|oi hj▸⟨rfl,ah,j.sp 3 [1,2,0]⟩;rintro _ w⟨an,O,rfl,j⟩;refine aC<|BY<|BY<|q_ hb λa4 hj hb=>Yo (λ(a4:Bool)=>SH E V [(0,an),(1,ad),(2,v2),(7,ae),(8,vb al.2),(9,vb o.2.2.2.2.1),(10,vb o.2.2.2.2.2),(11,vi ag),(67,vb a4)] [rd an al.1,rd ad o.2.1,own 3 ae o.2.2.1]) a4 ?_ ?_;refine IN<|mv ad<|S_ 0 o.2.1 j pd<|ic ((o.2.1.length:Int)) 0<|eV (decide<|(o.2.1.length:Int)>0)<|eE hj (λak hj=>?_) λak hj=>?_;refine U_ ad (cg ak)<|q_ hj λa5 bo hj=>IT (hg:=cg ak) 0 j eR bo λb3 j=>Yu (hg:=cg ak) a5 0 j cT<|U_ (vi ag) (cg ak)<|Y6 a5 ag (cg ak)<|eI ak (vb<|a5==ag)<|By ?_;exact oi hj▸⟨rfl,j.sp 4 [3,1,2]⟩;exact bB ak<|bB ak<|bB ak<|bB ak<|bB ak<|eI ak (vb false)<|By<|oi hj▸⟨rfl,j.sp 3 [2,0,1]⟩;rintro _ w⟨O,rfl,j⟩;refine aC<|q_ hb λaq hj hb=>Yo (λ(aq:Z Int×Bool)U w=>∃ar:aW,SH E V [(0,an),(1,ar),(2,v2),(7,ae),(8,vb al.2),(9,vb aq.2),(10,vb o.2.2.2.2.2),(11,vi ag)] [rd an al.1,own 3 ae o.2.2.1,rd ar aq.1] U w) aq ?_ ?_;refine cW hj (λhj=>?_) λhj=>?_;exact IN<|mv ad<|q_ hj λb4 bp hj=>Zr (hh:= .inr ⟨rfl,zr⟩) 1 j eR bp λbc j=>eV o.2.2.2.2.1<|YU o.2.2.2.2.1<|dG bc<|bV (!o.2.2.2.2.1)<|By<|oi hj▸⟨rfl,bc,j.sp 4 [1,3,0]⟩;exact YB<|oi hj▸⟨rfl,ad,j.sp 3 [0,2,1]⟩;rintro _ w⟨ar,O,rfl,j⟩;refine aC<|w_<|mv v2<|eV al.2<|eV aq.2 ?_;have j:=(j.sc Bool al.2).sc Bool aq.2;refine q_ hb λav bq hb=>ZG 1 0 zt j h2 5 bq λw j=>bV av<|IS<|eV av<|eV o.2.2.2.2.2<|ad4 (a:=av) (b:=o.2.2.2.2.2) zt zr zr zr X4<|AI<|q_ hb λay hj hb=>Yo (λ(ay:Z Int×Bool)U w=>∃az:aW,SH E V [(0,an),(1,ar),(2,v2),(7,az),(8,vb al.2),(9,vb aq.2),(10,vb ay.2)] [rd an al.1,rd ar aq.1,own 3 az ay.1] U w) ay ?_ ?_;refine cW hj (λhj=>?_) λhj=>?_;refine IN<|mv ae<|aX ag ?_;have j:=j.sc Int ag;refine YR ([ag]:Z Int) j [vi ag] eR Jy (λM hs g=>⟨(g.sat 0 _ zr).1,zt⟩) λb5 w j=>?_;have j:=j.freeze 0;refine q_ hj λb6 br hj=>YT 5 0 j vn br λbf w j=>?_;exact eV av<|dG bf<|bV av<|By<|oi hj▸⟨rfl,bf,j.sp 7 [4,6,5]⟩;exact YB<|oi hj▸⟨rfl,ae,j.sp 5 [2,4,3]⟩;rintro _ w⟨az,O,rfl,j⟩;exact bE<|oi hb▸⟨rfl,an,ar,az,j.sp 3 [0,1,2]⟩;exact YD<|oi hb▸⟨rfl,ae,j.sp 3 [2]⟩;intro r _ _ _ _;exact r.elim;rintro o _ w rfl⟨au,O,rfl,j⟩;rw[Fo.Iw]at hb;refine aC<|w_<|mv au<|dG au<|AI<|Yj ?_;obtain rfl:=oi hb;exact bL<|j.pk 1 [0]
def GW{p0:Z aB}{p1:Z aB}{p2:Bool->Bool->aV Bool}{res:Z aB}(j:Holds E w V)(h0:V[i0]? =some (rd v0 p0))(h1:V[i1]? =some (rd v1 p1))(h2:Pk bK E V v2 p2 (λ(r:Bool)=>Value.bool r))(o:tH N p0 p1 p2=some res):c_ 186 [v0,v1,v2] w<|qC E V res:=by
 unfold tH at o;refine enter Tryz.func186 zr zr ?_;have j:=(j.dup (i0+0) h0).dup (i1+1) h1;refine w_<|dG n_<|IS<|dG n_<|OF<|w_<|mv v0<|S_ 1 p0 j uk<|mv v1<|S_ 0 p1 j uk<|W_ (p0.length:Int) (p1.length:Int)<|ic (cE<|(p0.length:Int)+(p1.length:Int)) 0<|AI<|cW o (λo=>?_) λo=>?_;refine w_<|dG n_<|AI<|YF ?_;obtain rfl:=oi o;have j:=j.cJ aB 182;exact bL<|j.pk 3 [0];refine Y7<|aH 0<|aH 0<|OF<|w_<|mv v0<|mv v1<|YR ([p0,p1]:Z (Z aB)) j [v0,v1] PL PM (λM hs g=>⟨(g.sat 1 _ zr).1,⟨(g.sat 0 _ zr).1,zt⟩⟩) λaq w j=>Y_ (i:=0) (l:=([p0,p1]:Z (Z aB))) zt zr j zr zr UK<|aX 0<|AI<|ZI E V (λ(af:Int×Int)=>[rd v0 p0,rd v1 p1,own 137 aq ([p0,p1]:Z (Z aB))]) (λaf=>[(0,v0),(1,v1),(2,v2),(7,n_),(8,vi af.1),(9,vi af.2)]) (λak _=>[(25,aq),(26,vi ((([p0,p1]:Z (Z aB)).length:Nat):Int)),(27,vi ak)]) o ?_ ?_ ?_;exact j.sp 3 [2,1,0];rintro hm ak af s' _ w hk⟨O,rfl,j⟩o;refine BY<|Yr<|aX (ak:Int)<|q_ o λar bc o=>YG 2 j zr zr PL bc<|Zv 2 j bc St λai j=>?_;refine aH (ak:Int)<|dG ai<|IS<|mv ai<|S_ 0 ar j uk<|ic ((ar.length:Int)) 0<|AI<|q_ o λa0 hj o=>Yo (λ(a0:Int×Int)=>SH E V [(0,v0),(1,v1),(2,v2),(7,n_),(8,vi a0.1),(9,vi a0.2),(25,aq),(26,vi ((([p0,p1]:Z (Z aB)).length:Nat):Int)),(27,vi ak)] [rd v0 p0,rd v1 p1,own 137 aq ([p0,p1]:Z (Z aB))]) a0 ?_ ?_;refine cW hj (λhj=>?_) λhj=>?_;refine BY<|BY<|q_ hj λa5 hjj hj=>Yo (λ(a5:Bool)=>SH E V [(0,v0),(1,v1),(2,v2),(7,n_),(8,vi af.1),(9,vi af.2),(11,ai),(25,aq),(26,vi ((([p0,p1]:Z (Z aB)).length:Nat):Int)),(27,vi ak),(41,vb a5)] [rd v0 p0,rd v1 p1,rd ai ar,own 137 aq ([p0,p1]:Z (Z aB))]) a5 ?_ ?_;refine IN<|aX (ak:Int)<|ic ((ak:Int)) 0<|eV ((ak:Int)==0)<|eE hjj (λan hjj=>?_) λan hjj=>?_;exact bB an<|bB an<|bB an<|eI an (vb true)<|By<|oi hjj▸⟨rfl,j.sp 4 [1,2,0,3]⟩;refine U_ v0 (cg an)<|S_ (hg:=cg an) 1 p0 j uk<|Y6 (p0.length:Int) 0 (cg an)<|eI an (vb<|(p0.length:Int)==0)<|By ?_;exact oi hjj▸⟨rfl,j.sp 4 [1,2,0,3]⟩;rintro _ w⟨O,rfl,j⟩;refine aC<|q_ hj λaj hjj hj=>Yo (λ(aj:Int×Int)=>SH E V [(0,v0),(1,v1),(2,v2),(7,n_),(8,vi aj.1),(9,vi aj.2),(11,ai),(25,aq),(26,vi ((([p0,p1]:Z (Z aB)).length:Nat):Int)),(27,vi ak)] [rd v0 p0,rd v1 p1,rd ai ar,own 137 aq ([p0,p1]:Z (Z aB))]) aj ?_ ?_;refine cW hjj (λhjj=>?_) λhjj=>?_;refine Zb mixed ?_;have j:=j.drew;refine Za<|mv ai<|AS<|q_ hjj λbf bt hjj=>IT 2 j oH bt λcb j=>AS<|Yw 0 j zr ux jk λcc j=>AS<|Yu bf.Y0 0 j cT<|AS<|mv ai<|AS<|mv ai ?_;refine AS<|S_ 4 ar j uk<|AS<|W_ (ar.length:Int) 1<|AS<|q_ hjj λbg bu hjj=>IT 4 j oH bu λcd j=>AS<|Yw 0 j zr ry gR λcf j=>AS<|Yu bg.Y1 0 j cT<|AS<|aH bf.Y0<|AS<|aH bg.Y1 ?_;exact YZ<|oi hjj▸⟨rfl,j.sp 8 [4,5,6,7]⟩;exact YB<|oi hjj▸⟨rfl,j.sp 4 [0,1,2,3]⟩;rintro _ w⟨O,rfl,j⟩;refine aC<|Zb mixed ?_;have j:=j.drew;refine Za<|aX aj.1<|AS<|mv ai<|AS<|q_ hj λa1 bw hj=>IT 2 j oH bw λch j=>AS<|Yw 0 j zr ux jk λcj j=>AS<|Yu a1.Y0 0 j cT<|AS<|Zy aj.1 a1.Y0<|AS<|aX aj.2 ?_;refine AS<|mv ai<|AS<|mv ai<|AS<|S_ 4 ar j uk<|AS<|W_ (ar.length:Int) 1<|AS<|q_ hj λa2 bx hj=>IT 4 j oH bx λck j=>AS<|Yw 0 j zr ry gR λcm j=>AS<|Yu a2.Y1 0 j cT<|AS<|ZC aj.2 a2.Y1<|AS<|aH (if a1.Y0<aj.1 then a1.Y0 else aj.1) ?_;exact AS<|aH (if aj.2<a2.Y1 then a2.Y1 else aj.2)<|YZ<|oi hj▸⟨rfl,j.sp 8 [4,5,7]⟩;exact YB<|oi hj▸⟨rfl,j.sp 4 [1,2,3]⟩;rintro _ w⟨O,rfl,j⟩;exact bE<|aC<|IN<|YL hk hm<|aX ((ak+1:Nat):Int)<|By<|oi o▸⟨rfl,j.sp 3 [0,1,2]⟩;rintro af _ w o⟨O,rfl,j⟩;refine aC<|BY<|q_ o λcn hN o=>ZJ (λ(aa:Z aB×Z aB×Z aB×Int)U w=>∃bh bj bk:aW,SH E V [(0,bh),(1,bj),(2,v2),(7,bk),(8,vi aa.2.2.2),(9,vi af.2)] [rd bh aa.1,rd bj aa.2.1,own 182 bk aa.2.2.1] U w) (λ(aa:Z aB×Z aB×Z aB×Int)U w=>∃ay:aW,SH E V [(7,ay)] [own 182 ay aa.2.2.1] U w) (λ(r:Empty)_ _=>r.elim) hN ?_ ?_ ?_ ?_;have j:=j.cJ aB 182;exact⟨v0,v1,n_,j.sp 4 [1,2,0]⟩;rintro aa fl _ w⟨b0,az,al,O,rfl,j⟩o;refine BY<|w_<|aX aa.2.2.2<|aX af.2<|ic aa.2.2.2 af.2<|AI<|cW o (λo=>?_) λo=>?_;refine Zi<|Y3<|BY<|Zj E V (λ(ao:Z aB)(a6:aW)=>[rd az aa.2.1,own 182 al aa.2.2.1,rd a6 ao]) (λ_ a6=>[(0,a6),(1,az),(2,v2),(7,al),(8,vi aa.2.2.2),(9,vi af.2)]) (λ_ _=>[]) o ?_ ?_ ?_;exact⟨b0,j.sp 3 [1,2,0]⟩;rintro ao fl _ w⟨av,O,rfl,j⟩o;refine BY<|BY<|q_ o λa7 hj o=>Yo (λ(a7:Bool)=>SH E V [(0,av),(1,az),(2,v2),(7,al),(8,vi aa.2.2.2),(9,vi af.2),(82,vb a7)] [rd av ao,rd az aa.2.1,own 182 al aa.2.2.1]) a7 ?_ ?_;refine IN<|mv av<|S_ 2 ao j uk<|ic ((ao.length:Int)) 0<|eV (decide<|(ao.length:Int)>0)<|eE hj (λag hj=>?_) λag hj=>?_;refine U_ av (cg ag)<|q_ hj λa8 b1 hj=>IT (hg:=cg ag) 2 j oH b1 λcp j=>Yw (hg:=cg ag) 0 j zr ry gR λcq j=>Yu (hg:=cg ag) a8.Y1 0 j cT<|U_ (vi aa.2.2.2) (cg ag)<|Y6 a8.Y1 aa.2.2.2 (cg ag)<|eI ag (vb<|decide<|a8.Y1<=aa.2.2.2)<|By ?_;exact oi hj▸⟨rfl,j.sp 5 [4,2,3]⟩;exact bB ag<|bB ag<|bB ag<|bB ag<|bB ag<|bB ag<|eI ag (vb false)<|By<|oi hj▸⟨rfl,j.sp 3 [2,0,1]⟩;rintro _ w⟨O,rfl,j⟩;refine aC<|cW o (λo=>?_) λo=>?_;exact Zi<|Y3<|IN<|mv av<|q_ o λcr b2 o=>Zr (hh:= .inr ⟨rfl,zr⟩) 0 j oH b2 λbm j=>dG bm<|By<|bE<|oi o▸⟨rfl,bm,j.sp 4 [2,3,0]⟩;exact YD<|oi o▸⟨rfl,av,j.sp 3 [1,2,0]⟩;rintro ao _ w o⟨aw,O,rfl,j⟩;refine aC<|BY<|Zj E V (λ(au:Z aB)(a9:aW)=>[rd aw ao,own 182 al aa.2.2.1,rd a9 au]) (λ_ a9=>[(0,aw),(1,a9),(2,v2),(7,al),(8,vi aa.2.2.2),(9,vi af.2)]) (λ_ _=>[]) o ?_ ?_ ?_;exact⟨az,j.sp 3 [2,1,0]⟩;rintro au fl _ w⟨ax,O,rfl,j⟩o;refine BY<|BY<|q_ o λba hj o=>Yo (λ(ba:Bool)=>SH E V [(0,aw),(1,ax),(2,v2),(7,al),(8,vi aa.2.2.2),(9,vi af.2),(95,vb ba)] [rd aw ao,rd ax au,own 182 al aa.2.2.1]) ba ?_ ?_;refine IN<|mv ax<|S_ 2 au j uk<|ic ((au.length:Int)) 0<|eV (decide<|(au.length:Int)>0)<|eE hj (λah hj=>?_) λah hj=>?_;refine U_ ax (cg ah)<|q_ hj λbb b3 hj=>IT (hg:=cg ah) 2 j oH b3 λct j=>Yw (hg:=cg ah) 0 j zr ry gR λcu j=>Yu (hg:=cg ah) bb.Y1 0 j cT<|U_ (vi aa.2.2.2) (cg ah)<|Y6 bb.Y1 aa.2.2.2 (cg ah)<|eI ah (vb<|decide<|bb.Y1<=aa.2.2.2)<|By ?_;exact oi hj▸⟨rfl,j.sp 5 [2,4,3]⟩;exact bB ah<|bB ah<|bB ah<|bB ah<|bB ah<|bB ah<|eI ah (vb false)<|By<|oi hj▸⟨rfl,j.sp 3 [0,2,1]⟩;rintro _ w⟨O,rfl,j⟩;refine aC<|cW o (λo=>?_) λo=>?_;exact Zi<|Y3<|IN<|mv ax<|q_ o λcv b4 o=>Zr (hh:= .inr ⟨rfl,zr⟩) 1 j oH b4 λbn j=>dG bn<|By<|bE<|oi o▸⟨rfl,bn,j.sp 4 [1,3,0]⟩;exact YD<|oi o▸⟨rfl,ax,j.sp 3 [0,2,1]⟩;rintro au _ w o⟨bo,O,rfl,j⟩;refine aC<|w_<|mv aw<|aX aa.2.2.2<|aX af.2<|q_ o λad b5 o=>Yv Su (zn N (p1:=aa.2.2.2) (p2:=af.2) (i0:=0) j zr b5) ?_;rintro _ w⟨a3,rfl,j⟩;refine mv (.tuple #[a3,vi ad.2])<|Y4 a3<|Y4 (vi ad.2)<|dG a3<|aH ad.2<|IS<|mv bo<|aX aa.2.2.2<|aX af.2<|q_ o λae b6 o=>Yv Su (zn N (p1:=aa.2.2.2) (p2:=af.2) (i0:=3) j zr b6) ?_;rintro _ w⟨a4,rfl,j⟩;refine mv (.tuple #[a4,vi ae.2])<|Y4 a4<|Y4 (vi ae.2)<|dG a4<|aH ae.2<|IS<|aX ad.2<|aX ae.2<|Zy ad.2 ae.2<|aH (if ae.2<ad.2 then ae.2 else ad.2)<|IS<|mv al<|aX aa.2.2.2<|aX (if ae.2<ad.2 then ae.2 else ad.2)<|mv a3<|mv a4<|mv v2 ?_;refine q_ o λb7 b8 o=>Yv (fO Tryz.func231) (Il N (i0:=1) (i1:=0) j zr zr (h2.lift 5 zr) b8) λb9 w j=>?_;have j:=((j.sc Int aa.2.2.2).sc Int (if ae.2<ad.2 then ae.2 else ad.2)).freeze 2;refine Ze (⟨aa.2.2.2,(if ae.2<ad.2 then ae.2 else ad.2),b7⟩:aB) trivial rfl j [(0,vi aa.2.2.2),(1,vi (if ae.2<ad.2 then ae.2 else ad.2)),(2,b9)] rfl Sq rfl (λM hs g=>by have h:=Dy M;exact cM.cons (f:=λ(x:aB)y=>{x with Y0:=y}) h zi (g.sat 1 _ rfl).1 λ_ h=>cM.cons (f:=λ(x:aB)y=>{x with Y1:=y}) h t4 (g.sat 0 _ rfl).1 λ_ h=>cM.cons (f:=λ(x:aB)y=>{x with Xs:=y}) h zj (g.sat 2 _ rfl).1 λ_ h=>cM.nil h) λcw j=>?_;have j:=j.pull 7;exact q_ o λcx ca o=>Yv Sr (wy N (i1:=0) j zr ca) λbp w j=>dG bp<|AI<|IN<|aX (if ae.2<ad.2 then ae.2 else ad.2)<|aH (if ae.2<ad.2 then ae.2 else ad.2)<|By<|bE<|oi o▸⟨rfl,aw,bo,bp,j.sp 10 [7,9,0]⟩;exact YD<|oi o▸⟨rfl,al,j.sp 3 [2]⟩;intro r _ _ _ _;exact r.elim;rintro aa _ w rfl⟨ay,O,rfl,j⟩;rw[Fo.Iw]at o;refine aC<|w_<|mv ay<|dG ay<|AI<|Yj ?_;obtain rfl:=oi o;exact bL<|j.pk 1 [0]
def Ay{p0 p1 res:Bool}(o:Holds E w V)(j:sd N p0 p1=some res):c_ 187 [vb p0,vb p1] w<|aN E V res:=by
 unfold sd at j;refine enter Tryz.func187 zr zr<|w_<|bV false<|IS<|eV p0<|eV p0<|Yp (vb p1) zr zr gm<|Yp (vb<|!p1) zr zr XM<|YP (b:=p0) (v:=vb<|p0&&(!p1)) zt zr zr (jX true) ?_;exact bV (p0&&(!p1))<|AI<|Yj<|oi j▸bL ⟨rfl,o.drop 0⟩
def DQ{p0:Z aB}{p1:Z aB}{res:Z aB}(o:Holds E w V)(h0:V[i0]? =some (rd v0 p0))(h1:V[i1]? =some (rd v1 p1))(hb:nM N p0 p1=some res):c_ 130 [v0,v1] w<|qC E V res:=by
 unfold nM at hb;refine enter Tryz.func130 zr zr ?_;have o:=(o.dup (i0+0) h0).dup (i1+1) h1;refine w_<|dG n_<|IS<|mv v0<|mv v1 ?_;refine q_ hb λaf ab hb=>Yv (fO Tryz.func186) (GW N (i0:=1) (i1:=0) o rfl rfl ⟨187,[],rfl,(fO Tryz.func187),λw Γl v v' y0 y1 r i j o hi hj hr=>by obtain rfl:=o.FO (γ:=Bool) hi;obtain rfl:=o.FO (γ:=Bool) hj;exact iO (Ay N (p0:=y0) (p1:=y1) o hr) λ_ _ h=>h⟩ ab) λae w o=>dG ae<|AI<|Yj ?_;obtain rfl:=oi hb;exact bL<|o.pk 3 [0]
def DR{p0:Z aB}(j:Holds E w V)(h0:V[i0]? =some (rd v0 p0))(hb:pP N p0=some res):c_ 131 [v0] w<|aD E V res:=by
 unfold pP at hb;refine enter Tryz.func131 zr zr ?_;have j:=j.dup (i0+0) h0;refine w_<|aH 0<|IS<|aH 0<|OF<|w_<|mv v0<|S_ 0 p0 j uk<|aX 0<|AI<|ZI E V (λ(o:Int)=>[rd v0 p0]) (λo=>[(3,vi o)]) (λad _=>[(6,v0),(7,vi p0.length),(8,vi ad)]) hb ?_ ?_ ?_;exact j.sp 1 [0];rintro hm ad o s' _ w hk⟨O,rfl,j⟩hb;refine BY<|Yr<|q_ hb λab ag hb=>IT 0 j oH ag λah j=>Yk 0 ab j DB λai j=>YN j KX.z λaj w j=>?_;refine YH 0 j 1 zr DB λw j=>?_;refine AI<|IN<|aX o<|AT zr py<|Yt 0 j zr eW gF λak j=>S_ 0 ab.Xs j pd<|ZU (ab.Xs.length:Int) 2<|W_ o (cE<|Int.tdiv (ab.Xs.length:Int) 2)<|aH (cE<|o+ cE (Int.tdiv (ab.Xs.length:Int) 2)) ?_;exact By<|bE<|aC<|IN<|YL hk hm<|aX ((ad+1:Nat):Int)<|By<|oi hb▸⟨rfl,j.sp 5 [4]⟩;rintro o _ w hb⟨O,rfl,j⟩;exact aC<|w_<|aX o<|aH o<|AI<|Yj<|oi hb▸bL ⟨rfl,j.drop 1⟩
def Az(E:aY)(V:Z HP)(b1:Nat)(res:Int×Z Int)(v:aW)(w:aY):Prop:=∃Q_:aW,v= vi res.1/\Holds E w ([bc 66 b1 [Q_],own 3 Q_ res.2]++V)
def pg{R_:Z Int}{res:Int×Z Int}(j:Holds E w (bc 66 b1 [C_]::own 3 C_ R_::V))(o:gL N p0 R_=some res):c_ 188 [vi p0,vp b1 0] w<|Az E V b1 res:=by
 unfold gL at o;refine enter Tryz.func188 zr zr<|w_<|aH 0<|OF<|Zx E V (λ(aa:Int×Z Int)=>[bc 66 b1 [C_],own 3 C_ aa.2]) (λaa=>[(0,vi aa.1),(1,vp b1 0)]) (λ_=>[]) o ?_ ?_ ?_;exact j.sp 2 [0,1];rintro aa fl _ w⟨O,rfl,j⟩o;refine BY<|w_<|Yy 0 C_ j gF<|aX aa.1<|q_ o λah ab o=>YG 1 j zr zr eR ab<|Zn 1 j ab cT<|aX aa.1<|ic ah aa.1<|AI<|cW o (λo=>?_) λo=>?_;refine Zi<|Y3<|BY<|Y8 mixed [0,0,0,0,0,0,0,0,0,0,2] [0,1,2,3,4,5,6,7,8,9,10] ?_;have j:=j.drew;refine Yn zr zr<|Yy 0 C_ j gF<|bA zr<|aX aa.1<|bA zr<|Yy 0 C_ j gF<|bA zr<|Yy 0 C_ j gF<|bA zr<|aX aa.1<|bA zr ?_;refine q_ o λal ad o=>YG 1 j zr zr eR ad<|bA zr<|Zn 1 j ad cT<|bA zr<|q_ o λai ae o=>YG 1 j zr zr eR ae<|bA zr<|Zn 1 j ae cT<|bA zr<|q_ o λan af o=>YG 1 j zr zr eR af<|o9 zr ?_;have j:=j.sc Int ai;refine Zs 2 0 j af cT λw j=>?_;refine YV zt<|YM<|aC<|IN<|Yy 1 C_ j gF<|aX aa.1<|q_ o λaj ag o=>YG 2 j zr zr eR ag<|Zn 2 j ag cT<|aH aj<|By<|bE ?_;exact oi o▸⟨rfl,j.sp 3 [1,2]⟩;exact YD<|oi o▸⟨rfl,j.sp 2 [0,1]⟩;rintro aa _ w o⟨O,rfl,j⟩;exact aC<|w_<|aX aa.1<|aH aa.1<|AI<|Yj<|oi o▸bL ⟨C_,zr,j.pk 2 [0,1]⟩
end Go.Gk
