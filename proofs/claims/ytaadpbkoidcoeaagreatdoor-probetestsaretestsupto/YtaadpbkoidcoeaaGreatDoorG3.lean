/-
  Printed texts: Go functions as plain functions, and that they are. No statement of the seed is proved here.
-/
import Derived.Test.YtaadpbkoidcoeaaGreatDoorG1
import Derived.Test.YtaadpbkoidcoeaaGreatDoorG2
import Derived.Test.YtaadpbkoidcoeaaGreatDoorA2
set_option linter.unusedVariables false
set_option linter.unusedSimpArgs false
set_option linter.unusedSectionVars false
set_option maxRecDepth 100000
set_option maxHeartbeats 40000000
namespace Go.Gk
open Go IntKind Go.Proofs
variable (N:Nat){E w:aW}{b1 i0 i1:Nat}{p0 p1 p2 p3 res:Int}{v0 v1 u_ v2:aV}{V:aL HP}
theorem iP{p0:cL}{res:aK}(j:Holds E w V)(h0:fC V i0 v0 p0)(o:gq N p0=some res):c_ 68 [v0] w<|sf E V res:=by
 unfold gq at o;refine enter Tryz.func68 zr zr ?_;have j:=j.dup (i0+0) h0;refine w_<|V7 0 v0 j zr λaa w j=>?_;refine V9 j px.z λab w j=>?_;refine IT<|WD mixed ?_;have j:=j.drew;refine WC<|AT zr Ff<|AI<|AT zr sH<|AI<|VL (f:=(λx=>x.At.X)) 1 j zr (Fd.comp (f:=λ(x:cL)=>x.At) (λ(x:eR)=>x.X) Ad kI) cV<|AI<|AT zr zg<|AI<|VL 1 j zr tc cV<|AI<|XF p0.gG 2 zr zr zr zr<|AI<|OF p0.At.X (cE<|Int.tdiv p0.gG 2)<|AI<|AT zr Ff<|AI<|AT zr qy ?_;refine AI<|VL (f:=(λx=>x.At.Y)) 1 j zr (Fd.comp (f:=λ(x:cL)=>x.At) (λ(x:eR)=>x.Y) Ad jv) cV<|AI<|AT zr zg<|AI<|VL 1 j zr tc cV<|AI<|XF p0.gG 2 zr zr zr zr<|AI<|OF p0.At.Y (cE<|Int.tdiv p0.gG 2)<|AI<|aJ (cE<|p0.At.X -(cE<|Int.tdiv p0.gG 2))<|AI<|aJ (cE<|p0.At.Y -(cE<|Int.tdiv p0.gG 2))<|Wt<|aD<|w_<|aO (cE<|p0.At.X -(cE<|Int.tdiv p0.gG 2)) ?_;refine aO (cE<|p0.At.Y -(cE<|Int.tdiv p0.gG 2))<|aO (cE<|p0.At.X -(cE<|Int.tdiv p0.gG 2))<|AT zr zg<|VL 1 j zr tc cV<|OF (cE<|p0.At.X -(cE<|Int.tdiv p0.gG 2)) p0.gG<|aO (cE<|p0.At.Y -(cE<|Int.tdiv p0.gG 2))<|AT zr zg<|VL 1 j zr tc cV<|OF (cE<|p0.At.Y -(cE<|Int.tdiv p0.gG 2)) p0.gG ?_;have j:=((j.sc Int<|cE<|p0.At.X -(cE<|Int.tdiv p0.gG 2)).sc Int<|cE<|p0.At.Y -(cE<|Int.tdiv p0.gG 2)).sc Int<|cE<|cE (p0.At.X -(cE<|Int.tdiv p0.gG 2))+p0.gG;have j:=j.sc Int<|cE<|cE (p0.At.Y -(cE<|Int.tdiv p0.gG 2))+p0.gG;refine WN (⟨cE<|p0.At.X -(cE<|Int.tdiv p0.gG 2),cE<|p0.At.Y -(cE<|Int.tdiv p0.gG 2),cE<|cE (p0.At.X -(cE<|Int.tdiv p0.gG 2))+p0.gG,cE<|cE (p0.At.Y -(cE<|Int.tdiv p0.gG 2))+p0.gG⟩:aK) trivial rfl j [(0,vi<|cE<|p0.At.X -(cE<|Int.tdiv p0.gG 2)),(1,vi<|cE<|p0.At.Y -(cE<|Int.tdiv p0.gG 2)),(2,vi<|cE<|cE (p0.At.X -(cE<|Int.tdiv p0.gG 2))+p0.gG),(3,vi<|cE<|cE (p0.At.Y -(cE<|Int.tdiv p0.gG 2))+p0.gG)] rfl Ia rfl (λM hs g=>by have h:=vz M;exact cI.cons (f:=λ(x:aK)y=>{x with X0:=y}) h sY (g.sat 3 _ rfl).1 λ_ h=>cI.cons (f:=λ(x:aK)y=>{x with Y0:=y}) h wJ (g.sat 2 _ rfl).1 λ_ h=>cI.cons (f:=λ(x:aK)y=>{x with X1:=y}) h re (g.sat 1 _ rfl).1 λ_ h=>cI.cons (f:=λ(x:aK)y=>{x with Y1:=y}) h sZ (g.sat 0 _ rfl).1 λ_ h=>cI.nil h) λad j=>?_;refine V5 5 j 0 zr gH λw j=>?_;refine AS<|VN ?_;obtain rfl:=oi o;exact LH 5 zr j zr zr gH λae j=>j.pk 9 [0]
theorem xw{p0:aL aB}{res:aK}(j:Holds E w V)(h0:fC V i0 v0 p0)(hb:mU N p0=some res):
    c_ 154 [v0] w<|sf E V res:=by
 unfold mU at hb
 refine enter Tryz.func154 zr zr ?_
 have j:=j.dup (i0+0) h0
 refine w_<|V9 j px.z λbf w j=>?_
 refine IT ?_
 obtain⟨bh,bm,hb⟩:=bd hb
 obtain⟨bb,bn,hb⟩:=bd hb
 obtain⟨a8,bo,hb⟩:=bd hb
 obtain⟨bj,bp,hb⟩:=bd hb
 obtain⟨bc,bq,hb⟩:=bd hb
 obtain⟨a9,br,hb⟩:=bd hb
 refine W1 E V mixed [1,0,0,0,0,0,1,0,0,0,1,0,0,0,0,0,1,1,0,1,0,0,0,0,0,0] [1,2,3,4,7,8,11,12,13,14,20,21,23,24,25] (λ(x:aV×aV×aV×aV×aV×aV×aV×aV×aV×aV×aV×aV×aV×Nat)=>(λah ai aj ak al an ao aq ar au av aw ax ae=>[(0,6,v0),(1,7,ah),(2,8,ai),(3,9,aj),(4,10,ak),(5,11,vi bb),(6,12,v0),(7,13,al),(8,14,an),(9,15,vi a8.Y0),(10,16,v0),(11,17,ao),(12,18,aq),(13,19,ar),(14,20,au),(15,21,vi bc),(16,22,v0),(17,23,v0),(18,24,vi p0.length),(19,25,vi<|cE<|(p0.length:Int) - 1),(20,26,av),(21,27,aw),(22,28,vi a9.Y1),(23,29,ax),(24,3,vp ae 0)]) x.1 x.2.1 x.2.2.1 x.2.2.2.1 x.2.2.2.2.1 x.2.2.2.2.2.1 x.2.2.2.2.2.2.1 x.2.2.2.2.2.2.2.1 x.2.2.2.2.2.2.2.2.1 x.2.2.2.2.2.2.2.2.2.1 x.2.2.2.2.2.2.2.2.2.2.1 x.2.2.2.2.2.2.2.2.2.2.2.1 x.2.2.2.2.2.2.2.2.2.2.2.2.1 x.2.2.2.2.2.2.2.2.2.2.2.2.2) [(0,v0),(2,vp bf 0)] [] (λ(D:Nat->Bool)(x:aV×aV×aV×aV×aV×aV×aV×aV×aV×aV×aV×aV×aV×Nat)=>(λah ai aj ak al an ao aq ar au av aw ax ae=>[bif D 0 then pt ah bh else bD,bif D 1 then pt ai bh.Xs else bD,bif D 2 then rd aj bh.Xs else bD,bif D 3 then pt ak bb else bD,bif D 4 then pt al a8 else bD,bif D 5 then pt an a8.Y0 else bD,bif D 6 then pt ao bj else bD,bif D 7 then pt aq bj.Xs else bD,bif D 8 then rd ar bj.Xs else bD,bif D 9 then pt au bc else bD,bif D 10 then pt av a9 else bD,bif D 11 then pt aw a9.Y1 else bD,bif D 12 then rd ax (⟨bb,a8.Y0,bc,a9.Y1⟩:aK)else bD,bif D 14 then bx 56 ae (⟨bb,a8.Y0,bc,a9.Y1⟩:aK)else(bif D 13 then raw 56 ae 4 else bD),raw 56 bf 4,rd v0 p0]) x.1 x.2.1 x.2.2.1 x.2.2.2.1 x.2.2.2.2.1 x.2.2.2.2.2.1 x.2.2.2.2.2.2.1 x.2.2.2.2.2.2.2.1 x.2.2.2.2.2.2.2.2.1 x.2.2.2.2.2.2.2.2.2.1 x.2.2.2.2.2.2.2.2.2.2.1 x.2.2.2.2.2.2.2.2.2.2.2.1 x.2.2.2.2.2.2.2.2.2.2.2.2.1 x.2.2.2.2.2.2.2.2.2.2.2.2.2) (λx=>by kernel_rfl) ?_ ⟨λ_=>ka gn,?_,?_,?_,?_,?_,λ_=>ka gn,?_,?_,?_,λ_=>ka gn,?_,?_,?_,?_,?_,λ_=>ka gn,λ_=>ka gn,?_,λ_=>N5 gn rfl,?_,?_,?_,?_,?_,?_,trivial⟩ ?_
 ·have j:=((((((((((((j.drew).bD).bD).bD).bD).bD).bD).bD).bD).bD).bD).bD).bD
  have j:=(j.bD).bD
  exact⟨(undef,undef,undef,undef,undef,undef,undef,undef,undef,undef,undef,undef,undef,0),dY.none,GJ zr,zt,j⟩
 ·rintro D U w hD aa ag⟨⟨ah,ai,aj,ak,al,an,ao,aq,ar,au,av,aw,ax,ae⟩,o,ha,_,j⟩
  dsimp only at o j
  obtain⟨O,rfl⟩:=o.o1 0 aa
  have j:=j.bY 0 hD
  refine VO 15 j qx bm λbt j=>?_
  have j:=j.nw 0
  exact VQ (bt,ai,aj,ak,al,an,ao,aq,ar,au,av,aw,ax,ae) 1 o ha j
 ·rintro D U w hD aa ag⟨⟨ah,ai,aj,ak,al,an,ao,aq,ar,au,av,aw,ax,ae⟩,o,ha,_,j⟩
  dsimp only at o j
  obtain⟨O,rfl⟩:=o.o1 1 aa
  have j:=(j.eB 0<|aa.1 rfl).bY 1 hD
  refine Wo 0 j zr mf eC λbu j=>?_
  have j:=((j.pl 17 [1,0,3,4,5,6,7,8,9,10,11,12,13,14,15,16] rfl).dF 0 (D 1) (aa.1 rfl) bD).dF 1 true rfl bD
  exact VQ (ah,bu,aj,ak,al,an,ao,aq,ar,au,av,aw,ax,ae) 2 o ha j
 ·rintro D U w hD aa ag⟨⟨ah,ai,aj,ak,al,an,ao,aq,ar,au,av,aw,ax,ae⟩,o,ha,_,j⟩
  dsimp only at o j
  obtain⟨O,rfl⟩:=o.o1 2 aa
  have j:=(j.eB 1<|aa.1 rfl).bY 2 hD
  refine VS 1 bh.Xs j gm λbw j=>?_
  have j:=((j.pl 17 [1,2,0,4,5,6,7,8,9,10,11,12,13,14,15,16] rfl).dF 1 (D 2) (aa.1 rfl) bD).dF 2 true rfl bD
  exact VQ (ah,ai,bw,ak,al,an,ao,aq,ar,au,av,aw,ax,ae) 3 o ha j
 ·rintro D U w hD aa ag⟨⟨ah,ai,aj,ak,al,an,ao,aq,ar,au,av,aw,ax,ae⟩,o,ha,_,j⟩
  dsimp only at o j
  obtain⟨O,rfl⟩:=o.o1 3 aa
  have j:=(j.eB 2<|aa.1 rfl).bY 3 hD
  refine VO 2 j fH bn λbz j=>?_
  have j:=((j.pl 17 [1,2,3,0,5,6,7,8,9,10,11,12,13,14,15,16] rfl).dF 2 (D 3) (aa.1 rfl) bD).dF 3 true rfl bD
  exact VQ (ah,ai,aj,bz,al,an,ao,aq,ar,au,av,aw,ax,ae) 4 o ha j
 ·rintro D U w hD aa ag⟨⟨ah,ai,aj,ak,al,an,ao,aq,ar,au,av,aw,ax,ae⟩,o,ha,_,j⟩
  dsimp only at o j
  obtain⟨O,rfl⟩:=o.o1 4 aa
  have j:=j.eB 3<|aa.1 rfl
  refine Wd bb 3 j cV ?_
  have j:=j.dF 3 (D 4) (aa.1 rfl) bD
  exact VQ (ah,ai,aj,ak,al,an,ao,aq,ar,au,av,aw,ax,ae) 5 o ha j
 ·rintro D U w hD aa ag⟨⟨ah,ai,aj,ak,al,an,ao,aq,ar,au,av,aw,ax,ae⟩,o,ha,_,j⟩
  dsimp only at o j
  obtain⟨O,rfl⟩:=o.o1 6 aa
  have j:=j.bY 4 hD
  refine VO 15 j qx bo λb0 j=>?_
  have j:=j.nw 4
  exact VQ (ah,ai,aj,ak,b0,an,ao,aq,ar,au,av,aw,ax,ae) 7 o ha j
 ·rintro D U w hD aa ag⟨⟨ah,ai,aj,ak,al,an,ao,aq,ar,au,av,aw,ax,ae⟩,o,ha,_,j⟩
  dsimp only at o j
  obtain⟨O,rfl⟩:=o.o1 7 aa
  have j:=(j.eB 4<|aa.1 rfl).bY 5 hD
  refine Wo 4 j zr qT gM λb2 j=>?_
  have j:=((j.pl 17 [1,2,3,4,5,0,7,8,9,10,11,12,13,14,15,16] rfl).dF 4 (D 7) (aa.1 rfl) bD).dF 5 true rfl bD
  exact VQ (ah,ai,aj,ak,al,b2,ao,aq,ar,au,av,aw,ax,ae) 8 o ha j
 ·rintro D U w hD aa ag⟨⟨ah,ai,aj,ak,al,an,ao,aq,ar,au,av,aw,ax,ae⟩,o,ha,_,j⟩
  dsimp only at o j
  obtain⟨O,rfl⟩:=o.o1 8 aa
  have j:=j.eB 5<|aa.1 rfl
  refine Wd a8.Y0 5 j cV ?_
  have j:=j.dF 5 (D 8) (aa.1 rfl) bD
  exact VQ (ah,ai,aj,ak,al,an,ao,aq,ar,au,av,aw,ax,ae) 9 o ha j
 ·rintro D U w hD aa ag⟨⟨ah,ai,aj,ak,al,an,ao,aq,ar,au,av,aw,ax,ae⟩,o,ha,_,j⟩
  dsimp only at o j
  obtain⟨O,rfl⟩:=o.o1 10 aa
  have j:=j.bY 6 hD
  refine VO 15 j qx bp λb3 j=>?_
  have j:=j.nw 6
  exact VQ (ah,ai,aj,ak,al,an,b3,aq,ar,au,av,aw,ax,ae) 11 o ha j
 ·rintro D U w hD aa ag⟨⟨ah,ai,aj,ak,al,an,ao,aq,ar,au,av,aw,ax,ae⟩,o,ha,_,j⟩
  dsimp only at o j
  obtain⟨O,rfl⟩:=o.o1 11 aa
  have j:=(j.eB 6<|aa.1 rfl).bY 7 hD
  refine Wo 6 j zr mf eC λb4 j=>?_
  have j:=((j.pl 17 [1,2,3,4,5,6,7,0,9,10,11,12,13,14,15,16] rfl).dF 6 (D 11) (aa.1 rfl) bD).dF 7 true rfl bD
  exact VQ (ah,ai,aj,ak,al,an,ao,b4,ar,au,av,aw,ax,ae) 12 o ha j
 ·rintro D U w hD aa ag⟨⟨ah,ai,aj,ak,al,an,ao,aq,ar,au,av,aw,ax,ae⟩,o,ha,_,j⟩
  dsimp only at o j
  obtain⟨O,rfl⟩:=o.o1 12 aa
  have j:=(j.eB 7<|aa.1 rfl).bY 8 hD
  refine VS 7 bj.Xs j gm λb5 j=>?_
  have j:=((j.pl 17 [1,2,3,4,5,6,7,8,0,10,11,12,13,14,15,16] rfl).dF 7 (D 12) (aa.1 rfl) bD).dF 8 true rfl bD
  exact VQ (ah,ai,aj,ak,al,an,ao,aq,b5,au,av,aw,ax,ae) 13 o ha j
 ·rintro D U w hD aa ag⟨⟨ah,ai,aj,ak,al,an,ao,aq,ar,au,av,aw,ax,ae⟩,o,ha,_,j⟩
  dsimp only at o j
  obtain⟨O,rfl⟩:=o.o1 13 aa
  have j:=(j.eB 8<|aa.1 rfl).bY 9 hD
  refine VO 8 j fH bq λb6 j=>?_
  have j:=((j.pl 17 [1,2,3,4,5,6,7,8,9,0,11,12,13,14,15,16] rfl).dF 8 (D 13) (aa.1 rfl) bD).dF 9 true rfl bD
  exact VQ (ah,ai,aj,ak,al,an,ao,aq,ar,b6,av,aw,ax,ae) 14 o ha j
 ·rintro D U w hD aa ag⟨⟨ah,ai,aj,ak,al,an,ao,aq,ar,au,av,aw,ax,ae⟩,o,ha,_,j⟩
  dsimp only at o j
  obtain⟨O,rfl⟩:=o.o1 14 aa
  have j:=j.eB 9<|aa.1 rfl
  refine Wd bc 9 j cV ?_
  have j:=j.dF 9 (D 14) (aa.1 rfl) bD
  exact VQ (ah,ai,aj,ak,al,an,ao,aq,ar,au,av,aw,ax,ae) 15 o ha j
 ·rintro D U w hD aa ag⟨⟨ah,ai,aj,ak,al,an,ao,aq,ar,au,av,aw,ax,ae⟩,o,ha,_,j⟩
  dsimp only at o j
  obtain⟨O,rfl⟩:=o.o1 17 aa
  refine VP 15 p0 j xh ?_
  exact VQ (ah,ai,aj,ak,al,an,ao,aq,ar,au,av,aw,ax,ae) 18 o ha j
 ·rintro D U w hD aa ag⟨⟨ah,ai,aj,ak,al,an,ao,aq,ar,au,av,aw,ax,ae⟩,o,ha,_,j⟩
  dsimp only at o j
  obtain⟨O,rfl⟩:=o.o2 16 19 aa
  have j:=j.bY 10 hD
  refine VO 15 j qx br λb7 j=>?_
  have j:=j.nw 10
  exact VQ (ah,ai,aj,ak,al,an,ao,aq,ar,au,b7,aw,ax,ae) 20 o ha j
 ·rintro D U w hD aa ag⟨⟨ah,ai,aj,ak,al,an,ao,aq,ar,au,av,aw,ax,ae⟩,o,ha,_,j⟩
  dsimp only at o j
  obtain⟨O,rfl⟩:=o.o1 20 aa
  have j:=(j.eB 10<|aa.1 rfl).bY 11 hD
  refine Wo 10 j zr nO fJ λb8 j=>?_
  have j:=((j.pl 17 [1,2,3,4,5,6,7,8,9,10,11,0,13,14,15,16] rfl).dF 10 (D 20) (aa.1 rfl) bD).dF 11 true rfl bD
  exact VQ (ah,ai,aj,ak,al,an,ao,aq,ar,au,av,b8,ax,ae) 21 o ha j
 ·rintro D U w hD aa ag⟨⟨ah,ai,aj,ak,al,an,ao,aq,ar,au,av,aw,ax,ae⟩,o,ha,_,j⟩
  dsimp only at o j
  obtain⟨O,rfl⟩:=o.o1 21 aa
  have j:=j.eB 11<|aa.1 rfl
  refine Wd a9.Y1 11 j cV ?_
  have j:=j.dF 11 (D 21) (aa.1 rfl) bD
  exact VQ (ah,ai,aj,ak,al,an,ao,aq,ar,au,av,aw,ax,ae) 22 o ha j
 ·rintro D U w hD aa ag⟨⟨ah,ai,aj,ak,al,an,ao,aq,ar,au,av,aw,ax,ae⟩,o,ha,_,j⟩
  dsimp only at o j
  obtain⟨O,rfl⟩:=(ac (o.at 5 rfl<|aa.1 rfl)<|ac (o.at 9 rfl<|aa.2.1 rfl)<|ac (o.at 15 rfl<|aa.2.2.1 rfl)<|ac (o.at 22 rfl<|aa.2.2.2.1 rfl) az).sV
  have j:=((((j.bY 12 hD).sc Int bb).sc Int a8.Y0).sc Int bc).sc Int a9.Y1
  refine WN (⟨bb,a8.Y0,bc,a9.Y1⟩:aK) trivial rfl j [(0,vi bb),(1,vi a8.Y0),(2,vi bc),(3,vi a9.Y1)] rfl Ia rfl (λM hs g=>by have h:=vz M;exact cI.cons (f:=λ(x:aK)y=>{x with X0:=y}) h sY (g.sat 3 _ rfl).1 λ_ h=>cI.cons (f:=λ(x:aK)y=>{x with Y0:=y}) h wJ (g.sat 2 _ rfl).1 λ_ h=>cI.cons (f:=λ(x:aK)y=>{x with X1:=y}) h re (g.sat 1 _ rfl).1 λ_ h=>cI.cons (f:=λ(x:aK)y=>{x with Y1:=y}) h sZ (g.sat 0 _ rfl).1 λ_ h=>cI.nil h) λb9 j=>?_
  have j:=(j.pl 21 [5,6,7,8,9,10,11,12,13,14,15,16,0,18,19,20] rfl).dF 12 true rfl bD
  exact VQ (ah,ai,aj,ak,al,an,ao,aq,ar,au,av,aw,b9,ae) 23 o ha j
 ·rintro D U w hD aa ag⟨⟨ah,ai,aj,ak,al,an,ao,aq,ar,au,av,aw,ax,ae⟩,o,ha,_,j⟩
  dsimp only at o j
  obtain⟨O,rfl⟩:=N8 U
  have j:=(j.bY 13<|nh ag hD 25).bY 13 hD
  refine V9 j px.z λbl w j=>?_
  have j:=(j.nw 13).fV 13 (D 25) (nh ag hD 25)<|bx 56 bl (⟨bb,a8.Y0,bc,a9.Y1⟩:aK)
  exact VQ (ah,ai,aj,ak,al,an,ao,aq,ar,au,av,aw,ax,bl) 24 o ha j
 ·rintro D U w hD aa ag⟨⟨ah,ai,aj,ak,al,an,ao,aq,ar,au,av,aw,ax,ae⟩,o,ha,_,j⟩
  dsimp only at o j
  obtain⟨O,rfl⟩:=o.o2 24 23 aa
  have j:=((j.eB 12<|aa.2.1 rfl).bY 13 hD).eB 13<|aa.1 rfl
  refine V5 13 j 12 zr gH λw j=>?_
  have j:=(j.dF 12 (D 23) (aa.2.1 rfl) bD).dF 13 true rfl (bif D 24 then raw 56 ae 4 else bD)
  exact WV (ah,ai,aj,ak,al,an,ao,aq,ar,au,av,aw,ax,ae) o ha j
 rintro D U w a6⟨⟨ah,ai,aj,ak,al,an,ao,aq,ar,au,av,aw,ax,ae⟩,o,ha,_,j⟩
 simp only[List.getD_cons_zero,List.getD_cons_succ,a6 1 (by decide),a6 2 (by decide),a6 3 (by decide),a6 4 (by decide),a6 7 (by decide),a6 8 (by decide),a6 11 (by decide),a6 12 (by decide),a6 13 (by decide),a6 14 (by decide),a6 20 (by decide),a6 21 (by decide),a6 23 (by decide),a6 25 (by decide),aQ]at j
 obtain⟨O,rfl⟩:=(ac (o.at 24 rfl<|tK a6 24) ha).sV
 refine aD<|IS<|w_<|mv v0<|VP 15 p0 j xh<|aO 0<|AS<|WU E V (λ(af:aK)=>[raw 56 bf 4,bx 56 ae af,rd v0 p0]) (λ_=>[(2,vp bf 0),(3,vp ae 0)]) (λbk _=>[(30,v0),(31,vi p0.length),(32,vi bk)]) hb ?_ ?_ ?_
 ·exact j.sp 16 [14,13,15]
 ·rintro hm bk af s' _ w hk⟨O,rfl,j⟩hb
  refine IS<|VW ?_
  obtain⟨ba,cc,hb⟩:=bd hb
  refine VO 2 j qx cc λcd j=>VS 0 ba j zf λcf j=>V9 j GO.z λbg w j=>?_
  refine V5 0 j 1 zr zf λw j=>?_
  refine AS ?_
  obtain⟨a5,cg,hb⟩:=bd hb
  obtain⟨a7,ch,hb⟩:=bd hb
  refine W1 E V mixed [1,0,1,0,0,0,0,1,0,1,0,1,0,0,1,0,0,0,1,0,1,0] [3,4,10,12,15,19,21] (λ(x:aV×aV×aV×aV×aV)=>(λay a0 a1 a2 a3=>[(0,36,vp ae 0),(1,37,vi af.X0),(2,38,vp bg 2),(3,39,ay),(4,40,a0),(5,41,vi a5),(6,42,vi (aN a5 af.X0)),(7,43,vp ae 2),(8,44,vi af.X1),(9,45,vp bg 2),(10,46,a1),(11,47,vp bg 2),(12,48,a2),(13,49,vi ba.Xs.length),(14,50,vi<|cE<|(ba.Xs.length:Int) - 1),(15,51,a3),(16,52,vi a7),(17,53,vi (cJ af.X1 a7)),(18,54,vp ae 0),(20,55,vp ae 2)]) x.1 x.2.1 x.2.2.1 x.2.2.2.1 x.2.2.2.2) [(2,vp bf 0),(3,vp ae 0),(5,vp bg 0),(30,v0),(31,vi p0.length),(32,vi bk)] [] (λ(D:Nat->Bool)(x:aV×aV×aV×aV×aV)=>(λay a0 a1 a2 a3=>[bif D 0 then rd ay ba.Xs else bD,bif D 1 then pt a0 a5 else bD,bif D 2 then rd a1 ba.Xs else bD,bif D 3 then rd a2 ba.Xs else bD,bif D 4 then pt a3 a7 else bD,bx 212 bg ba,rd cf ba,pt cd ba,raw 56 bf 4,bif D 6 then bx 56 ae {{af with X0:=(aN a5 af.X0)}with X1:=(cJ af.X1 a7)}else(bif D 5 then bx 56 ae {af with X0:=(aN a5 af.X0)}else bx 56 ae af),rd v0 p0]) x.1 x.2.1 x.2.2.1 x.2.2.2.1 x.2.2.2.2) (λx=>by kernel_rfl) ?_ ⟨λ_=>qs gn kJ,?_,λ_=>qs gn mf,?_,?_,?_,?_,λ_=>qs gn mE,?_,λ_=>qs gn mf,?_,λ_=>qs gn mf,?_,?_,λ_=>N5 gn rfl,?_,?_,?_,λ_=>qs gn kJ,?_,λ_=>qs gn mE,?_,trivial⟩ ?_
  ·have j:=(((((j.drew).bD).bD).bD).bD).bD
   exact⟨(undef,undef,undef,undef,undef),dY.none,GJ zr,zt,j⟩
  ·rintro D U w hD aa ag⟨⟨ay,a0,a1,a2,a3⟩,o,ha,_,j⟩
   obtain⟨O,rfl⟩:=o.o1 0 aa
   have j:=(j.bY 9<|nh ag hD 21).bY 9<|nh ag hD 19
   refine VL 9 j zr fX cV ?_
   have j:=(j.fV 9 (D 19) (nh ag hD 19)<|bx 56 ae {af with X0:=(aN a5 af.X0)}).fV 9 (D 21) (nh ag hD 21)<|bx 56 ae {{af with X0:=(aN a5 af.X0)}with X1:=(cJ af.X1 a7)}
   exact VQ (ay,a0,a1,a2,a3) 1 o ha j
  ·rintro D U w hD aa ag⟨⟨ay,a0,a1,a2,a3⟩,o,ha,_,j⟩
   obtain⟨O,rfl⟩:=o.o1 2 aa
   have j:=j.bY 0 hD
   refine Wh 5 j zr eC gm λcj j=>?_
   have j:=j.nw 0
   exact VQ (cj,a0,a1,a2,a3) 3 o ha j
  ·rintro D U w hD aa ag⟨⟨ay,a0,a1,a2,a3⟩,o,ha,_,j⟩
   obtain⟨O,rfl⟩:=o.o1 3 aa
   have j:=(j.eB 0<|aa.1 rfl).bY 1 hD
   refine VO 0 j fH cg λck j=>?_
   have j:=((j.pl 12 [1,0,3,4,5,6,7,8,9,10,11] rfl).dF 0 (D 3) (aa.1 rfl) bD).dF 1 true rfl bD
   exact VQ (ay,ck,a1,a2,a3) 4 o ha j
  ·rintro D U w hD aa ag⟨⟨ay,a0,a1,a2,a3⟩,o,ha,_,j⟩
   obtain⟨O,rfl⟩:=o.o1 4 aa
   have j:=j.eB 1<|aa.1 rfl
   refine Wd a5 1 j cV ?_
   have j:=j.dF 1 (D 4) (aa.1 rfl) bD
   exact VQ (ay,a0,a1,a2,a3) 5 o ha j
  ·rintro D U w hD aa ag⟨⟨ay,a0,a1,a2,a3⟩,o,ha,_,j⟩
   obtain⟨O,rfl⟩:=o.o2 1 5 aa
   refine Xb af.X0 a5 ?_
   exact VQ (ay,a0,a1,a2,a3) 6 o ha j
  ·rintro D U w hD aa ag⟨⟨ay,a0,a1,a2,a3⟩,o,ha,_,j⟩
   obtain⟨O,rfl⟩:=o.o1 7 aa
   have j:=(j.bY 9<|nh ag hD 21).bY 9<|nh ag hD 19
   refine VL 9 j zr iC cV ?_
   have j:=(j.fV 9 (D 19) (nh ag hD 19)<|bx 56 ae {af with X0:=(aN a5 af.X0)}).fV 9 (D 21) (nh ag hD 21)<|bx 56 ae {{af with X0:=(aN a5 af.X0)}with X1:=(cJ af.X1 a7)}
   exact VQ (ay,a0,a1,a2,a3) 8 o ha j
  ·rintro D U w hD aa ag⟨⟨ay,a0,a1,a2,a3⟩,o,ha,_,j⟩
   obtain⟨O,rfl⟩:=o.o1 9 aa
   have j:=j.bY 2 hD
   refine Wh 5 j zr eC gm λcl j=>?_
   have j:=j.nw 2
   exact VQ (ay,a0,cl,a2,a3) 10 o ha j
  ·rintro D U w hD aa ag⟨⟨ay,a0,a1,a2,a3⟩,o,ha,_,j⟩
   obtain⟨O,rfl⟩:=o.o1 11 aa
   have j:=j.bY 3 hD
   refine Wh 5 j zr eC gm λcm j=>?_
   have j:=j.nw 3
   exact VQ (ay,a0,a1,cm,a3) 12 o ha j
  ·rintro D U w hD aa ag⟨⟨ay,a0,a1,a2,a3⟩,o,ha,_,j⟩
   obtain⟨O,rfl⟩:=o.o1 12 aa
   have j:=j.eB 3<|aa.1 rfl
   refine VP 3 ba.Xs j pd ?_
   have j:=j.dF 3 (D 12) (aa.1 rfl) bD
   exact VQ (ay,a0,a1,a2,a3) 13 o ha j
  ·rintro D U w hD aa ag⟨⟨ay,a0,a1,a2,a3⟩,o,ha,_,j⟩
   obtain⟨O,rfl⟩:=o.o2 10 14 aa
   have j:=(j.eB 2<|aa.1 rfl).bY 4 hD
   refine VO 2 j fH ch λcn j=>?_
   have j:=((j.pl 12 [1,2,3,4,0,6,7,8,9,10,11] rfl).dF 2 (D 10) (aa.1 rfl) bD).dF 4 true rfl bD
   exact VQ (ay,a0,a1,a2,cn) 15 o ha j
  ·rintro D U w hD aa ag⟨⟨ay,a0,a1,a2,a3⟩,o,ha,_,j⟩
   obtain⟨O,rfl⟩:=o.o1 15 aa
   have j:=j.eB 4<|aa.1 rfl
   refine Wd a7 4 j cV ?_
   have j:=j.dF 4 (D 15) (aa.1 rfl) bD
   exact VQ (ay,a0,a1,a2,a3) 16 o ha j
  ·rintro D U w hD aa ag⟨⟨ay,a0,a1,a2,a3⟩,o,ha,_,j⟩
   obtain⟨O,rfl⟩:=o.o2 8 16 aa
   refine W8 af.X1 a7 ?_
   exact VQ (ay,a0,a1,a2,a3) 17 o ha j
  ·rintro D U w hD aa ag⟨⟨ay,a0,a1,a2,a3⟩,o,ha,_,j⟩
   obtain⟨O,rfl⟩:=o.o2 18 6 aa
   have j:=((j.bY 9<|nh ag hD 21).bY 9 hD).sc Int (aN a5 af.X0)
   refine Xg 10 j zr 0 zr sY cV λw j=>?_
   have j:=((j.pl 12 [1,2,3,4,5,6,7,8,9,10,11] rfl).dF 9 true rfl<|bx 56 ae af).fV 9 (D 21) (nh ag hD 21)<|bx 56 ae {{af with X0:=(aN a5 af.X0)}with X1:=(cJ af.X1 a7)}
   exact WV (ay,a0,a1,a2,a3) o ha j
  ·rintro D U w hD aa ag⟨⟨ay,a0,a1,a2,a3⟩,o,ha,_,j⟩
   obtain⟨O,rfl⟩:=o.o2 19 17 aa
   have j:=((j.bY 9 hD).eB 9<|aa.2.2.1 rfl).sc Int (cJ af.X1 a7)
   refine Xg 10 j zr 0 zr re cV λw j=>?_
   have j:=(j.pl 12 [1,2,3,4,5,6,7,8,9,10,11] rfl).dF 9 true rfl (bif D 19 then bx 56 ae {af with X0:=(aN a5 af.X0)}else bx 56 ae af)
   exact WV (ay,a0,a1,a2,a3) o ha j
  rintro D U w a6⟨⟨ay,a0,a1,a2,a3⟩,o,ha,_,j⟩
  simp only[List.getD_cons_zero,List.getD_cons_succ,a6 3 (by decide),a6 4 (by decide),a6 10 (by decide),a6 12 (by decide),a6 15 (by decide),a6 21 (by decide),aQ]at j
  obtain⟨O,rfl⟩:=ha.sV
  refine bI<|aD<|BY<|Wa hk hm<|aO ((bk+1:Nat):Int)<|By ?_
  obtain rfl:=oi hb
  exact⟨rfl,j.sp 11 [8,9,10]⟩
 rintro af _ w hb⟨O,rfl,j⟩
 refine aD<|w_<|V1 1 j zr gH λcp j=>V5 1 j 0 zr gH λw j=>?_
 refine AS<|VN ?_
 obtain rfl:=oi hb
 exact LH 1 zr j zr zr gH λcq j=>j.pk 5 [0]
theorem zq{p0:aL aB}{res:Bool}(j:Holds E w V)(h0:fC V i0 v0 p0)(hb:mA N p0=some res):c_ 131 [v0] w<|bE E V res:=by
 unfold mA at hb;refine enter Tryz.func131 zr zr ?_;have j:=j.dup (i0+0) h0;refine w_<|bV false<|IT<|q_ hb λad o hb=>VR (λ(ad:Bool)=>SH E V [(2,vb ad)] []) ad ?_ ?_;refine BY<|mv v0<|VP 0 p0 j xh<|ic ((p0.length:Int)) 0<|fY ((p0.length:Int)==0)<|fx o (λaa o=>?_) λaa o=>?_;exact bH aa<|bH aa<|bH aa<|fw aa (vb true)<|bV true<|By<|oi o▸⟨rfl,j.sp 1 []⟩;refine VK v0 (cg aa)<|q_ o λah af o=>V2 (gr Tryz.func154) (xw N (i0:=0) j zr af) λai w j=>?_;exact q_ o λae ag o=>VM Pa (uB N (i0:=0) j zr ag) λw j=>fw aa (vb ae)<|bV ae<|By<|oi o▸⟨rfl,j.sp 2 []⟩;rintro _ w⟨O,rfl,j⟩;exact aD<|VN<|oi hb▸bT ⟨rfl,j.drop 0⟩
def Bm(E:aW)(V:aL HP)(res:aK×Int)(v:aV)(w:aW):Prop:=∃u0:aV,v = .tuple #[u0,vi res.2]/\Holds E w ([rd u0 res.1]++V)
theorem Ap{p0:cL}{res:aK×Int}(j:Holds E w V)(h0:fC V i0 v0 p0)(o:lU N p0=some res):c_ 96 [v0] w<|Bm E V res:=by
 unfold lU at o;refine enter Tryz.func96 zr zr ?_;have j:=j.dup (i0+0) h0;refine w_<|V7 0 v0 j zr λae w j=>?_;refine V9 j px.z λaf w j=>?_;refine aJ 0<|IT<|IS<|q_ o λad hj o=>VR (λ(ad:Bool)=>SH E V [(1,vp ae 0),(2,vp af 0),(14,vb ad)] [bx 147 ae p0,raw 56 af 4]) ad ?_ ?_;refine BY<|AT zr zg<|VL 1 j zr tc cV<|q_ hj λag ai hj=>VM Od (mZ N (p0:=p0.gG) (p1:=1) (p2:=10000) j ai) λw j=>Wr ag<|fY (!ag)<|fx hj (λaa hj=>?_) λaa hj=>?_;exact bH aa<|bH aa<|bH aa<|bH aa<|fw aa (vb true)<|By<|oi hj▸⟨rfl,j.sp 3 [1,0]⟩;refine AT zr Ff<|Wh 1 j zr Ad xk λax j=>?_;exact q_ hj λah aj hj=>VM RJ (tq N (i0:=0) j zr aj) λw j=>Wr ah<|fw aa (vb<|!ah)<|By<|oi hj▸⟨rfl,j.sp 4 [2,1]⟩;rintro _ w⟨O,rfl,j⟩;refine aD<|dM o (λo=>?_) λo=>?_;refine w_<|WN (⟨0,0,0,0⟩:aK) trivial rfl j [] rfl Ia rfl (λM hs g=>by have h:=vz M;exact cI.nil h) λay j=>?_;refine V5 2 j 0 zr gH λw j=>?_;refine aJ 1<|AS<|V4 ?_;obtain rfl:=oi o;exact D1 2 j gH λak j=>⟨ak,zr,j.pk 4 [0]⟩;refine Ww<|V1 0 j zr na λaz j=>?_;refine q_ o λal an o=>V2 Ky (iP N (i0:=0) j zr an) λa0 w j=>V9 j px.z λa1 w j=>?_;refine V5 0 j 1 zr gH λw j=>?_;refine IT<|w_<|V1 0 j zr gH λao j=>Wv ([al]:aL aK) j [ao] mD px (λ_ _=>jn) λa2 w j=>?_;have j:=j.freeze 0;refine q_ o λa3 aq o=>V2 Mc (mK N (i0:=0) j zr aq) λa4 w j=>?_;have j:=j.freeze 0;refine q_ o λar au o=>VM (gr Tryz.func131) (zq N (i0:=0) j zr au) λw j=>Wr ar<|AS<|dM o (λo=>?_) λo=>?_;refine w_<|WN (⟨0,0,0,0⟩:aK) trivial rfl j [] rfl Ia rfl (λM hs g=>by have h:=vz M;exact cI.nil h) λa5 j=>?_;refine V5 8 j 0 zr gH λw j=>?_;refine aJ 1<|AS<|V4 ?_;obtain rfl:=oi o;exact D1 8 j gH λav j=>⟨av,zr,j.pk 10 [0]⟩;refine Ww<|V1 3 j zr gH λa6 j=>V5 8 j 0 zr gH λw j=>?_;refine aJ 0<|AS<|VN ?_;obtain rfl:=oi o;exact D1 8 j gH λaw j=>⟨aw,zr,j.pk 10 [0]⟩
theorem vP{p0:iE}(j:Holds E w V)(h0:fC V i0 v0 p0)(o:ku N p0=some res):c_ 66 [v0] w<|aG E V res:=by
 unfold ku at o;refine enter Tryz.func66 zr zr ?_;have j:=j.dup (i0+0) h0;refine w_<|V7 0 v0 j zr λax w j=>?_;refine aJ 0<|IT<|w_<|AT zr py<|Wh 0 j zr vv Ah λay j=>VP 0 p0.bQ j Co<|ic ((p0.bQ.length:Int)) 500<|AS<|dM o (λo=>?_) λo=>?_;exact w_<|aJ 2<|AS<|V4<|oi o▸bT ⟨rfl,j.drop 3⟩;refine Ww<|AT zr Af<|Wh 1 j zr te Kv λaz j=>VP 0 p0.aS j GN<|aJ (p0.aS.length:Int)<|IT<|w_<|AT zr py<|Wh 2 j zr vv Ah λae j=>?_;refine VP 0 p0.bQ j Co<|aO 0<|AS<|WJ E V (λ(ai:Unit)=>[rd ae p0.bQ]) (λ_=>[]) (λaf _=>[(3,vi p0.aS.length),(16,ae),(17,vi p0.bQ.length),(18,vi af)]) (λr=>ml aX 47 Tryz.f66 (aG E V r) .ret) o ?_ ?_ ?_ ?_;exact j.sp 5 [0];rintro hm af ai fl _ w hk⟨O,rfl,j⟩o;refine IS<|VW<|q_ o λag aq o=>VO 0 j Fe aq λa1 j=>VS 0 ag j na λa2 j=>V9 j Ej.z λa3 w j=>?_;refine V5 0 j 1 zr na λw j=>?_;refine IT<|w_<|V1 0 j zr na λa4 j=>?_;refine q_ o λad ar o=>V2 (gr Tryz.func96) (Ap N (i0:=0) j zr ar) ?_;rintro _ w⟨aj,rfl,j⟩;refine mv (.tuple #[aj,vi ad.2])<|V6 aj<|V6 (vi ad.2)<|V9 j px.z λa5 w j=>?_;refine V5 0 j 1 zr gH λw j=>?_;refine aJ ad.2<|IN<|aO ad.2<|ic ad.2 0<|AS<|dM o (λo=>?_) λo=>?_;exact w_<|aO ad.2<|aJ ad.2<|AS<|V4<|fU<|bJ<|oi o▸⟨rfl,bT ⟨rfl,j.drop 7⟩⟩;refine We<|q_ o λah hj o=>VR (λ(ah:Bool)=>SH E V [(3,vi p0.aS.length),(16,ae),(17,vi p0.bQ.length),(18,vi af),(45,vb ah)] [rd ae p0.bQ]) ah ?_ ?_;refine BY<|AT zr tZ<|VL 3 j zr pj cV<|aO (p0.aS.length:Int)<|OF (p0.aS.length:Int) 1<|q_ hj λak au hj=>VM Od (mZ N (p0:=ag.cQ) (p1:=0) (p2:=cE<|(p0.aS.length:Int) - 1) j au) λw j=>Wr ak<|fY (!ak)<|fx hj (λaa hj=>?_) λaa hj=>?_;refine bH aa<|bH aa<|bH aa<|bH aa<|bH aa<|bH aa<|bH aa<|bH aa<|fw aa (vb true)<|By ?_;exact oi hj▸⟨rfl,j.sp 7 [6]⟩;refine AT zr wP<|VL 3 j zr rf cV<|AT zr tZ<|VL 3 j zr pj cV<|VK (vi p0.aS.length) (cg aa)<|OF (p0.aS.length:Int) 1<|q_ hj λal av hj=>VM Od (mZ N (p0:=ag.To) (p1:=ag.cQ) (p2:=cE<|(p0.aS.length:Int) - 1) j av) λw j=>Wr al<|fw aa (vb<|!al)<|By ?_;exact oi hj▸⟨rfl,j.sp 7 [6]⟩;rintro _ w⟨O,rfl,j⟩;refine aD<|dM o (λo=>?_) λo=>?_;exact w_<|aJ 1<|AS<|Wm<|bJ<|oi o▸⟨rfl,bT ⟨rfl,j.drop 1⟩⟩;exact Wc<|bI<|aD<|BY<|Wa hk hm<|aO ((af+1:Nat):Int)<|By<|oi o▸⟨rfl,j.sp 1 [0]⟩;intro r U w o hK;exact bJ<|oi o▸hK;rintro ai _ w o⟨O,rfl,j⟩;exact aD<|w_<|aJ 0<|AS<|VN<|oi o▸bT ⟨rfl,j.drop 1⟩
def Cx(E:aW)(V:aL HP)(res:bZ)(v:aV)(w:aW):Prop:=Holds E w<|[rd v res]++V
theorem nP{p0:cW}{res:bZ}(j:Holds E w V)(h0:fC V i0 v0 p0)(o:lx N p0=some res):c_ 45 [v0] w<|Cx E V res:=by
 unfold lx at o;refine enter Tryz.func45 zr zr ?_;have j:=j.dup (i0+0) h0;refine w_<|V7 0 v0 j zr λaa w j=>?_;refine V9 j Ku.z λab w j=>?_;refine IN<|AT zr Fg<|VL 1 j zr wL ri<|AT zr Fh<|VL 1 j zr wM ri ?_;have j:=(j.sc cN p0.Part).sc cN p0.bZ;refine WN (⟨p0.Part,p0.bZ⟩:bZ) trivial rfl j [(0,str p0.Part),(1,str p0.bZ)] rfl Md rfl (λM hs g=>by have h:=AX M;exact cI.cons (f:=λ(x:bZ)y=>{x with Part:=y}) h vr (g.sat 1 _ rfl).1 λ_ h=>cI.cons (f:=λ(x:bZ)y=>{x with bZ:=y}) h vt (g.sat 0 _ rfl).1 λ_ h=>cI.nil h) λad j=>?_;refine V5 3 j 0 zr iv λw j=>?_;refine AS<|VN ?_;obtain rfl:=oi o;exact LH 3 zr j zr zr iv λae j=>j.pk 7 [0]
theorem vQ{p0:iE}(j:Holds E w V)(h0:fC V i0 v0 p0)(hb:kx N p0=some res):c_ 67 [v0] w<|aG E V res:=by
 unfold kx at hb;refine enter Tryz.func67 zr zr ?_;have j:=j.dup (i0+0) h0;refine w_<|V7 0 v0 j zr λag w j=>?_;have j:=j.fM (i:=0) rfl;refine aJ 0<|IT<|w_<|Wo 0 j zr yf tf λba j=>VS 0 p0.bX j Ib λbb j=>VP 0 p0.bX j GP<|ic ((p0.bX.length:Int)) 1000<|AS<|dM hb (λhb=>?_) λhb=>?_;exact w_<|aJ 2<|AS<|V4<|oi hb▸bT ⟨rfl,j.drop 4⟩;refine We<|w_<|Wo 2 j zr yf tf λbc j=>VS 0 p0.bX j Ib λah j=>VP 0 p0.bX j GP<|aO 0<|AS<|WJ E V (λ(au:Unit)=>[pt (vp ag 0) p0,rd ah p0.bX]) (λ_=>[]) (λad _=>[(1,vp ag 0),(10,ah),(11,vi p0.bX.length),(12,vi ad)]) (λr=>ml aX 60 Tryz.f67 (aG E V r) .ret) hb ?_ ?_ ?_ ?_;exact j.sp 6 [4,0];rintro hm ad au fl _ w hk⟨O,rfl,j⟩hb;refine IS<|VW<|aO (ad:Int)<|q_ hb λai az hb=>VO 1 j Bi az λbg j=>VS 0 ai j tj λbh j=>V9 j GQ.z λaj w j=>?_;refine aJ (ad:Int)<|V5 0 j 1 zr tj λw j=>?_;refine AS<|WM<|IS<|q_ hb λak o hb=>VR (λ(ak:Bool)=>SH E V [(1,vp ag 0),(3,vi ad),(4,vp aj 0),(10,ah),(11,vi p0.bX.length),(12,vi ad),(17,vb ak)] [pt (vp ag 0) p0,bx 60 aj ai,rd ah p0.bX]) ak ?_ ?_;refine BY<|AT zr Fg<|VL 0 j zr wL ri<|q_ o λav a0 o=>VM PX (oQ N (p0:=ai.Part) j a0) λw j=>Wr av<|fY (!av)<|fx o (λae o=>?_) λae o=>?_;exact bH ae<|bH ae<|bH ae<|bH ae<|fw ae (vb true)<|bV true<|By<|oi o▸⟨rfl,j.sp 5 [3,0,4]⟩;exact AT zr Fh<|VL 0 j zr wM ri<|q_ o λal a1 o=>VM N9 (mg N (p0:=ai.bZ) j a1) λw j=>Wr al<|fw ae (vb<|!al)<|bV (!al)<|By<|oi o▸⟨rfl,j.sp 5 [3,0,4]⟩;rintro _ w⟨O,rfl,j⟩;refine aD<|dM hb (λhb=>?_) λhb=>?_;exact w_<|aJ 5<|AS<|Wm<|fU<|bJ<|oi hb▸⟨rfl,bT ⟨rfl,j.drop 3⟩⟩;refine IS<|q_ hb λan o hb=>VR (λ(an:Bool)=>SH E V [(1,vp ag 0),(3,vi ad),(4,vp aj 0),(10,ah),(11,vi p0.bX.length),(12,vi ad),(28,vb an)] [pt (vp ag 0) p0,bx 60 aj ai,rd ah p0.bX]) an ?_ ?_;refine BY<|AT zr Ic<|VL 1 j zr Ae cV<|Wo 0 j zr Af te λbj j=>VS 0 p0.aS j Kv λbk j=>VP 0 p0.aS j GN<|OF (p0.aS.length:Int) 1<|q_ o λaw a2 o=>VM Od (mZ N (p0:=ai.dI) (p1:=0) (p2:=cE<|(p0.aS.length:Int) - 1) j a2) λw j=>Wr aw<|fY (!aw)<|fx o (λaf o=>?_) λaf o=>?_;exact bH af<|bH af<|bH af<|bH af<|fw af (vb true)<|bV true<|By<|oi o▸⟨rfl,j.sp 5 [2,3,4]⟩;refine AT zr yg<|Wh 3 j zr po xk λbl j=>?_;exact q_ o λao a3 o=>VM RJ (tq N (i0:=0) j zr a3) λw j=>Wr ao<|fw af (vb<|!ao)<|bV (!ao)<|By<|oi o▸⟨rfl,j.sp 6 [3,4,5]⟩;rintro _ w⟨O,rfl,j⟩;refine aD<|dM hb (λhb=>?_) λhb=>?_;exact w_<|aJ 1<|AS<|Wm<|fU<|bJ<|oi hb▸⟨rfl,bT ⟨rfl,j.drop 3⟩⟩;refine IS<|q_ hb λaq o hb=>VR (λ(aq:Bool)=>SH E V [(1,vp ag 0),(10,ah),(11,vi p0.bX.length),(12,vi ad),(43,vb aq)] [pt (vp ag 0) p0,rd ah p0.bX]) aq ?_ ?_;refine WA mixed [0,0,0,0,2,1,1,1,1,1,1,2,2,0,0,0] ([0,1,2,3]++fR 5 6 (4::fR 11 5 [])) ?_;have j:=j.drew;refine VU zr zr<|aO (ad:Int)<|bF zr<|ic ((ad:Int)) 0<|bF zr<|fY (jP<|(ad:Int)>0)<|VZ<|fx o (λab o=>?_) λab o=>?_;refine VU zr zr<|V1 1 j zr tj λbm j=>VZ<|XI 1 zr zr (cg ab) zr j zr zr yf tf λbn j=>W6 (hg:=cg ab) p0.bX 0 zr j Ib λbo a378 bp j=>V8 (vi ad) zr (λw=>VK (vi ad) (cg ab) V0)<|V8 (vi<|cE<|(ad:Int) - 1) zr (λw=>OF (ad:Int) 1 V0)<|q_ o λa4 a5 o=>X4 1 zr zr (cg ab) zr j zr zr zr Bi a5 λbq j=>W6 (hg:=cg ab) a4 0 zr j tj λbr a383 bt j=>Wq zr zr<|q_ o λbu a6 o=>V2 Oe (nP N (i0:=6) j zr a6) λbw w j=>Wj (⟨⟨zt,j.kP 4⟩,j.kP 1⟩)<|Wq zr zr<|q_ o λbz a7 o=>V2 Oe (nP N (i0:=2) j zr a7) λb0 w j=>Wj (⟨⟨zt,j.kP 5⟩,j.kP 2⟩)<|Wq zr zr ?_;refine q_ o λar a8 o=>VM Fc (dX N (i0:=1) (i1:=0) j zr zr a8) λw j=>Wj (⟨⟨zt,j.kP 5⟩,j.kP 2⟩)<|VU zr zr<|Ws ar 0 (cg ab)<|bF zr<|fw ab (vb<|ar<=0)<|bF zr<|bV (jP<|ar<=0)<|VZ ?_;have j:=j.pl 12 [0,1,3,4,6,7,8,9,10,11] rfl;exact Wi<|oi o▸⟨rfl,j.sp 10 [7,9]⟩;refine VU zr zr<|bH ab<|VZ<|V8 undef zr (λw=>bH ab V0)<|V8 undef zr (λw=>bH ab V0)<|V8 undef zr (λw=>bH ab V0)<|V8 undef zr (λw=>bH ab V0)<|V8 undef zr (λw=>bH ab V0)<|V8 undef zr (λw=>bH ab V0)<|Wq zr zr<|bH ab<|N6 zr<|bH ab<|N6 zr<|bH ab<|u7 zr<|bH ab<|bF zr ?_;exact fw ab (vb false)<|bF zr<|bV false<|VZ<|Wi<|oi o▸⟨rfl,j.sp 3 [0,2]⟩;rintro _ w⟨O,rfl,j⟩;refine aD<|dM hb (λhb=>?_) λhb=>?_;exact w_<|aJ 8<|AS<|Wm<|fU<|bJ<|oi hb▸⟨rfl,bT ⟨rfl,j.drop 2⟩⟩;exact Wc<|bI<|bI<|aD<|BY<|Wa hk hm<|aO ((ad+1:Nat):Int)<|By<|oi hb▸⟨rfl,j.sp 2 [0,1]⟩;intro r U w hb hK;exact bJ<|oi hb▸hK;rintro au _ w hb⟨O,rfl,j⟩;exact aD<|w_<|aJ 0<|AS<|VN<|oi hb▸bT ⟨rfl,j.drop 2⟩
theorem tt(o:Holds E w V)(j:jG N p0 p1 p2 p3=some res):c_ 84 [vi p0,vi p1,vi p2,vi p3] w<|aG E V res:=by
 unfold jG at j;refine enter Tryz.func84 zr zr<|w_<|aJ 0<|IN<|aO p2<|aO p1<|OF p2 p1<|OF (cE<|p2 - p1) 1<|aO p0 ?_;refine aO p3<|OF p0 p3<|OF (cE<|p0 - p3) 1<|YI (a:=0) (b:=cE<|cE (p2 - p1)+1) (c:=cE<|cE (p0 - p3)+1) zt zr zr zr zr<|aJ (if(cJ 0 (cE (cE (p2 - p1)+1)))<(cE<|cE (p0 - p3)+1)then cE (cE (p0 - p3)+1)else(cJ 0 (cE (cE (p2 - p1)+1))))<|AS<|VN ?_;exact oi j▸bT ⟨rfl,o.drop 0⟩
theorem qX{p0 p1:aK}(j:Holds E w V)(h0:fC V i0 v0 p0)(h1:fC V i1 v1 p1)(o:kV N p0 p1=some res):c_ 48 [v0,v1] w<|aG E V res:=by
 unfold kV at o;refine enter Tryz.func48 zr zr ?_;have j:=(j.dup (i0+0) h0).dup (i1+1) h1;refine w_<|V7 1 v0 j zr λaa w j=>?_;refine V7 1 v1 j zr λab w j=>?_;refine aJ 0<|IT ?_;have j:=j.drew;refine Xf (λw=>Holds E w<|[bx 56 ab p1,bx 56 aa p0]++V) mixed [0,0,0,0,0,0,0,0,2,1,1,1,1,1,1,1,1,2,0,0] [0,1,2,3,4,5,6,7,9,10,11,12,13,14,15,16,8,17,18,19] (j.pk 4 [0,1])<|VU zr zr<|AT zr kJ<|bF zr<|VL 1 j zr fX cV<|bF zr<|AT zr mE<|bF zr<|VL 1 j zr iC cV ?_;refine bF zr<|AT zr kJ<|bF zr<|VL 0 j zr fX cV<|bF zr<|AT zr mE<|bF zr<|VL 0 j zr iC cV<|VZ<|V8 (vp aa 1) zr (λw=>AT zr lD V0)<|WW (vi p0.Y0) zr (λw j=>VL 1 j zr gu cV V0)<|V8 (vp aa 3) zr (λw=>AT zr rF V0)<|WW (vi p0.Y1) zr (λw j=>VL 1 j zr kZ cV V0)<|V8 (vp ab 1) zr (λw=>AT zr lD V0)<|WW (vi p1.Y0) zr (λw j=>VL 0 j zr gu cV V0)<|V8 (vp ab 3) zr (λw=>AT zr rF V0)<|WW (vi p1.Y1) zr (λw j=>VL 0 j zr kZ cV V0)<|Wq zr zr ?_;refine q_ o λad af o=>VM RN (tt N (p0:=p0.X0) (p1:=p0.X1) (p2:=p1.X0) (p3:=p1.X1) j af) λw j=>Wj (j.pk 4 [0,1])<|Wq zr zr<|q_ o λae ag o=>VM RN (tt N (p0:=p0.Y0) (p1:=p0.Y1) (p2:=p1.Y0) (p3:=p1.Y1) j ag) λw j=>Wj (j.pk 4 [0,1])<|VU zr zr<|W8 ad ae<|bF zr<|aJ (cJ ad ae)<|VZ<|Wi<|aD ?_;exact VN<|oi o▸bT ⟨rfl,j.drop 4⟩
theorem oS{p0:cL}{res:Bool}(j:Holds E w V)(h0:fC V i0 v0 p0)(hb:kW N p0 p1=some res):c_ 100 [v0,vi p1] w<|bE E V res:=by
 unfold kW at hb;refine enter Tryz.func100 zr zr ?_;have j:=j.dup (i0+0) h0;refine w_<|V7 0 v0 j zr λo w j=>?_;refine bV false<|IN<|AT zr tZ<|VL 0 j zr pj cV<|aO p1<|ic p0.cQ p1<|fY (jP<|p0.cQ<=p1)<|Wb (vi p1) zr zr tR<|Wk true (p0.cQ<=p1) (vp o 4) zr zr zr (eF wP) ?_;refine Wk true (p0.cQ<=p1) (vi p0.To) rfl rfl rfl (cA 0 rfl j (by exact z_ (vp o 4)) rfl rf cV)<|Wb (vb<|p1<=p0.To) rfl rfl (u9 .leq)<|Wl (b:=jP<|p0.cQ<=p1) (v:=vb<|jP (p0.cQ<=p1)&&jP (p1<=p0.To)) trivial rfl rfl (kc true)<|bV (jP (p0.cQ<=p1)&&jP (p1<=p0.To))<|AS<|VN ?_;exact oi hb▸bT ⟨rfl,j.drop 2⟩
def Cy(E:aW)(V:aL HP)(res:aL Int×Int)(v:aV)(w:aW):Prop:=∃u0:aV,v = .tuple #[u0,vi res.2]/\Holds E w ([rd u0 res.1]++V)
theorem uC{p0:aL aB}{res:aL Int×Int}(j:Holds E w V)(h0:fC V i0 v0 p0)(o:mV N p0 p1 p2=some res):c_ 157 [v0,vi p1,vi p2] w<|Cy E V res:=by
 unfold mV at o;refine enter Tryz.func157 zr zr ?_;have j:=j.dup (i0+0) h0;refine w_<|dN n_<|aJ 0<|IT<|VW<|mv v0<|VP 0 p0 j xh<|ic ((p0.length:Int)) 0<|bV ((p0.length:Int)==0)<|AS<|dM o (λo=>?_) λo=>?_;exact w_<|aO p2<|dN n_<|aJ p2<|AS<|Wm<|bJ<|oi o▸ik ⟨n_,zr,(j.sF Int).pk 2 [0]⟩;refine w_<|aO p1<|mv v0<|q_ o λad af o=>VO 0 j qx af λak j=>Wo 0 j zr qT gM λal j=>Wd ad.Y0 0 j cV<|ic p1 ad.Y0<|bV (jP<|p1<ad.Y0)<|AS<|dM o (λo=>?_) λo=>?_;refine IS<|WD mixed ?_;have j:=j.drew;refine WC<|aO p2<|AI<|mv v0<|AI<|q_ o λaa ag o=>VO 2 j qx ag λan j=>AI<|Wo 0 j zr qT gM λao j=>AI<|Wd aa.Y0 0 j cV<|AI<|Xb p2 aa.Y0<|AI<|dN n_ ?_;exact AI<|aJ (aN aa.Y0 p2)<|Wt<|aD<|Wm<|bJ<|oi o▸ik ⟨n_,zr,(j.sF Int).pk 6 [0]⟩;refine Wc<|bI<|aD<|IS<|WD mixed ?_;have j:=j.drew;refine WC<|mv v0<|AI<|q_ o λah ai o=>VO 2 j qx ai λaq j=>AI<|Wo 0 j zr mf eC λar j=>AI<|VS 0 ah.Xs j gm λae j=>AI<|aO p2<|AI<|mv v0<|AI ?_;refine q_ o λab aj o=>VO 5 j qx aj λau j=>AI<|Wo 0 j zr nO fJ λav j=>AI<|Wd ab.Y1 0 j cV<|AI<|Xb p2 ab.Y1<|AI<|dN ae<|AI<|aJ (aN ab.Y1 p2)<|Wt<|aD<|VN ?_;exact oi o▸ik ⟨ae,zr,j.pk 8 [2]⟩
theorem DG{p0:aL Int}{p1:aL Int}{p2:Bool->Bool->aU Bool}{res:aL Int}(j:Holds E w V)(h0:fC V i0 v0 p0)(h1:fC V i1 v1 p1)(h2:ES aX E V v2 p2 (λ(r:Bool)=>Value.bool r))(hb:ru N p0 p1 p2=some res):c_ 158 [v0,v1,v2] w<|mF E V res:=by
 unfold ru at hb;refine enter Tryz.func158 zr zr ?_;have j:=(j.dup (i0+0) h0).dup (i1+1) h1;refine w_<|dN n_<|IN<|dN n_<|IN<|bV false<|bV false<|bV false<|IT<|q_ hb λbr hN hb=>Xp (λ(o:aL Int×aL Int×aL Int×Bool×Bool×Bool)U w=>∃a5 a6 a7:aV,SH E V [(0,a5),(1,a6),(2,v2),(7,a7),(8,vb o.2.2.2.1),(9,vb o.2.2.2.2.1),(10,vb o.2.2.2.2.2)] [rd a5 o.1,rd a6 o.2.1,own 3 a7 o.2.2.1] U w) (λ(o:aL Int×aL Int×aL Int×Bool×Bool×Bool)U w=>∃au:aV,SH E V [(7,au)] [own 3 au o.2.2.1] U w) (λ(r:Empty)_ _=>r.elim) hN ?_ ?_ ?_ ?_;exact⟨v0,v1,n_,(j.dQ Int 3).sp 3 [2,1,0]⟩;rintro o fl _ w⟨ah,ad,ae,O,rfl,j⟩hb;refine IS<|IS<|q_ hb λaz hj hb=>VR (λ(az:Bool)=>SH E V [(0,ah),(1,ad),(2,v2),(7,ae),(8,vb o.2.2.2.1),(9,vb o.2.2.2.2.1),(10,vb o.2.2.2.2.2),(20,vb az)] [rd ah o.1,rd ad o.2.1,own 3 ae o.2.2.1]) az ?_ ?_;refine BY<|mv ah<|VP 0 o.1 j pd<|ic ((o.1.length:Int)) 0<|fY (jP<|(o.1.length:Int)>0)<|fx hj (λao hj=>?_) λao hj=>?_;exact bH ao<|bH ao<|bH ao<|fw ao (vb true)<|By<|oi hj▸⟨rfl,j.sp 3 [0,1,2]⟩;refine VK ad (cg ao)<|VP 1 o.2.1 j pd<|Ws (o.2.1.length:Int) 0 (cg ao)<|fw ao (vb<|jP<|(o.2.1.length:Int)>0)<|By ?_;exact oi hj▸⟨rfl,j.sp 3 [0,1,2]⟩;rintro _ w⟨O,rfl,j⟩;refine aD<|dM hb (λhb=>?_) λhb=>?_;refine WL<|VW<|aJ 0<|IT<|IS<|q_ hb λa0 hj hb=>VR (λ(a0:Bool)=>SH E V [(0,ah),(1,ad),(2,v2),(7,ae),(8,vb o.2.2.2.1),(9,vb o.2.2.2.2.1),(10,vb o.2.2.2.2.2),(37,vb a0)] [rd ah o.1,rd ad o.2.1,own 3 ae o.2.2.1]) a0 ?_ ?_;refine WD mixed ?_;have j:=j.drew;refine WC<|mv ad<|AI<|VP 1 o.2.1 j pd<|AI<|ic ((o.2.1.length:Int)) 0<|AI<|fY ((o.2.1.length:Int)==0)<|fx hj (λai hj=>?_) λai hj=>?_;refine AI<|bH ai<|AI<|bH ai<|AI<|bH ai<|AI<|bH ai<|AI<|E7<|AI<|E7<|AI<|E7<|AI<|E7<|AI<|E7 ?_;exact AI<|E7<|AI<|E7<|AI<|bH ai<|AI<|fw ai (vb true)<|Wt<|oi hj▸⟨rfl,j.sp 3 [0,1,2]⟩;refine AI<|VK ah (cg ai)<|AI<|VP 0 o.1 j pd<|AI<|Ws (o.1.length:Int) 0 (cg ai)<|AI<|VK (vb<|jP<|(o.1.length:Int)>0) (cg ai)<|fx hj (λaf hj=>?_) λaf hj=>?_;refine AI<|VK ah (cg af)<|AI<|q_ hj λDw bg hj=>VO 0 j fH bg λbu j=>AI<|Wd Dw 0 j cV<|AI<|VK ad (cg af)<|AI<|q_ hj λaw bh hj=>VO 2 j fH bh λbw j=>AI<|Wd aw 0 j cV<|AI<|Ws Dw aw (cg af)<|AI<|fw af (vb<|Dw<=aw) (hg:=cg ai)<|AI<|fw ai (vb<|Dw<=aw) ?_;exact Wt<|oi hj▸⟨rfl,j.sp 5 [2,3,4]⟩;refine AI<|bH af<|AI<|bH af<|AI<|bH af<|AI<|bH af<|AI<|bH af<|AI<|bH af<|AI<|bH af<|AI<|fw af (vb false) (hg:=cg ai)<|AI<|fw ai (vb false) ?_;exact Wt<|oi hj▸⟨rfl,j.sp 3 [0,1,2]⟩;rintro _ w⟨O,rfl,j⟩;refine aD<|q_ hb λag hj hb=>VR (λ(ag:Int)=>SH E V [(0,ah),(1,ad),(2,v2),(7,ae),(8,vb o.2.2.2.1),(9,vb o.2.2.2.2.1),(10,vb o.2.2.2.2.2),(11,vi ag)] [rd ah o.1,rd ad o.2.1,own 3 ae o.2.2.1]) ag ?_ ?_;refine dM hj (λhj=>?_) λhj=>?_;refine BY<|mv ah<|q_ hj λa8 bj hj=>VO 0 j fH bj λbx j=>Wd a8 0 j cV<|aJ a8<|By ?_;exact oi hj▸⟨rfl,j.sp 4 [1,2,3]⟩;refine BY<|mv ad<|q_ hj λa9 bk hj=>VO 1 j fH bk λbz j=>Wd a9 0 j cV<|aJ a9<|By ?_;exact oi hj▸⟨rfl,j.sp 4 [1,2,3]⟩;rintro _ w⟨O,rfl,j⟩;refine aD<|IS<|IS<|q_ hb λa1 hj hb=>VR (λ(a1:Bool)=>SH E V [(0,ah),(1,ad),(2,v2),(7,ae),(8,vb o.2.2.2.1),(9,vb o.2.2.2.2.1),(10,vb o.2.2.2.2.2),(11,vi ag),(53,vb a1)] [rd ah o.1,rd ad o.2.1,own 3 ae o.2.2.1]) a1 ?_ ?_;refine BY<|mv ah<|VP 0 o.1 j pd<|ic ((o.1.length:Int)) 0<|fY (jP<|(o.1.length:Int)>0)<|fx hj (λaj hj=>?_) λaj hj=>?_;refine VK ah (cg aj)<|q_ hj λa2 bl hj=>VO 0 j fH bl λb0 j=>Wd a2 0 j cV<|VK (vi ag) (cg aj)<|Ws a2 ag (cg aj)<|fw aj (vb<|a2==ag)<|By ?_;exact oi hj▸⟨rfl,j.sp 4 [1,2,3]⟩;exact bH aj<|bH aj<|bH aj<|bH aj<|bH aj<|fw aj (vb false)<|By<|oi hj▸⟨rfl,j.sp 3 [0,1,2]⟩;rintro _ w⟨O,rfl,j⟩;refine aD<|q_ hb λal hj hb=>VR (λ(al:aL Int×Bool)U w=>∃an:aV,SH E V [(0,an),(1,ad),(2,v2),(7,ae),(8,vb al.2),(9,vb o.2.2.2.2.1),(10,vb o.2.2.2.2.2),(11,vi ag)] [rd ad o.2.1,own 3 ae o.2.2.1,rd an al.1] U w) al ?_ ?_;refine dM hj (λhj=>?_) λhj=>?_;exact BY<|mv ah<|q_ hj λb1 bm hj=>Xo 0 j fH (.inr ⟨rfl,zr⟩) bm λba j=>fY o.2.2.2.1<|Wr o.2.2.2.1<|dN ba<|bV (!o.2.2.2.1)<|By<|oi hj▸⟨rfl,ba,j.sp 4 [2,3,0]⟩;exact Wc<|oi hj▸⟨rfl,ah,j.sp 3 [1,2,0]⟩;rintro _ w⟨an,O,rfl,j⟩;refine aD<|IS<|IS<|q_ hb λa3 hj hb=>VR (λ(a3:Bool)=>SH E V [(0,an),(1,ad),(2,v2),(7,ae),(8,vb al.2),(9,vb o.2.2.2.2.1),(10,vb o.2.2.2.2.2),(11,vi ag),(67,vb a3)] [rd an al.1,rd ad o.2.1,own 3 ae o.2.2.1]) a3 ?_ ?_;refine BY<|mv ad<|VP 0 o.2.1 j pd<|ic ((o.2.1.length:Int)) 0<|fY (jP<|(o.2.1.length:Int)>0)<|fx hj (λak hj=>?_) λak hj=>?_;refine VK ad (cg ak)<|q_ hj λa4 bn hj=>VO 0 j fH bn λb2 j=>Wd a4 0 j cV<|VK (vi ag) (cg ak)<|Ws a4 ag (cg ak)<|fw ak (vb<|a4==ag)<|By ?_;exact oi hj▸⟨rfl,j.sp 4 [3,1,2]⟩;exact bH ak<|bH ak<|bH ak<|bH ak<|bH ak<|fw ak (vb false)<|By<|oi hj▸⟨rfl,j.sp 3 [2,0,1]⟩;rintro _ w⟨O,rfl,j⟩;refine aD<|q_ hb λaq hj hb=>VR (λ(aq:aL Int×Bool)U w=>∃ar:aV,SH E V [(0,an),(1,ar),(2,v2),(7,ae),(8,vb al.2),(9,vb aq.2),(10,vb o.2.2.2.2.2),(11,vi ag)] [rd an al.1,own 3 ae o.2.2.1,rd ar aq.1] U w) aq ?_ ?_;refine dM hj (λhj=>?_) λhj=>?_;exact BY<|mv ad<|q_ hj λb3 bo hj=>Xo 1 j fH (.inr ⟨rfl,zr⟩) bo λbb j=>fY o.2.2.2.2.1<|Wr o.2.2.2.2.1<|dN bb<|bV (!o.2.2.2.2.1)<|By<|oi hj▸⟨rfl,bb,j.sp 4 [1,3,0]⟩;exact Wc<|oi hj▸⟨rfl,ad,j.sp 3 [0,2,1]⟩;rintro _ w⟨ar,O,rfl,j⟩;refine aD<|w_<|mv v2<|fY al.2<|fY aq.2 ?_;have j:=(j.sc Bool al.2).sc Bool aq.2;refine q_ hb λav bp hb=>W5 1 0 j h2 5 bp λw j=>bV av<|IN<|fY av<|fY o.2.2.2.2.2<|Yd av o.2.2.2.2.2 zt zr zr zr P4<|AS<|q_ hb λax hj hb=>VR (λ(ax:aL Int×Bool)U w=>∃ay:aV,SH E V [(0,an),(1,ar),(2,v2),(7,ay),(8,vb al.2),(9,vb aq.2),(10,vb ax.2)] [rd an al.1,rd ar aq.1,own 3 ay ax.1] U w) ax ?_ ?_;refine dM hj (λhj=>?_) λhj=>?_;refine BY<|mv ae<|aO ag ?_;have j:=j.sc Int ag;refine Wv ([ag]:aL Int) j [vi ag] fH Kx (λ_ _=>jn) λb4 w j=>?_;have j:=j.freeze 0;refine q_ hj λb5 bq hj=>WI 5 0 j ze bq λbc w j=>?_;exact fY av<|dN bc<|bV av<|By<|oi hj▸⟨rfl,bc,j.sp 7 [4,6,5]⟩;exact Wc<|oi hj▸⟨rfl,ae,j.sp 5 [2,4,3]⟩;rintro _ w⟨ay,O,rfl,j⟩;exact bI<|oi hb▸⟨rfl,an,ar,ay,j.sp 3 [0,1,2]⟩;exact Wp<|oi hb▸⟨rfl,ae,j.sp 3 [2]⟩;intro r _ _ _ _;exact r.elim;rintro o _ w rfl⟨au,O,rfl,j⟩;rw[Fo.LI]at hb;refine aD<|w_<|mv au<|dN au<|AS<|VN ?_;obtain rfl:=oi hb;exact bT<|j.pk 1 [0]
theorem Cz{p0:aL aB}{p1:aL aB}{p2:Bool->Bool->aU Bool}{res:aL aB}(j:Holds E w V)(h0:fC V i0 v0 p0)(h1:fC V i1 v1 p1)(h2:ES aX E V v2 p2 (λ(r:Bool)=>Value.bool r))(o:pU N p0 p1 p2=some res):c_ 134 [v0,v1,v2] w<|mX E V res:=by
 unfold pU at o;refine enter Tryz.func134 zr zr ?_;have j:=(j.dup (i0+0) h0).dup (i1+1) h1;refine w_<|dN n_<|IN<|dN n_<|IT<|w_<|mv v0<|VP 1 p0 j xh<|mv v1<|VP 0 p1 j xh<|OF (p0.length:Int) (p1.length:Int)<|ic (cE<|(p0.length:Int)+(p1.length:Int)) 0<|AS<|dM o (λo=>?_) λo=>?_;refine w_<|dN n_<|AS<|V4 ?_;obtain rfl:=oi o;exact bT<|(j.dQ aB 212).pk 3 [0];refine Ww<|aJ 0<|aJ 0<|IT<|w_<|mv v0<|mv v1<|Wv ([p0,p1]:aL (aL aB)) j [v0,v1] Mf P3 (λM hs g=>⟨(g.sat 1 _ zr).1,⟨(g.sat 0 _ zr).1,zt⟩⟩) λaq w j=>WB (i:=0) (l:=([p0,p1]:aL (aL aB))) zt zr j zr zr RP<|aO 0<|AS<|WU E V (λ(af:Int×Int)=>[rd v0 p0,rd v1 p1,own 96 aq ([p0,p1]:aL (aL aB))]) (λaf=>[(0,v0),(1,v1),(2,v2),(7,n_),(8,vi af.1),(9,vi af.2)]) (λak _=>[(25,aq),(26,vi ((([p0,p1]:aL (aL aB)).length:Nat):Int)),(27,vi ak)]) o ?_ ?_ ?_;exact j.sp 3 [2,1,0];rintro hm ak af s' _ w hk⟨O,rfl,j⟩o;refine IS<|VW<|aO (ak:Int)<|q_ o λar bc o=>VX 2 j zr zr Mf bc<|Wx 2 j bc RQ λai j=>?_;refine aJ (ak:Int)<|dN ai<|IN<|mv ai<|VP 0 ar j xh<|ic ((ar.length:Int)) 0<|AS<|q_ o λa0 hj o=>VR (λ(a0:Int×Int)=>SH E V [(0,v0),(1,v1),(2,v2),(7,n_),(8,vi a0.1),(9,vi a0.2),(25,aq),(26,vi ((([p0,p1]:aL (aL aB)).length:Nat):Int)),(27,vi ak)] [rd v0 p0,rd v1 p1,own 96 aq ([p0,p1]:aL (aL aB))]) a0 ?_ ?_;refine dM hj (λhj=>?_) λhj=>?_;refine IS<|IS<|q_ hj λa5 hjj hj=>VR (λ(a5:Bool)=>SH E V [(0,v0),(1,v1),(2,v2),(7,n_),(8,vi af.1),(9,vi af.2),(11,ai),(25,aq),(26,vi ((([p0,p1]:aL (aL aB)).length:Nat):Int)),(27,vi ak),(41,vb a5)] [rd v0 p0,rd v1 p1,rd ai ar,own 96 aq ([p0,p1]:aL (aL aB))]) a5 ?_ ?_;refine BY<|aO (ak:Int)<|ic ((ak:Int)) 0<|fY ((ak:Int)==0)<|fx hjj (λan hjj=>?_) λan hjj=>?_;exact bH an<|bH an<|bH an<|fw an (vb true)<|By<|oi hjj▸⟨rfl,j.sp 4 [1,2,0,3]⟩;refine VK v0 (cg an)<|VP 1 p0 j xh<|Ws (p0.length:Int) 0 (cg an)<|fw an (vb<|(p0.length:Int)==0)<|By ?_;exact oi hjj▸⟨rfl,j.sp 4 [1,2,0,3]⟩;rintro _ w⟨O,rfl,j⟩;refine aD<|q_ hj λaj hjj hj=>VR (λ(aj:Int×Int)=>SH E V [(0,v0),(1,v1),(2,v2),(7,n_),(8,vi aj.1),(9,vi aj.2),(11,ai),(25,aq),(26,vi ((([p0,p1]:aL (aL aB)).length:Nat):Int)),(27,vi ak)] [rd v0 p0,rd v1 p1,rd ai ar,own 96 aq ([p0,p1]:aL (aL aB))]) aj ?_ ?_;refine dM hjj (λhjj=>?_) λhjj=>?_;refine WD mixed ?_;have j:=j.drew;refine WC<|mv ai<|AI<|q_ hjj λbf bt hjj=>VO 2 j qx bt λcb j=>AI<|Wo 0 j zr qT gM λcc j=>AI<|Wd bf.Y0 0 j cV<|AI<|mv ai<|AI<|mv ai ?_;refine AI<|VP 4 ar j xh<|AI<|OF (ar.length:Int) 1<|AI<|q_ hjj λbg bu hjj=>VO 4 j qx bu λcd j=>AI<|Wo 0 j zr nO fJ λcf j=>AI<|Wd bg.Y1 0 j cV<|AI<|aJ bf.Y0<|AI<|aJ bg.Y1 ?_;exact Wt<|oi hjj▸⟨rfl,j.sp 8 [4,5,6,7]⟩;exact Wc<|oi hjj▸⟨rfl,j.sp 4 [0,1,2,3]⟩;rintro _ w⟨O,rfl,j⟩;refine aD<|WD mixed ?_;have j:=j.drew;refine WC<|aO aj.1<|AI<|mv ai<|AI<|q_ hj λa1 bw hj=>VO 2 j qx bw λch j=>AI<|Wo 0 j zr qT gM λcj j=>AI<|Wd a1.Y0 0 j cV<|AI<|Xb aj.1 a1.Y0<|AI<|aO aj.2 ?_;refine AI<|mv ai<|AI<|mv ai<|AI<|VP 4 ar j xh<|AI<|OF (ar.length:Int) 1<|AI<|q_ hj λa2 bx hj=>VO 4 j qx bx λck j=>AI<|Wo 0 j zr nO fJ λcm j=>AI<|Wd a2.Y1 0 j cV<|AI<|W8 aj.2 a2.Y1<|AI<|aJ (aN a1.Y0 aj.1) ?_;exact AI<|aJ (cJ aj.2 a2.Y1)<|Wt<|oi hj▸⟨rfl,j.sp 8 [4,5,7]⟩;exact Wc<|oi hj▸⟨rfl,j.sp 4 [1,2,3]⟩;rintro _ w⟨O,rfl,j⟩;exact bI<|aD<|BY<|Wa hk hm<|aO ((ak+1:Nat):Int)<|By<|oi o▸⟨rfl,j.sp 3 [0,1,2]⟩;rintro af _ w o⟨O,rfl,j⟩;refine aD<|IS<|q_ o λcn hN o=>Xp (λ(aa:aL aB×aL aB×aL aB×Int)U w=>∃bh bj bk:aV,SH E V [(0,bh),(1,bj),(2,v2),(7,bk),(8,vi aa.2.2.2),(9,vi af.2)] [rd bh aa.1,rd bj aa.2.1,own 212 bk aa.2.2.1] U w) (λ(aa:aL aB×aL aB×aL aB×Int)U w=>∃ay:aV,SH E V [(7,ay)] [own 212 ay aa.2.2.1] U w) (λ(r:Empty)_ _=>r.elim) hN ?_ ?_ ?_ ?_;exact⟨v0,v1,n_,(j.dQ aB 212).sp 4 [1,2,0]⟩;rintro aa fl _ w⟨b0,az,al,O,rfl,j⟩o;refine IS<|w_<|aO aa.2.2.2<|aO af.2<|ic aa.2.2.2 af.2<|AS<|dM o (λo=>?_) λo=>?_;refine WL<|WM<|IS<|Xt E V (λ(ao:aL aB)(a6:aV)=>[rd az aa.2.1,own 212 al aa.2.2.1,rd a6 ao]) (λ_ a6=>[(0,a6),(1,az),(2,v2),(7,al),(8,vi aa.2.2.2),(9,vi af.2)]) (λ_ _=>[]) o ?_ ?_ ?_;exact⟨b0,j.sp 3 [1,2,0]⟩;rintro ao fl _ w⟨av,O,rfl,j⟩o;refine IS<|IS<|q_ o λa7 hj o=>VR (λ(a7:Bool)=>SH E V [(0,av),(1,az),(2,v2),(7,al),(8,vi aa.2.2.2),(9,vi af.2),(82,vb a7)] [rd av ao,rd az aa.2.1,own 212 al aa.2.2.1]) a7 ?_ ?_;refine BY<|mv av<|VP 2 ao j xh<|ic ((ao.length:Int)) 0<|fY (jP<|(ao.length:Int)>0)<|fx hj (λag hj=>?_) λag hj=>?_;refine VK av (cg ag)<|q_ hj λa8 b1 hj=>VO 2 j qx b1 λcp j=>Wo 0 j zr nO fJ λcq j=>Wd a8.Y1 0 j cV<|VK (vi aa.2.2.2) (cg ag)<|Ws a8.Y1 aa.2.2.2 (cg ag)<|fw ag (vb<|a8.Y1<=aa.2.2.2)<|By ?_;exact oi hj▸⟨rfl,j.sp 5 [4,2,3]⟩;exact bH ag<|bH ag<|bH ag<|bH ag<|bH ag<|bH ag<|fw ag (vb false)<|By<|oi hj▸⟨rfl,j.sp 3 [2,0,1]⟩;rintro _ w⟨O,rfl,j⟩;refine aD<|dM o (λo=>?_) λo=>?_;exact WL<|WM<|BY<|mv av<|q_ o λcr b2 o=>Xo 0 j qx (.inr ⟨rfl,zr⟩) b2 λbm j=>dN bm<|By<|bI<|oi o▸⟨rfl,bm,j.sp 4 [2,3,0]⟩;exact Wp<|oi o▸⟨rfl,av,j.sp 3 [1,2,0]⟩;rintro ao _ w o⟨aw,O,rfl,j⟩;refine aD<|IS<|Xt E V (λ(au:aL aB)(a9:aV)=>[rd aw ao,own 212 al aa.2.2.1,rd a9 au]) (λ_ a9=>[(0,aw),(1,a9),(2,v2),(7,al),(8,vi aa.2.2.2),(9,vi af.2)]) (λ_ _=>[]) o ?_ ?_ ?_;exact⟨az,j.sp 3 [2,1,0]⟩;rintro au fl _ w⟨ax,O,rfl,j⟩o;refine IS<|IS<|q_ o λba hj o=>VR (λ(ba:Bool)=>SH E V [(0,aw),(1,ax),(2,v2),(7,al),(8,vi aa.2.2.2),(9,vi af.2),(95,vb ba)] [rd aw ao,rd ax au,own 212 al aa.2.2.1]) ba ?_ ?_;refine BY<|mv ax<|VP 2 au j xh<|ic ((au.length:Int)) 0<|fY (jP<|(au.length:Int)>0)<|fx hj (λah hj=>?_) λah hj=>?_;refine VK ax (cg ah)<|q_ hj λbb b3 hj=>VO 2 j qx b3 λct j=>Wo 0 j zr nO fJ λcu j=>Wd bb.Y1 0 j cV<|VK (vi aa.2.2.2) (cg ah)<|Ws bb.Y1 aa.2.2.2 (cg ah)<|fw ah (vb<|bb.Y1<=aa.2.2.2)<|By ?_;exact oi hj▸⟨rfl,j.sp 5 [2,4,3]⟩;exact bH ah<|bH ah<|bH ah<|bH ah<|bH ah<|bH ah<|fw ah (vb false)<|By<|oi hj▸⟨rfl,j.sp 3 [0,2,1]⟩;rintro _ w⟨O,rfl,j⟩;refine aD<|dM o (λo=>?_) λo=>?_;exact WL<|WM<|BY<|mv ax<|q_ o λcv b4 o=>Xo 1 j qx (.inr ⟨rfl,zr⟩) b4 λbn j=>dN bn<|By<|bI<|oi o▸⟨rfl,bn,j.sp 4 [1,3,0]⟩;exact Wp<|oi o▸⟨rfl,ax,j.sp 3 [0,2,1]⟩;rintro au _ w o⟨bo,O,rfl,j⟩;refine aD<|w_<|mv aw<|aO aa.2.2.2<|aO af.2<|q_ o λad b5 o=>V2 Pg (uC N (p1:=aa.2.2.2) (p2:=af.2) (i0:=0) j zr b5) ?_;rintro _ w⟨a3,rfl,j⟩;refine mv (.tuple #[a3,vi ad.2])<|V6 a3<|V6 (vi ad.2)<|dN a3<|aJ ad.2<|IN<|mv bo<|aO aa.2.2.2<|aO af.2<|q_ o λae b6 o=>V2 Pg (uC N (p1:=aa.2.2.2) (p2:=af.2) (i0:=3) j zr b6) ?_;rintro _ w⟨a4,rfl,j⟩;refine mv (.tuple #[a4,vi ae.2])<|V6 a4<|V6 (vi ae.2)<|dN a4<|aJ ae.2<|IN<|aO ad.2<|aO ae.2<|Xb ad.2 ae.2<|aJ (aN ae.2 ad.2)<|IN<|mv al<|aO aa.2.2.2<|aO (aN ae.2 ad.2)<|mv a3<|mv a4<|mv v2 ?_;refine q_ o λb7 b8 o=>V2 (gr Tryz.func158) (DG N (i0:=1) (i1:=0) j zr zr (h2.lift 5 zr) b8) λb9 w j=>?_;have j:=((j.sc Int aa.2.2.2).sc Int (aN ae.2 ad.2)).freeze 2;refine WN (⟨aa.2.2.2,(aN ae.2 ad.2),b7⟩:aB) trivial rfl j [(0,vi aa.2.2.2),(1,vi (aN ae.2 ad.2)),(2,b9)] rfl Pd rfl (λM hs g=>by have h:=za M;exact cI.cons (f:=λ(x:aB)y=>{x with Y0:=y}) h uy (g.sat 1 _ rfl).1 λ_ h=>cI.cons (f:=λ(x:aB)y=>{x with Y1:=y}) h qt (g.sat 0 _ rfl).1 λ_ h=>cI.cons (f:=λ(x:aB)y=>{x with Xs:=y}) h uz (g.sat 2 _ rfl).1 λ_ h=>cI.nil h) λcw j=>?_;have j:=j.pull 7;exact q_ o λcx ca o=>V2 Pe (sj N (i1:=0) j zr ca) λbp w j=>dN bp<|AS<|BY<|aO (aN ae.2 ad.2)<|aJ (aN ae.2 ad.2)<|By<|bI<|oi o▸⟨rfl,aw,bo,bp,j.sp 10 [7,9,0]⟩;exact Wp<|oi o▸⟨rfl,al,j.sp 3 [2]⟩;intro r _ _ _ _;exact r.elim;rintro aa _ w rfl⟨ay,O,rfl,j⟩;rw[Fo.LI]at o;refine aD<|w_<|mv ay<|dN ay<|AS<|VN ?_;obtain rfl:=oi o;exact bT<|j.pk 1 [0]
theorem vR{p0 p1 res:Bool}(o:Holds E w V)(j:oG N p0 p1=some res):c_ 135 [vb p0,vb p1] w<|bE E V res:=by
 unfold oG at j;refine enter Tryz.func135 zr zr<|w_<|bV false<|IN<|fY p0<|fY p0<|Wb (vb p1) zr zr tR<|Wb (vb<|!p1) zr zr Vr<|Wl (b:=p0) (v:=vb<|p0&&(!p1)) zt zr zr (kc true) ?_;exact bV (p0&&(!p1))<|AS<|VN<|oi j▸bT ⟨rfl,o.drop 0⟩
theorem zu{p0:aL aB}{p1:aL aB}{res:aL aB}(o:Holds E w V)(h0:fC V i0 v0 p0)(h1:fC V i1 v1 p1)(hb:kX N p0 p1=some res):c_ 101 [v0,v1] w<|mX E V res:=by
 unfold kX at hb;refine enter Tryz.func101 zr zr ?_;have o:=(o.dup (i0+0) h0).dup (i1+1) h1;refine w_<|dN n_<|IN<|mv v0<|mv v1 ?_;refine q_ hb λaf ab hb=>V2 (gr Tryz.func134) (Cz N (i0:=1) (i1:=0) o rfl rfl ⟨135,[],rfl,(gr Tryz.func135),λw Γl v v' y0 y1 r i j o hi hj hr=>by obtain rfl:=o.ve (γ:=Bool) hi;obtain rfl:=o.ve (γ:=Bool) hj;exact eA (vR N (p0:=y0) (p1:=y1) o hr) λ_ _ h=>h⟩ ab) λae w o=>dN ae<|AS<|VN ?_;obtain rfl:=oi hb;exact bT<|o.pk 3 [0]
theorem zv{p0:aL aB}(j:Holds E w V)(h0:fC V i0 v0 p0)(hb:mB N p0=some res):c_ 102 [v0] w<|aG E V res:=by
 unfold mB at hb;refine enter Tryz.func102 zr zr ?_;have j:=j.dup (i0+0) h0;refine w_<|aJ 0<|IN<|aJ 0<|IT<|w_<|mv v0<|VP 0 p0 j xh<|aO 0<|AS<|WU E V (λ(o:Int)=>[rd v0 p0]) (λo=>[(3,vi o)]) (λad _=>[(6,v0),(7,vi p0.length),(8,vi ad)]) hb ?_ ?_ ?_;exact j.sp 1 [0];rintro hm ad o s' _ w hk⟨O,rfl,j⟩hb;refine IS<|VW<|q_ hb λab ag hb=>VO 0 j qx ag λah j=>VS 0 ab j zf λai j=>V9 j GO.z λaj w j=>?_;refine V5 0 j 1 zr zf λw j=>?_;refine AS<|BY<|aO o<|AT zr mf<|Wh 0 j zr eC gm λak j=>VP 0 ab.Xs j pd<|XF (ab.Xs.length:Int) 2 zr zr zr zr<|OF o (cE<|Int.tdiv (ab.Xs.length:Int) 2)<|aJ (cE<|o+ cE (Int.tdiv (ab.Xs.length:Int) 2)) ?_;exact By<|bI<|aD<|BY<|Wa hk hm<|aO ((ad+1:Nat):Int)<|By<|oi hb▸⟨rfl,j.sp 5 [4]⟩;rintro o _ w hb⟨O,rfl,j⟩;exact aD<|w_<|aO o<|aJ o<|AS<|VN<|oi hb▸bT ⟨rfl,j.drop 1⟩
def vS(E:aW)(V:aL HP)(b1:Nat)(res:Int×aL Int)(v:aV)(w:aW):Prop:=∃c2_:aV,v= vi res.1/\Holds E w ([bc 91 b1 [c2_],own 3 c2_ res.2]++V)
theorem l9{N_:aL Int}{res:Int×aL Int}(j:Holds E w (bc 91 b1 [u_]::own 3 u_ N_::V))(o:fD N p0 N_=some res):c_ 136 [vi p0,vp b1 0] w<|vS E V b1 res:=by
 unfold fD at o;refine enter Tryz.func136 zr zr<|w_<|aJ 0<|IT<|WR E V (λ(aa:Int×aL Int)=>[bc 91 b1 [u_],own 3 u_ aa.2]) (λaa=>[(0,vi aa.1),(1,vp b1 0)]) (λ_=>[]) o ?_ ?_ ?_;exact j.sp 2 [0,1];rintro aa fl _ w⟨O,rfl,j⟩o;refine IS<|w_<|VY 0 u_ j gm<|aO aa.1<|q_ o λah ab o=>VX 1 j zr zr fH ab<|W2 1 j ab cV<|aO aa.1<|ic ah aa.1<|AS<|dM o (λo=>?_) λo=>?_;refine WL<|WM<|IS<|WA mixed (ix 11 20000000000) (fR 0 11 []) ?_;have j:=j.drew;refine VU zr zr<|VY 0 u_ j gm<|bF zr<|aO aa.1<|bF zr<|VY 0 u_ j gm<|bF zr<|VY 0 u_ j gm<|bF zr<|aO aa.1<|bF zr ?_;refine q_ o λal ad o=>VX 1 j zr zr fH ad<|bF zr<|W2 1 j ad cV<|bF zr<|q_ o λai ae o=>VX 1 j zr zr fH ae<|bF zr<|W2 1 j ae cV<|bF zr<|q_ o λan af o=>VX 1 j zr zr fH af<|rW zr ?_;have j:=j.sc Int ai;refine WQ 2 0 j af cV λw j=>?_;refine Wj zt<|Wi<|aD<|BY<|VY 1 u_ j gm<|aO aa.1<|q_ o λaj ag o=>VX 2 j zr zr fH ag<|W2 2 j ag cV<|aJ aj<|By<|bI ?_;exact oi o▸⟨rfl,j.sp 3 [1,2]⟩;exact Wp<|oi o▸⟨rfl,j.sp 2 [0,1]⟩;rintro aa _ w o⟨O,rfl,j⟩;exact aD<|w_<|aO aa.1<|aJ aa.1<|AS<|VN<|oi o▸bT ⟨u_,zr,j.pk 2 [0,1]⟩
end Go.Gk
