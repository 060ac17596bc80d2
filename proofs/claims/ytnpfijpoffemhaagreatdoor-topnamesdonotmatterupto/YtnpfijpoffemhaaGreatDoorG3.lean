/-
  Printed texts: Go functions as plain functions, and that they are. No statement of the seed is proved here.
-/
import Derived.Test.YtnpfijpoffemhaaGreatDoorG1
import Derived.Test.YtnpfijpoffemhaaGreatDoorG2
import Derived.Test.YtnpfijpoffemhaaGreatDoorA2
set_option linter.unusedVariables false
set_option linter.unusedSimpArgs false
set_option linter.unusedSectionVars false
set_option maxRecDepth 100000
set_option maxHeartbeats 40000000
namespace Go.Gk
open Go IntKind Go.Proofs
variable (N:Nat){E w:World}{b1 i0 i1:Nat}{p0 p1 p2 p3 res:Int}{v0 v1 y_ v2:Value}{V:List HP}
theorem gJ{p0:cK}{res:aI}(j:Holds E w V)(h0:V[i0]? =some (rd v0 p0))(o:eQ N p0=some res):c_ 41 [v0] w<|pH E V res:=by
 unfold eQ at o;refine enter Tryz.func41 zr zr ?_;have j:=j.dup (i0+0) h0;refine AI<|QH 0 v0 j zr λaa w j=>?_;refine QD j pj.z λab w j=>?_;refine IT<|Rc mixed ?_;have j:=j.drew;refine Rb<|AT zr BV<|w_<|AT zr BW<|w_<|Qj (f:=(λx=>x.At.X)) 1 j zr (Fd.comp (f:=λ(x:cK)=>x.At) (f':=λ(x:kG)=>x.X) w7 rj) cY<|w_<|AT zr we<|w_<|Qj 1 j zr qx cY<|w_<|Sh p0.eU 2 zr zr zr zr<|w_<|Qr p0.At.X (wrap .i64<|Int.tdiv p0.eU 2)<|w_<|AT zr BV<|w_<|AT zr BX ?_;refine w_<|Qj (f:=(λx=>x.At.Y)) 1 j zr (Fd.comp (f:=λ(x:cK)=>x.At) (f':=λ(x:kG)=>x.Y) w7 rk) cY<|w_<|AT zr we<|w_<|Qj 1 j zr qx cY<|w_<|Sh p0.eU 2 zr zr zr zr<|w_<|Qr p0.At.Y (wrap .i64<|Int.tdiv p0.eU 2)<|w_<|aL (wrap .i64<|p0.At.X -(wrap .i64<|Int.tdiv p0.eU 2))<|w_<|aL (wrap .i64<|p0.At.Y -(wrap .i64<|Int.tdiv p0.eU 2))<|QZ<|aC<|AI<|aX (wrap .i64<|p0.At.X -(wrap .i64<|Int.tdiv p0.eU 2)) ?_;refine aX (wrap .i64<|p0.At.Y -(wrap .i64<|Int.tdiv p0.eU 2))<|aX (wrap .i64<|p0.At.X -(wrap .i64<|Int.tdiv p0.eU 2))<|AT zr we<|Qj 1 j zr qx cY<|Qr (wrap .i64<|p0.At.X -(wrap .i64<|Int.tdiv p0.eU 2)) p0.eU<|aX (wrap .i64<|p0.At.Y -(wrap .i64<|Int.tdiv p0.eU 2))<|AT zr we<|Qj 1 j zr qx cY<|Qr (wrap .i64<|p0.At.Y -(wrap .i64<|Int.tdiv p0.eU 2)) p0.eU ?_;have j:=((j.sc Int<|wrap .i64<|p0.At.X -(wrap .i64<|Int.tdiv p0.eU 2)).sc Int<|wrap .i64<|p0.At.Y -(wrap .i64<|Int.tdiv p0.eU 2)).sc Int<|wrap .i64<|wrap .i64 (p0.At.X -(wrap .i64<|Int.tdiv p0.eU 2))+p0.eU;have j:=j.sc Int<|wrap .i64<|wrap .i64 (p0.At.Y -(wrap .i64<|Int.tdiv p0.eU 2))+p0.eU;refine Ri (⟨wrap .i64<|p0.At.X -(wrap .i64<|Int.tdiv p0.eU 2),wrap .i64<|p0.At.Y -(wrap .i64<|Int.tdiv p0.eU 2),wrap .i64<|wrap .i64 (p0.At.X -(wrap .i64<|Int.tdiv p0.eU 2))+p0.eU,wrap .i64<|wrap .i64 (p0.At.Y -(wrap .i64<|Int.tdiv p0.eU 2))+p0.eU⟩:aI) trivial rfl j [(0,vi<|wrap .i64<|p0.At.X -(wrap .i64<|Int.tdiv p0.eU 2)),(1,vi<|wrap .i64<|p0.At.Y -(wrap .i64<|Int.tdiv p0.eU 2)),(2,vi<|wrap .i64<|wrap .i64 (p0.At.X -(wrap .i64<|Int.tdiv p0.eU 2))+p0.eU),(3,vi<|wrap .i64<|wrap .i64 (p0.At.Y -(wrap .i64<|Int.tdiv p0.eU 2))+p0.eU)] rfl GD rfl (λM hs g=>by have h:=u9 M;exact cR.cons (f:=λ(x:aI)y=>{x with X0:=y}) h tZ (g.sat 3 _ rfl).1 λ_ h=>cR.cons (f:=λ(x:aI)y=>{x with Y0:=y}) h w5 (g.sat 2 _ rfl).1 λ_ h=>cR.cons (f:=λ(x:aI)y=>{x with X1:=y}) h qu (g.sat 1 _ rfl).1 λ_ h=>cR.cons (f:=λ(x:aI)y=>{x with Y1:=y}) h t3 (g.sat 0 _ rfl).1 λ_ h=>cR.nil h) λad j=>?_;refine QB 5 j 0 zr iZ λw j=>?_;refine AS<|Qk ?_;obtain rfl:=oi o;exact JG 5 zr j zr zr iZ λae j=>j.pk 9 [0]
theorem uA{p0:List aA}{res:aI}(j:Holds E w V)(h0:V[i0]? =some (rd v0 p0))(hb:lz N p0=some res):
    c_ 144 [v0] w<|pH E V res:=by
 unfold lz at hb
 refine enter Tryz.func144 zr zr ?_
 have j:=j.dup (i0+0) h0
 refine AI<|QD j pj.z λbf w j=>?_
 refine IT ?_
 obtain⟨bh,bm,hb⟩:=bd hb
 obtain⟨bb,bn,hb⟩:=bd hb
 obtain⟨a8,bo,hb⟩:=bd hb
 obtain⟨bj,bp,hb⟩:=bd hb
 obtain⟨bc,bq,hb⟩:=bd hb
 obtain⟨a9,br,hb⟩:=bd hb
 refine Ru E V mixed [1,0,0,0,0,0,1,0,0,0,1,0,0,0,0,0,1,1,0,1,0,0,0,0,0,0] [1,2,3,4,7,8,11,12,13,14,20,21,23,24,25] (λ(x:Value×Value×Value×Value×Value×Value×Value×Value×Value×Value×Value×Value×Value×Nat)=>(λah ai aj ak al an ao aq ar au av aw ax ae=>[(0,6,v0),(1,7,ah),(2,8,ai),(3,9,aj),(4,10,ak),(5,11,vi bb),(6,12,v0),(7,13,al),(8,14,an),(9,15,vi a8.Y0),(10,16,v0),(11,17,ao),(12,18,aq),(13,19,ar),(14,20,au),(15,21,vi bc),(16,22,v0),(17,23,v0),(18,24,vi p0.length),(19,25,vi<|wrap .i64<|(p0.length:Int) - 1),(20,26,av),(21,27,aw),(22,28,vi a9.Y1),(23,29,ax),(24,3,vp ae 0)]) x.1 x.2.1 x.2.2.1 x.2.2.2.1 x.2.2.2.2.1 x.2.2.2.2.2.1 x.2.2.2.2.2.2.1 x.2.2.2.2.2.2.2.1 x.2.2.2.2.2.2.2.2.1 x.2.2.2.2.2.2.2.2.2.1 x.2.2.2.2.2.2.2.2.2.2.1 x.2.2.2.2.2.2.2.2.2.2.2.1 x.2.2.2.2.2.2.2.2.2.2.2.2.1 x.2.2.2.2.2.2.2.2.2.2.2.2.2) [(0,v0),(2,vp bf 0)] [] (λ(D:Nat->Bool)(x:Value×Value×Value×Value×Value×Value×Value×Value×Value×Value×Value×Value×Value×Nat)=>(λah ai aj ak al an ao aq ar au av aw ax ae=>[bif D 0 then pt ah bh else aW,bif D 1 then pt ai bh.Xs else aW,bif D 2 then rd aj bh.Xs else aW,bif D 3 then pt ak bb else aW,bif D 4 then pt al a8 else aW,bif D 5 then pt an a8.Y0 else aW,bif D 6 then pt ao bj else aW,bif D 7 then pt aq bj.Xs else aW,bif D 8 then rd ar bj.Xs else aW,bif D 9 then pt au bc else aW,bif D 10 then pt av a9 else aW,bif D 11 then pt aw a9.Y1 else aW,bif D 12 then rd ax (⟨bb,a8.Y0,bc,a9.Y1⟩:aI)else aW,bif D 14 then bx 83 ae (⟨bb,a8.Y0,bc,a9.Y1⟩:aI)else(bif D 13 then raw 83 ae 4 else aW),raw 83 bf 4,rd v0 p0]) x.1 x.2.1 x.2.2.1 x.2.2.2.1 x.2.2.2.2.1 x.2.2.2.2.2.1 x.2.2.2.2.2.2.1 x.2.2.2.2.2.2.2.1 x.2.2.2.2.2.2.2.2.1 x.2.2.2.2.2.2.2.2.2.1 x.2.2.2.2.2.2.2.2.2.2.1 x.2.2.2.2.2.2.2.2.2.2.2.1 x.2.2.2.2.2.2.2.2.2.2.2.2.1 x.2.2.2.2.2.2.2.2.2.2.2.2.2) (λx=>by kernel_rfl) ?_ ⟨λ_=>jI gn,?_,?_,?_,?_,?_,λ_=>jI gn,?_,?_,?_,λ_=>jI gn,?_,?_,?_,?_,?_,λ_=>jI gn,λ_=>jI gn,?_,λ_=>Lg gn rfl,?_,?_,?_,?_,?_,?_,trivial⟩ ?_
 ·have j:=((((((((((((j.drew).aW).aW).aW).aW).aW).aW).aW).aW).aW).aW).aW).aW
  have j:=(j.aW).aW
  exact⟨(undef,undef,undef,undef,undef,undef,undef,undef,undef,undef,undef,undef,undef,0),cW.none,D9 zr,zt,j⟩
 ·rintro D U w hD aa ag⟨⟨ah,ai,aj,ak,al,an,ao,aq,ar,au,av,aw,ax,ae⟩,o,ha,_,j⟩
  dsimp only at o j
  obtain⟨O,rfl⟩:=o.o1 0 aa
  have j:=j.bM 0 hD
  refine Qm 15 j kh bm λbt j=>?_
  have j:=j.nw 0
  exact OF (bt,ai,aj,ak,al,an,ao,aq,ar,au,av,aw,ax,ae) 1 o ha j
 ·rintro D U w hD aa ag⟨⟨ah,ai,aj,ak,al,an,ao,aq,ar,au,av,aw,ax,ae⟩,o,ha,_,j⟩
  dsimp only at o j
  obtain⟨O,rfl⟩:=o.o1 1 aa
  have j:=(j.dT 0<|aa.1 rfl).bM 1 hD
  refine QR 0 j zr kH dB λbu j=>?_
  have j:=((j.pl 17 [1,0,3,4,5,6,7,8,9,10,11,12,13,14,15,16] rfl).cI 0 (D 1) (aa.1 rfl) aW).cI 1 true rfl aW
  exact OF (ah,bu,aj,ak,al,an,ao,aq,ar,au,av,aw,ax,ae) 2 o ha j
 ·rintro D U w hD aa ag⟨⟨ah,ai,aj,ak,al,an,ao,aq,ar,au,av,aw,ax,ae⟩,o,ha,_,j⟩
  dsimp only at o j
  obtain⟨O,rfl⟩:=o.o1 2 aa
  have j:=(j.dT 1<|aa.1 rfl).bM 2 hD
  refine Qs 1 bh.Xs j fT λbw j=>?_
  have j:=((j.pl 17 [1,2,0,4,5,6,7,8,9,10,11,12,13,14,15,16] rfl).cI 1 (D 2) (aa.1 rfl) aW).cI 2 true rfl aW
  exact OF (ah,ai,bw,ak,al,an,ao,aq,ar,au,av,aw,ax,ae) 3 o ha j
 ·rintro D U w hD aa ag⟨⟨ah,ai,aj,ak,al,an,ao,aq,ar,au,av,aw,ax,ae⟩,o,ha,_,j⟩
  dsimp only at o j
  obtain⟨O,rfl⟩:=o.o1 3 aa
  have j:=(j.dT 2<|aa.1 rfl).bM 3 hD
  refine Qm 2 j fU bn λbz j=>?_
  have j:=((j.pl 17 [1,2,3,0,5,6,7,8,9,10,11,12,13,14,15,16] rfl).cI 2 (D 3) (aa.1 rfl) aW).cI 3 true rfl aW
  exact OF (ah,ai,aj,bz,al,an,ao,aq,ar,au,av,aw,ax,ae) 4 o ha j
 ·rintro D U w hD aa ag⟨⟨ah,ai,aj,ak,al,an,ao,aq,ar,au,av,aw,ax,ae⟩,o,ha,_,j⟩
  dsimp only at o j
  obtain⟨O,rfl⟩:=o.o1 4 aa
  have j:=j.dT 3<|aa.1 rfl
  refine QG bb 3 j cY ?_
  have j:=j.cI 3 (D 4) (aa.1 rfl) aW
  exact OF (ah,ai,aj,ak,al,an,ao,aq,ar,au,av,aw,ax,ae) 5 o ha j
 ·rintro D U w hD aa ag⟨⟨ah,ai,aj,ak,al,an,ao,aq,ar,au,av,aw,ax,ae⟩,o,ha,_,j⟩
  dsimp only at o j
  obtain⟨O,rfl⟩:=o.o1 6 aa
  have j:=j.bM 4 hD
  refine Qm 15 j kh bo λb0 j=>?_
  have j:=j.nw 4
  exact OF (ah,ai,aj,ak,b0,an,ao,aq,ar,au,av,aw,ax,ae) 7 o ha j
 ·rintro D U w hD aa ag⟨⟨ah,ai,aj,ak,al,an,ao,aq,ar,au,av,aw,ax,ae⟩,o,ha,_,j⟩
  dsimp only at o j
  obtain⟨O,rfl⟩:=o.o1 7 aa
  have j:=(j.dT 4<|aa.1 rfl).bM 5 hD
  refine QR 4 j zr oh fI λb2 j=>?_
  have j:=((j.pl 17 [1,2,3,4,5,0,7,8,9,10,11,12,13,14,15,16] rfl).cI 4 (D 7) (aa.1 rfl) aW).cI 5 true rfl aW
  exact OF (ah,ai,aj,ak,al,b2,ao,aq,ar,au,av,aw,ax,ae) 8 o ha j
 ·rintro D U w hD aa ag⟨⟨ah,ai,aj,ak,al,an,ao,aq,ar,au,av,aw,ax,ae⟩,o,ha,_,j⟩
  dsimp only at o j
  obtain⟨O,rfl⟩:=o.o1 8 aa
  have j:=j.dT 5<|aa.1 rfl
  refine QG a8.Y0 5 j cY ?_
  have j:=j.cI 5 (D 8) (aa.1 rfl) aW
  exact OF (ah,ai,aj,ak,al,an,ao,aq,ar,au,av,aw,ax,ae) 9 o ha j
 ·rintro D U w hD aa ag⟨⟨ah,ai,aj,ak,al,an,ao,aq,ar,au,av,aw,ax,ae⟩,o,ha,_,j⟩
  dsimp only at o j
  obtain⟨O,rfl⟩:=o.o1 10 aa
  have j:=j.bM 6 hD
  refine Qm 15 j kh bp λb3 j=>?_
  have j:=j.nw 6
  exact OF (ah,ai,aj,ak,al,an,b3,aq,ar,au,av,aw,ax,ae) 11 o ha j
 ·rintro D U w hD aa ag⟨⟨ah,ai,aj,ak,al,an,ao,aq,ar,au,av,aw,ax,ae⟩,o,ha,_,j⟩
  dsimp only at o j
  obtain⟨O,rfl⟩:=o.o1 11 aa
  have j:=(j.dT 6<|aa.1 rfl).bM 7 hD
  refine QR 6 j zr kH dB λb4 j=>?_
  have j:=((j.pl 17 [1,2,3,4,5,6,7,0,9,10,11,12,13,14,15,16] rfl).cI 6 (D 11) (aa.1 rfl) aW).cI 7 true rfl aW
  exact OF (ah,ai,aj,ak,al,an,ao,b4,ar,au,av,aw,ax,ae) 12 o ha j
 ·rintro D U w hD aa ag⟨⟨ah,ai,aj,ak,al,an,ao,aq,ar,au,av,aw,ax,ae⟩,o,ha,_,j⟩
  dsimp only at o j
  obtain⟨O,rfl⟩:=o.o1 12 aa
  have j:=(j.dT 7<|aa.1 rfl).bM 8 hD
  refine Qs 7 bj.Xs j fT λb5 j=>?_
  have j:=((j.pl 17 [1,2,3,4,5,6,7,8,0,10,11,12,13,14,15,16] rfl).cI 7 (D 12) (aa.1 rfl) aW).cI 8 true rfl aW
  exact OF (ah,ai,aj,ak,al,an,ao,aq,b5,au,av,aw,ax,ae) 13 o ha j
 ·rintro D U w hD aa ag⟨⟨ah,ai,aj,ak,al,an,ao,aq,ar,au,av,aw,ax,ae⟩,o,ha,_,j⟩
  dsimp only at o j
  obtain⟨O,rfl⟩:=o.o1 13 aa
  have j:=(j.dT 8<|aa.1 rfl).bM 9 hD
  refine Qm 8 j fU bq λb6 j=>?_
  have j:=((j.pl 17 [1,2,3,4,5,6,7,8,9,0,11,12,13,14,15,16] rfl).cI 8 (D 13) (aa.1 rfl) aW).cI 9 true rfl aW
  exact OF (ah,ai,aj,ak,al,an,ao,aq,ar,b6,av,aw,ax,ae) 14 o ha j
 ·rintro D U w hD aa ag⟨⟨ah,ai,aj,ak,al,an,ao,aq,ar,au,av,aw,ax,ae⟩,o,ha,_,j⟩
  dsimp only at o j
  obtain⟨O,rfl⟩:=o.o1 14 aa
  have j:=j.dT 9<|aa.1 rfl
  refine QG bc 9 j cY ?_
  have j:=j.cI 9 (D 14) (aa.1 rfl) aW
  exact OF (ah,ai,aj,ak,al,an,ao,aq,ar,au,av,aw,ax,ae) 15 o ha j
 ·rintro D U w hD aa ag⟨⟨ah,ai,aj,ak,al,an,ao,aq,ar,au,av,aw,ax,ae⟩,o,ha,_,j⟩
  dsimp only at o j
  obtain⟨O,rfl⟩:=o.o1 17 aa
  refine Ql 15 p0 j n8 ?_
  exact OF (ah,ai,aj,ak,al,an,ao,aq,ar,au,av,aw,ax,ae) 18 o ha j
 ·rintro D U w hD aa ag⟨⟨ah,ai,aj,ak,al,an,ao,aq,ar,au,av,aw,ax,ae⟩,o,ha,_,j⟩
  dsimp only at o j
  obtain⟨O,rfl⟩:=o.o2 16 19 aa
  have j:=j.bM 10 hD
  refine Qm 15 j kh br λb7 j=>?_
  have j:=j.nw 10
  exact OF (ah,ai,aj,ak,al,an,ao,aq,ar,au,b7,aw,ax,ae) 20 o ha j
 ·rintro D U w hD aa ag⟨⟨ah,ai,aj,ak,al,an,ao,aq,ar,au,av,aw,ax,ae⟩,o,ha,_,j⟩
  dsimp only at o j
  obtain⟨O,rfl⟩:=o.o1 20 aa
  have j:=(j.dT 10<|aa.1 rfl).bM 11 hD
  refine QR 10 j zr l7 eC λb8 j=>?_
  have j:=((j.pl 17 [1,2,3,4,5,6,7,8,9,10,11,0,13,14,15,16] rfl).cI 10 (D 20) (aa.1 rfl) aW).cI 11 true rfl aW
  exact OF (ah,ai,aj,ak,al,an,ao,aq,ar,au,av,b8,ax,ae) 21 o ha j
 ·rintro D U w hD aa ag⟨⟨ah,ai,aj,ak,al,an,ao,aq,ar,au,av,aw,ax,ae⟩,o,ha,_,j⟩
  dsimp only at o j
  obtain⟨O,rfl⟩:=o.o1 21 aa
  have j:=j.dT 11<|aa.1 rfl
  refine QG a9.Y1 11 j cY ?_
  have j:=j.cI 11 (D 21) (aa.1 rfl) aW
  exact OF (ah,ai,aj,ak,al,an,ao,aq,ar,au,av,aw,ax,ae) 22 o ha j
 ·rintro D U w hD aa ag⟨⟨ah,ai,aj,ak,al,an,ao,aq,ar,au,av,aw,ax,ae⟩,o,ha,_,j⟩
  dsimp only at o j
  obtain⟨O,rfl⟩:=(ac (o.at 5 rfl<|aa.1 rfl)<|ac (o.at 9 rfl<|aa.2.1 rfl)<|ac (o.at 15 rfl<|aa.2.2.1 rfl)<|ac (o.at 22 rfl<|aa.2.2.2.1 rfl) az).pC
  have j:=((((j.bM 12 hD).sc Int bb).sc Int a8.Y0).sc Int bc).sc Int a9.Y1
  refine Ri (⟨bb,a8.Y0,bc,a9.Y1⟩:aI) trivial rfl j [(0,vi bb),(1,vi a8.Y0),(2,vi bc),(3,vi a9.Y1)] rfl GD rfl (λM hs g=>by have h:=u9 M;exact cR.cons (f:=λ(x:aI)y=>{x with X0:=y}) h tZ (g.sat 3 _ rfl).1 λ_ h=>cR.cons (f:=λ(x:aI)y=>{x with Y0:=y}) h w5 (g.sat 2 _ rfl).1 λ_ h=>cR.cons (f:=λ(x:aI)y=>{x with X1:=y}) h qu (g.sat 1 _ rfl).1 λ_ h=>cR.cons (f:=λ(x:aI)y=>{x with Y1:=y}) h t3 (g.sat 0 _ rfl).1 λ_ h=>cR.nil h) λb9 j=>?_
  have j:=(j.pl 21 [5,6,7,8,9,10,11,12,13,14,15,16,0,18,19,20] rfl).cI 12 true rfl aW
  exact OF (ah,ai,aj,ak,al,an,ao,aq,ar,au,av,aw,b9,ae) 23 o ha j
 ·rintro D U w hD aa ag⟨⟨ah,ai,aj,ak,al,an,ao,aq,ar,au,av,aw,ax,ae⟩,o,ha,_,j⟩
  dsimp only at o j
  obtain⟨O,rfl⟩:=Mf U
  have j:=(j.bM 13<|nh ag hD 25).bM 13 hD
  refine QD j pj.z λbl w j=>?_
  have j:=(j.nw 13).dV 13 (D 25) (nh ag hD 25)<|bx 83 bl (⟨bb,a8.Y0,bc,a9.Y1⟩:aI)
  exact OF (ah,ai,aj,ak,al,an,ao,aq,ar,au,av,aw,ax,bl) 24 o ha j
 ·rintro D U w hD aa ag⟨⟨ah,ai,aj,ak,al,an,ao,aq,ar,au,av,aw,ax,ae⟩,o,ha,_,j⟩
  dsimp only at o j
  obtain⟨O,rfl⟩:=o.o2 24 23 aa
  have j:=((j.dT 12<|aa.2.1 rfl).bM 13 hD).dT 13<|aa.1 rfl
  refine QB 13 j 12 zr iZ λw j=>?_
  have j:=(j.cI 12 (D 23) (aa.2.1 rfl) aW).cI 13 true rfl (bif D 24 then raw 83 ae 4 else aW)
  exact Rr (ah,ai,aj,ak,al,an,ao,aq,ar,au,av,aw,ax,ae) o ha j
 rintro D U w a6⟨⟨ah,ai,aj,ak,al,an,ao,aq,ar,au,av,aw,ax,ae⟩,o,ha,_,j⟩
 simp only[List.getD_cons_zero,List.getD_cons_succ,a6 1 (by decide),a6 2 (by decide),a6 3 (by decide),a6 4 (by decide),a6 7 (by decide),a6 8 (by decide),a6 11 (by decide),a6 12 (by decide),a6 13 (by decide),a6 14 (by decide),a6 20 (by decide),a6 21 (by decide),a6 23 (by decide),a6 25 (by decide),aR]at j
 obtain⟨O,rfl⟩:=(ac (o.at 24 rfl<|yI a6 24) ha).pC
 refine aC<|IS<|AI<|mv v0<|Ql 15 p0 j n8<|aX 0<|AS<|Ry E V (λ(af:aI)=>[raw 83 bf 4,bx 83 ae af,rd v0 p0]) (λ_=>[(2,vp bf 0),(3,vp ae 0)]) (λbk _=>[(30,v0),(31,vi p0.length),(32,vi bk)]) hb ?_ ?_ ?_
 ·exact j.sp 16 [14,13,15]
 ·rintro hm bk af s' _ w hk⟨O,rfl,j⟩hb
  refine IS<|Qt ?_
  obtain⟨ba,cc,hb⟩:=bd hb
  refine Qm 2 j kh cc λcd j=>Qs 0 ba j wc λcf j=>QD j Dp.z λbg w j=>?_
  refine QB 0 j 1 zr wc λw j=>?_
  refine AS ?_
  obtain⟨a5,cg,hb⟩:=bd hb
  obtain⟨a7,ch,hb⟩:=bd hb
  refine Ru E V mixed [1,0,1,0,0,0,0,1,0,1,0,1,0,0,1,0,0,0,1,0,1,0] [3,4,10,12,15,19,21] (λ(x:Value×Value×Value×Value×Value)=>(λay a0 a1 a2 a3=>[(0,36,vp ae 0),(1,37,vi af.X0),(2,38,vp bg 2),(3,39,ay),(4,40,a0),(5,41,vi a5),(6,42,vi (if a5<af.X0 then a5 else af.X0)),(7,43,vp ae 2),(8,44,vi af.X1),(9,45,vp bg 2),(10,46,a1),(11,47,vp bg 2),(12,48,a2),(13,49,vi ba.Xs.length),(14,50,vi<|wrap .i64<|(ba.Xs.length:Int) - 1),(15,51,a3),(16,52,vi a7),(17,53,vi (if af.X1<a7 then a7 else af.X1)),(18,54,vp ae 0),(20,55,vp ae 2)]) x.1 x.2.1 x.2.2.1 x.2.2.2.1 x.2.2.2.2) [(2,vp bf 0),(3,vp ae 0),(5,vp bg 0),(30,v0),(31,vi p0.length),(32,vi bk)] [] (λ(D:Nat->Bool)(x:Value×Value×Value×Value×Value)=>(λay a0 a1 a2 a3=>[bif D 0 then rd ay ba.Xs else aW,bif D 1 then pt a0 a5 else aW,bif D 2 then rd a1 ba.Xs else aW,bif D 3 then rd a2 ba.Xs else aW,bif D 4 then pt a3 a7 else aW,bx 185 bg ba,rd cf ba,pt cd ba,raw 83 bf 4,bif D 6 then bx 83 ae {{af with X0:=(if a5<af.X0 then a5 else af.X0)}with X1:=(if af.X1<a7 then a7 else af.X1)}else(bif D 5 then bx 83 ae {af with X0:=(if a5<af.X0 then a5 else af.X0)}else bx 83 ae af),rd v0 p0]) x.1 x.2.1 x.2.2.1 x.2.2.2.1 x.2.2.2.2) (λx=>by kernel_rfl) ?_ ⟨λ_=>pY gn jW,?_,λ_=>pY gn kH,?_,?_,?_,?_,λ_=>pY gn kA,?_,λ_=>pY gn kH,?_,λ_=>pY gn kH,?_,?_,λ_=>Lg gn rfl,?_,?_,?_,λ_=>pY gn jW,?_,λ_=>pY gn kA,?_,trivial⟩ ?_
  ·have j:=(((((j.drew).aW).aW).aW).aW).aW
   exact⟨(undef,undef,undef,undef,undef),cW.none,D9 zr,zt,j⟩
  ·rintro D U w hD aa ag⟨⟨ay,a0,a1,a2,a3⟩,o,ha,_,j⟩
   obtain⟨O,rfl⟩:=o.o1 0 aa
   have j:=(j.bM 9<|nh ag hD 21).bM 9<|nh ag hD 19
   refine Qj 9 j zr eV cY ?_
   have j:=(j.dV 9 (D 19) (nh ag hD 19)<|bx 83 ae {af with X0:=(if a5<af.X0 then a5 else af.X0)}).dV 9 (D 21) (nh ag hD 21)<|bx 83 ae {{af with X0:=(if a5<af.X0 then a5 else af.X0)}with X1:=(if af.X1<a7 then a7 else af.X1)}
   exact OF (ay,a0,a1,a2,a3) 1 o ha j
  ·rintro D U w hD aa ag⟨⟨ay,a0,a1,a2,a3⟩,o,ha,_,j⟩
   obtain⟨O,rfl⟩:=o.o1 2 aa
   have j:=j.bM 0 hD
   refine QL 5 j zr dB fT λcj j=>?_
   have j:=j.nw 0
   exact OF (cj,a0,a1,a2,a3) 3 o ha j
  ·rintro D U w hD aa ag⟨⟨ay,a0,a1,a2,a3⟩,o,ha,_,j⟩
   obtain⟨O,rfl⟩:=o.o1 3 aa
   have j:=(j.dT 0<|aa.1 rfl).bM 1 hD
   refine Qm 0 j fU cg λck j=>?_
   have j:=((j.pl 12 [1,0,3,4,5,6,7,8,9,10,11] rfl).cI 0 (D 3) (aa.1 rfl) aW).cI 1 true rfl aW
   exact OF (ay,ck,a1,a2,a3) 4 o ha j
  ·rintro D U w hD aa ag⟨⟨ay,a0,a1,a2,a3⟩,o,ha,_,j⟩
   obtain⟨O,rfl⟩:=o.o1 4 aa
   have j:=j.dT 1<|aa.1 rfl
   refine QG a5 1 j cY ?_
   have j:=j.cI 1 (D 4) (aa.1 rfl) aW
   exact OF (ay,a0,a1,a2,a3) 5 o ha j
  ·rintro D U w hD aa ag⟨⟨ay,a0,a1,a2,a3⟩,o,ha,_,j⟩
   obtain⟨O,rfl⟩:=o.o2 1 5 aa
   refine RJ af.X0 a5 ?_
   exact OF (ay,a0,a1,a2,a3) 6 o ha j
  ·rintro D U w hD aa ag⟨⟨ay,a0,a1,a2,a3⟩,o,ha,_,j⟩
   obtain⟨O,rfl⟩:=o.o1 7 aa
   have j:=(j.bM 9<|nh ag hD 21).bM 9<|nh ag hD 19
   refine Qj 9 j zr fS cY ?_
   have j:=(j.dV 9 (D 19) (nh ag hD 19)<|bx 83 ae {af with X0:=(if a5<af.X0 then a5 else af.X0)}).dV 9 (D 21) (nh ag hD 21)<|bx 83 ae {{af with X0:=(if a5<af.X0 then a5 else af.X0)}with X1:=(if af.X1<a7 then a7 else af.X1)}
   exact OF (ay,a0,a1,a2,a3) 8 o ha j
  ·rintro D U w hD aa ag⟨⟨ay,a0,a1,a2,a3⟩,o,ha,_,j⟩
   obtain⟨O,rfl⟩:=o.o1 9 aa
   have j:=j.bM 2 hD
   refine QL 5 j zr dB fT λcl j=>?_
   have j:=j.nw 2
   exact OF (ay,a0,cl,a2,a3) 10 o ha j
  ·rintro D U w hD aa ag⟨⟨ay,a0,a1,a2,a3⟩,o,ha,_,j⟩
   obtain⟨O,rfl⟩:=o.o1 11 aa
   have j:=j.bM 3 hD
   refine QL 5 j zr dB fT λcm j=>?_
   have j:=j.nw 3
   exact OF (ay,a0,a1,cm,a3) 12 o ha j
  ·rintro D U w hD aa ag⟨⟨ay,a0,a1,a2,a3⟩,o,ha,_,j⟩
   obtain⟨O,rfl⟩:=o.o1 12 aa
   have j:=j.dT 3<|aa.1 rfl
   refine Ql 3 ba.Xs j nI ?_
   have j:=j.cI 3 (D 12) (aa.1 rfl) aW
   exact OF (ay,a0,a1,a2,a3) 13 o ha j
  ·rintro D U w hD aa ag⟨⟨ay,a0,a1,a2,a3⟩,o,ha,_,j⟩
   obtain⟨O,rfl⟩:=o.o2 10 14 aa
   have j:=(j.dT 2<|aa.1 rfl).bM 4 hD
   refine Qm 2 j fU ch λcn j=>?_
   have j:=((j.pl 12 [1,2,3,4,0,6,7,8,9,10,11] rfl).cI 2 (D 10) (aa.1 rfl) aW).cI 4 true rfl aW
   exact OF (ay,a0,a1,a2,cn) 15 o ha j
  ·rintro D U w hD aa ag⟨⟨ay,a0,a1,a2,a3⟩,o,ha,_,j⟩
   obtain⟨O,rfl⟩:=o.o1 15 aa
   have j:=j.dT 4<|aa.1 rfl
   refine QG a7 4 j cY ?_
   have j:=j.cI 4 (D 15) (aa.1 rfl) aW
   exact OF (ay,a0,a1,a2,a3) 16 o ha j
  ·rintro D U w hD aa ag⟨⟨ay,a0,a1,a2,a3⟩,o,ha,_,j⟩
   obtain⟨O,rfl⟩:=o.o2 8 16 aa
   refine RY af.X1 a7 ?_
   exact OF (ay,a0,a1,a2,a3) 17 o ha j
  ·rintro D U w hD aa ag⟨⟨ay,a0,a1,a2,a3⟩,o,ha,_,j⟩
   obtain⟨O,rfl⟩:=o.o2 18 6 aa
   have j:=((j.bM 9<|nh ag hD 21).bM 9 hD).sc Int (if a5<af.X0 then a5 else af.X0)
   refine SE 10 zt j zr zr zr 0 zr tZ cY λw j=>?_
   have j:=((j.pl 12 [1,2,3,4,5,6,7,8,9,10,11] rfl).cI 9 true rfl<|bx 83 ae af).dV 9 (D 21) (nh ag hD 21)<|bx 83 ae {{af with X0:=(if a5<af.X0 then a5 else af.X0)}with X1:=(if af.X1<a7 then a7 else af.X1)}
   exact Rr (ay,a0,a1,a2,a3) o ha j
  ·rintro D U w hD aa ag⟨⟨ay,a0,a1,a2,a3⟩,o,ha,_,j⟩
   obtain⟨O,rfl⟩:=o.o2 19 17 aa
   have j:=((j.bM 9 hD).dT 9<|aa.2.2.1 rfl).sc Int (if af.X1<a7 then a7 else af.X1)
   refine SE 10 zt j zr zr zr 0 zr qu cY λw j=>?_
   have j:=(j.pl 12 [1,2,3,4,5,6,7,8,9,10,11] rfl).cI 9 true rfl (bif D 19 then bx 83 ae {af with X0:=(if a5<af.X0 then a5 else af.X0)}else bx 83 ae af)
   exact Rr (ay,a0,a1,a2,a3) o ha j
  rintro D U w a6⟨⟨ay,a0,a1,a2,a3⟩,o,ha,_,j⟩
  simp only[List.getD_cons_zero,List.getD_cons_succ,a6 3 (by decide),a6 4 (by decide),a6 10 (by decide),a6 12 (by decide),a6 15 (by decide),a6 21 (by decide),aR]at j
  obtain⟨O,rfl⟩:=ha.pC
  refine bJ<|aC<|BY<|Qw hk hm<|aX ((bk+1:Nat):Int)<|By ?_
  obtain rfl:=oi hb
  exact⟨rfl,j.sp 11 [8,9,10]⟩
 rintro af _ w hb⟨O,rfl,j⟩
 refine aC<|AI<|Qx 1 j zr iZ λcp j=>QB 1 j 0 zr iZ λw j=>?_
 refine AS<|Qk ?_
 obtain rfl:=oi hb
 exact JG 1 zr j zr zr iZ λcq j=>j.pk 5 [0]
theorem wu{p0:List aA}{res:Bool}(j:Holds E w V)(h0:V[i0]? =some (rd v0 p0))(hb:kS N p0=some res):c_ 117 [v0] w<|bB E V res:=by
 unfold kS at hb;refine enter Tryz.func117 zr zr ?_;have j:=j.dup (i0+0) h0;refine AI<|bY false<|IT<|q_ hb λad o hb=>Qu (λ(ad:Bool)=>SH E V [(2,vb ad)] []) ad ?_ ?_;refine BY<|mv v0<|Ql 0 p0 j n8<|ic ((p0.length:Int)) 0<|gU ((p0.length:Int)==0)<|gK o (λaa o=>?_) λaa o=>?_;exact bS aa<|bS aa<|bS aa<|gT aa (vb true)<|bY true<|By<|oi o▸⟨rfl,j.sp 1 []⟩;refine Qq v0 (cg aa)<|q_ o λah af o=>QA (hg:=cg aa) (gH Tryz.func144) (uA N (i0:=0) j zr af) λai w j=>?_;exact q_ o λae ag o=>Qp (hg:=cg aa) Mv (rY N (i0:=0) j zr ag) λw j=>gT aa (vb ae)<|bY ae<|By<|oi o▸⟨rfl,j.sp 2 []⟩;rintro _ w⟨O,rfl,j⟩;exact aC<|Qk<|oi hb▸bT ⟨rfl,j.drop 0⟩
def yd(E:World)(V:List HP)(res:aI×Int)(v:Value)(w:World):Prop:=∃u0:Value,v = .tuple #[u0,vi res.2]/\Holds E w ([rd u0 res.1]++V)
theorem xt{p0:cK}{res:aI×Int}(j:Holds E w V)(h0:V[i0]? =some (rd v0 p0))(o:kp N p0=some res):c_ 72 [v0] w<|yd E V res:=by
 unfold kp at o;refine enter Tryz.func72 zr zr ?_;have j:=j.dup (i0+0) h0;refine AI<|QH 0 v0 j zr λae w j=>?_;refine QD j pj.z λaf w j=>?_;refine aL 0<|IT<|IS<|q_ o λad hj o=>Qu (λ(ad:Bool)=>SH E V [(1,vp ae 0),(2,vp af 0),(14,vb ad)] [bx 113 ae p0,raw 83 af 4]) ad ?_ ?_;refine BY<|AT zr we<|Qj 1 j zr qx cY<|q_ hj λag ai hj=>Qp JX (lG N (p0:=p0.eU) (p1:=1) (p2:=10000) j ai) λw j=>Q4 ag<|gU (!ag)<|gK hj (λaa hj=>?_) λaa hj=>?_;exact bS aa<|bS aa<|bS aa<|bS aa<|gT aa (vb true)<|By<|oi hj▸⟨rfl,j.sp 3 [1,0]⟩;refine AT (hg:=cg aa) zr BV<|QL (hg:=cg aa) 1 j zr w7 JY λax j=>?_;exact q_ hj λah aj hj=>Qp (hg:=cg aa) MI (qH N (i0:=0) j zr aj) λw j=>Q4 (hg:=cg aa) ah<|gT aa (vb<|!ah)<|By<|oi hj▸⟨rfl,j.sp 4 [2,1]⟩;rintro _ w⟨O,rfl,j⟩;refine aC<|eH o (λo=>?_) λo=>?_;refine AI<|Ri (⟨0,0,0,0⟩:aI) trivial rfl j [] rfl GD rfl (λM hs g=>by have h:=u9 M;exact cR.nil h) λay j=>?_;refine QB 2 j 0 zr iZ λw j=>?_;refine aL 1<|AS<|QE ?_;obtain rfl:=oi o;exact AN 2 j iZ λak j=>⟨ak,zr,j.pk 4 [0]⟩;refine Ra<|Qx 0 j zr lI λaz j=>?_;refine q_ o λal an o=>QA GF (gJ N (i0:=0) j zr an) λa0 w j=>QD j pj.z λa1 w j=>?_;refine QB 0 j 1 zr iZ λw j=>?_;refine IT<|AI<|Qx 0 j zr iZ λao j=>QM ([al]:List aI) j [ao] mc pj (λM hs g=>⟨(g.sat 0 _ zr).1,zt⟩) λa2 w j=>?_;have j:=j.freeze 0;refine q_ o λa3 aq o=>QA Ih (kZ N (i0:=0) j zr aq) λa4 w j=>?_;have j:=j.freeze 0;refine q_ o λar au o=>Qp (gH Tryz.func117) (wu N (i0:=0) j zr au) λw j=>Q4 ar<|AS<|eH o (λo=>?_) λo=>?_;refine AI<|Ri (⟨0,0,0,0⟩:aI) trivial rfl j [] rfl GD rfl (λM hs g=>by have h:=u9 M;exact cR.nil h) λa5 j=>?_;refine QB 8 j 0 zr iZ λw j=>?_;refine aL 1<|AS<|QE ?_;obtain rfl:=oi o;exact AN 8 j iZ λav j=>⟨av,zr,j.pk 10 [0]⟩;refine Ra<|Qx 3 j zr iZ λa6 j=>QB 8 j 0 zr iZ λw j=>?_;refine aL 0<|AS<|Qk ?_;obtain rfl:=oi o;exact AN 8 j iZ λaw j=>⟨aw,zr,j.pk 10 [0]⟩
theorem tj{p0:jg}(j:Holds E w V)(h0:V[i0]? =some (rd v0 p0))(o:jD N p0=some res):c_ 38 [v0] w<|aD E V res:=by
 unfold jD at o;refine enter Tryz.func38 zr zr ?_;have j:=j.dup (i0+0) h0;refine AI<|QH 0 v0 j zr λax w j=>?_;refine aL 0<|IT<|AI<|AT zr p7<|QL 0 j zr qz Ao λay j=>Ql 0 p0.bN j BU<|ic ((p0.bN.length:Int)) 500<|AS<|eH o (λo=>?_) λo=>?_;exact AI<|aL 2<|AS<|QE<|oi o▸bT ⟨rfl,j.drop 3⟩;refine Ra<|AT zr xk<|QL 1 j zr oN GA λaz j=>Ql 0 p0.aN j Dn<|aL (p0.aN.length:Int)<|IT<|AI<|AT zr p7<|QL 2 j zr qz Ao λae j=>?_;refine Ql 0 p0.bN j BU<|aX 0<|AS<|Rf E V (λ(ai:Unit)=>[rd ae p0.bN]) (λ_=>[]) (λaf _=>[(3,vi p0.aN.length),(16,ae),(17,vi p0.bN.length),(18,vi af)]) (λr=>mq aZ 47 Tryz.f38 (aD E V r) .ret) o ?_ ?_ ?_ ?_;exact j.sp 5 [0];rintro hm af ai fl _ w hk⟨O,rfl,j⟩o;refine IS<|Qt<|q_ o λag aq o=>Qm 0 j Dq aq λa1 j=>Qs 0 ag j lI λa2 j=>QD j A5.z λa3 w j=>?_;refine QB 0 j 1 zr lI λw j=>?_;refine IT<|AI<|Qx 0 j zr lI λa4 j=>?_;refine q_ o λad ar o=>QA (gH Tryz.func72) (xt N (i0:=0) j zr ar) ?_;rintro _ w⟨aj,rfl,j⟩;refine mv (.tuple #[aj,vi ad.2])<|QQ aj<|QQ (vi ad.2)<|QD j pj.z λa5 w j=>?_;refine QB 0 j 1 zr iZ λw j=>?_;refine aL ad.2<|IN<|aX ad.2<|ic ad.2 0<|AS<|eH o (λo=>?_) λo=>?_;exact AI<|aX ad.2<|aL ad.2<|AS<|QE<|iq<|bL<|oi o▸⟨rfl,bT ⟨rfl,j.drop 7⟩⟩;refine QN<|q_ o λah hj o=>Qu (λ(ah:Bool)=>SH E V [(3,vi p0.aN.length),(16,ae),(17,vi p0.bN.length),(18,vi af),(45,vb ah)] [rd ae p0.bN]) ah ?_ ?_;refine BY<|AT zr rq<|Qj 3 j zr m4 cY<|aX (p0.aN.length:Int)<|Qr (p0.aN.length:Int) 1<|q_ hj λak au hj=>Qp JX (lG N (p0:=ag.dZ) (p1:=0) (p2:=wrap .i64<|(p0.aN.length:Int) - 1) j au) λw j=>Q4 ak<|gU (!ak)<|gK hj (λaa hj=>?_) λaa hj=>?_;refine bS aa<|bS aa<|bS aa<|bS aa<|bS aa<|bS aa<|bS aa<|bS aa<|gT aa (vb true)<|By ?_;exact oi hj▸⟨rfl,j.sp 7 [6]⟩;refine AT (hg:=cg aa) zr t4<|Qj (hg:=cg aa) 3 j zr oA cY<|AT (hg:=cg aa) zr rq<|Qj (hg:=cg aa) 3 j zr m4 cY<|Qq (vi p0.aN.length) (cg aa)<|Qr (hg:=cg aa) (p0.aN.length:Int) 1<|q_ hj λal av hj=>Qp (hg:=cg aa) JX (lG N (p0:=ag.To) (p1:=ag.dZ) (p2:=wrap .i64<|(p0.aN.length:Int) - 1) j av) λw j=>Q4 (hg:=cg aa) al<|gT aa (vb<|!al)<|By ?_;exact oi hj▸⟨rfl,j.sp 7 [6]⟩;rintro _ w⟨O,rfl,j⟩;refine aC<|eH o (λo=>?_) λo=>?_;exact AI<|aL 1<|AS<|QY<|bL<|oi o▸⟨rfl,bT ⟨rfl,j.drop 1⟩⟩;exact QJ<|bJ<|aC<|BY<|Qw hk hm<|aX ((af+1:Nat):Int)<|By<|oi o▸⟨rfl,j.sp 1 [0]⟩;intro r U w o hK;exact bL<|oi o▸hK;rintro ai _ w o⟨O,rfl,j⟩;exact aC<|AI<|aL 0<|AS<|Qk<|oi o▸bT ⟨rfl,j.drop 1⟩
def zh(E:World)(V:List HP)(res:aS)(v:Value)(w:World):Prop:=Holds E w<|[rd v res]++V
theorem jr{p0:dD}{res:aS}(j:Holds E w V)(h0:V[i0]? =some (rd v0 p0))(o:iI N p0=some res):c_ 17 [v0] w<|zh E V res:=by
 unfold iI at o;refine enter Tryz.func17 zr zr ?_;have j:=j.dup (i0+0) h0;refine AI<|QH 0 v0 j zr λaa w j=>?_;refine QD j rp.z λab w j=>?_;refine IN<|AT zr B0<|Qj 1 j zr w9 oC<|AT zr Ii<|Qj 1 j zr A2 oC ?_;have j:=(j.sc bG p0.Part).sc bG p0.aS;refine Ri (⟨p0.Part,p0.aS⟩:aS) trivial rfl j [(0,str p0.Part),(1,str p0.aS)] rfl Lu rfl (λM hs g=>by have h:=FK M;exact cR.cons (f:=λ(x:aS)y=>{x with Part:=y}) h yT (g.sat 1 _ rfl).1 λ_ h=>cR.cons (f:=λ(x:aS)y=>{x with aS:=y}) h yU (g.sat 0 _ rfl).1 λ_ h=>cR.nil h) λad j=>?_;refine QB 3 j 0 zr jd λw j=>?_;refine AS<|Qk ?_;obtain rfl:=oi o;exact JG 3 zr j zr zr jd λae j=>j.pk 7 [0]
theorem tk{p0:jg}(j:Holds E w V)(h0:V[i0]? =some (rd v0 p0))(hb:jE N p0=some res):c_ 39 [v0] w<|aD E V res:=by
 unfold jE at hb;refine enter Tryz.func39 zr zr ?_;have j:=j.dup (i0+0) h0;refine AI<|QH 0 v0 j zr λag w j=>?_;have j:=j.ji (i:=0) rfl;refine aL 0<|IT<|AI<|QR 0 j zr oO nH λba j=>Qs 0 p0.bC j y8 λbb j=>Ql 0 p0.bC j Er<|ic ((p0.bC.length:Int)) 1000<|AS<|eH hb (λhb=>?_) λhb=>?_;exact AI<|aL 2<|AS<|QE<|oi hb▸bT ⟨rfl,j.drop 4⟩;refine QN<|AI<|QR 2 j zr oO nH λbc j=>Qs 0 p0.bC j y8 λah j=>Ql 0 p0.bC j Er<|aX 0<|AS<|Rf E V (λ(au:Unit)=>[pt (vp ag 0) p0,rd ah p0.bC]) (λ_=>[]) (λad _=>[(1,vp ag 0),(10,ah),(11,vi p0.bC.length),(12,vi ad)]) (λr=>mq aZ 60 Tryz.f39 (aD E V r) .ret) hb ?_ ?_ ?_ ?_;exact j.sp 6 [4,0];rintro hm ad au fl _ w hk⟨O,rfl,j⟩hb;refine IS<|Qt<|aX (ad:Int)<|q_ hb λai az hb=>Qm 1 j BZ az λbg j=>Qs 0 ai j va λbh j=>QD j JZ.z λaj w j=>?_;refine aL (ad:Int)<|QB 0 j 1 zr va λw j=>?_;refine AS<|Rq<|IS<|q_ hb λak o hb=>Qu (λ(ak:Bool)=>SH E V [(1,vp ag 0),(3,vi ad),(4,vp aj 0),(10,ah),(11,vi p0.bC.length),(12,vi ad),(17,vb ak)] [pt (vp ag 0) p0,bx 42 aj ai,rd ah p0.bC]) ak ?_ ?_;refine BY<|AT zr B0<|Qj 0 j zr w9 oC<|q_ o λav a0 o=>Qp Lp (mN N (p0:=ai.Part) j a0) λw j=>Q4 av<|gU (!av)<|gK o (λae o=>?_) λae o=>?_;exact bS ae<|bS ae<|bS ae<|bS ae<|gT ae (vb true)<|bY true<|By<|oi o▸⟨rfl,j.sp 5 [3,0,4]⟩;exact AT (hg:=cg ae) zr Ii<|Qj (hg:=cg ae) 0 j zr A2 oC<|q_ o λal a1 o=>Qp (hg:=cg ae) JT (kI N (p0:=ai.aS) j a1) λw j=>Q4 (hg:=cg ae) al<|gT ae (vb<|!al)<|bY (!al)<|By<|oi o▸⟨rfl,j.sp 5 [3,0,4]⟩;rintro _ w⟨O,rfl,j⟩;refine aC<|eH hb (λhb=>?_) λhb=>?_;exact AI<|aL 5<|AS<|QY<|iq<|bL<|oi hb▸⟨rfl,bT ⟨rfl,j.drop 3⟩⟩;refine IS<|q_ hb λan o hb=>Qu (λ(an:Bool)=>SH E V [(1,vp ag 0),(3,vi ad),(4,vp aj 0),(10,ah),(11,vi p0.bC.length),(12,vi ad),(28,vb an)] [pt (vp ag 0) p0,bx 42 aj ai,rd ah p0.bC]) an ?_ ?_;refine BY<|AT zr Es<|Qj 1 j zr xc cY<|QR 0 j zr xk oN λbj j=>Qs 0 p0.aN j GA λbk j=>Ql 0 p0.aN j Dn<|Qr (p0.aN.length:Int) 1<|q_ o λaw a2 o=>Qp JX (lG N (p0:=ai.eX) (p1:=0) (p2:=wrap .i64<|(p0.aN.length:Int) - 1) j a2) λw j=>Q4 aw<|gU (!aw)<|gK o (λaf o=>?_) λaf o=>?_;exact bS af<|bS af<|bS af<|bS af<|gT af (vb true)<|bY true<|By<|oi o▸⟨rfl,j.sp 5 [2,3,4]⟩;refine AT (hg:=cg af) zr Et<|QL (hg:=cg af) 3 j zr xd JY λbl j=>?_;exact q_ o λao a3 o=>Qp (hg:=cg af) MI (qH N (i0:=0) j zr a3) λw j=>Q4 (hg:=cg af) ao<|gT af (vb<|!ao)<|bY (!ao)<|By<|oi o▸⟨rfl,j.sp 6 [3,4,5]⟩;rintro _ w⟨O,rfl,j⟩;refine aC<|eH hb (λhb=>?_) λhb=>?_;exact AI<|aL 1<|AS<|QY<|iq<|bL<|oi hb▸⟨rfl,bT ⟨rfl,j.drop 3⟩⟩;refine IS<|q_ hb λaq o hb=>Qu (λ(aq:Bool)=>SH E V [(1,vp ag 0),(10,ah),(11,vi p0.bC.length),(12,vi ad),(43,vb aq)] [pt (vp ag 0) p0,rd ah p0.bC]) aq ?_ ?_;refine Rn mixed [0,0,0,0,2,1,1,1,1,1,1,2,2,0,0,0] [0,1,2,3,5,6,7,8,9,10,4,11,12,13,14,15] ?_;have j:=j.drew;refine QF zr zr<|aX (ad:Int)<|cV zr<|ic ((ad:Int)) 0<|cV zr<|gU (decide<|(ad:Int)>0)<|QO<|gK o (λab o=>?_) λab o=>?_;refine QF zr zr<|Qx (hg:=cg ab) 1 j zr va λbm j=>QO<|SR 1 zr zr (cg ab) zr j zr zr oO nH λbn j=>RM p0.bC 0 zr (cg ab) j y8 λbo a378 bp j=>QX (vi ad) zr (λw=>Qq (vi ad) (cg ab) QP)<|QX (vi<|wrap .i64<|(ad:Int) - 1) zr (λw=>Qr (hg:=cg ab) (ad:Int) 1 QP)<|q_ o λa4 a5 o=>Sz 1 zr zr (cg ab) zr j zr zr zr BZ a5 λbq j=>RM a4 0 zr (cg ab) j va λbr a383 bt j=>Rh zr zr<|q_ o λbu a6 o=>QA (hg:=cg ab) GG (jr N (i0:=6) j zr a6) λbw w j=>Q0 (⟨⟨zt,j.nG 4⟩,j.nG 1⟩)<|Rh zr zr<|q_ o λbz a7 o=>QA (hg:=cg ab) GG (jr N (i0:=2) j zr a7) λb0 w j=>Q0 (⟨⟨zt,j.nG 5⟩,j.nG 2⟩)<|Rh zr zr ?_;refine q_ o λar a8 o=>Qp (hg:=cg ab) JW (iJ N (i0:=1) (i1:=0) j zr zr a8) λw j=>Q0 (⟨⟨zt,j.nG 5⟩,j.nG 2⟩)<|QF zr zr<|Q1 ar 0 (cg ab)<|cV zr<|gT ab (vb<|decide<|ar<=0)<|cV zr<|bY (decide<|ar<=0)<|QO ?_;have j:=j.pl 12 [0,1,3,4,6,7,8,9,10,11] rfl;exact Q5<|oi o▸⟨rfl,j.sp 10 [7,9]⟩;refine QF zr zr<|bS ab<|QO<|QX undef zr (λw=>bS ab QP)<|QX undef zr (λw=>bS ab QP)<|QX undef zr (λw=>bS ab QP)<|QX undef zr (λw=>bS ab QP)<|QX undef zr (λw=>bS ab QP)<|QX undef zr (λw=>bS ab QP)<|Rh zr zr<|bS ab<|JS zr<|bS ab<|JS zr<|bS ab<|Eo zr<|bS ab<|cV zr ?_;exact gT ab (vb false)<|cV zr<|bY false<|QO<|Q5<|oi o▸⟨rfl,j.sp 3 [0,2]⟩;rintro _ w⟨O,rfl,j⟩;refine aC<|eH hb (λhb=>?_) λhb=>?_;exact AI<|aL 8<|AS<|QY<|iq<|bL<|oi hb▸⟨rfl,bT ⟨rfl,j.drop 2⟩⟩;exact QJ<|bJ<|bJ<|aC<|BY<|Qw hk hm<|aX ((ad+1:Nat):Int)<|By<|oi hb▸⟨rfl,j.sp 2 [0,1]⟩;intro r U w hb hK;exact bL<|oi hb▸hK;rintro au _ w hb⟨O,rfl,j⟩;exact aC<|AI<|aL 0<|AS<|Qk<|oi hb▸bT ⟨rfl,j.drop 2⟩
theorem qI(o:Holds E w V)(j:kq N p0 p1 p2 p3=some res):c_ 75 [vi p0,vi p1,vi p2,vi p3] w<|aD E V res:=by
 unfold kq at j;refine enter Tryz.func75 zr zr<|AI<|aL 0<|IN<|aX p2<|aX p1<|Qr p2 p1<|Qr (wrap .i64<|p2 - p1) 1<|aX p0 ?_;refine aX p3<|Qr p0 p3<|Qr (wrap .i64<|p0 - p3) 1<|Tb (a:=0) (b:=wrap .i64<|wrap .i64 (p2 - p1)+1) (c:=wrap .i64<|wrap .i64 (p0 - p3)+1) zt zr zr zr zr<|aL (if(if 0<(wrap .i64<|wrap .i64 (p2 - p1)+1)then wrap .i64 (wrap .i64 (p2 - p1)+1)else 0)<(wrap .i64<|wrap .i64 (p0 - p3)+1)then wrap .i64 (wrap .i64 (p0 - p3)+1)else(if 0<(wrap .i64<|wrap .i64 (p2 - p1)+1)then wrap .i64 (wrap .i64 (p2 - p1)+1)else 0))<|AS<|Qk ?_;exact oi j▸bT ⟨rfl,o.drop 0⟩
theorem Cc{p0 p1:aI}(j:Holds E w V)(h0:V[i0]? =some (rd v0 p0))(h1:V[i1]? =some (rd v1 p1))(o:qo N p0 p1=some res):c_ 40 [v0,v1] w<|aD E V res:=by
 unfold qo at o;refine enter Tryz.func40 zr zr ?_;have j:=(j.dup (i0+0) h0).dup (i1+1) h1;refine AI<|QH 1 v0 j zr λaa w j=>?_;refine QH 1 v1 j zr λab w j=>?_;refine aL 0<|IT ?_;have j:=j.drew;refine RZ (λw=>Holds E w<|[bx 83 ab p1,bx 83 aa p0]++V) mixed zr [0,0,0,0,0,0,0,0,2,1,1,1,1,1,1,1,1,2,0,0] [0,1,2,3,4,5,6,7,9,10,11,12,13,14,15,16,8,17,18,19] (j.pk 4 [0,1])<|QF zr zr<|AT zr jW<|cV zr<|Qj 1 j zr eV cY<|cV zr<|AT zr kA<|cV zr<|Qj 1 j zr fS cY ?_;refine cV zr<|AT zr jW<|cV zr<|Qj 0 j zr eV cY<|cV zr<|AT zr kA<|cV zr<|Qj 0 j zr fS cY<|QO<|QX (vp aa 1) zr (λw=>AT zr kz QP)<|RK (vi p0.Y0) zr (λw j=>Qj 1 j zr fB cY QP)<|QX (vp aa 3) zr (λw=>AT zr nW QP)<|RK (vi p0.Y1) zr (λw j=>Qj 1 j zr jo cY QP)<|QX (vp ab 1) zr (λw=>AT zr kz QP)<|RK (vi p1.Y0) zr (λw j=>Qj 0 j zr fB cY QP)<|QX (vp ab 3) zr (λw=>AT zr nW QP)<|RK (vi p1.Y1) zr (λw j=>Qj 0 j zr jo cY QP)<|Rh zr zr ?_;refine q_ o λad af o=>Qp ML (qI N (p0:=p0.X0) (p1:=p0.X1) (p2:=p1.X0) (p3:=p1.X1) j af) λw j=>Q0 (j.pk 4 [0,1])<|Rh zr zr<|q_ o λae ag o=>Qp ML (qI N (p0:=p0.Y0) (p1:=p0.Y1) (p2:=p1.Y0) (p3:=p1.Y1) j ag) λw j=>Q0 (j.pk 4 [0,1])<|QF zr zr<|RY ad ae<|cV zr<|aL (if ad<ae then ae else ad)<|QO<|Q5<|aC ?_;exact Qk<|oi o▸bT ⟨rfl,j.drop 4⟩
theorem mP{p0:cK}{res:Bool}(j:Holds E w V)(h0:V[i0]? =some (rd v0 p0))(hb:jT N p0 p1=some res):c_ 76 [v0,vi p1] w<|bB E V res:=by
 unfold jT at hb;refine enter Tryz.func76 zr zr ?_;have j:=j.dup (i0+0) h0;refine AI<|QH 0 v0 j zr λo w j=>?_;refine bY false<|IN<|AT zr rq<|Qj 0 j zr m4 cY<|aX p1<|ic p0.dZ p1<|gU (decide<|p0.dZ<=p1)<|QI (vi p1) zr zr w3<|QT true (decide<|p0.dZ<=p1) (vp o 4) zr zr zr (eT t4) ?_;refine QT true (decide<|p0.dZ<=p1) (vi p0.To) rfl rfl rfl (cD 0 rfl j (by exact z_ (vp o 4)) rfl oA cY)<|QI (vb<|decide<|p1<=p0.To) rfl rfl (w4 .leq)<|QV (b:=decide<|p0.dZ<=p1) (v:=vb<|decide (p0.dZ<=p1)&&decide (p1<=p0.To)) trivial rfl rfl (ma true)<|bY (decide (p0.dZ<=p1)&&decide (p1<=p0.To))<|AS<|Qk ?_;exact oi hb▸bT ⟨rfl,j.drop 2⟩
def zi(E:World)(V:List HP)(res:List Int×Int)(v:Value)(w:World):Prop:=∃u0:Value,v = .tuple #[u0,vi res.2]/\Holds E w ([rd u0 res.1]++V)
theorem rZ{p0:List aA}{res:List Int×Int}(j:Holds E w V)(h0:V[i0]? =some (rd v0 p0))(o:lA N p0 p1 p2=some res):c_ 146 [v0,vi p1,vi p2] w<|zi E V res:=by
 unfold lA at o;refine enter Tryz.func146 zr zr ?_;have j:=j.dup (i0+0) h0;refine AI<|dU n_<|aL 0<|IT<|Qt<|mv v0<|Ql 0 p0 j n8<|ic ((p0.length:Int)) 0<|bY ((p0.length:Int)==0)<|AS<|eH o (λo=>?_) λo=>?_;refine AI<|aX p2<|dU n_<|aL p2<|AS<|QY<|bL ?_;obtain rfl:=oi o;have j:=j.Ei Int;exact nT ⟨n_,zr,j.pk 2 [0]⟩;refine AI<|aX p1<|mv v0<|q_ o λad af o=>Qm 0 j kh af λak j=>QR 0 j zr oh fI λal j=>QG ad.Y0 0 j cY<|ic p1 ad.Y0<|bY (decide<|p1<ad.Y0)<|AS<|eH o (λo=>?_) λo=>?_;refine IS<|Rc mixed ?_;have j:=j.drew;refine Rb<|aX p2<|w_<|mv v0<|w_<|q_ o λaa ag o=>Qm 2 j kh ag λan j=>w_<|QR 0 j zr oh fI λao j=>w_<|QG aa.Y0 0 j cY<|w_<|RJ p2 aa.Y0<|w_<|dU n_ ?_;refine w_<|aL (if aa.Y0<p2 then aa.Y0 else p2)<|QZ<|aC<|QY<|bL ?_;obtain rfl:=oi o;have j:=j.Ei Int;exact nT ⟨n_,zr,j.pk 6 [0]⟩;refine QJ<|bJ<|aC<|IS<|Rc mixed ?_;have j:=j.drew;refine Rb<|mv v0<|w_<|q_ o λah ai o=>Qm 2 j kh ai λaq j=>w_<|QR 0 j zr kH dB λar j=>w_<|Qs 0 ah.Xs j fT λae j=>w_<|aX p2<|w_<|mv v0<|w_ ?_;refine q_ o λab aj o=>Qm 5 j kh aj λau j=>w_<|QR 0 j zr l7 eC λav j=>w_<|QG ab.Y1 0 j cY<|w_<|RJ p2 ab.Y1<|w_<|dU ae<|w_<|aL (if ab.Y1<p2 then ab.Y1 else p2)<|QZ<|aC<|Qk ?_;exact oi o▸nT ⟨ae,zr,j.pk 8 [2]⟩
theorem Av{p0:List Int}{p1:List Int}{p2:Bool->Bool->Option Bool}{res:List Int}(j:Holds E w V)(h0:V[i0]? =some (rd v0 p0))(h1:V[i1]? =some (rd v1 p1))(h2:Js aZ E V v2 p2 (λ(r:Bool)=>Value.bool r))(hb:oK N p0 p1 p2=some res):c_ 147 [v0,v1,v2] w<|kV E V res:=by
 unfold oK at hb;refine enter Tryz.func147 zr zr ?_;have j:=(j.dup (i0+0) h0).dup (i1+1) h1;refine AI<|dU n_<|IN<|dU n_<|IN<|bY false<|bY false<|bY false<|IT<|q_ hb λbt hN hb=>RU (λ(o:List Int×List Int×List Int×Bool×Bool×Bool)U w=>∃a6 a7 a8:Value,SH E V [(0,a6),(1,a7),(2,v2),(7,a8),(8,vb o.2.2.2.1),(9,vb o.2.2.2.2.1),(10,vb o.2.2.2.2.2)] [rd a6 o.1,rd a7 o.2.1,own 3 a8 o.2.2.1] U w) (λ(o:List Int×List Int×List Int×Bool×Bool×Bool)U w=>∃au:Value,SH E V [(7,au)] [own 3 au o.2.2.1] U w) (λ(r:Empty)_ _=>r.elim) hN ?_ ?_ ?_ ?_;have j:=j.cH Int 3;exact⟨v0,v1,n_,j.sp 3 [2,1,0]⟩;rintro o fl _ w⟨ah,ad,ae,O,rfl,j⟩hb;refine IS<|IS<|q_ hb λa0 hj hb=>Qu (λ(a0:Bool)=>SH E V [(0,ah),(1,ad),(2,v2),(7,ae),(8,vb o.2.2.2.1),(9,vb o.2.2.2.2.1),(10,vb o.2.2.2.2.2),(20,vb a0)] [rd ah o.1,rd ad o.2.1,own 3 ae o.2.2.1]) a0 ?_ ?_;refine BY<|mv ah<|Ql 0 o.1 j nI<|ic ((o.1.length:Int)) 0<|gU (decide<|(o.1.length:Int)>0)<|gK hj (λao hj=>?_) λao hj=>?_;exact bS ao<|bS ao<|bS ao<|gT ao (vb true)<|By<|oi hj▸⟨rfl,j.sp 3 [0,1,2]⟩;refine Qq ad (cg ao)<|Ql (hg:=cg ao) 1 o.2.1 j nI<|Q1 (o.2.1.length:Int) 0 (cg ao)<|gT ao (vb<|decide<|(o.2.1.length:Int)>0)<|By ?_;exact oi hj▸⟨rfl,j.sp 3 [0,1,2]⟩;rintro _ w⟨O,rfl,j⟩;refine aC<|eH hb (λhb=>?_) λhb=>?_;refine Rl<|Qt<|aL 0<|IT<|IS<|q_ hb λa1 hj hb=>Qu (λ(a1:Bool)=>SH E V [(0,ah),(1,ad),(2,v2),(7,ae),(8,vb o.2.2.2.1),(9,vb o.2.2.2.2.1),(10,vb o.2.2.2.2.2),(37,vb a1)] [rd ah o.1,rd ad o.2.1,own 3 ae o.2.2.1]) a1 ?_ ?_;refine Rc mixed ?_;have j:=j.drew;refine Rb<|mv ad<|w_<|Ql 1 o.2.1 j nI<|w_<|ic ((o.2.1.length:Int)) 0<|w_<|gU ((o.2.1.length:Int)==0)<|gK hj (λai hj=>?_) λai hj=>?_;refine w_<|bS ai<|w_<|bS ai<|w_<|bS ai<|w_<|bS ai<|w_<|Lj<|w_<|Lj<|w_<|Lj<|w_<|Lj<|w_<|Lj ?_;exact w_<|Lj<|w_<|Lj<|w_<|bS ai<|w_<|gT ai (vb true)<|QZ<|oi hj▸⟨rfl,j.sp 3 [0,1,2]⟩;refine w_<|Qq ah (cg ai)<|w_<|Ql (hg:=cg ai) 0 o.1 j nI<|w_<|Q1 (o.1.length:Int) 0 (cg ai)<|w_<|Qq (vb<|decide<|(o.1.length:Int)>0) (cg ai)<|gK hj (λaf hj=>?_) λaf hj=>?_;refine w_<|Qq ah (cg af)<|w_<|q_ hj λaw bh hj=>Qm (hg:=cg af) 0 j fU bh λbw j=>w_<|QG (hg:=cg af) aw 0 j cY<|w_<|Qq ad (cg af)<|w_<|q_ hj λax bj hj=>Qm (hg:=cg af) 2 j fU bj λbx j=>w_<|QG (hg:=cg af) ax 0 j cY<|w_<|Q1 aw ax (cg af)<|w_<|gT af (vb<|decide<|aw<=ax) (hg:=cg ai)<|w_<|gT ai (vb<|decide<|aw<=ax) ?_;exact QZ<|oi hj▸⟨rfl,j.sp 5 [2,3,4]⟩;refine w_<|bS af<|w_<|bS af<|w_<|bS af<|w_<|bS af<|w_<|bS af<|w_<|bS af<|w_<|bS af<|w_<|gT af (vb false) (hg:=cg ai)<|w_<|gT ai (vb false) ?_;exact QZ<|oi hj▸⟨rfl,j.sp 3 [0,1,2]⟩;rintro _ w⟨O,rfl,j⟩;refine aC<|q_ hb λag hj hb=>Qu (λ(ag:Int)=>SH E V [(0,ah),(1,ad),(2,v2),(7,ae),(8,vb o.2.2.2.1),(9,vb o.2.2.2.2.1),(10,vb o.2.2.2.2.2),(11,vi ag)] [rd ah o.1,rd ad o.2.1,own 3 ae o.2.2.1]) ag ?_ ?_;refine eH hj (λhj=>?_) λhj=>?_;refine BY<|mv ah<|q_ hj λa9 bk hj=>Qm 0 j fU bk λbz j=>QG a9 0 j cY<|aL a9<|By ?_;exact oi hj▸⟨rfl,j.sp 4 [1,2,3]⟩;refine BY<|mv ad<|q_ hj λba bl hj=>Qm 1 j fU bl λb0 j=>QG ba 0 j cY<|aL ba<|By ?_;exact oi hj▸⟨rfl,j.sp 4 [1,2,3]⟩;rintro _ w⟨O,rfl,j⟩;refine aC<|IS<|IS<|q_ hb λa2 hj hb=>Qu (λ(a2:Bool)=>SH E V [(0,ah),(1,ad),(2,v2),(7,ae),(8,vb o.2.2.2.1),(9,vb o.2.2.2.2.1),(10,vb o.2.2.2.2.2),(11,vi ag),(53,vb a2)] [rd ah o.1,rd ad o.2.1,own 3 ae o.2.2.1]) a2 ?_ ?_;refine BY<|mv ah<|Ql 0 o.1 j nI<|ic ((o.1.length:Int)) 0<|gU (decide<|(o.1.length:Int)>0)<|gK hj (λaj hj=>?_) λaj hj=>?_;refine Qq ah (cg aj)<|q_ hj λa3 bm hj=>Qm (hg:=cg aj) 0 j fU bm λb1 j=>QG (hg:=cg aj) a3 0 j cY<|Qq (vi ag) (cg aj)<|Q1 a3 ag (cg aj)<|gT aj (vb<|a3==ag)<|By ?_;exact oi hj▸⟨rfl,j.sp 4 [1,2,3]⟩;exact bS aj<|bS aj<|bS aj<|bS aj<|bS aj<|gT aj (vb false)<|By<|oi hj▸⟨rfl,j.sp 3 [0,1,2]⟩;rintro _ w⟨O,rfl,j⟩;refine aC<|q_ hb λal hj hb=>Qu (λ(al:List Int×Bool)U w=>∃an:Value,SH E V [(0,an),(1,ad),(2,v2),(7,ae),(8,vb al.2),(9,vb o.2.2.2.2.1),(10,vb o.2.2.2.2.2),(11,vi ag)] [rd ad o.2.1,own 3 ae o.2.2.1,rd an al.1] U w) al ?_ ?_;refine eH hj (λhj=>?_) λhj=>?_;exact BY<|mv ah<|q_ hj λb2 bn hj=>RW 0 j fU (.inr ⟨rfl,zr⟩) bn λbb j=>gU o.2.2.2.1<|Q4 o.2.2.2.1<|dU bb<|bY (!o.2.2.2.1)<|By<|oi hj▸⟨rfl,bb,j.sp 4 [2,3,0]⟩;exact QJ<|oi hj▸⟨rfl,ah,j.sp 3 [1,2,0]⟩;rintro _ w⟨an,O,rfl,j⟩;refine aC<|IS<|IS<|q_ hb λa4 hj hb=>Qu (λ(a4:Bool)=>SH E V [(0,an),(1,ad),(2,v2),(7,ae),(8,vb al.2),(9,vb o.2.2.2.2.1),(10,vb o.2.2.2.2.2),(11,vi ag),(67,vb a4)] [rd an al.1,rd ad o.2.1,own 3 ae o.2.2.1]) a4 ?_ ?_;refine BY<|mv ad<|Ql 0 o.2.1 j nI<|ic ((o.2.1.length:Int)) 0<|gU (decide<|(o.2.1.length:Int)>0)<|gK hj (λak hj=>?_) λak hj=>?_;refine Qq ad (cg ak)<|q_ hj λa5 bo hj=>Qm (hg:=cg ak) 0 j fU bo λb3 j=>QG (hg:=cg ak) a5 0 j cY<|Qq (vi ag) (cg ak)<|Q1 a5 ag (cg ak)<|gT ak (vb<|a5==ag)<|By ?_;exact oi hj▸⟨rfl,j.sp 4 [3,1,2]⟩;exact bS ak<|bS ak<|bS ak<|bS ak<|bS ak<|gT ak (vb false)<|By<|oi hj▸⟨rfl,j.sp 3 [2,0,1]⟩;rintro _ w⟨O,rfl,j⟩;refine aC<|q_ hb λaq hj hb=>Qu (λ(aq:List Int×Bool)U w=>∃ar:Value,SH E V [(0,an),(1,ar),(2,v2),(7,ae),(8,vb al.2),(9,vb aq.2),(10,vb o.2.2.2.2.2),(11,vi ag)] [rd an al.1,own 3 ae o.2.2.1,rd ar aq.1] U w) aq ?_ ?_;refine eH hj (λhj=>?_) λhj=>?_;exact BY<|mv ad<|q_ hj λb4 bp hj=>RW 1 j fU (.inr ⟨rfl,zr⟩) bp λbc j=>gU o.2.2.2.2.1<|Q4 o.2.2.2.2.1<|dU bc<|bY (!o.2.2.2.2.1)<|By<|oi hj▸⟨rfl,bc,j.sp 4 [1,3,0]⟩;exact QJ<|oi hj▸⟨rfl,ad,j.sp 3 [0,2,1]⟩;rintro _ w⟨ar,O,rfl,j⟩;refine aC<|AI<|mv v2<|gU al.2<|gU aq.2 ?_;have j:=(j.sc Bool al.2).sc Bool aq.2;refine q_ hb λav bq hb=>RE 1 0 zt j h2 5 bq λw j=>bY av<|IN<|gU av<|gU o.2.2.2.2.2<|SY (a:=av) (b:=o.2.2.2.2.2) zt zr zr zr P0<|AS<|q_ hb λay hj hb=>Qu (λ(ay:List Int×Bool)U w=>∃az:Value,SH E V [(0,an),(1,ar),(2,v2),(7,az),(8,vb al.2),(9,vb aq.2),(10,vb ay.2)] [rd an al.1,rd ar aq.1,own 3 az ay.1] U w) ay ?_ ?_;refine eH hj (λhj=>?_) λhj=>?_;refine BY<|mv ae<|aX ag ?_;have j:=j.sc Int ag;refine QM ([ag]:List Int) j [vi ag] fU Jy (λM hs g=>⟨(g.sat 0 _ zr).1,zt⟩) λb5 w j=>?_;have j:=j.freeze 0;refine q_ hj λb6 br hj=>QW 5 0 j xl br λbf w j=>?_;exact gU av<|dU bf<|bY av<|By<|oi hj▸⟨rfl,bf,j.sp 7 [4,6,5]⟩;exact QJ<|oi hj▸⟨rfl,ae,j.sp 5 [2,4,3]⟩;rintro _ w⟨az,O,rfl,j⟩;exact bJ<|oi hb▸⟨rfl,an,ar,az,j.sp 3 [0,1,2]⟩;exact Q7<|oi hb▸⟨rfl,ae,j.sp 3 [2]⟩;intro r _ _ _ _;exact r.elim;rintro o _ w rfl⟨au,O,rfl,j⟩;rw[Fo.HM]at hb;refine aC<|AI<|mv au<|dU au<|AS<|Qk ?_;obtain rfl:=oi hb;exact bT<|j.pk 1 [0]
theorem zj{p0:List aA}{p1:List aA}{p2:Bool->Bool->Option Bool}{res:List aA}(j:Holds E w V)(h0:V[i0]? =some (rd v0 p0))(h1:V[i1]? =some (rd v1 p1))(h2:Js aZ E V v2 p2 (λ(r:Bool)=>Value.bool r))(o:nF N p0 p1 p2=some res):c_ 119 [v0,v1,v2] w<|lD E V res:=by
 unfold nF at o;refine enter Tryz.func119 zr zr ?_;have j:=(j.dup (i0+0) h0).dup (i1+1) h1;refine AI<|dU n_<|IN<|dU n_<|IT<|AI<|mv v0<|Ql 1 p0 j n8<|mv v1<|Ql 0 p1 j n8<|Qr (p0.length:Int) (p1.length:Int)<|ic (wrap .i64<|(p0.length:Int)+(p1.length:Int)) 0<|AS<|eH o (λo=>?_) λo=>?_;refine AI<|dU n_<|AS<|QE ?_;obtain rfl:=oi o;have j:=j.cH aA 185;exact bT<|j.pk 3 [0];refine Ra<|aL 0<|aL 0<|IT<|AI<|mv v0<|mv v1<|QM ([p0,p1]:List (List aA)) j [v0,v1] Ij Ik (λM hs g=>⟨(g.sat 1 _ zr).1,⟨(g.sat 0 _ zr).1,zt⟩⟩) λaq w j=>Q2 (i:=0) (l:=([p0,p1]:List (List aA))) zt zr j zr zr MM<|aX 0<|AS<|Ry E V (λ(af:Int×Int)=>[rd v0 p0,rd v1 p1,own 137 aq ([p0,p1]:List (List aA))]) (λaf=>[(0,v0),(1,v1),(2,v2),(7,n_),(8,vi af.1),(9,vi af.2)]) (λak _=>[(25,aq),(26,vi ((([p0,p1]:List (List aA)).length:Nat):Int)),(27,vi ak)]) o ?_ ?_ ?_;exact j.sp 3 [2,1,0];rintro hm ak af s' _ w hk⟨O,rfl,j⟩o;refine IS<|Qt<|aX (ak:Int)<|q_ o λar bc o=>Qz 2 j zr zr Ij bc<|Rv 2 j bc KU λai j=>?_;refine aL (ak:Int)<|dU ai<|IN<|mv ai<|Ql 0 ar j n8<|ic ((ar.length:Int)) 0<|AS<|q_ o λa0 hj o=>Qu (λ(a0:Int×Int)=>SH E V [(0,v0),(1,v1),(2,v2),(7,n_),(8,vi a0.1),(9,vi a0.2),(25,aq),(26,vi ((([p0,p1]:List (List aA)).length:Nat):Int)),(27,vi ak)] [rd v0 p0,rd v1 p1,own 137 aq ([p0,p1]:List (List aA))]) a0 ?_ ?_;refine eH hj (λhj=>?_) λhj=>?_;refine IS<|IS<|q_ hj λa5 hjj hj=>Qu (λ(a5:Bool)=>SH E V [(0,v0),(1,v1),(2,v2),(7,n_),(8,vi af.1),(9,vi af.2),(11,ai),(25,aq),(26,vi ((([p0,p1]:List (List aA)).length:Nat):Int)),(27,vi ak),(41,vb a5)] [rd v0 p0,rd v1 p1,rd ai ar,own 137 aq ([p0,p1]:List (List aA))]) a5 ?_ ?_;refine BY<|aX (ak:Int)<|ic ((ak:Int)) 0<|gU ((ak:Int)==0)<|gK hjj (λan hjj=>?_) λan hjj=>?_;exact bS an<|bS an<|bS an<|gT an (vb true)<|By<|oi hjj▸⟨rfl,j.sp 4 [1,2,0,3]⟩;refine Qq v0 (cg an)<|Ql (hg:=cg an) 1 p0 j n8<|Q1 (p0.length:Int) 0 (cg an)<|gT an (vb<|(p0.length:Int)==0)<|By ?_;exact oi hjj▸⟨rfl,j.sp 4 [1,2,0,3]⟩;rintro _ w⟨O,rfl,j⟩;refine aC<|q_ hj λaj hjj hj=>Qu (λ(aj:Int×Int)=>SH E V [(0,v0),(1,v1),(2,v2),(7,n_),(8,vi aj.1),(9,vi aj.2),(11,ai),(25,aq),(26,vi ((([p0,p1]:List (List aA)).length:Nat):Int)),(27,vi ak)] [rd v0 p0,rd v1 p1,rd ai ar,own 137 aq ([p0,p1]:List (List aA))]) aj ?_ ?_;refine eH hjj (λhjj=>?_) λhjj=>?_;refine Rc mixed ?_;have j:=j.drew;refine Rb<|mv ai<|w_<|q_ hjj λbf bt hjj=>Qm 2 j kh bt λcb j=>w_<|QR 0 j zr oh fI λcc j=>w_<|QG bf.Y0 0 j cY<|w_<|mv ai<|w_<|mv ai ?_;refine w_<|Ql 4 ar j n8<|w_<|Qr (ar.length:Int) 1<|w_<|q_ hjj λbg bu hjj=>Qm 4 j kh bu λcd j=>w_<|QR 0 j zr l7 eC λcf j=>w_<|QG bg.Y1 0 j cY<|w_<|aL bf.Y0<|w_<|aL bg.Y1 ?_;exact QZ<|oi hjj▸⟨rfl,j.sp 8 [4,5,6,7]⟩;exact QJ<|oi hjj▸⟨rfl,j.sp 4 [0,1,2,3]⟩;rintro _ w⟨O,rfl,j⟩;refine aC<|Rc mixed ?_;have j:=j.drew;refine Rb<|aX aj.1<|w_<|mv ai<|w_<|q_ hj λa1 bw hj=>Qm 2 j kh bw λch j=>w_<|QR 0 j zr oh fI λcj j=>w_<|QG a1.Y0 0 j cY<|w_<|RJ aj.1 a1.Y0<|w_<|aX aj.2 ?_;refine w_<|mv ai<|w_<|mv ai<|w_<|Ql 4 ar j n8<|w_<|Qr (ar.length:Int) 1<|w_<|q_ hj λa2 bx hj=>Qm 4 j kh bx λck j=>w_<|QR 0 j zr l7 eC λcm j=>w_<|QG a2.Y1 0 j cY<|w_<|RY aj.2 a2.Y1<|w_<|aL (if a1.Y0<aj.1 then a1.Y0 else aj.1) ?_;exact w_<|aL (if aj.2<a2.Y1 then a2.Y1 else aj.2)<|QZ<|oi hj▸⟨rfl,j.sp 8 [4,5,7]⟩;exact QJ<|oi hj▸⟨rfl,j.sp 4 [1,2,3]⟩;rintro _ w⟨O,rfl,j⟩;exact bJ<|aC<|BY<|Qw hk hm<|aX ((ak+1:Nat):Int)<|By<|oi o▸⟨rfl,j.sp 3 [0,1,2]⟩;rintro af _ w o⟨O,rfl,j⟩;refine aC<|IS<|q_ o λcn hN o=>RU (λ(aa:List aA×List aA×List aA×Int)U w=>∃bh bj bk:Value,SH E V [(0,bh),(1,bj),(2,v2),(7,bk),(8,vi aa.2.2.2),(9,vi af.2)] [rd bh aa.1,rd bj aa.2.1,own 185 bk aa.2.2.1] U w) (λ(aa:List aA×List aA×List aA×Int)U w=>∃ay:Value,SH E V [(7,ay)] [own 185 ay aa.2.2.1] U w) (λ(r:Empty)_ _=>r.elim) hN ?_ ?_ ?_ ?_;have j:=j.cH aA 185;exact⟨v0,v1,n_,j.sp 4 [1,2,0]⟩;rintro aa fl _ w⟨b0,az,al,O,rfl,j⟩o;refine IS<|AI<|aX aa.2.2.2<|aX af.2<|ic aa.2.2.2 af.2<|AS<|eH o (λo=>?_) λo=>?_;refine Rl<|Rq<|IS<|R_ E V (λ(ao:List aA)(a6:Value)=>[rd az aa.2.1,own 185 al aa.2.2.1,rd a6 ao]) (λ_ a6=>[(0,a6),(1,az),(2,v2),(7,al),(8,vi aa.2.2.2),(9,vi af.2)]) (λ_ _=>[]) o ?_ ?_ ?_;exact⟨b0,j.sp 3 [1,2,0]⟩;rintro ao fl _ w⟨av,O,rfl,j⟩o;refine IS<|IS<|q_ o λa7 hj o=>Qu (λ(a7:Bool)=>SH E V [(0,av),(1,az),(2,v2),(7,al),(8,vi aa.2.2.2),(9,vi af.2),(82,vb a7)] [rd av ao,rd az aa.2.1,own 185 al aa.2.2.1]) a7 ?_ ?_;refine BY<|mv av<|Ql 2 ao j n8<|ic ((ao.length:Int)) 0<|gU (decide<|(ao.length:Int)>0)<|gK hj (λag hj=>?_) λag hj=>?_;refine Qq av (cg ag)<|q_ hj λa8 b1 hj=>Qm (hg:=cg ag) 2 j kh b1 λcp j=>QR (hg:=cg ag) 0 j zr l7 eC λcq j=>QG (hg:=cg ag) a8.Y1 0 j cY<|Qq (vi aa.2.2.2) (cg ag)<|Q1 a8.Y1 aa.2.2.2 (cg ag)<|gT ag (vb<|decide<|a8.Y1<=aa.2.2.2)<|By ?_;exact oi hj▸⟨rfl,j.sp 5 [4,2,3]⟩;exact bS ag<|bS ag<|bS ag<|bS ag<|bS ag<|bS ag<|gT ag (vb false)<|By<|oi hj▸⟨rfl,j.sp 3 [2,0,1]⟩;rintro _ w⟨O,rfl,j⟩;refine aC<|eH o (λo=>?_) λo=>?_;exact Rl<|Rq<|BY<|mv av<|q_ o λcr b2 o=>RW 0 j kh (.inr ⟨rfl,zr⟩) b2 λbm j=>dU bm<|By<|bJ<|oi o▸⟨rfl,bm,j.sp 4 [2,3,0]⟩;exact Q7<|oi o▸⟨rfl,av,j.sp 3 [1,2,0]⟩;rintro ao _ w o⟨aw,O,rfl,j⟩;refine aC<|IS<|R_ E V (λ(au:List aA)(a9:Value)=>[rd aw ao,own 185 al aa.2.2.1,rd a9 au]) (λ_ a9=>[(0,aw),(1,a9),(2,v2),(7,al),(8,vi aa.2.2.2),(9,vi af.2)]) (λ_ _=>[]) o ?_ ?_ ?_;exact⟨az,j.sp 3 [2,1,0]⟩;rintro au fl _ w⟨ax,O,rfl,j⟩o;refine IS<|IS<|q_ o λba hj o=>Qu (λ(ba:Bool)=>SH E V [(0,aw),(1,ax),(2,v2),(7,al),(8,vi aa.2.2.2),(9,vi af.2),(95,vb ba)] [rd aw ao,rd ax au,own 185 al aa.2.2.1]) ba ?_ ?_;refine BY<|mv ax<|Ql 2 au j n8<|ic ((au.length:Int)) 0<|gU (decide<|(au.length:Int)>0)<|gK hj (λah hj=>?_) λah hj=>?_;refine Qq ax (cg ah)<|q_ hj λbb b3 hj=>Qm (hg:=cg ah) 2 j kh b3 λct j=>QR (hg:=cg ah) 0 j zr l7 eC λcu j=>QG (hg:=cg ah) bb.Y1 0 j cY<|Qq (vi aa.2.2.2) (cg ah)<|Q1 bb.Y1 aa.2.2.2 (cg ah)<|gT ah (vb<|decide<|bb.Y1<=aa.2.2.2)<|By ?_;exact oi hj▸⟨rfl,j.sp 5 [2,4,3]⟩;exact bS ah<|bS ah<|bS ah<|bS ah<|bS ah<|bS ah<|gT ah (vb false)<|By<|oi hj▸⟨rfl,j.sp 3 [0,2,1]⟩;rintro _ w⟨O,rfl,j⟩;refine aC<|eH o (λo=>?_) λo=>?_;exact Rl<|Rq<|BY<|mv ax<|q_ o λcv b4 o=>RW 1 j kh (.inr ⟨rfl,zr⟩) b4 λbn j=>dU bn<|By<|bJ<|oi o▸⟨rfl,bn,j.sp 4 [1,3,0]⟩;exact Q7<|oi o▸⟨rfl,ax,j.sp 3 [0,2,1]⟩;rintro au _ w o⟨bo,O,rfl,j⟩;refine aC<|AI<|mv aw<|aX aa.2.2.2<|aX af.2<|q_ o λad b5 o=>QA KW (rZ N (p1:=aa.2.2.2) (p2:=af.2) (i0:=0) j zr b5) ?_;rintro _ w⟨a3,rfl,j⟩;refine mv (.tuple #[a3,vi ad.2])<|QQ a3<|QQ (vi ad.2)<|dU a3<|aL ad.2<|IN<|mv bo<|aX aa.2.2.2<|aX af.2<|q_ o λae b6 o=>QA KW (rZ N (p1:=aa.2.2.2) (p2:=af.2) (i0:=3) j zr b6) ?_;rintro _ w⟨a4,rfl,j⟩;refine mv (.tuple #[a4,vi ae.2])<|QQ a4<|QQ (vi ae.2)<|dU a4<|aL ae.2<|IN<|aX ad.2<|aX ae.2<|RJ ad.2 ae.2<|aL (if ae.2<ad.2 then ae.2 else ad.2)<|IN<|mv al<|aX aa.2.2.2<|aX (if ae.2<ad.2 then ae.2 else ad.2)<|mv a3<|mv a4<|mv v2 ?_;refine q_ o λb7 b8 o=>QA (gH Tryz.func147) (Av N (i0:=1) (i1:=0) j zr zr (h2.lift 5 zr) b8) λb9 w j=>?_;have j:=((j.sc Int aa.2.2.2).sc Int (if ae.2<ad.2 then ae.2 else ad.2)).freeze 2;refine Ri (⟨aa.2.2.2,(if ae.2<ad.2 then ae.2 else ad.2),b7⟩:aA) trivial rfl j [(0,vi aa.2.2.2),(1,vi (if ae.2<ad.2 then ae.2 else ad.2)),(2,b9)] rfl KS rfl (λM hs g=>by have h:=v5 M;exact cR.cons (f:=λ(x:aA)y=>{x with Y0:=y}) h rW (g.sat 1 _ rfl).1 λ_ h=>cR.cons (f:=λ(x:aA)y=>{x with Y1:=y}) h nV (g.sat 0 _ rfl).1 λ_ h=>cR.cons (f:=λ(x:aA)y=>{x with Xs:=y}) h rX (g.sat 2 _ rfl).1 λ_ h=>cR.nil h) λcw j=>?_;have j:=j.pull 7;exact q_ o λcx ca o=>QA KT (pK N (i1:=0) j zr ca) λbp w j=>dU bp<|AS<|BY<|aX (if ae.2<ad.2 then ae.2 else ad.2)<|aL (if ae.2<ad.2 then ae.2 else ad.2)<|By<|bJ<|oi o▸⟨rfl,aw,bo,bp,j.sp 10 [7,9,0]⟩;exact Q7<|oi o▸⟨rfl,al,j.sp 3 [2]⟩;intro r _ _ _ _;exact r.elim;rintro aa _ w rfl⟨ay,O,rfl,j⟩;rw[Fo.HM]at o;refine aC<|AI<|mv ay<|dU ay<|AS<|Qk ?_;obtain rfl:=oi o;exact bT<|j.pk 1 [0]
theorem tl{p0 p1 res:Bool}(o:Holds E w V)(j:mD N p0 p1=some res):c_ 120 [vb p0,vb p1] w<|bB E V res:=by
 unfold mD at j;refine enter Tryz.func120 zr zr<|AI<|bY false<|IN<|gU p0<|gU p0<|QI (vb p1) zr zr w3<|QI (vb<|!p1) zr zr PY<|QV (b:=p0) (v:=vb<|p0&&(!p1)) zt zr zr (ma true) ?_;exact bY (p0&&(!p1))<|AS<|Qk<|oi j▸bT ⟨rfl,o.drop 0⟩
theorem wv{p0:List aA}{p1:List aA}{res:List aA}(o:Holds E w V)(h0:V[i0]? =some (rd v0 p0))(h1:V[i1]? =some (rd v1 p1))(hb:jU N p0 p1=some res):c_ 77 [v0,v1] w<|lD E V res:=by
 unfold jU at hb;refine enter Tryz.func77 zr zr ?_;have o:=(o.dup (i0+0) h0).dup (i1+1) h1;refine AI<|dU n_<|IN<|mv v0<|mv v1 ?_;refine q_ hb λaf ab hb=>QA (gH Tryz.func119) (zj N (i0:=1) (i1:=0) o rfl rfl ⟨120,[],rfl,(gH Tryz.func120),λw Γl v v' y0 y1 r i j o hi hj hr=>by obtain rfl:=o.x8 (γ:=Bool) hi;obtain rfl:=o.x8 (γ:=Bool) hj;exact fA (tl N (p0:=y0) (p1:=y1) o hr) λ_ _ h=>h⟩ ab) λae w o=>dU ae<|AS<|Qk ?_;obtain rfl:=oi hb;exact bT<|o.pk 3 [0]
theorem wx{p0:List aA}(j:Holds E w V)(h0:V[i0]? =some (rd v0 p0))(hb:kT N p0=some res):c_ 78 [v0] w<|aD E V res:=by
 unfold kT at hb;refine enter Tryz.func78 zr zr ?_;have j:=j.dup (i0+0) h0;refine AI<|aL 0<|IN<|aL 0<|IT<|AI<|mv v0<|Ql 0 p0 j n8<|aX 0<|AS<|Ry E V (λ(o:Int)=>[rd v0 p0]) (λo=>[(3,vi o)]) (λad _=>[(6,v0),(7,vi p0.length),(8,vi ad)]) hb ?_ ?_ ?_;exact j.sp 1 [0];rintro hm ad o s' _ w hk⟨O,rfl,j⟩hb;refine IS<|Qt<|q_ hb λab ag hb=>Qm 0 j kh ag λah j=>Qs 0 ab j wc λai j=>QD j Dp.z λaj w j=>?_;refine QB 0 j 1 zr wc λw j=>?_;refine AS<|BY<|aX o<|AT zr kH<|QL 0 j zr dB fT λak j=>Ql 0 ab.Xs j nI<|Sh (ab.Xs.length:Int) 2 zr zr zr zr<|Qr o (wrap .i64<|Int.tdiv (ab.Xs.length:Int) 2)<|aL (wrap .i64<|o+ wrap .i64 (Int.tdiv (ab.Xs.length:Int) 2)) ?_;exact By<|bJ<|aC<|BY<|Qw hk hm<|aX ((ad+1:Nat):Int)<|By<|oi hb▸⟨rfl,j.sp 5 [4]⟩;rintro o _ w hb⟨O,rfl,j⟩;exact aC<|AI<|aX o<|aL o<|AS<|Qk<|oi hb▸bT ⟨rfl,j.drop 1⟩
def tm(E:World)(V:List HP)(b1:Nat)(res:Int×List Int)(v:Value)(w:World):Prop:=∃O_:Value,v= vi res.1/\Holds E w ([bc 70 b1 [O_],own 3 O_ res.2]++V)
theorem kB{P_:List Int}{res:Int×List Int}(j:Holds E w (bc 70 b1 [y_]::own 3 y_ P_::V))(o:eB N p0 P_=some res):c_ 121 [vi p0,vp b1 0] w<|tm E V b1 res:=by
 unfold eB at o;refine enter Tryz.func121 zr zr<|AI<|aL 0<|IT<|RF E V (λ(aa:Int×List Int)=>[bc 70 b1 [y_],own 3 y_ aa.2]) (λaa=>[(0,vi aa.1),(1,vp b1 0)]) (λ_=>[]) o ?_ ?_ ?_;exact j.sp 2 [0,1];rintro aa fl _ w⟨O,rfl,j⟩o;refine IS<|AI<|Qy 0 y_ j fT<|aX aa.1<|q_ o λah ab o=>Qz 1 j zr zr fU ab<|Rz 1 j ab cY<|aX aa.1<|ic ah aa.1<|AS<|eH o (λo=>?_) λo=>?_;refine Rl<|Rq<|IS<|Rn mixed [0,0,0,0,0,0,0,0,0,0,2] [0,1,2,3,4,5,6,7,8,9,10] ?_;have j:=j.drew;refine QF zr zr<|Qy 0 y_ j fT<|cV zr<|aX aa.1<|cV zr<|Qy 0 y_ j fT<|cV zr<|Qy 0 y_ j fT<|cV zr<|aX aa.1<|cV zr ?_;refine q_ o λal ad o=>Qz 1 j zr zr fU ad<|cV zr<|Rz 1 j ad cY<|cV zr<|q_ o λai ae o=>Qz 1 j zr zr fU ae<|cV zr<|Rz 1 j ae cY<|cV zr<|q_ o λan af o=>Qz 1 j zr zr fU af<|wZ zr ?_;have j:=j.sc Int ai;refine Rs 2 0 j af cY λw j=>?_;refine Q0 zt<|Q5<|aC<|BY<|Qy 1 y_ j fT<|aX aa.1<|q_ o λaj ag o=>Qz 2 j zr zr fU ag<|Rz 2 j ag cY<|aL aj<|By<|bJ ?_;exact oi o▸⟨rfl,j.sp 3 [1,2]⟩;exact Q7<|oi o▸⟨rfl,j.sp 2 [0,1]⟩;rintro aa _ w o⟨O,rfl,j⟩;exact aC<|AI<|aX aa.1<|aL aa.1<|AS<|Qk<|oi o▸bT ⟨y_,zr,j.pk 2 [0,1]⟩
end Go.Gk
