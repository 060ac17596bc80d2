/-
  Printed texts: Go functions as plain functions, and that they are. No statement of the seed is proved here.
-/
import Derived.Test.YtpbhmbhiaonoiaaGreatDoorG1
import Derived.Test.YtpbhmbhiaonoiaaGreatDoorG3
import Derived.Test.YtpbhmbhiaonoiaaGreatDoorG4
import Derived.Test.YtpbhmbhiaonoiaaGreatDoorG5
import Derived.Test.YtpbhmbhiaonoiaaGreatDoorA2
set_option linter.unusedVariables false
set_option linter.unusedSimpArgs false
set_option linter.unusedSectionVars false
set_option maxRecDepth 100000
set_option maxHeartbeats 40000000
namespace Go.Gk
open Go IntKind Go.Proofs
variable (N:Nat){E w:World}{b0 b1 b1h b2 b3 b3h i0 i1 i2:Nat}{p0 p1 p3 p4 res:Int}{v0 e_ h_ i_ g_ a_ d_ k_ b_ f_ p_ o_ l_ v1 S_ T_ U_ V_ W_ X_ Y_ H_ Z_ a0_ a1_ a2_ v2 B_ Q_:Value}{V:List HP}
def pL(E:World)(V:List HP)(res:cK×cK)(v:Value)(w:World):Prop:=∃u0 u1:Value,v = .tuple #[u0,u1]/\Holds E w ([rd u0 res.1,rd u1 res.2]++V)
theorem k8{p0:aT}{p2:Bool}{res:cK×cK}(j:Holds E w V)(h0:V[i0]? =some (rd v0 p0))(hb:eL N p0 p1 p2=some res):
    c_ 14 [v0,vi p1,vb p2] w<|pL E V res:=by
 unfold eL at hb
 refine enter Tryz.func14 zr zr ?_
 have j:=j.dup (i0+0) h0
 refine w_<|R1 0 v0 j zr λa8 w j=>?_
 refine S7 j K1 λbg w j=>?_
 refine S7 j K1 λbh w j=>?_
 refine RD ?_
 obtain⟨bj,bn,hb⟩:=bd hb
 obtain⟨bo,bp,hb⟩:=bd hb
 obtain⟨a6,bq,hb⟩:=bd hb
 obtain⟨bk,br,hb⟩:=bd hb
 obtain⟨bs,bt,hb⟩:=bd hb
 obtain⟨a7,bu,hb⟩:=bd hb
 refine SU E V mixed [1,1,0,1,0,1,0,1,0,0,0,0,0,0,0,1,1,0,1,0,1,0,1,0,0,0,0,0,0,0,0,0,0,0] [2,4,6,8,9,10,12,13,14,17,19,21,23,24,25,27,28,29,30,31,32,33] (λ(x:Value×Value×Value×Value×Value×Value×Value×Value×Value×Value×Value×Value×Value×Value×Value×Value×Value×Value×Nat×Nat)=>(λag ah ai aj ak al an ao aq ar au av aw ax ay a0 a1 a2 ae af=>[(0,10,vp a8 0),(1,11,vp a8 3),(2,12,ag),(3,13,vp a8 0),(4,14,ah),(5,15,vp a8 4),(6,16,ai),(7,17,vi p1),(8,18,aj),(9,19,ak),(10,20,al),(11,21,vi bo),(12,22,an),(13,23,ao),(14,24,aq),(15,25,vp a8 0),(16,26,vp a8 3),(17,27,ar),(18,28,vp a8 0),(19,29,au),(20,30,vp a8 4),(21,31,av),(22,32,vi p1),(23,33,aw),(24,34,ax),(25,35,ay),(26,36,vi bs),(27,37,a0),(28,38,a1),(29,39,a2),(30,8,vp ae 0),(31,9,vp af 0)]) x.1 x.2.1 x.2.2.1 x.2.2.2.1 x.2.2.2.2.1 x.2.2.2.2.2.1 x.2.2.2.2.2.2.1 x.2.2.2.2.2.2.2.1 x.2.2.2.2.2.2.2.2.1 x.2.2.2.2.2.2.2.2.2.1 x.2.2.2.2.2.2.2.2.2.2.1 x.2.2.2.2.2.2.2.2.2.2.2.1 x.2.2.2.2.2.2.2.2.2.2.2.2.1 x.2.2.2.2.2.2.2.2.2.2.2.2.2.1 x.2.2.2.2.2.2.2.2.2.2.2.2.2.2.1 x.2.2.2.2.2.2.2.2.2.2.2.2.2.2.2.1 x.2.2.2.2.2.2.2.2.2.2.2.2.2.2.2.2.1 x.2.2.2.2.2.2.2.2.2.2.2.2.2.2.2.2.2.1 x.2.2.2.2.2.2.2.2.2.2.2.2.2.2.2.2.2.2.1 x.2.2.2.2.2.2.2.2.2.2.2.2.2.2.2.2.2.2.2) [(1,vi p1),(2,vb p2),(3,vp a8 0),(6,vp bg 0),(7,vp bh 0)] [] (λ(D:Nat->Bool)(x:Value×Value×Value×Value×Value×Value×Value×Value×Value×Value×Value×Value×Value×Value×Value×Value×Value×Value×Nat×Nat)=>(λag ah ai aj ak al an ao aq ar au av aw ax ay a0 a1 a2 ae af=>[bif D 0 then rd ag p0.AD.bJ else aS,bif D 1 then rd ah p0.AD else aS,bif D 2 then rd ai p0.tq else aS,bif D 3 then pt aj bj else aS,bif D 4 then pt ak bj.A else aS,bif D 5 then rd al bj.A else aS,bif D 6 then pt an a6 else aS,bif D 7 then pt ao a6.At else aS,bif D 8 then rd aq a6.At else aS,bif D 9 then rd ar p0.AD.bJ else aS,bif D 10 then rd au p0.AD else aS,bif D 11 then rd av p0.tq else aS,bif D 12 then pt aw bk else aS,bif D 13 then pt ax bk.B else aS,bif D 14 then rd ay bk.B else aS,bif D 15 then pt a0 a7 else aS,bif D 16 then pt a1 a7.At else aS,bif D 17 then rd a2 a7.At else aS,bif D 20 then bx 41 ae a6.At else(bif D 18 then raw 41 ae 2 else aS),bif D 21 then bx 41 af a7.At else(bif D 19 then raw 41 af 2 else aS),bc 41 bh [vi 0,vi 0],bc 41 bg [vi 0,vi 0],bx 51 a8 p0,rd v0 p0]) x.1 x.2.1 x.2.2.1 x.2.2.2.1 x.2.2.2.2.1 x.2.2.2.2.2.1 x.2.2.2.2.2.2.1 x.2.2.2.2.2.2.2.1 x.2.2.2.2.2.2.2.2.1 x.2.2.2.2.2.2.2.2.2.1 x.2.2.2.2.2.2.2.2.2.2.1 x.2.2.2.2.2.2.2.2.2.2.2.1 x.2.2.2.2.2.2.2.2.2.2.2.2.1 x.2.2.2.2.2.2.2.2.2.2.2.2.2.1 x.2.2.2.2.2.2.2.2.2.2.2.2.2.2.1 x.2.2.2.2.2.2.2.2.2.2.2.2.2.2.2.1 x.2.2.2.2.2.2.2.2.2.2.2.2.2.2.2.2.1 x.2.2.2.2.2.2.2.2.2.2.2.2.2.2.2.2.2.1 x.2.2.2.2.2.2.2.2.2.2.2.2.2.2.2.2.2.2.1 x.2.2.2.2.2.2.2.2.2.2.2.2.2.2.2.2.2.2.2) (λx=>by kernel_rfl) ?_ ⟨λ_=>mz gn DW,λ_=>mz gn mW,?_,λ_=>mz gn DW,?_,λ_=>mz gn JF,?_,λ_=>lA gn,?_,?_,?_,?_,?_,?_,?_,λ_=>mz gn DW,λ_=>mz gn mW,?_,λ_=>mz gn DW,?_,λ_=>mz gn JF,?_,λ_=>lA gn,?_,?_,?_,?_,?_,?_,?_,?_,?_,?_,?_,trivial⟩ ?_
 ·have j:=((((((((((((j.drew).aS).aS).aS).aS).aS).aS).aS).aS).aS).aS).aS).aS
  have j:=(((((((j.aS).aS).aS).aS).aS).aS).aS).aS
  exact⟨(undef,undef,undef,undef,undef,undef,undef,undef,undef,undef,undef,undef,undef,undef,undef,undef,undef,undef,0,0),dX.none,Ex zr,zt,j⟩
 ·rintro D U w hD aa a3⟨⟨ag,ah,ai,aj,ak,al,an,ao,aq,ar,au,av,aw,ax,ay,a0,a1,a2,ae,af⟩,o,ha,_,j⟩
  dsimp only at o j
  obtain⟨O,rfl⟩:=o.o1 1 aa
  have j:=j.bU 0 hD
  refine R2 (f:=(λx=>x.AD.bJ)) 22 j zr (Fd.comp (f:=λ(x:aT)=>x.AD) (λ(x:gm)=>x.bJ) iI jS) vz λbw j=>?_
  have j:=j.nw 0
  exact RH (bw,ah,ai,aj,ak,al,an,ao,aq,ar,au,av,aw,ax,ay,a0,a1,a2,ae,af) 2 o ha j
 ·rintro D U w hD aa a3⟨⟨ag,ah,ai,aj,ak,al,an,ao,aq,ar,au,av,aw,ax,ay,a0,a1,a2,ae,af⟩,o,ha,_,j⟩
  dsimp only at o j
  obtain⟨O,rfl⟩:=o.o1 3 aa
  have j:=j.bU 1 hD
  refine R2 22 j zr iI nT λbz j=>?_
  have j:=j.nw 1
  exact RH (ag,bz,ai,aj,ak,al,an,ao,aq,ar,au,av,aw,ax,ay,a0,a1,a2,ae,af) 4 o ha j
 ·rintro D U w hD aa a3⟨⟨ag,ah,ai,aj,ak,al,an,ao,aq,ar,au,av,aw,ax,ay,a0,a1,a2,ae,af⟩,o,ha,_,j⟩
  dsimp only at o j
  obtain⟨O,rfl⟩:=o.o1 5 aa
  have j:=j.bU 2 hD
  refine R2 22 j zr mG OE λb0 j=>?_
  have j:=j.nw 2
  exact RH (ag,ah,b0,aj,ak,al,an,ao,aq,ar,au,av,aw,ax,ay,a0,a1,a2,ae,af) 6 o ha j
 ·rintro D U w hD aa a3⟨⟨ag,ah,ai,aj,ak,al,an,ao,aq,ar,au,av,aw,ax,ay,a0,a1,a2,ae,af⟩,o,ha,_,j⟩
  dsimp only at o j
  obtain⟨O,rfl⟩:=o.o2 6 7 aa
  have j:=(j.cV 2<|aa.1 rfl).bU 3 hD
  refine RG 2 j zK bn λb2 j=>?_
  have j:=((j.pl 25 [1,2,3,0,5,6,7,8,9,10,11,12,13,14,15,16,17,18,19,20,21,22,23,24]).cG 2 (D 6) (aa.1 rfl) aS).cG 3 true rfl aS
  exact RH (ag,ah,ai,b2,ak,al,an,ao,aq,ar,au,av,aw,ax,ay,a0,a1,a2,ae,af) 8 o ha j
 ·rintro D U w hD aa a3⟨⟨ag,ah,ai,aj,ak,al,an,ao,aq,ar,au,av,aw,ax,ay,a0,a1,a2,ae,af⟩,o,ha,_,j⟩
  dsimp only at o j
  obtain⟨O,rfl⟩:=o.o1 8 aa
  have j:=(j.cV 3<|aa.1 rfl).bU 4 hD
  refine R4 3 j zr pd jC λb3 j=>?_
  have j:=((j.pl 25 [1,2,3,4,0,6,7,8,9,10,11,12,13,14,15,16,17,18,19,20,21,22,23,24]).cG 3 (D 8) (aa.1 rfl) aS).cG 4 true rfl aS
  exact RH (ag,ah,ai,aj,b3,al,an,ao,aq,ar,au,av,aw,ax,ay,a0,a1,a2,ae,af) 9 o ha j
 ·rintro D U w hD aa a3⟨⟨ag,ah,ai,aj,ak,al,an,ao,aq,ar,au,av,aw,ax,ay,a0,a1,a2,ae,af⟩,o,ha,_,j⟩
  dsimp only at o j
  obtain⟨O,rfl⟩:=o.o1 9 aa
  have j:=(j.cV 4<|aa.1 rfl).bU 5 hD
  refine RQ 4 bj.A j nz λb4 j=>?_
  have j:=((j.pl 25 [1,2,3,4,5,0,7,8,9,10,11,12,13,14,15,16,17,18,19,20,21,22,23,24]).cG 4 (D 9) (aa.1 rfl) aS).cG 5 true rfl aS
  exact RH (ag,ah,ai,aj,ak,b4,an,ao,aq,ar,au,av,aw,ax,ay,a0,a1,a2,ae,af) 10 o ha j
 ·rintro D U w hD aa a3⟨⟨ag,ah,ai,aj,ak,al,an,ao,aq,ar,au,av,aw,ax,ay,a0,a1,a2,ae,af⟩,o,ha,_,j⟩
  dsimp only at o j
  obtain⟨O,rfl⟩:=o.o2 4 10 aa
  have j:=(j.cV 1<|aa.1 rfl).cV 5<|aa.2.1 rfl
  refine RI K0 (j3 N (i0:=1) (i1:=5) j zr zr bp) λw j=>?_
  have j:=(j.cG 1 (D 4) (aa.1 rfl) aS).cG 5 (D 10) (aa.2.1 rfl) aS
  exact RH (ag,ah,ai,aj,ak,al,an,ao,aq,ar,au,av,aw,ax,ay,a0,a1,a2,ae,af) 11 o ha j
 ·rintro D U w hD aa a3⟨⟨ag,ah,ai,aj,ak,al,an,ao,aq,ar,au,av,aw,ax,ay,a0,a1,a2,ae,af⟩,o,ha,_,j⟩
  dsimp only at o j
  obtain⟨O,rfl⟩:=o.o2 2 11 aa
  have j:=(j.cV 0<|aa.1 rfl).bU 6 hD
  refine RG 0 j yA bq λb5 j=>?_
  have j:=((j.pl 25 [1,2,3,4,5,6,0,8,9,10,11,12,13,14,15,16,17,18,19,20,21,22,23,24]).cG 0 (D 2) (aa.1 rfl) aS).cG 6 true rfl aS
  exact RH (ag,ah,ai,aj,ak,al,b5,ao,aq,ar,au,av,aw,ax,ay,a0,a1,a2,ae,af) 12 o ha j
 ·rintro D U w hD aa a3⟨⟨ag,ah,ai,aj,ak,al,an,ao,aq,ar,au,av,aw,ax,ay,a0,a1,a2,ae,af⟩,o,ha,_,j⟩
  dsimp only at o j
  obtain⟨O,rfl⟩:=o.o1 12 aa
  have j:=(j.cV 6<|aa.1 rfl).bU 7 hD
  refine R4 6 j zr vB oG λb6 j=>?_
  have j:=((j.pl 25 [1,2,3,4,5,6,7,0,9,10,11,12,13,14,15,16,17,18,19,20,21,22,23,24]).cG 6 (D 12) (aa.1 rfl) aS).cG 7 true rfl aS
  exact RH (ag,ah,ai,aj,ak,al,an,b6,aq,ar,au,av,aw,ax,ay,a0,a1,a2,ae,af) 13 o ha j
 ·rintro D U w hD aa a3⟨⟨ag,ah,ai,aj,ak,al,an,ao,aq,ar,au,av,aw,ax,ay,a0,a1,a2,ae,af⟩,o,ha,_,j⟩
  dsimp only at o j
  obtain⟨O,rfl⟩:=o.o1 13 aa
  have j:=(j.cV 7<|aa.1 rfl).bU 8 hD
  refine RQ 7 a6.At j lM λb7 j=>?_
  have j:=((j.pl 25 [1,2,3,4,5,6,7,8,0,10,11,12,13,14,15,16,17,18,19,20,21,22,23,24]).cG 7 (D 13) (aa.1 rfl) aS).cG 8 true rfl aS
  exact RH (ag,ah,ai,aj,ak,al,an,ao,b7,ar,au,av,aw,ax,ay,a0,a1,a2,ae,af) 14 o ha j
 ·rintro D U w hD aa a3⟨⟨ag,ah,ai,aj,ak,al,an,ao,aq,ar,au,av,aw,ax,ay,a0,a1,a2,ae,af⟩,o,ha,_,j⟩
  dsimp only at o j
  obtain⟨O,rfl⟩:=o.o1 16 aa
  have j:=j.bU 9 hD
  refine R2 (f:=(λx=>x.AD.bJ)) 22 j zr (Fd.comp (f:=λ(x:aT)=>x.AD) (λ(x:gm)=>x.bJ) iI jS) vz λb8 j=>?_
  have j:=j.nw 9
  exact RH (ag,ah,ai,aj,ak,al,an,ao,aq,b8,au,av,aw,ax,ay,a0,a1,a2,ae,af) 17 o ha j
 ·rintro D U w hD aa a3⟨⟨ag,ah,ai,aj,ak,al,an,ao,aq,ar,au,av,aw,ax,ay,a0,a1,a2,ae,af⟩,o,ha,_,j⟩
  dsimp only at o j
  obtain⟨O,rfl⟩:=o.o1 18 aa
  have j:=j.bU 10 hD
  refine R2 22 j zr iI nT λb9 j=>?_
  have j:=j.nw 10
  exact RH (ag,ah,ai,aj,ak,al,an,ao,aq,ar,b9,av,aw,ax,ay,a0,a1,a2,ae,af) 19 o ha j
 ·rintro D U w hD aa a3⟨⟨ag,ah,ai,aj,ak,al,an,ao,aq,ar,au,av,aw,ax,ay,a0,a1,a2,ae,af⟩,o,ha,_,j⟩
  dsimp only at o j
  obtain⟨O,rfl⟩:=o.o1 20 aa
  have j:=j.bU 11 hD
  refine R2 22 j zr mG OE λca j=>?_
  have j:=j.nw 11
  exact RH (ag,ah,ai,aj,ak,al,an,ao,aq,ar,au,ca,aw,ax,ay,a0,a1,a2,ae,af) 21 o ha j
 ·rintro D U w hD aa a3⟨⟨ag,ah,ai,aj,ak,al,an,ao,aq,ar,au,av,aw,ax,ay,a0,a1,a2,ae,af⟩,o,ha,_,j⟩
  dsimp only at o j
  obtain⟨O,rfl⟩:=o.o2 21 22 aa
  have j:=(j.cV 11<|aa.1 rfl).bU 12 hD
  refine RG 11 j zK br λcb j=>?_
  have j:=((j.pl 25 [1,2,3,4,5,6,7,8,9,10,11,12,0,14,15,16,17,18,19,20,21,22,23,24]).cG 11 (D 21) (aa.1 rfl) aS).cG 12 true rfl aS
  exact RH (ag,ah,ai,aj,ak,al,an,ao,aq,ar,au,av,cb,ax,ay,a0,a1,a2,ae,af) 23 o ha j
 ·rintro D U w hD aa a3⟨⟨ag,ah,ai,aj,ak,al,an,ao,aq,ar,au,av,aw,ax,ay,a0,a1,a2,ae,af⟩,o,ha,_,j⟩
  dsimp only at o j
  obtain⟨O,rfl⟩:=o.o1 23 aa
  have j:=(j.cV 12<|aa.1 rfl).bU 13 hD
  refine R4 12 j zr qw kI λcc j=>?_
  have j:=((j.pl 25 [1,2,3,4,5,6,7,8,9,10,11,12,13,0,15,16,17,18,19,20,21,22,23,24]).cG 12 (D 23) (aa.1 rfl) aS).cG 13 true rfl aS
  exact RH (ag,ah,ai,aj,ak,al,an,ao,aq,ar,au,av,aw,cc,ay,a0,a1,a2,ae,af) 24 o ha j
 ·rintro D U w hD aa a3⟨⟨ag,ah,ai,aj,ak,al,an,ao,aq,ar,au,av,aw,ax,ay,a0,a1,a2,ae,af⟩,o,ha,_,j⟩
  dsimp only at o j
  obtain⟨O,rfl⟩:=o.o1 24 aa
  have j:=(j.cV 13<|aa.1 rfl).bU 14 hD
  refine RQ 13 bk.B j nz λcd j=>?_
  have j:=((j.pl 25 [1,2,3,4,5,6,7,8,9,10,11,12,13,14,0,16,17,18,19,20,21,22,23,24]).cG 13 (D 24) (aa.1 rfl) aS).cG 14 true rfl aS
  exact RH (ag,ah,ai,aj,ak,al,an,ao,aq,ar,au,av,aw,ax,cd,a0,a1,a2,ae,af) 25 o ha j
 ·rintro D U w hD aa a3⟨⟨ag,ah,ai,aj,ak,al,an,ao,aq,ar,au,av,aw,ax,ay,a0,a1,a2,ae,af⟩,o,ha,_,j⟩
  dsimp only at o j
  obtain⟨O,rfl⟩:=o.o2 19 25 aa
  have j:=(j.cV 10<|aa.1 rfl).cV 14<|aa.2.1 rfl
  refine RI K0 (j3 N (i0:=10) (i1:=14) j zr zr bt) λw j=>?_
  have j:=(j.cG 10 (D 19) (aa.1 rfl) aS).cG 14 (D 25) (aa.2.1 rfl) aS
  exact RH (ag,ah,ai,aj,ak,al,an,ao,aq,ar,au,av,aw,ax,ay,a0,a1,a2,ae,af) 26 o ha j
 ·rintro D U w hD aa a3⟨⟨ag,ah,ai,aj,ak,al,an,ao,aq,ar,au,av,aw,ax,ay,a0,a1,a2,ae,af⟩,o,ha,_,j⟩
  dsimp only at o j
  obtain⟨O,rfl⟩:=o.o2 17 26 aa
  have j:=(j.cV 9<|aa.1 rfl).bU 15 hD
  refine RG 9 j yA bu λcf j=>?_
  have j:=((j.pl 25 [1,2,3,4,5,6,7,8,9,10,11,12,13,14,15,0,17,18,19,20,21,22,23,24]).cG 9 (D 17) (aa.1 rfl) aS).cG 15 true rfl aS
  exact RH (ag,ah,ai,aj,ak,al,an,ao,aq,ar,au,av,aw,ax,ay,cf,a1,a2,ae,af) 27 o ha j
 ·rintro D U w hD aa a3⟨⟨ag,ah,ai,aj,ak,al,an,ao,aq,ar,au,av,aw,ax,ay,a0,a1,a2,ae,af⟩,o,ha,_,j⟩
  dsimp only at o j
  obtain⟨O,rfl⟩:=o.o1 27 aa
  have j:=(j.cV 15<|aa.1 rfl).bU 16 hD
  refine R4 15 j zr vB oG λcg j=>?_
  have j:=((j.pl 25 [1,2,3,4,5,6,7,8,9,10,11,12,13,14,15,16,0,18,19,20,21,22,23,24]).cG 15 (D 27) (aa.1 rfl) aS).cG 16 true rfl aS
  exact RH (ag,ah,ai,aj,ak,al,an,ao,aq,ar,au,av,aw,ax,ay,a0,cg,a2,ae,af) 28 o ha j
 ·rintro D U w hD aa a3⟨⟨ag,ah,ai,aj,ak,al,an,ao,aq,ar,au,av,aw,ax,ay,a0,a1,a2,ae,af⟩,o,ha,_,j⟩
  dsimp only at o j
  obtain⟨O,rfl⟩:=o.o1 28 aa
  have j:=(j.cV 16<|aa.1 rfl).bU 17 hD
  refine RQ 16 a7.At j lM λch j=>?_
  have j:=((j.pl 25 [1,2,3,4,5,6,7,8,9,10,11,12,13,14,15,16,17,0,19,20,21,22,23,24]).cG 16 (D 28) (aa.1 rfl) aS).cG 17 true rfl aS
  exact RH (ag,ah,ai,aj,ak,al,an,ao,aq,ar,au,av,aw,ax,ay,a0,a1,ch,ae,af) 29 o ha j
 ·rintro D U w hD aa a3⟨⟨ag,ah,ai,aj,ak,al,an,ao,aq,ar,au,av,aw,ax,ay,a0,a1,a2,ae,af⟩,o,ha,_,j⟩
  dsimp only at o j
  obtain⟨O,rfl⟩:=(az U).px
  have j:=(j.bU 18<|nh a3 hD 32).bU 18 hD
  refine Sj j GF.z λbl w j=>?_
  have j:=(j.nw 18).gh 18 (D 32) (nh a3 hD 32)<|bx 41 bl a6.At
  exact RH (ag,ah,ai,aj,ak,al,an,ao,aq,ar,au,av,aw,ax,ay,a0,a1,a2,bl,af) 30 o ha j
 ·rintro D U w hD aa a3⟨⟨ag,ah,ai,aj,ak,al,an,ao,aq,ar,au,av,aw,ax,ay,a0,a1,a2,ae,af⟩,o,ha,_,j⟩
  dsimp only at o j
  obtain⟨O,rfl⟩:=(az U).px
  have j:=(j.bU 19<|nh a3 hD 33).bU 19 hD
  refine Sj j GF.z λbm w j=>?_
  have j:=(j.nw 19).gh 19 (D 33) (nh a3 hD 33)<|bx 41 bm a7.At
  exact RH (ag,ah,ai,aj,ak,al,an,ao,aq,ar,au,av,aw,ax,ay,a0,a1,a2,ae,bm) 31 o ha j
 ·rintro D U w hD aa a3⟨⟨ag,ah,ai,aj,ak,al,an,ao,aq,ar,au,av,aw,ax,ay,a0,a1,a2,ae,af⟩,o,ha,_,j⟩
  dsimp only at o j
  obtain⟨O,rfl⟩:=o.o2 30 14 aa
  have j:=((j.cV 8<|aa.2.1 rfl).bU 18 hD).cV 18<|aa.1 rfl
  refine Sa 18 j 8 zr lM λw j=>?_
  have j:=(j.cG 8 (D 14) (aa.2.1 rfl) aS).cG 18 true rfl (bif D 30 then raw 41 ae 2 else aS)
  exact SL (ag,ah,ai,aj,ak,al,an,ao,aq,ar,au,av,aw,ax,ay,a0,a1,a2,ae,af) o ha j
 ·rintro D U w hD aa a3⟨⟨ag,ah,ai,aj,ak,al,an,ao,aq,ar,au,av,aw,ax,ay,a0,a1,a2,ae,af⟩,o,ha,_,j⟩
  dsimp only at o j
  obtain⟨O,rfl⟩:=o.o2 31 29 aa
  have j:=((j.cV 17<|aa.2.1 rfl).bU 19 hD).cV 19<|aa.1 rfl
  refine Sa 19 j 17 zr lM λw j=>?_
  have j:=(j.cG 17 (D 29) (aa.2.1 rfl) aS).cG 19 true rfl (bif D 31 then raw 41 af 2 else aS)
  exact SL (ag,ah,ai,aj,ak,al,an,ao,aq,ar,au,av,aw,ax,ay,a0,a1,a2,ae,af) o ha j
 rintro D U w a4⟨⟨ag,ah,ai,aj,ak,al,an,ao,aq,ar,au,av,aw,ax,ay,a0,a1,a2,ae,af⟩,o,ha,_,j⟩
 simp only[List.getD_cons_zero,List.getD_cons_succ,a4 2 (by decide),a4 4 (by decide),a4 6 (by decide),a4 8 (by decide),a4 9 (by decide),a4 10 (by decide),a4 12 (by decide),a4 13 (by decide),a4 14 (by decide),a4 17 (by decide),a4 19 (by decide),a4 21 (by decide),a4 23 (by decide),a4 24 (by decide),a4 25 (by decide),a4 27 (by decide),a4 28 (by decide),a4 29 (by decide),a4 32 (by decide),a4 33 (by decide),aO]at j
 obtain⟨O,rfl⟩:=(ac (o.at 30 rfl<|t9 a4 30)<|ac (o.at 31 rfl<|t9 a4 31) ha).px
 refine aF<|IN<|w_<|fN p2<|AI<|dP hb (λhb=>?_) λhb=>?_
 ·refine IN<|SU E V mixed [0,0,0,0] [0,1,2,3] (λ(x:Value×Value)=>(λa9 ba=>[(0,41,a9),(1,42,ba)]) x.1 x.2) [(6,vp bg 0),(7,vp bh 0),(8,vp ae 0),(9,vp af 0)] [] (λ(D:Nat->Bool)(x:Value×Value)=>(λa9 ba=>[bif D 0 then rd a9 a7.At else aS,bif D 1 then rd ba a6.At else aS,rd ag p0.AD.bJ,rd ah p0.AD,rd ai p0.tq,pt aj bj,pt ak bj.A,rd al bj.A,pt an a6,pt ao a6.At,rd aq a6.At,rd ar p0.AD.bJ,rd au p0.AD,rd av p0.tq,pt aw bk,pt ax bk.B,rd ay bk.B,pt a0 a7,pt a1 a7.At,rd a2 a7.At,bx 41 ae a6.At,bx 41 af a7.At,bif D 3 then bx 41 bh a6.At else bc 41 bh [vi 0,vi 0],bif D 2 then bx 41 bg a7.At else bc 41 bg [vi 0,vi 0],bx 51 a8 p0,rd v0 p0]) x.1 x.2) (λx=>by kernel_rfl) ?_ ⟨?_,?_,?_,?_,trivial⟩ ?_
  ·have j:=((j.drew).aS).aS
   exact⟨(undef,undef),dX.none,Ex zr,zt,j⟩
  ·rintro D U w hD aa a3⟨⟨a9,ba⟩,o,ha,_,j⟩
   obtain⟨O,rfl⟩:=ha.px
   have j:=j.bU 0 hD
   refine R5 21 j zr lM λcj j=>?_
   have j:=j.nw 0
   exact RH (cj,ba) 0 o ha j
  ·rintro D U w hD aa a3⟨⟨a9,ba⟩,o,ha,_,j⟩
   obtain⟨O,rfl⟩:=ha.px
   have j:=j.bU 1 hD
   refine R5 20 j zr lM λck j=>?_
   have j:=j.nw 1
   exact RH (a9,ck) 1 o ha j
  ·rintro D U w hD aa a3⟨⟨a9,ba⟩,o,ha,_,j⟩
   obtain⟨O,rfl⟩:=o.oa 0 aa ha
   have j:=(j.cV 0<|aa.1 rfl).bU 23 hD
   refine TG 23 0 j zr zr zr zr lM zr λw j=>?_
   have j:=(j.cG 0 (D 0) (aa.1 rfl) aS).cG 23 true rfl<|bc 41 bg [vi 0,vi 0]
   exact SL (a9,ba) o ha j
  ·rintro D U w hD aa a3⟨⟨a9,ba⟩,o,ha,_,j⟩
   obtain⟨O,rfl⟩:=o.oa 1 aa ha
   have j:=(j.cV 1<|aa.1 rfl).bU 22 hD
   refine TG 22 1 j zr zr zr zr lM zr λw j=>?_
   have j:=(j.cG 1 (D 1) (aa.1 rfl) aS).cG 22 true rfl<|bc 41 bh [vi 0,vi 0]
   exact SL (a9,ba) o ha j
  rintro D U w a4⟨⟨a9,ba⟩,o,ha,_,j⟩
  have j:=(((j.cV 0<|t9 a4 0).cV 1<|t9 a4 1).cV 22<|t9 a4 3).cV 23<|t9 a4 2
  obtain⟨O,rfl⟩:=ha.px
  refine aF<|RZ ?_
  obtain rfl:=oi hb
  exact LG 23 22 zr j zr zr zr zr lM lM λcl cm j=>⟨cl,cm,zr,j.pk 28 [1,0]⟩
 refine RW<|SU E V mixed [0,0,0,0] [0,1,2,3] (λ(x:Value×Value)=>(λbb bf=>[(0,43,bb),(1,44,bf)]) x.1 x.2) [(6,vp bg 0),(7,vp bh 0),(8,vp ae 0),(9,vp af 0)] [] (λ(D:Nat->Bool)(x:Value×Value)=>(λbb bf=>[bif D 0 then rd bb a6.At else aS,bif D 1 then rd bf a7.At else aS,rd ag p0.AD.bJ,rd ah p0.AD,rd ai p0.tq,pt aj bj,pt ak bj.A,rd al bj.A,pt an a6,pt ao a6.At,rd aq a6.At,rd ar p0.AD.bJ,rd au p0.AD,rd av p0.tq,pt aw bk,pt ax bk.B,rd ay bk.B,pt a0 a7,pt a1 a7.At,rd a2 a7.At,bx 41 ae a6.At,bx 41 af a7.At,bif D 3 then bx 41 bh a7.At else bc 41 bh [vi 0,vi 0],bif D 2 then bx 41 bg a6.At else bc 41 bg [vi 0,vi 0],bx 51 a8 p0,rd v0 p0]) x.1 x.2) (λx=>by kernel_rfl) ?_ ⟨?_,?_,?_,?_,trivial⟩ ?_
 ·have j:=((j.drew).aS).aS
  exact⟨(undef,undef),dX.none,Ex zr,zt,j⟩
 ·rintro D U w hD aa a3⟨⟨bb,bf⟩,o,ha,_,j⟩
  obtain⟨O,rfl⟩:=ha.px
  have j:=j.bU 0 hD
  refine R5 20 j zr lM λcn j=>?_
  have j:=j.nw 0
  exact RH (cn,bf) 0 o ha j
 ·rintro D U w hD aa a3⟨⟨bb,bf⟩,o,ha,_,j⟩
  obtain⟨O,rfl⟩:=ha.px
  have j:=j.bU 1 hD
  refine R5 21 j zr lM λcp j=>?_
  have j:=j.nw 1
  exact RH (bb,cp) 1 o ha j
 ·rintro D U w hD aa a3⟨⟨bb,bf⟩,o,ha,_,j⟩
  obtain⟨O,rfl⟩:=o.oa 0 aa ha
  have j:=(j.cV 0<|aa.1 rfl).bU 23 hD
  refine TG 23 0 j zr zr zr zr lM zr λw j=>?_
  have j:=(j.cG 0 (D 0) (aa.1 rfl) aS).cG 23 true rfl<|bc 41 bg [vi 0,vi 0]
  exact SL (bb,bf) o ha j
 ·rintro D U w hD aa a3⟨⟨bb,bf⟩,o,ha,_,j⟩
  obtain⟨O,rfl⟩:=o.oa 1 aa ha
  have j:=(j.cV 1<|aa.1 rfl).bU 22 hD
  refine TG 22 1 j zr zr zr zr lM zr λw j=>?_
  have j:=(j.cG 1 (D 1) (aa.1 rfl) aS).cG 22 true rfl<|bc 41 bh [vi 0,vi 0]
  exact SL (bb,bf) o ha j
 rintro D U w a4⟨⟨bb,bf⟩,o,ha,_,j⟩
 have j:=(((j.cV 0<|t9 a4 0).cV 1<|t9 a4 1).cV 22<|t9 a4 3).cV 23<|t9 a4 2
 obtain⟨O,rfl⟩:=ha.px
 refine aF<|RM ?_
 obtain rfl:=oi hb
 exact LG 23 22 zr j zr zr zr zr lM lM λcq cr j=>⟨cq,cr,zr,j.pk 28 [1,0]⟩
theorem pA{p0:aT}{p1 p2:cK}{p4:Bool}(o:Holds E w V)(h0:V[i0]? =some (rd v0 p0))(h1:V[i1]? =some (rd v1 p1))(h2:V[i2]? =some (rd v2 p2))(hb:fM N p0 p1 p2 p3 p4=some res):c_ 13 [v0,v1,v2,vi p3,vb p4] w<|aN E V res:=by
 unfold fM at hb;refine enter Tryz.func13 zr zr ?_;have o:=((o.dup (i0+0) h0).dup (i1+1) h1).dup (i2+2) h2;refine w_<|R1 2 v0 o zr λag w o=>?_;refine R1 2 v1 o zr λah w o=>?_;refine R1 2 v2 o zr λai w o=>?_;refine aM 0<|IT<|R5 2 o zr Cx λaj o=>aY p3<|fN p4<|q_ hb λj ae hb=>RU OG (k8 N (p1:=p3) (p2:=p4) (i0:=0) o zr ae) ?_;rintro _ w⟨ab,ad,rfl,o⟩;refine mv (.tuple #[ab,ad])<|Sw ab<|Sw ad<|Sj o GF.z λak w o=>?_;refine Sj o GF.z λal w o=>?_;refine Sa 1 o 2 zr lM λw o=>?_;refine Sa 0 o 3 zr lM λw o=>?_;refine IT<|AT zr nL<|OF 1 o zr gM cB<|AT zr nL<|OF 6 o zr gM cB<|RF j.1.X p1.X<|AT zr nL<|OF 6 o zr gM cB<|AT zr nL<|OF 1 o zr gM cB<|RF p1.X j.1.X<|AT zr nM<|OF 1 o zr gN cB<|AT zr nM<|OF 6 o zr gN cB<|RF j.1.Y p1.Y<|AT zr nM<|OF 6 o zr gN cB ?_;refine AT zr nM<|OF 1 o zr gN cB<|RF p1.Y j.1.Y<|AT zr nL<|OF 0 o zr gM cB<|AT zr nL<|OF 5 o zr gM cB<|RF j.2.X p2.X<|AT zr nL<|OF 5 o zr gM cB<|AT zr nL<|OF 0 o zr gM cB<|RF p2.X j.2.X<|AT zr nM<|OF 0 o zr gN cB<|AT zr nM<|OF 5 o zr gN cB<|RF j.2.Y p2.Y ?_;refine AT zr nM<|OF 5 o zr gN cB<|AT zr nM<|OF 0 o zr gN cB<|RF p2.Y j.2.Y<|Ur (wrap .i64<|j.1.X - p1.X) [wrap .i64<|p1.X - j.1.X,wrap .i64<|j.1.Y - p1.Y,wrap .i64<|p1.Y - j.1.Y,wrap .i64<|j.2.X - p2.X,wrap .i64<|p2.X - j.2.X,wrap .i64<|j.2.Y - p2.Y,wrap .i64<|p2.Y - j.2.Y] zt zr zr<|aM (zw (wrap .i64<|j.1.X - p1.X) [wrap .i64<|p1.X - j.1.X,wrap .i64<|j.1.Y - p1.Y,wrap .i64<|p1.Y - j.1.Y,wrap .i64<|j.2.X - p2.X,wrap .i64<|p2.X - j.2.X,wrap .i64<|j.2.Y - p2.Y,wrap .i64<|p2.Y - j.2.Y])<|RD<|SF mixed ?_;have o:=o.drew;refine SE<|aY (zw (wrap .i64<|j.1.X - p1.X) [wrap .i64<|p1.X - j.1.X,wrap .i64<|j.1.Y - p1.Y,wrap .i64<|p1.Y - j.1.Y,wrap .i64<|j.2.X - p2.X,wrap .i64<|p2.X - j.2.X,wrap .i64<|j.2.Y - p2.Y,wrap .i64<|p2.Y - j.2.Y])<|AS<|AT zr JG<|AS<|OF 7 o zr mH cB<|AS<|RF (zw (wrap .i64<|j.1.X - p1.X) [wrap .i64<|p1.X - j.1.X,wrap .i64<|j.1.Y - p1.Y,wrap .i64<|p1.Y - j.1.Y,wrap .i64<|j.2.X - p2.X,wrap .i64<|p2.X - j.2.X,wrap .i64<|j.2.Y - p2.Y,wrap .i64<|p2.Y - j.2.Y]) p0.speed<|AS ?_;refine RF (wrap .i64<|zw (wrap .i64<|j.1.X - p1.X) [wrap .i64<|p1.X - j.1.X,wrap .i64<|j.1.Y - p1.Y,wrap .i64<|p1.Y - j.1.Y,wrap .i64<|j.2.X - p2.X,wrap .i64<|p2.X - j.2.X,wrap .i64<|j.2.Y - p2.Y,wrap .i64<|p2.Y - j.2.Y]+p0.speed) 1<|AS<|AT zr JG<|AS<|OF 7 o zr mH cB<|AS ?_;refine q_ hb λan af hb=>Tg (wrap .i64<|wrap .i64 (zw (wrap .i64<|j.1.X - p1.X) [wrap .i64<|p1.X - j.1.X,wrap .i64<|j.1.Y - p1.Y,wrap .i64<|p1.Y - j.1.Y,wrap .i64<|j.2.X - p2.X,wrap .i64<|p2.X - j.2.X,wrap .i64<|j.2.Y - p2.Y,wrap .i64<|p2.Y - j.2.Y]+p0.speed) - 1) p0.speed (Q6 af)<|AS<|AT zr MO<|AS<|OF 7 o zr qV cB<|AS<|RF (wrap .i64<|Int.tdiv (wrap .i64<|wrap .i64 (zw (wrap .i64<|j.1.X - p1.X) [wrap .i64<|p1.X - j.1.X,wrap .i64<|j.1.Y - p1.Y,wrap .i64<|p1.Y - j.1.Y,wrap .i64<|j.2.X - p2.X,wrap .i64<|p2.X - j.2.X,wrap .i64<|j.2.Y - p2.Y,wrap .i64<|p2.Y - j.2.Y]+p0.speed) - 1) p0.speed) p0.Ae<|AS<|aM (wrap .i64<|wrap .i64 (Int.tdiv (wrap .i64<|wrap .i64 (zw (wrap .i64<|j.1.X - p1.X) [wrap .i64<|p1.X - j.1.X,wrap .i64<|j.1.Y - p1.Y,wrap .i64<|p1.Y - j.1.Y,wrap .i64<|j.2.X - p2.X,wrap .i64<|p2.X - j.2.X,wrap .i64<|j.2.Y - p2.Y,wrap .i64<|p2.Y - j.2.Y]+p0.speed) - 1) p0.speed)+p0.Ae) ?_;exact Sy<|aF<|RM<|oi hb▸bS ⟨rfl,o.drop 11⟩
def pH(E:World)(V:List HP)(r:Int×Int)(U:Nat->Value)(w:World):Prop:=lK bI 111 Tryz.f5 (re E V r) .ret U w
theorem uC{p0:gm}{p1:List Test}{p2:List Touch}{res:Int×Int}(j:Holds E w V)(h0:V[i0]? =some (rd v0 p0))(h1:V[i1]? =some (rd v1 p1))(h2:V[i2]? =some (rd v2 p2))(o:gK N p0 p1 p2 p3 p4=some res):c_ 5 [v0,v1,v2,vi p3,vi p4] w<|re E V res:=by
 unfold gK at o;refine enter Tryz.func5 zr zr ?_;have j:=((j.dup (i0+0) h0).dup (i1+1) h1).dup (i2+2) h2;refine w_<|R1 2 v0 j zr λbj w j=>?_;refine aM 0<|aM 0<|IT<|R5 0 j zr nT λbk j=>mv v1<|aY p3<|aY p4<|q_ o λae a3 o=>RU (gL Tryz.func11) (uB N (p2:=p3) (p3:=p4) (i0:=0) (i1:=3) j zr zr a3) ?_;rintro _ w⟨ao,rfl,j⟩;refine mv (.tuple #[ao,vi ae.2])<|Sw ao<|Sw (vi ae.2)<|Sj j Oo.z λai w j=>?_;refine Sa 0 j 1 zr Cx λw j=>?_;refine aM ae.2<|RD<|w_<|aY ae.2<|ic ae.2 0<|AI<|dP o (λo=>?_) λo=>?_;exact w_<|aY ae.2<|aM 0<|aM ae.2<|AI<|RZ<|oi o▸ll ⟨rfl,j.drop 7⟩;refine RW<|w_<|mv v2<|RK 4 p2 j Ij<|mv v1<|RK 5 p1 j AG<|ic ((p2.length:Int)) ((p1.length:Int))<|AI<|dP o (λo=>?_) λo=>?_;exact w_<|aM 0<|aM 3<|AI<|RZ<|oi o▸ll ⟨rfl,j.drop 7⟩;refine Sz<|mv v1<|RK 5 p1 j AG<|q_ o λbl a4 o=>Tf (p1.length:Int) j MI Qi a4 λag w j=>?_;refine dV ag<|RD<|w_<|aM 0<|AI<|SN E V (λ(ab:List Bool×Int)=>[rd v1 p1,rd v2 p2,bx 51 ai ae.1,own 4 ag ab.1]) (λ_=>[(2,v2),(12,vp ai 0)]) (λab=>[(1,v1),(14,ag),(15,vi ab.2)]) (pH E V) o ?_ ?_ ?_ ?_;exact j.sp 8 [6,5,1,0];rintro ab fl _ w⟨O,rfl,j⟩o;refine IN<|w_<|aY ab.2<|mv v2<|RK 1 p2 j Ij<|ic ab.2 ((p2.length:Int))<|AI<|dP o (λo=>?_) λo=>?_;refine RW<|R6<|mv v2<|aY ab.2<|q_ o λah a6 o=>RG 1 j Fg a6 λbm j=>R4 0 j zr xL ou λbn j=>RY ah.Test 0 j cB<|aM ah.Test<|RD<|IN<|q_ o λak hj o=>RS (λ(ak:Bool)=>SH E V [(1,v1),(2,v2),(12,vp ai 0),(14,ag),(15,vi ab.2),(16,vi ah.Test),(62,vb ak)] [rd v1 p1,rd v2 p2,bx 51 ai ae.1,own 4 ag ab.1]) ak ?_ ?_;refine IS<|aY ah.Test<|mv v1<|RK 2 p1 j AG<|RF (p1.length:Int) 1<|q_ hj λaq a7 hj=>RI MN (k7 N (p0:=ah.Test) (p1:=0) (p2:=wrap .i64<|(p1.length:Int) - 1) j a7) λw j=>Sk aq<|fN (!aq)<|fp hj (λad hj=>?_) λad hj=>?_;exact bK ad<|bK ad<|bK ad<|bK ad<|eY ad (vb true)<|By<|oi hj▸⟨rfl,j.sp 6 [2,3,4,5]⟩;refine RN ag (cg ad)<|RN (vi ah.Test) (cg ad)<|q_ hj λa8 ar hj=>R8 (hg:=cg ad) 5 j zr zr Fh ar<|SO (hg:=cg ad) 5 j ar xJ<|eY ad (vb a8)<|By ?_;exact oi hj▸⟨rfl,j.sp 6 [2,3,4,5]⟩;rintro _ w⟨O,rfl,j⟩;refine aF<|dP o (λo=>?_) λo=>?_;exact w_<|aM 0<|aM 3<|AI<|RZ<|iY<|bH<|oi o▸⟨rfl,ll ⟨rfl,j.drop 4⟩⟩;refine SK<|IS<|mv ag<|aY ah.Test<|q_ o λbo au o=>R8 3 j zr zr Fh au ?_;have j:=j.sc Bool true;refine SP 4 0 j au xJ λw j=>?_;refine By<|bQ<|aF<|IS<|aY ab.2<|RF ab.2 1<|aM (wrap .i64<|ab.2+1)<|By ?_;exact oi o▸⟨rfl,j.sp 5 [1,2,3,4]⟩;exact Sh<|oi o▸⟨rfl,j.sp 4 [0,1,2,3]⟩;intro r U w o hK;exact bH<|oi o▸hK;rintro ab _ w o⟨O,rfl,j⟩;refine aF<|w_<|S7 j K1 λav w j=>?_;have j:=j.rE (i:=0) (x:=(⟨0,0⟩:cK)) rfl<|λM hs g=>⟨[vi 0],[vi 0],rfl,rfl,rfl⟩;refine S7 j K1 λaw w j=>?_;have j:=j.rE (i:=0) (x:=(⟨0,0⟩:cK)) rfl<|λM hs g=>⟨[vi 0],[vi 0],rfl,rfl,rfl⟩;refine IT<|aM 0<|RD<|w_<|aM 0<|AI<|SN E V (λ(aa:cK×cK×Int×Int)=>[rd v2 p2,bx 51 ai ae.1,bx 41 av aa.1,bx 41 aw aa.2.1]) (λaa=>[(19,vi aa.2.2.1)]) (λaa=>[(2,v2),(12,vp ai 0),(17,vp av 0),(18,vp aw 0),(20,vi aa.2.2.2)]) (pH E V) o ?_ ?_ ?_ ?_;exact j.sp 6 [3,4,1,0];rintro aa fl _ w⟨O,rfl,j⟩o;refine IN<|w_<|aY aa.2.2.2<|mv v2<|RK 0 p2 j Ij<|ic aa.2.2.2 ((p2.length:Int))<|AI<|dP o (λo=>?_) λo=>?_;refine RW<|Sv<|IN<|Ss mixed [1,0,0,0,0,0,0,0,0,0,0,0,0,0,2,0,0] [0,1,2,3,4,5,6,7,8,9,10,11,12,13,14,15,16] ?_;have j:=j.drew;refine R3 (vi aa.2.2.1) zr (λw=>RN (vi aa.2.2.1) zt RX)<|RR zr<|R5 1 j zr Cx λbp j=>bC zr<|R5 3 j zr lM λbq j=>bC zr<|R5 5 j zr lM λbr j=>bC zr<|mv v2<|bC zr<|aY aa.2.2.2<|bC zr<|q_ o λax a9 o=>RG 3 j Fg a9 λbt j=>bC zr<|R4 0 j zr xL ou λbu j=>bC zr<|RY ax.Test 0 j cB<|bC zr<|mv v2<|bC zr<|aY aa.2.2.2 ?_;refine bC zr<|q_ o λay ba o=>RG 5 j Fg ba λbw j=>bC zr<|R4 0 j zr GD xE λbz j=>bC zr<|RY ay.o4 0 j xJ<|pR zr<|q_ o λaj bb o=>RI (gL Tryz.func13) (pA N (p3:=ax.Test) (p4:=ay.o4) (i0:=6) (i1:=5) (i2:=4) j zr zr zr bb) λw j=>ud zr<|RF aa.2.2.1 aj<|bC zr<|aM (wrap .i64<|aa.2.2.1+aj)<|RT<|Sd<|aF<|IN ?_;refine w_<|mv v2<|aY aa.2.2.2<|q_ o λaz bc o=>RG 7 j Fg bc λb0 j=>R4 0 j zr JB Bi λb2 j=>RY az.tp 0 j cB<|aY (wrap .i64<|aa.2.2.1+aj)<|ic az.tp (wrap .i64<|aa.2.2.1+aj)<|AI<|dP o (λo=>?_) λo=>?_;exact w_<|aM 0<|aM 12<|AI<|RZ<|iY<|bH<|oi o▸⟨rfl,ll ⟨rfl,j.drop 13⟩⟩;refine SK<|Ss mixed [0,0,0,0,0,0,0,0,0,0,0,2,0,0,1,2,2] [0,1,2,3,4,5,6,7,8,9,10,11,12,13,14,15,16] ?_;have j:=j.drew;refine RR zr<|R5 10 j zr Cx λb3 j=>bC zr<|mv v2<|bC zr<|aY aa.2.2.2<|bC zr<|q_ o λa0 bf o=>RG 10 j Fg bf λb4 j=>bC zr<|R4 0 j zr xL ou λb5 j=>bC zr<|RY a0.Test 0 j cB<|bC zr<|mv v2<|bC zr<|aY aa.2.2.2 ?_;refine bC zr<|q_ o λa1 bg o=>RG 12 j Fg bg λb6 j=>bC zr<|R4 0 j zr GD xE λb7 j=>bC zr<|RY a1.o4 0 j xJ<|pR zr<|q_ o λb8 bh o=>RU OG (k8 N (p1:=a0.Test) (p2:=a1.o4) (i0:=4) j zr bh) ?_;rintro _ w⟨a2,an,rfl,j⟩;refine ud zr<|mv (.tuple #[a2,an])<|bC zr<|Sw a2<|RT<|R3 an zr (λw=>Sw an RX)<|Sr zr<|Te 18 j 0 zr lM λw j=>?_;refine Jr zr<|Te 19 j 1 zr lM λw j=>?_;refine Sg zt<|Sd<|bQ<|aF<|IS<|aY aa.2.2.2<|RF aa.2.2.2 1<|aM (wrap .i64<|aa.2.2.2+1)<|By ?_;exact oi o▸⟨rfl,j.sp 20 [16,17,18,19]⟩;exact Sh<|oi o▸⟨rfl,j.sp 4 [0,1,2,3]⟩;intro r U w o hK;exact bH<|oi o▸hK;rintro aa _ w o⟨O,rfl,j⟩;exact aF<|w_<|aY aa.2.2.1<|aM aa.2.2.1<|aM 0<|AI<|RM<|oi o▸ll ⟨rfl,j.drop 4⟩
def ve(E:World)(V:List HP)(b1 b1h:Nat)(S_ T_:Value)(W_ X_:Value)(Y_ H_:Value)(Z_ a0_:Value)(a1_ a2_:Value)(U_ V_:Value)(res:Bool)(v:Value)(w:World):Prop:=v= vb res/\Holds E w ([bc 67 b1 [vp b1h 0],bc 93 b1h [S_,T_,W_,X_,Y_,H_,Z_,a0_,a1_,a2_,U_,V_]]++V)
theorem lV{R_:List aL}{res:Bool}(j:Holds E w (bc 67 b1 [vp b1h 0]::bc 93 b1h [S_,T_,W_,X_,Y_,H_,Z_,a0_,a1_,a2_,U_,V_]::rd H_ R_::V))(o:jP N p0 R_=some res):c_ 40 [vi p0,vp b1 0] w<|ve E V b1 b1h S_ T_ W_ X_ Y_ H_ Z_ a0_ a1_ a2_ U_ V_ res:=by
 unfold jP at o;refine enter Tryz.func40 zr zr<|w_<|bZ false<|IT<|aY p0<|R7 0 (vp b1h 0) j MP<|Sq zr<|AT zr vC<|R7 1 H_ j Fe<|RK 2 R_ j Ig<|RF (R_.length:Int) 1 ?_;exact q_ o λaa ab o=>RI Oi (l8 N (p0:=p0) (p1:=0) (p2:=wrap .i64<|(R_.length:Int) - 1) j ab) λw j=>bZ aa<|AI<|RM<|oi o▸bS ⟨rfl,j.pk 3 [0,1]⟩
theorem vT{p0:List mM}{p1:mM}(j:Holds E w V)(h0:V[i0]? =some (rd v0 p0))(h1:V[i1]? =some (rd v1 p1))(o:o7 N p0 p1=some res):c_ 75 [v0,v1] w<|aN E V res:=by
 unfold o7 at o;refine enter Tryz.func75 zr zr ?_;have j:=(j.dup (i0+0) h0).dup (i1+1) h1;refine w_<|R1 0 v1 j zr λab w j=>?_;refine aM 0<|RD<|w_<|mv v0<|RK 2 p0 j JH<|aY 0<|AI<|SM E V (λ(ad:Unit)=>[rd v0 p0,bx 98 ab p1]) (λ_=>[]) (λaa _=>[(0,v0),(3,vp ab 0),(7,vi p0.length),(8,vi aa)]) (λr=>lK bI 19 Tryz.f75 (aN E V r) .ret) o ?_ ?_ ?_ ?_;exact j.sp 3 [2,0];rintro hm aa ad fl _ w hk⟨O,rfl,j⟩o;refine IN<|R6<|aY (aa:Int)<|aM (aa:Int)<|RD<|SF mixed ?_;have j:=j.drew;refine SE<|R5 1 j zr Cy λak j=>AS<|mv v0<|AS<|aY (aa:Int)<|AS<|q_ o λae ah o=>RG 1 j JI ah λal j=>AS<|RQ 0 ae j Cy λan j=>AS<|T0 2 0 p1 ae zt zr j zr zr zr zr OI zr<|Sy<|aF<|dP o (λo=>?_) λo=>?_;exact w_<|aY (aa:Int)<|aM (aa:Int)<|AI<|Sp<|bH<|oi o▸⟨rfl,bS ⟨rfl,j.drop 5⟩⟩;exact Se<|bQ<|aF<|IS<|So hk hm<|aY ((aa+1:Nat):Int)<|By<|oi o▸⟨rfl,j.sp 5 [3,4]⟩;intro r U w o hK;exact bH<|oi o▸hK;rintro ad _ w o⟨O,rfl,j⟩;exact aF<|w_<|aM (-1)<|AI<|RM<|oi o▸bS ⟨rfl,j.drop 2⟩
theorem tK{p0:List mM}{p1:mM}{res:Bool}(j:Holds E w V)(h0:V[i0]? =some (rd v0 p0))(h1:V[i1]? =some (rd v1 p1))(o:mV N p0 p1=some res):c_ 41 [v0,v1] w<|aX E V res:=by
 unfold mV at o;refine enter Tryz.func41 zr zr ?_;have j:=(j.dup (i0+0) h0).dup (i1+1) h1;refine w_<|R1 0 v1 j zr λad w j=>?_;refine bZ false<|IT<|mv v0<|R5 0 j zr Cy λae j=>?_;refine q_ o λaa ab o=>RI (gL Tryz.func75) (vT N (i0:=3) (i1:=0) j zr zr ab) λw j=>ic aa 0<|bZ (decide<|aa>=0)<|AI<|RM ?_;exact oi o▸bS ⟨rfl,j.drop 4⟩
theorem xf{t_:List (List aH)}{F_:List aH}{m_:List cJ}{r_:List dN}{C_:List (List aA)}{j_:List aL}{s_:List (List Int)}{G_:List dD}{x_:List Int}{y_:List Int}{v_:List Int}{u_:List gC}{p1:List mM}(o:Holds E w (bc 93 b0 [e_,h_,a_,d_,k_,b_,f_,p_,o_,l_,i_,g_]::rd e_ t_::rd h_ F_::rd a_ m_::rd d_ r_::rd k_ C_::rd b_ j_::rd f_ s_::rd p_ G_::rd o_ x_::rd l_ y_::rd i_ v_::rd g_ u_::V))(h1:V[i1]? =some (rd v1 p1))(hb:ny N t_ F_ m_ r_ C_ j_ s_ G_ x_ y_ v_ u_ p1=some res):c_ 22 [vp b0 0,v1] w<|kC E V b0 e_ h_ a_ d_ k_ b_ f_ p_ o_ l_ i_ g_ res:=by
 unfold ny at hb;refine enter Tryz.func22 zr zr ?_;have o:=o.dup (i1+13) h1;refine w_<|Uk (v:=vp b0 0) zt zr o zr zr λae w o=>?_;refine aM 0<|RD<|w_<|mv v1<|RK 1 p1 o JH<|ic ((p1.length:Int)) 20<|AI<|dP hb (λhb=>?_) λhb=>?_;exact w_<|aM 2<|AI<|RZ<|oi hb▸bS ⟨rfl,o.pk 15 [2]⟩;refine Sz<|Tk [vp ae 0]<|dV (.func (.func 40) #[] #[vp ae 0])<|RD<|w_<|mv v1<|RK 1 p1 o JH<|aY 0<|AI<|SM E V (λ(au:Unit)=>[bc 93 b0 [e_,h_,a_,d_,k_,b_,f_,p_,o_,l_,i_,g_],rd e_ t_,rd h_ F_,rd a_ m_,rd d_ r_,rd k_ C_,rd b_ j_,rd f_ s_,rd p_ G_,rd o_ x_,rd l_ y_,rd i_ v_,rd g_ u_,rd v1 p1,bc 67 ae [vp b0 0]]) (λ_=>[(0,vp b0 0)]) (λag _=>[(1,v1),(2,vp ae 0),(5,(.func (.func 40) #[] #[vp ae 0])),(13,v1),(14,vi p1.length),(15,vi ag)]) (λr=>lK bI 112 Tryz.f22 (kC E V b0 e_ h_ a_ d_ k_ b_ f_ p_ o_ l_ i_ g_ r) .ret) hb ?_ ?_ ?_ ?_;exact o.sp 15 [2,3,4,5,6,7,8,9,10,11,12,13,14,1,0];rintro hm ag au fl _ w hk⟨O,rfl,o⟩hb;refine IN<|R6<|aY (ag:Int)<|q_ hb λj ay hb=>RG 13 o JI ay λbf o=>RQ 0 j o Cy λbg o=>Sj o MQ.z λad w o=>?_;refine aM (ag:Int)<|Sa 0 o 1 zr Cy λw o=>?_;refine RD<|IN<|q_ hb λal hj hb=>RS (λ(al:Bool)=>SH E V [(0,vp b0 0),(1,v1),(2,vp ae 0),(5,(.func (.func 40) #[] #[vp ae 0])),(6,vi ag),(7,vp ad 0),(13,v1),(14,vi p1.length),(15,vi ag),(42,vb al)] [bc 93 b0 [e_,h_,a_,d_,k_,b_,f_,p_,o_,l_,i_,g_],rd e_ t_,rd h_ F_,rd a_ m_,rd d_ r_,rd k_ C_,rd b_ j_,rd f_ s_,rd p_ G_,rd o_ x_,rd l_ y_,rd i_ v_,rd g_ u_,rd v1 p1,bc 67 ae [vp b0 0],bx 98 ad j]) al ?_ ?_;refine IS<|AT rfl xM<|OF 0 o rfl pJ xJ<|fN j.Open<|BY true j.Open (vp ad 3) rfl rfl rfl (cX DX)<|BY true j.Open (vi j.A) rfl rfl rfl (bP 0 rfl o (by exact z_ (vp ad 3)) rfl wy cB)<|BY true j.Open (vb<|j.A != 0) rfl rfl rfl (dB .neq .i64 j.A 0 rfl (by exact z_ (vi j.A)) (λ_=>rfl) rfl)<|BY true j.Open (vb<|j.A != 0) rfl rfl rfl (cF (hx:=λh=>by exact(cC h:cv (true&&(j.Open==true)) (vb<|j.A != 0)= vb (j.A != 0))))<|BY (true&&(j.Open==true)) (j.A != 0) (vp ad 4) rfl rfl rfl (cX DY) ?_;refine BY (true&&(j.Open==true)) (j.A != 0) (vi j.B) rfl rfl rfl (bP 0 rfl o (by exact z_ (vp ad 4)) rfl wz cB)<|BY (true&&(j.Open==true)) (j.A != 0) (vb<|j.B != 0) rfl rfl rfl (dB .neq .i64 j.B 0 rfl (by exact z_ (vi j.B)) (λ_=>rfl) rfl)<|BY true j.Open (vb<|(j.A != 0)||(j.B != 0)) rfl rfl rfl (kr (j.A != 0) rfl (by exact z_ (vb<|j.A != 0)) (λh=>by exact nG (h:=h)<|true&&(j.Open==true)))<|Sb j.Open (vb<|j.Open&&((j.A != 0)||(j.B != 0))) (fE true)<|fN (j.Open&&((j.A != 0)||(j.B != 0)))<|fp hj (λah hj=>?_) λah hj=>?_;refine bK ah<|bK ah<|bK ah<|bK ah<|zA<|zA<|zA<|zA<|bK ah<|eY ah (vb true)<|By ?_;exact oi hj▸⟨rfl,o.sp 18 [3,4,5,6,7,8,9,10,11,12,13,14,15,16,17,0]⟩;refine AT (hg:=cg ah) zr xM<|OF (hg:=cg ah) 0 o zr pJ xJ<|Sk (hg:=cg ah) j.Open<|RN (vb<|!j.Open) (cg ah)<|fp hj (λai hj=>?_) λai hj=>?_;refine AT (hg:=cg ai) rfl zL<|R2 (hg:=cg ai) 0 o rfl rB wW λbh o=>SI (⟨false,0⟩:gC) (cg ai) rfl o [] rfl KW rfl (λM hs g=>by have h:=Ho M;exact cO.nil h) λbj o=>?_;exact TB 1 0 j.gC (⟨false,0⟩:gC) (cg ai) zr o zr zr zr zr OH zr<|eY ai (vb<|!(decide<|j.gC=(⟨false,0⟩:gC))) (hg:=cg ah)<|eY ah (vb<|!(decide<|j.gC=(⟨false,0⟩:gC)))<|By<|oi hj▸⟨rfl,o.sp 20 [5,6,7,8,9,10,11,12,13,14,15,16,17,18,19,2]⟩;exact bK ai<|bK ai<|bK ai<|bK ai<|eY ai (vb false) (hg:=cg ah)<|eY ah (vb false)<|By<|oi hj▸⟨rfl,o.sp 18 [3,4,5,6,7,8,9,10,11,12,13,14,15,16,17,0]⟩;rintro _ w⟨O,rfl,o⟩;refine aF<|dP hb (λhb=>?_) λhb=>?_;exact w_<|aM 3<|AI<|RZ<|iY<|bH<|oi hb▸⟨rfl,bS ⟨rfl,o.pk 16 [0]⟩⟩;refine RW<|q_ hb λan hj hb=>RS (λ(an:Bool)=>SH E V [(0,vp b0 0),(1,v1),(2,vp ae 0),(5,(.func (.func 40) #[] #[vp ae 0])),(6,vi ag),(7,vp ad 0),(8,vb an),(13,v1),(14,vi p1.length),(15,vi ag)] [bc 93 b0 [e_,h_,a_,d_,k_,b_,f_,p_,o_,l_,i_,g_],rd e_ t_,rd h_ F_,rd a_ m_,rd d_ r_,rd k_ C_,rd b_ j_,rd f_ s_,rd p_ G_,rd o_ x_,rd l_ y_,rd i_ v_,rd g_ u_,rd v1 p1,bc 67 ae [vp b0 0],bx 98 ad j]) an ?_ ?_;refine IS<|mv (.func (.func 40) #[] #[vp ae 0])<|AT zr DX<|OF 15 o zr wy cB ?_;have o:=((o.dup 6 rfl).pull 1).pull 16;refine q_ hj λaz a0 hj=>S8 [vp ae 0] MR [vi j.A]<|gA (lV N (p0:=j.A) o a0) ?_;rintro _ w⟨rfl,o⟩;refine fN az<|fp hj (λaj hj=>?_) λaj hj=>?_;refine RN (.func (.func 40) #[] #[vp ae 0]) (cg aj)<|AT (hg:=cg aj) zr DY<|OF (hg:=cg aj) 17 o zr wz cB ?_;have o:=((o.dup 8 rfl).pull 2).pull 2;refine q_ hj λav a1 hj=>S8 (hg:=cg aj) [vp ae 0] MR [vi j.B]<|gA (lV N (p0:=j.B) o a1) ?_;rintro _ w⟨rfl,o⟩;exact eY aj (vb av)<|bZ av<|By<|oi hj▸⟨rfl,o.sp 20 [1,5,6,7,8,9,10,11,12,13,14,15,16,17,0,19]⟩;exact bK aj<|bK aj<|bK aj<|bK aj<|eY aj (vb false)<|bZ false<|By<|oi hj▸⟨rfl,o.sp 18 [1,3,4,5,6,7,8,9,10,11,12,13,14,15,0,17]⟩;rintro _ w⟨O,rfl,o⟩;refine aF<|IN<|w_<|AT zr xM<|OF 15 o zr pJ xJ<|AI<|q_ hb λao hj hb=>RS (λ(ao:Bool)=>SH E V [(0,vp b0 0),(1,v1),(2,vp ae 0),(5,(.func (.func 40) #[] #[vp ae 0])),(6,vi ag),(7,vp ad 0),(8,vb ao),(13,v1),(14,vi p1.length),(15,vi ag)] [bc 93 b0 [e_,h_,a_,d_,k_,b_,f_,p_,o_,l_,i_,g_],rd e_ t_,rd h_ F_,rd a_ m_,rd d_ r_,rd k_ C_,rd b_ j_,rd f_ s_,rd p_ G_,rd o_ x_,rd l_ y_,rd i_ v_,rd g_ u_,rd v1 p1,bc 67 ae [vp b0 0],bx 98 ad j]) ao ?_ ?_;refine dP hj (λhj=>?_) λhj=>?_;refine IS<|mv (.func (.func 40) #[] #[vp ae 0])<|AT zr zL<|AT zr xK<|OF (f:=(λx=>x.gC.Number)) 15 o zr (Fd.comp (f:=λ(x:mM)=>x.gC) (λ(x:gC)=>x.Number) rB rM) cB ?_;have o:=((o.dup 6 rfl).pull 1).pull 16;refine q_ hj λa2 a3 hj=>S8 [vp ae 0] MR [vi j.gC.Number]<|gA (lV N (p0:=j.gC.Number) o a3) ?_;rintro _ w⟨rfl,o⟩;exact bZ a2<|By<|oi hj▸⟨rfl,o.sp 18 [1,3,4,5,6,7,8,9,10,11,12,13,14,15,0,17]⟩;exact Se<|oi hj▸⟨rfl,o.sp 16 [0,1,2,3,4,5,6,7,8,9,10,11,12,13,14,15]⟩;rintro _ w⟨O,rfl,o⟩;refine aF<|IN<|w_<|AT rfl xM<|OF 15 o rfl pJ xJ<|fN j.Open<|BY true j.Open (vp ad 1) rfl rfl rfl (cX zL)<|BY true j.Open (vp ad 1) rfl rfl rfl (cX (hx:=λh=>by exact(cC h:cv (true&&(j.Open==true)) (vp ad 1)= vp ad 1)) GA)<|BY true j.Open (vb j.gC.cJ) rfl rfl rfl (bP (f:=(λx=>x.gC.cJ)) 15 rfl o (by exact z_ (vp ad 1)) rfl (Fd.comp (f:=λ(x:mM)=>x.gC) (λ(x:gC)=>x.cJ) rB Bj) xJ) ?_;refine Sb j.Open (vb<|j.Open&&j.gC.cJ) (fE true)<|AI<|q_ hb λak hj hb=>RS (λ(ak:Bool)=>SH E V [(0,vp b0 0),(1,v1),(2,vp ae 0),(5,(.func (.func 40) #[] #[vp ae 0])),(6,vi ag),(7,vp ad 0),(8,vb ak),(13,v1),(14,vi p1.length),(15,vi ag)] [bc 93 b0 [e_,h_,a_,d_,k_,b_,f_,p_,o_,l_,i_,g_],rd e_ t_,rd h_ F_,rd a_ m_,rd d_ r_,rd k_ C_,rd b_ j_,rd f_ s_,rd p_ G_,rd o_ x_,rd l_ y_,rd i_ v_,rd g_ u_,rd v1 p1,bc 67 ae [vp b0 0],bx 98 ad j]) ak ?_ ?_;refine dP hj (λhj=>?_) λhj=>?_;refine q_ hj λaq hjj hj=>RS (λ(aq:Bool)=>SH E V [(0,vp b0 0),(1,v1),(2,vp ae 0),(5,(.func (.func 40) #[] #[vp ae 0])),(6,vi ag),(7,vp ad 0),(8,vb aq),(13,v1),(14,vi p1.length),(15,vi ag)] [bc 93 b0 [e_,h_,a_,d_,k_,b_,f_,p_,o_,l_,i_,g_],rd e_ t_,rd h_ F_,rd a_ m_,rd d_ r_,rd k_ C_,rd b_ j_,rd f_ s_,rd p_ G_,rd o_ x_,rd l_ y_,rd i_ v_,rd g_ u_,rd v1 p1,bc 67 ae [vp b0 0],bx 98 ad j]) aq ?_ ?_;refine Ss mixed [0,0,0,0,0,0,0,0,0,0,2,0,0,0,0,0,0,0,0,0,0,0,0,0,0] [0,1,2,3,4,5,6,7,8,9,10,11,12,13,14,15,16,17,18,19,20,21,22,23,24] ?_;have o:=o.drew;refine RR zr<|AT zr zL<|bC zr<|AT zr xK<|bC zr<|OF (f:=(λx=>x.gC.Number)) 15 o zr (Fd.comp (f:=λ(x:mM)=>x.gC) (λ(x:gC)=>x.Number) rB rM) cB<|bC zr<|R7 14 (vp b0 0) o MP<|bC zr<|Sq zr<|bC zr<|AT zr qu<|bC zr<|AT zr jZ<|bC zr<|R7 0 a_ o qY<|bC zr<|RK 3 m_ o xG ?_;refine bC zr<|RF (m_.length:Int) 1<|pR zr<|q_ hjj λa4 a5 hjj=>RI Oi (l8 N (p0:=j.gC.Number) (p1:=0) (p2:=wrap .i64<|(m_.length:Int) - 1) o a5) λw o=>ud zr<|fN a4<|RT<|fp hjj (λaf hjj=>?_) λaf hjj=>?_;refine RR zr<|R7 (hg:=cg af) 14 (vp b0 0) o MP<|bC zr<|Sq (hg:=cg af) zr<|bC zr<|AT (hg:=cg af) zr qu<|bC zr<|AT (hg:=cg af) zr jZ<|bC zr<|R7 (hg:=cg af) 0 a_ o qY<|bC zr<|AT (hg:=cg af) zr zL<|bC zr<|AT (hg:=cg af) zr xK<|bC zr<|OF (hg:=cg af) (f:=(λx=>x.gC.Number)) 15 o zr (Fd.comp (f:=λ(x:mM)=>x.gC) (λ(x:gC)=>x.Number) rB rM) cB<|bC zr ?_;refine q_ hjj λar a6 hjj=>RG (hg:=cg af) 3 o wV a6 λbk o=>bC zr<|R4 (hg:=cg af) 0 o zr DR wt λbl o=>bC zr<|RY (hg:=cg af) ar.jH 0 o xJ<|bC zr<|eY af (vb ar.jH)<|bC zr<|bZ ar.jH<|RT<|Sd ?_;exact oi hjj▸⟨rfl,o.sp 18 [2,3,4,5,6,7,8,9,10,11,12,13,14,15,16,17]⟩;refine RR zr<|bK af<|bC zr<|bK af<|bC zr<|bK af<|bC zr<|bK af<|bC zr<|bK af<|bC zr<|bK af<|bC zr<|bK af<|bC zr<|bK af<|bC zr<|bK af ?_;refine bC zr<|bK af<|bC zr<|bK af<|bC zr<|eY af (vb false)<|bC zr<|bZ false<|RT<|Sd ?_;exact oi hjj▸⟨rfl,o.sp 16 [0,1,2,3,4,5,6,7,8,9,10,11,12,13,14,15]⟩;rintro _ w⟨O,rfl,o⟩;exact oi hj▸⟨rfl,o.sp 16 [0,1,2,3,4,5,6,7,8,9,10,11,12,13,14,15]⟩;exact Se<|oi hj▸⟨rfl,o.sp 16 [0,1,2,3,4,5,6,7,8,9,10,11,12,13,14,15]⟩;rintro _ w⟨O,rfl,o⟩;refine aF<|R6<|fN ak<|Sk ak<|bZ (!ak)<|AI<|dP hb (λhb=>?_) λhb=>?_;exact w_<|aM 9<|AI<|Sp<|iY<|bH<|oi hb▸⟨rfl,bS ⟨rfl,o.pk 16 [0]⟩⟩;refine w_<|AT rfl xM<|OF 15 o rfl pJ xJ<|Sk j.Open<|fN (!j.Open)<|BY true (!j.Open) (vp ad 4) rfl rfl rfl (cX DY)<|BY true (!j.Open) (vi j.B) rfl rfl rfl (bP 15 rfl o (by exact z_ (vp ad 4)) rfl wz cB)<|BY true (!j.Open) (vp ad 3) rfl rfl rfl (cX DX)<|BY true (!j.Open) (vi j.A) rfl rfl rfl (bP 15 rfl o (by exact z_ (vp ad 3)) rfl wy cB) ?_;refine BY true (!j.Open) (vb<|decide<|j.B<=j.A) rfl rfl rfl (dB .leq .i64 j.B j.A rfl (by exact z_ (vi j.B)) (by exact z_ (vi j.A)) rfl)<|Sb (!j.Open) (vb<|(!j.Open)&&decide (j.B<=j.A)) (fE true)<|bZ ((!j.Open)&&decide (j.B<=j.A))<|AI<|dP hb (λhb=>?_) λhb=>?_;exact w_<|aM 8<|AI<|Sp<|iY<|bH<|oi hb▸⟨rfl,bS ⟨rfl,o.pk 16 [0]⟩⟩;refine IN<|Ss mixed [0,0,0,0,2,0] [0,1,2,3,4,5] ?_;have o:=o.drew;refine RR zr<|mv v1<|bC zr<|aY (ag:Int)<|bC zr<|q_ hb λbm a7 hb=>Ta (hl:= .inr ⟨rfl,zr⟩) 13 o JI (.inl zr) a7 λbn o=>bC zr<|R5 16 o zr Cy λbo o=>pR zr<|q_ hb λa8 a9 hb=>RI (gL Tryz.func41) (tK N (i0:=1) (i1:=0) o zr zr a9) λw o=>ud zr<|bZ a8<|RT<|Sd<|aF<|dP hb (λhb=>?_) λhb=>?_;exact w_<|aM 7<|AI<|Sp<|iY<|bH<|oi hb▸⟨rfl,bS ⟨rfl,o.pk 18 [2]⟩⟩;exact Se<|bQ<|bQ<|aF<|IS<|So hk hm<|aY ((ag+1:Nat):Int)<|By<|oi hb▸⟨rfl,o.sp 18 [2,3,4,5,6,7,8,9,10,11,12,13,14,15,16]⟩;intro r U w hb hK;exact bH<|oi hb▸hK;rintro au _ w hb⟨O,rfl,o⟩;exact aF<|w_<|aM 0<|AI<|RM<|oi hb▸bS ⟨rfl,o.pk 15 [0]⟩
theorem qI{p0:gC}(j:Holds E w V)(h0:V[i0]? =some (rd v0 p0))(h1:V[i1]? =some (pt v1 p1))(o:j9 N p0 p1=some res):c_ 42 [v0,v1] w<|aN E V res:=by
 unfold j9 at o;refine enter Tryz.func42 zr zr ?_;have j:=(j.dup (i0+0) h0).A1 (i:=i1+1) h1;refine w_<|R1 1 v0 j zr λaa w j=>?_;refine aM 0<|RD<|w_<|AT zr GA<|OF 0 j zr Bj xJ<|AI<|dP o (λo=>?_) λo=>?_;refine w_<|RY p1 1 j cB<|AT zr xK<|OF 0 j zr rM cB<|RF p1 p0.Number<|aM (wrap .i64<|p1+p0.Number)<|AI<|RZ ?_;exact oi o▸bS ⟨rfl,j.drop 3⟩;exact Sz<|AT zr xK<|OF 0 j zr rM cB<|aM p0.Number<|AI<|RM<|oi o▸bS ⟨rfl,j.drop 3⟩
def xV(E:World)(V:List HP)(b2:Nat)(B_:Value)(D_:List (Int×Bool))(b3 b3h:Nat)(res:List Int)(v:Value)(w:World):Prop:=∃a9_:Value,v = .tuple #[]/\Holds E w ([bc 101 b2 [B_],mp B_ D_,bc 102 b3 [vp b3h 0],bc 140 b3h [a9_],own 3 a9_ res]++V)
theorem qJ{D_:List (Int×Bool)}{a3_:List Int}{res:List Int}(j:Holds E w (bc 101 b2 [B_]::mp B_ D_::bc 102 b3 [vp b3h 0]::bc 140 b3h [Q_]::own 3 Q_ a3_::V))(hb:lz N p0 p1 D_ a3_=some res):c_ 44 [vi p0,vi p1,vp b2 0,vp b3 0] w<|xV E V b2 B_ D_ b3 b3h res:=by
 unfold lz at hb;refine enter Tryz.func44 zr zr<|IN<|q_ hb λae o hb=>RS (λ(ae:Bool)=>SH E V [(0,vi p0),(1,vi p1),(2,vp b2 0),(3,vp b3 0),(15,vb ae)] [bc 101 b2 [B_],mp B_ D_,bc 102 b3 [vp b3h 0],bc 140 b3h [Q_],own 3 Q_ a3_]) ae ?_ ?_;refine IS<|R7 0 B_ j Fj<|aY p0<|Tm 1 p0 zt j Hx<|Sk (fC D_ p0 (false:Bool))<|fN (!(fC D_ p0 (false:Bool)))<|fp o (λaa o=>?_) λaa o=>?_;refine R7 (hg:=cg aa) 0 B_ j Fj<|RN (vi p1) (cg aa)<|Tm 1 p1 (cg aa) j Hx<|Sk (hg:=cg aa) (fC D_ p1 (false:Bool))<|eY aa (vb<|!(fC D_ p1 (false:Bool)))<|By ?_;obtain rfl:=oi o;exact ⟨rfl,j.sp 5 [0,1,2,3,4]⟩;exact bK aa<|bK aa<|bK aa<|bK aa<|eY aa (vb false)<|By<|oi o▸⟨rfl,j.sp 5 [0,1,2,3,4]⟩;rintro _ w⟨O,rfl,j⟩;refine aF<|q_ hb λaf o hb=>RS (λ(af:List Int)U w=>∃ad:Value,SH E V [(2,vp b2 0),(3,vp b3 0)] [bc 101 b2 [B_],mp B_ D_,bc 102 b3 [vp b3h 0],bc 140 b3h [ad],own 3 ad af] U w) af ?_ ?_;refine dP o (λo=>?_) λo=>?_;refine IS<|R7 2 (vp b3h 0) j Fk<|aY p0<|aY p1 ?_;have j:=(j.pull 4).pull 4;refine q_ o λai ag o=>RU N6 (pE N (p1:=p0) (p2:=p1) j ag) ?_;rintro _ w⟨ah,rfl,j⟩;exact By<|oi o▸⟨rfl,ah,j.sp 7 [2,3,4,0,1]⟩;exact Se<|oi o▸⟨rfl,Q_,j.sp 5 [0,1,2,3,4]⟩;rintro _ w⟨ad,O,rfl,j⟩;obtain rfl:=oi hb;exact Ez<|Kw zr ⟨ad,zr,j.pk 5 [0,1,2,3,4]⟩
def AL(E:World)(V:List HP)(b0:Nat)(e_ h_:Value)(a_ d_:Value)(k_ b_:Value)(f_ p_:Value)(o_ l_:Value)(i_ g_:Value)(res:List Int)(v:Value)(w:World):Prop:=Holds E w<|[own 3 v res,bc 93 b0 [e_,h_,a_,d_,k_,b_,f_,p_,o_,l_,i_,g_]]++V
theorem zQ{m_:List cJ}{r_:List dN}{j_:List aL}{s_:List (List Int)}{v_:List Int}{u_:List gC}{p1:List mM}{res:List Int}(j:Holds E w (bc 93 b0 [e_,h_,a_,d_,k_,b_,f_,p_,o_,l_,i_,g_]::rd a_ m_::rd d_ r_::rd b_ j_::rd f_ s_::rd i_ v_::rd g_ u_::V))(h1:V[i1]? =some (rd v1 p1))(o:mn N m_ r_ j_ s_ v_ u_ p1=some res):c_ 23 [vp b0 0,v1] w<|AL E V b0 e_ h_ a_ d_ k_ b_ f_ p_ o_ l_ i_ g_ res:=by
 unfold mn at o;refine enter Tryz.func23 zr zr ?_;have j:=j.dup (i1+7) h1;refine w_<|dV n_<|IT<|mv (vp b0 0)<|Sq zr<|AT zr vC<|R7 1 b_ j Fe<|RK 4 j_ j Ig<|Sj j Ib.z λad w j=>?_;have j:=j.sc Int (j_.length:Int);refine Sa 1 j 0 zr cB λw j=>?_;refine IT ?_;have j:=j.ik (i:=1) rfl;refine Tk [vp ad 0]<|dV (.func (.func 42) #[] #[vp ad 0])<|IT<|TE (κ:=Int) (ν:=Bool) zr j λag w j=>S7 j OJ λae w j=>?_;refine SX 0 ag j zr zr (Mn j (i:=1) zr) Fj λw j=>?_;refine RD<|w_<|mv v1<|RK 4 p1 j JH<|aY 0<|AI<|Tp E V (λ(ao:List (Int×Bool))=>[bc 93 b0 [e_,h_,a_,d_,k_,b_,f_,p_,o_,l_,i_,g_],rd a_ m_,rd d_ r_,rd b_ j_,rd f_ s_,rd i_ v_,rd g_ u_,rd v1 p1,pt (vp ad 0) (j_.length:Int),bc 101 ae [ag],mp ag ao]) (λ_=>[(0,vp b0 0),(1,v1),(5,vp ad 0),(6,(.func (.func 42) #[] #[vp ad 0])),(7,vp ae 0)]) (λa6 _=>[(32,v1),(33,vi p1.length),(34,vi a6)]) o ?_ ?_ ?_;exact j.sp 12 [5,6,7,8,9,10,11,4,3,0,1];rintro hm a6 ao s' _ w hk⟨O,rfl,j⟩o;refine IN<|R6<|q_ o λb4 b5 o=>RG 7 j JI b5 λc7 j=>RQ 0 b4 j Cy λc8 j=>Sj j MQ.z λc9 w j=>?_;refine Sa 0 j 1 zr Cy λw j=>?_;refine IT<|AT zr xM<|OF 0 j zr pJ xJ<|AI<|q_ o λbf hj o=>RS (λ(bf:List (Int×Bool))=>SH E V [(0,vp b0 0),(1,v1),(5,vp ad 0),(6,(.func (.func 42) #[] #[vp ad 0])),(7,vp ae 0),(32,v1),(33,vi p1.length),(34,vi a6)] [bc 93 b0 [e_,h_,a_,d_,k_,b_,f_,p_,o_,l_,i_,g_],rd a_ m_,rd d_ r_,rd b_ j_,rd f_ s_,rd i_ v_,rd g_ u_,rd v1 p1,pt (vp ad 0) (j_.length:Int),bc 101 ae [ag],mp ag bf]) bf ?_ ?_;refine dP hj (λhj=>?_) λhj=>?_;have j:=j.drew;refine Tn (λw=>Holds E w<|[bc 101 ae [ag]]++V) mixed zr [1,0,0,0,2,2] [0,1,2,3,4,5] (j.pk 14 [12])<|Th ag zr (λw j=>R7 0 ag j Fj RX)<|RR zr<|mv (.func (.func 42) #[] #[vp ad 0])<|bC zr<|AT zr zL<|bC zr<|R2 0 j zr rB wW λb6 j=>pR zr<|q_ hj λb7 b8 hj=>S8 [vp ad 0] OK [b6]<|gA (qI N (i0:=0) (i1:=12) j zr zr b8) ?_;rintro _ w⟨rfl,j⟩;refine Sg (j.pk 15 [13])<|Sr zr ?_;have j:=j.sc Bool true;exact TF 15 0 b7 j zr zr zr zr zr Hx λw j=>Sg (j.pk 16 [14])<|Sd<|oi hj▸⟨rfl,j.sp 16 [5,6,7,8,9,10,11,12,13,14,15]⟩;exact Se<|oi hj▸⟨rfl,j.sp 14 [3,4,5,6,7,8,9,10,11,12,13]⟩;rintro _ w⟨O,rfl,j⟩;exact bQ<|aF<|IS<|So hk hm<|aY ((a6+1:Nat):Int)<|By<|oi o▸⟨rfl,j.sp 11 [0,1,2,3,4,5,6,7,8,9,10]⟩;rintro ao _ w o⟨O,rfl,j⟩;refine aF<|IN ?_;refine q_ o λb9 ca o=>SU E V mixed [0,1,1,1,1,0,0,1,0,0,0] [8,9,10] (λ(x:Nat×Value×Nat)=>(λab aj aa=>[(0,46,vi j_.length),(1,47,vp b0 0),(2,48,vp b0 0),(3,49,vp b0 0),(4,50,vp b0 2),(5,51,a_),(6,52,vi m_.length),(7,53,vi<|wrap .i64<|(j_.length:Int)+(m_.length:Int)),(8,54,vp ab 0),(9,10,vp aa 0)]) x.1 x.2.1 x.2.2) [(0,vp b0 0),(1,v1),(5,vp ad 0),(6,(.func (.func 42) #[] #[vp ad 0])),(7,vp ae 0)] [] (λ(D:Nat->Bool)(x:Nat×Value×Nat)=>(λab aj aa=>[bif D 0 then bc 140 ab [aj]else aS,bif D 0 then own 3 aj b9 else aS,bif D 2 then bc 102 aa [vp ab 0]else(bif D 1 then bc 102 aa [(.pointer none)]else aS),bc 93 b0 [e_,h_,a_,d_,k_,b_,f_,p_,o_,l_,i_,g_],rd a_ m_,rd d_ r_,rd b_ j_,rd f_ s_,rd i_ v_,rd g_ u_,rd v1 p1,pt (vp ad 0) (j_.length:Int),bc 101 ae [ag],mp ag ao]) x.1 x.2.1 x.2.2) (λx=>by kernel_rfl) ?_ ⟨?_,λ_=>lA gn,λ_=>Cr gn,λ_=>mz gn qu,λ_=>mz gn jZ,?_,?_,λ_=>KN gn rfl,?_,?_,?_,trivial⟩ ?_;have j:=(((j.drew).aS).aS).aS;exact⟨(0,undef,0),dX.none,Ex zr,zt,j⟩;rintro D U w hD aq a0⟨⟨ab,aj,aa⟩,hv,ha,_,j⟩;obtain⟨O,rfl⟩:=ha.px;exact RY (j_.length:Int) 11 j cB<|RH (ab,aj,aa) 0 hv ha j;rintro D U w hD aq a0⟨⟨ab,aj,aa⟩,hv,ha,_,j⟩;obtain⟨O,rfl⟩:=hv.o1 4 aq;exact R7 3 a_ j qY<|RH (ab,aj,aa) 5 hv ha j;rintro D U w hD aq a0⟨⟨ab,aj,aa⟩,hv,ha,_,j⟩;obtain⟨O,rfl⟩:=hv.o1 5 aq;exact RK 4 m_ j xG<|RH (ab,aj,aa) 6 hv ha j;rintro D U w hD aq a0⟨⟨ab,aj,aa⟩,hv,ha,_,j⟩;obtain⟨O,rfl⟩:=hv.o1 7 aq;have j:=((j.bU 0 hD).bU 1 hD).bU 2<|nh a0 hD 10;refine RU N5 (qH N (p0:=wrap .i64<|(j_.length:Int)+(m_.length:Int)) j ca) ?_;rintro _ w⟨bq,cb,rfl,j⟩;have j:=(((j.pl 16 [0,1,4,5,6,7,8,9,10,11,12,13,14,15]).cG 0 true rfl aS).cG 1 true rfl aS).gh 2 (D 10) (nh a0 hD 10)<|bc 102 aa [vp bq 0];exact RH (bq,cb,aa) 8 hv ha j;rintro D U w hD aq a0⟨⟨ab,aj,aa⟩,hv,ha,_,j⟩;obtain⟨O,rfl⟩:=(az U).px;have j:=(j.bU 2<|nh a0 hD 10).bU 2 hD;refine S7 j OL λbr w j=>?_;have j:=(j.nw 2).gh 2 (D 10) (nh a0 hD 10)<|bc 102 br [vp ab 0];exact RH (ab,aj,br) 9 hv ha j;rintro D U w hD aq a0⟨⟨ab,aj,aa⟩,hv,ha,_,j⟩;obtain⟨O,rfl⟩:=hv.o2 9 8 aq;have j:=((j.cV 0<|aq.2.1 rfl).bU 2 hD).cV 2<|aq.1 rfl;refine SX 2 (vp ab 0) j zr zr zr Fk λw j=>?_;have j:=(j.cG 0 (D 8) (aq.2.1 rfl) aS).cG 2 true rfl (bif D 9 then bc 102 aa [(.pointer none)]else aS);exact SL (ab,aj,aa) hv ha j;rintro D U w a7⟨⟨ab,aj,aa⟩,hv,ha,_,j⟩;have j:=((j.cV 0<|t9 a7 8).cV 1<|t9 a7 8).cV 2<|t9 a7 10;obtain⟨O,rfl⟩:=(ac (hv.at 9 rfl<|t9 a7 9) ha).px;refine aF<|w_<|Tk [vp ae 0,vp aa 0]<|dV (.func (.func 44) #[] #[vp ae 0,vp aa 0])<|RD<|w_<|mv (vp b0 0)<|Sq zr<|AT zr DS<|R7 3 f_ j KS<|RK 7 s_ j KT<|aY 0<|AI<|SZ E V (λ(bg:List Int)(bt:Value)=>[bc 93 b0 [e_,h_,a_,d_,k_,b_,f_,p_,o_,l_,i_,g_],rd a_ m_,rd d_ r_,rd b_ j_,rd f_ s_,rd i_ v_,rd g_ u_,rd v1 p1,pt (vp ad 0) (j_.length:Int),bc 101 ae [ag],mp ag ao,bc 102 aa [vp ab 0],bc 140 ab [bt],own 3 bt bg]) (λ_ _=>[(0,vp b0 0),(1,v1),(6,(.func (.func 42) #[] #[vp ad 0])),(7,vp ae 0),(10,vp aa 0),(11,(.func (.func 44) #[] #[vp ae 0,vp aa 0]))]) (λau _ _=>[(5,vp ad 0),(59,f_),(60,vi s_.length),(61,vi au)]) o ?_ ?_ ?_;exact⟨aj,j.sp 14 [3,4,5,6,7,8,9,10,11,12,13,2,0,1]⟩;rintro hm au bg s' _ w hk⟨cc,O,rfl,j⟩o;refine IN<|R6<|aY (au:Int)<|q_ o λa8 cd o=>RG 4 j Gy cd λda j=>RQ 0 a8 j ij λa9 j=>aM (au:Int)<|dV a9<|IT<|mv a9<|RK 0 a8 j nK<|aY 0<|AI ?_;refine SZ E V (λ(bh:List Int)(bu:Value)=>[bc 93 b0 [e_,h_,a_,d_,k_,b_,f_,p_,o_,l_,i_,g_],rd a_ m_,rd d_ r_,rd b_ j_,rd f_ s_,rd i_ v_,rd g_ u_,rd v1 p1,pt (vp ad 0) (j_.length:Int),bc 101 ae [ag],mp ag ao,bc 102 aa [vp ab 0],bc 140 ab [bu],own 3 bu bh,rd a9 a8]) (λ_ _=>[(0,vp b0 0),(1,v1),(5,vp ad 0),(6,(.func (.func 42) #[] #[vp ad 0])),(7,vp ae 0),(10,vp aa 0),(11,(.func (.func 44) #[] #[vp ae 0,vp aa 0])),(59,f_),(60,vi s_.length),(61,vi au)]) (λbj _ _=>[(12,vi au),(66,a9),(67,vi a8.length),(68,vi bj)]) o ?_ ?_ ?_;exact⟨cc,j.sp 16 [2,3,4,5,6,7,8,9,10,11,12,13,14,15,0]⟩;rintro hm bj bh s' _ w hk⟨db,O,rfl,j⟩o;refine IN<|R6<|q_ o λa4 cf o=>RG 14 j eW cf λdc j=>RY a4 0 j cB<|aM a4<|AI<|IS<|mv (.func (.func 44) #[] #[vp ae 0,vp aa 0])<|aY a4<|RY (j_.length:Int) 9 j cB<|aY (au:Int) ?_;refine RF (j_.length:Int) (au:Int) ?_;have j:=((((j.pull 14).pull 14).pull 14).pull 14).pull 14;refine q_ o λdd ch o=>S8 [vp ae 0,vp aa 0] OM [vi a4,vi<|wrap .i64<|(j_.length:Int)+(au:Int)]<|gA (qJ N (p0:=a4) (p1:=wrap .i64<|(j_.length:Int)+(au:Int)) j ch) ?_;rintro _ w⟨cj,rfl,j⟩;exact By<|bQ<|aF<|IS<|So hk hm<|aY ((bj+1:Nat):Int)<|By<|oi o▸⟨rfl,cj,j.sp 21 [6,7,8,9,10,11,12,13,14,0,1,2,3,4,20]⟩;rintro bh _ w o⟨ck,O,rfl,j⟩;exact bQ<|aF<|IS<|So hk hm<|aY ((au+1:Nat):Int)<|By<|oi o▸⟨rfl,ck,j.sp 15 [0,1,2,3,4,5,6,7,8,9,10,11,12,13]⟩;rintro bg _ w o⟨cm,O,rfl,j⟩;refine aF<|IN<|w_<|mv v1<|RK 7 p1 j JH<|aY 0<|AI<|SZ E V (λ(bk:List Int)(bw:Value)=>[bc 93 b0 [e_,h_,a_,d_,k_,b_,f_,p_,o_,l_,i_,g_],rd a_ m_,rd d_ r_,rd b_ j_,rd f_ s_,rd i_ v_,rd g_ u_,pt (vp ad 0) (j_.length:Int),bc 101 ae [ag],mp ag ao,bc 102 aa [vp ab 0],bc 140 ab [bw],own 3 bw bk,rd v1 p1]) (λ_ _=>[(0,vp b0 0),(6,(.func (.func 42) #[] #[vp ad 0])),(7,vp ae 0),(10,vp aa 0)]) (λba _ _=>[(11,(.func (.func 44) #[] #[vp ae 0,vp aa 0])),(80,v1),(81,vi p1.length),(82,vi ba)]) o ?_ ?_ ?_;exact⟨cm,j.sp 14 [0,1,2,3,4,5,6,8,9,10,11,12,13,7]⟩;rintro hm ba bk s' _ w hk⟨cn,O,rfl,j⟩o;refine IN<|R6<|q_ o λa3 cp o=>RG 13 j JI cp λde j=>RQ 0 a3 j Cy λdf j=>Sj j MQ.z λdg w j=>?_;refine Sa 0 j 1 zr Cy λw j=>?_;refine IT<|AT zr xM<|OF 0 j zr pJ xJ<|Sk a3.Open<|AI<|q_ o λbl hj o=>RS (λ(bl:List Int)U w=>∃bb:Value,SH E V [(0,vp b0 0),(6,(.func (.func 42) #[] #[vp ad 0])),(7,vp ae 0),(10,vp aa 0),(11,(.func (.func 44) #[] #[vp ae 0,vp aa 0])),(80,v1),(81,vi p1.length),(82,vi ba)] [bc 93 b0 [e_,h_,a_,d_,k_,b_,f_,p_,o_,l_,i_,g_],rd a_ m_,rd d_ r_,rd b_ j_,rd f_ s_,rd i_ v_,rd g_ u_,pt (vp ad 0) (j_.length:Int),bc 101 ae [ag],mp ag ao,bc 102 aa [vp ab 0],bc 140 ab [bb],own 3 bb bl,rd v1 p1] U w) bl ?_ ?_;refine dP hj (λhj=>?_) λhj=>?_;refine IS<|mv (.func (.func 44) #[] #[vp ae 0,vp aa 0])<|AT zr DX<|OF 0 j zr wy cB<|AT zr DY<|OF 0 j zr wz cB ?_;have j:=((((j.pull 15).pull 15).pull 15).pull 15).pull 15;refine q_ hj λdh cq hj=>S8 [vp ae 0,vp aa 0] OM [vi a3.A,vi a3.B]<|gA (qJ N (p0:=a3.A) (p1:=a3.B) j cq) ?_;rintro _ w⟨cr,rfl,j⟩;exact By<|oi hj▸⟨rfl,cr,j.sp 22 [8,9,10,11,12,13,14,15,0,1,2,3,4,21]⟩;exact Se<|oi hj▸⟨rfl,cn,j.sp 17 [3,4,5,6,7,8,9,10,11,12,13,14,15,16]⟩;rintro _ w⟨bb,O,rfl,j⟩;exact bQ<|aF<|IS<|So hk hm<|aY ((ba+1:Nat):Int)<|By<|oi o▸⟨rfl,bb,j.sp 14 [0,1,2,3,4,5,6,7,8,9,10,11,12,13]⟩;rintro bk _ w o⟨ct,O,rfl,j⟩;refine aF<|w_<|TE (κ:=Int) (ν:=Int) zr j λay w j=>dV ay<|IT<|mv (vp b0 0)<|Sq zr<|AT zr qu<|AT zr mW<|R7 1 d_ j vz<|RK 3 r_ j Fb ?_;refine q_ o λdi cu o=>Tf (r_.length:Int) j vx M9 cu λav w j=>?_;refine dV av<|RD<|w_<|mv (vp b0 0)<|Sq zr<|AT zr GC<|R7 2 g_ j MH<|RK 8 u_ j QH<|aY 0<|AI<|SZ E V (λ(ai:List Int×List (Int×Int)×List Int)(bx:Value)=>[bc 93 b0 [e_,h_,a_,d_,k_,b_,f_,p_,o_,l_,i_,g_],rd a_ m_,rd d_ r_,rd b_ j_,rd f_ s_,rd i_ v_,rd g_ u_,pt (vp ad 0) (j_.length:Int),bc 101 ae [ag],mp ag ao,bc 102 aa [vp ab 0],bc 140 ab [bx],own 3 bx ai.1,mp ay ai.2.1,own 3 av ai.2.2]) (λ_ _=>[(0,vp b0 0),(19,av)]) (λak _ _=>[(6,(.func (.func 42) #[] #[vp ad 0])),(7,vp ae 0),(10,vp aa 0),(18,ay),(107,g_),(108,vi u_.length),(109,vi ak)]) o ?_ ?_ ?_;exact⟨ct,j.sp 16 [2,3,4,5,6,7,8,9,10,11,12,13,14,1,0]⟩;rintro hm ak ai s' _ w hk⟨bm,O,rfl,j⟩o;refine IN<|R6<|aY (ak:Int)<|q_ o λcv cw o=>RG 6 j Oe cw λdj j=>RQ 0 cv j wW λdk j=>Sj j KU.z λdm w j=>?_;refine aM (ak:Int)<|Sa 0 j 1 zr wW λw j=>?_;refine IT<|mv (.func (.func 42) #[] #[vp ad 0])<|R5 0 j zr wW λcx j=>?_;refine q_ o λar cy o=>S8 [vp ad 0] OK [cx]<|gA (qI N (i0:=0) (i1:=11) j zr zr cy) ?_;rintro _ w⟨rfl,j⟩;refine aM ar<|RD<|IN<|q_ o λbn hj o=>RS (λ(bn:Bool)=>SH E V [(0,vp b0 0),(6,(.func (.func 42) #[] #[vp ad 0])),(7,vp ae 0),(10,vp aa 0),(18,ay),(19,av),(20,vi ak),(22,vi ar),(107,g_),(108,vi u_.length),(109,vi ak),(129,vb bn)] [bc 93 b0 [e_,h_,a_,d_,k_,b_,f_,p_,o_,l_,i_,g_],rd a_ m_,rd d_ r_,rd b_ j_,rd f_ s_,rd i_ v_,rd g_ u_,pt (vp ad 0) (j_.length:Int),bc 101 ae [ag],mp ag ao,bc 102 aa [vp ab 0],bc 140 ab [bm],own 3 bm ai.1,mp ay ai.2.1,own 3 av ai.2.2]) bn ?_ ?_;refine IS<|mv (vp b0 0)<|Sq zr<|AT zr GB<|R7 4 i_ j ij<|aY (ak:Int)<|q_ hj λbo cz hj=>RG 9 j eW cz λdn j=>RY bo 0 j cB<|ic bo 0<|fN (decide<|bo<0)<|fp hj (λa1 hj=>?_) λa1 hj=>?_;exact bK a1<|bK a1<|bK a1<|eY a1 (vb true)<|By<|oi hj▸⟨rfl,j.sp 20 [5,6,7,8,9,10,11,12,13,14,15,16,17,18,19]⟩;refine R7 (hg:=cg a1) 13 ag j Fj<|RN (vi ar) (cg a1)<|Tm 14 ar (cg a1) j Hx<|eY a1 (vb<|fC ao ar (false:Bool))<|By ?_;obtain rfl:=oi hj;exact ⟨rfl,j.sp 20 [5,6,7,8,9,10,11,12,13,14,15,16,17,18,19]⟩;rintro _ w⟨O,rfl,j⟩;refine aF<|dP o (λo=>?_) λo=>?_;refine w_<|mv av<|aY (ak:Int)<|q_ o λdp bz o=>R8 14 j zr zr eW bz ?_;have j:=j.sc Int<|-1;refine SP 15 0 j bz cB λw j=>?_;exact AI<|Sh<|IZ<|aF<|IS<|So hk hm<|aY ((ak+1:Nat):Int)<|By<|oi o▸⟨rfl,bm,j.sp 16 [1,2,3,4,5,6,7,8,9,10,11,12,13,14,15]⟩;refine RW<|w_<|mv ay<|R7 10 (vp ab 0) j Fk<|aY ar ?_;have j:=(j.pull 12).pull 12;refine q_ o λa2 c0 o=>RU Ih (iE N (p1:=ar) j c0) ?_;rintro _ w⟨c1,rfl,j⟩;refine T1 15 a2.1 zt zr j zr zr zr Ag<|mv (.tuple #[vi<|fC ai.2.1 a2.1 (0:Int),vb<|lL ai.2.1 a2.1])<|Sw (vi<|fC ai.2.1 a2.1 (0:Int))<|Sw (vb<|lL ai.2.1 a2.1)<|aM (fC ai.2.1 a2.1 (0:Int))<|bZ (lL ai.2.1 a2.1)<|IT<|fN (lL ai.2.1 a2.1)<|Sk (lL ai.2.1 a2.1) ?_;refine AI<|q_ o λa5 hj o=>RS (λ(a5:List Int×List (Int×Int))U w=>∃bp:Value,SH E V [(0,vp b0 0),(6,(.func (.func 42) #[] #[vp ad 0])),(7,vp ae 0),(10,vp aa 0),(18,ay),(19,av),(20,vi ak),(22,vi ar),(107,g_),(108,vi u_.length),(109,vi ak)] [bc 93 b0 [e_,h_,a_,d_,k_,b_,f_,p_,o_,l_,i_,g_],rd a_ m_,rd d_ r_,rd b_ j_,rd f_ s_,rd i_ v_,rd g_ u_,pt (vp ad 0) (j_.length:Int),bc 101 ae [ag],mp ag ao,bc 102 aa [vp ab 0],bc 140 ab [bp],own 3 bp a5.1,mp ay a5.2,own 3 av ai.2.2] U w) a5 ?_ ?_;refine dP hj (λhj=>?_) λhj=>?_;refine IS<|mv ay<|R7 12 (vp ab 0) j Fk<|aY ar ?_;have j:=(j.pull 1).pull 1;refine q_ hj λc2 c3 hj=>RU Ih (iE N (p1:=ar) j c3) ?_;rintro _ w⟨c4,rfl,j⟩;refine aY (ak:Int) ?_;have j:=j.sc Int (ak:Int);exact TF 18 0 c2.1 j zr zr zr zr zr Ag λw j=>By<|oi hj▸⟨rfl,c4,j.sp 20 [5,6,7,8,9,10,11,12,13,14,15,1,2,18,19]⟩;exact Se<|oi hj▸⟨rfl,c1,j.sp 17 [2,3,4,5,6,7,8,9,10,11,12,0,1,15,16]⟩;rintro _ w⟨bp,O,rfl,j⟩;refine aF<|IS<|mv av<|aY (ak:Int)<|mv ay<|R7 10 (vp ab 0) j Fk<|aY ar ?_;have j:=(j.pull 12).pull 12;refine q_ o λb2 c5 o=>RU Ih (iE N (p1:=ar) j c5) ?_;rintro _ w⟨c6,rfl,j⟩;refine Tm 15 b2.1 zt j Ag<|q_ o λdq b3 o=>R8 16 j zr zr eW b3 ?_;have j:=j.sc Int<|fC a5.2 b2.1 (0:Int);refine SP 17 0 j b3 cB λw j=>?_;exact By<|bQ<|aF<|IS<|So hk hm<|aY ((ak+1:Nat):Int)<|By<|oi o▸⟨rfl,c6,j.sp 18 [3,4,5,6,7,8,9,10,11,12,13,1,2,16,17]⟩;rintro ai _ w o⟨dr,O,rfl,j⟩;refine aF<|w_<|mv av<|dV av<|AI<|RM ?_;obtain rfl:=oi o;exact bS<|j.pk 15 [14,0]
end Go.Gk
namespace Go.Gk
open Go IntKind Go.Proofs
variable (N:Nat){E w:World}{i0 i1 i2 i3:Nat}{p3 p4:Int}{v0 v1 v2 v3:Value}{V:List HP}
def yP(E:World)(V:List HP)(res:Bool×Int)(v:Value)(w:World):Prop:=v = .tuple #[vb res.1,vi res.2]/\Holds E w V
theorem xW{p0:gm}{p1:List mM}{p2 p3:eA}{res:Bool×Int}(j:Holds E w V)(h0:V[i0]? =some (rd v0 p0))(h1:V[i1]? =some (rd v1 p1))(h2:V[i2]? =some (rd v2 p2))(h3:V[i3]? =some (rd v3 p3))(o:jK N p0 p1 p2 p3=some res):
    c_ 15 [v0,v1,v2,v3] w<|yP E V res:=by
 unfold jK at o
 refine enter Tryz.func15 zr zr ?_
 have j:=(((j.dup (i0+0) h0).dup (i1+1) h1).dup (i2+2) h2).dup (i3+3) h3
 refine w_<|R1 3 v0 j zr λa0 w j=>?_
 have j:=j.ik (i:=0) rfl
 refine R1 2 v2 j zr λa1 w j=>?_
 have j:=j.ik (i:=0) rfl
 refine R1 2 v3 j zr λa2 w j=>?_
 have j:=j.ik (i:=0) rfl
 refine bZ false<|aM 0<|IT<|RQ 2 p0 j nT λa3 j=>?_
 obtain⟨ab,av,o⟩:=bd o
 refine RU Of (vR N (i0:=0) j zr av) ?_
 rintro _ w hK51
 rcases ai:ab.1 with _|a4
 ·replace o:=Mu ai o
  obtain⟨rfl,j⟩:=Jl ai hK51
  refine mv (.tuple #[(.pointer none),vi ab.2])<|Sw (.pointer none)<|Sw (vi ab.2)<|dV (.pointer none)<|aM ab.2<|RD<|w_<|aY ab.2<|ic ab.2 0 ?_
  refine AI<|dP o (λo=>?_) λo=>?_
  rotate_left
  ·cases o
  refine w_<|aY ab.2<|bZ false<|aM ab.2<|AI<|RZ ?_
  obtain rfl:=oi o
  exact ll ⟨rfl,j.drop 8⟩
 replace o:=Mv ai o
 obtain⟨ag,a5,a6,a7,a8,a9,ba,bb,bc,bf,bg,bh,bj,rfl,j⟩:=Jm ai hK51
 refine mv (.tuple #[vp ag 0,vi ab.2])<|Sw (vp ag 0)<|Sw (vi ab.2)<|dV (vp ag 0)<|aM ab.2<|RD<|w_<|aY ab.2<|ic ab.2 0 ?_
 refine AI<|dP o (λo=>?_) λo=>?_
 ·refine w_<|aY ab.2<|bZ false<|aM ab.2<|AI<|RZ ?_
  obtain rfl:=oi o
  exact ll ⟨rfl,j.drop 21⟩
 refine RW<|w_<|mv (vp ag 0)<|mv v1 ?_
 have j:=((((((((((((j.freeze 5).freeze 8).freeze 11).freeze 12).dup 12 rfl).dup 12 rfl).dup 12 rfl).dup 12 rfl).dup 12 rfl).dup 12 rfl).dup 12 rfl).dup 12 rfl).dup 12 rfl
 have j:=(((j.dup 12 rfl).dup 12 rfl).dup 12 rfl).pull 12
 obtain⟨ah,aw,o⟩:=bd o
 refine RI (gL Tryz.func22) (xf N (i1:=19) j zr aw) λw j=>aM ah<|IT<|aY ah<|ic ah 0<|AI<|dP o (λo=>?_) λo=>?_
 ·refine w_<|aY ah<|bZ false<|aM ah<|AI<|RZ ?_
  obtain rfl:=oi o
  exact ll ⟨rfl,j.drop 22⟩
 refine RW<|Ss mixed [0,0,2,1,1,2,0,0] [0,1,3,4,2,5,6,7] ?_
 have j:=j.drew
 refine RR zr<|RQ 17 p0 j nT λbk j=>bC zr<|RQ 17 p2 j nz λbl j=>RT<|SV p0 19 zr j nT λbm a56 bn j=>SV p3 19 zr j nz λbo a59 bp j=>Sr zr ?_
 obtain⟨ad,ax,o⟩:=bd o
 refine RI Ff (iF N (i0:=5) (i1:=4) j zr zr ax) λw j=>Sg (⟨⟨zt,j.f9 2⟩,j.f9 0⟩)<|Sr zr ?_
 obtain⟨af,ay,o⟩:=bd o
 refine RI Ff (iF N (i0:=3) (i1:=1) j zr zr ay) λw j=>Sg (⟨⟨zt,j.f9 2⟩,j.f9 0⟩)<|RR zr<|aM ad<|bC zr<|aM af<|RT ?_
 have j:=j.pl 28 [1,3,4,5,6,7,8,9,10,11,12,13,14,15,16,17,18,19,20,21,22,23,24,25,26,27]
 refine Sd<|aF<|IN<|w_<|aY ad<|ic ad 0<|fN (decide<|ad<0)<|BY true (decide<|ad<0) (vi af) rfl rfl rfl cF<|BY true (decide<|ad<0) (vb<|decide<|af<0) rfl rfl rfl (dB .lss .i64 af 0 rfl (by exact z_ (vi af)) (λ_=>rfl) rfl) ?_
 refine Sb (decide<|ad<0) (vb<|decide (ad<0)||decide (af<0)) (nG true)<|AI<|dP o (λo=>?_) λo=>?_
 ·refine w_<|bZ false<|aM 9<|AI<|RZ ?_
  obtain rfl:=oi o
  exact ll ⟨rfl,j.drop 26⟩
 refine Sz<|mv (vp ag 0)<|mv v1 ?_
 have j:=((((((j.dup 17 rfl).dup 17 rfl).dup 14 rfl).dup 14 rfl).dup 13 rfl).dup 13 rfl).pull 10
 obtain⟨bq,az,o⟩:=bd o
 refine RU (gL Tryz.func23) (zQ N (i1:=24) j zr az) λaj w j=>dV aj<|RD ?_
 obtain⟨ak,hj,o⟩:=bd o
 refine RS (λ(ak:Bool)=>SH E V [(8,vb ak),(9,vi 0)] []) ak ?_ ?_
 ·refine SF mixed ?_
  have j:=j.drew
  refine SE<|mv aj<|AS<|aY ad<|AS ?_
  obtain⟨ao,aq,hj⟩:=bd hj
  refine R8 0 j zr zr eW aq<|AS<|SO 0 j aq cB<|AS<|ic ao 0<|AS<|fN (decide<|ao>=0)<|fp hj (λaa hj=>?_) λaa hj=>?_
  rotate_left
  ·refine AS<|bK aa<|AS<|bK aa<|AS<|bK aa<|AS<|bK aa<|AS ?_
   refine bK aa<|AS<|bK aa<|AS<|bK aa<|AS<|bK aa<|AS<|bK aa ?_
   refine AS<|eY aa (vb false)<|AS<|bZ false<|AS<|aM 0<|Sy ?_
   obtain rfl:=oi hj
   exact⟨rfl,j.sp 28 []⟩
  refine AS<|RN aj (cg aa)<|AS<|RN (vi ad) (cg aa)<|AS ?_
  obtain⟨al,ar,hj⟩:=bd hj
  refine R8 (hg:=cg aa) 0 j zr zr eW ar<|AS<|SO (hg:=cg aa) 0 j ar cB<|AS<|RN aj (cg aa)<|AS<|RN (vi af) (cg aa)<|AS ?_
  obtain⟨an,au,hj⟩:=bd hj
  refine R8 (hg:=cg aa) 0 j zr zr eW au<|AS<|SO (hg:=cg aa) 0 j au cB<|AS<|St al an (cg aa)<|AS<|eY aa (vb<|al==an)<|AS<|bZ (al==an) ?_
  refine AS<|aM 0<|Sy ?_
  obtain rfl:=oi hj
  exact⟨rfl,j.sp 28 []⟩
 rintro _ w⟨O,rfl,j⟩
 refine aF<|RM ?_
 obtain rfl:=oi o
 exact ll ⟨rfl,j.drop 0⟩
theorem tL{res:Bool}(j:Holds E w V)(hb:ju N=some res):c_ 6 [] w<|aX E V res:=by
 unfold ju at hb;refine enter Tryz.func6 zr zr<|w_<|bZ false<|IT ?_;have j:=(j.sc Int 1).sc Int 1;refine SI (⟨0,0,1,1⟩:aH) trivial rfl j [(2,vi 1),(3,vi 1)] rfl Fa rfl (λM hs g=>by have h:=uq M;exact cO.cons (f:=λ(x:aH)y=>{x with X1:=y}) h pI (g.sat 1 _ rfl).1 λ_ h=>cO.cons (f:=λ(x:aH)y=>{x with Y1:=y}) h ry (g.sat 0 _ rfl).1 λ_ h=>cO.nil h) λae j=>?_;refine Su ([(⟨0,0,1,1⟩:aH)]:List aH) j [ae] jL pz (λM hs g=>⟨(g.sat 0 _ zr).1,zt⟩) λaf w j=>?_;have j:=j.freeze 0;refine Su ([([(⟨0,0,1,1⟩:aH)]:List aH)]:List (List aH)) j [af] yy ME (λM hs g=>⟨(g.sat 0 _ zr).1,zt⟩) λad w j=>?_;have j:=(j.sc eC ⟨[97]⟩).sc eC ⟨[49]⟩;refine SI (⟨⟨[97]⟩,⟨[49]⟩,0,⟨0,0⟩⟩:dN) trivial rfl j [(0,str ⟨[97]⟩),(1,str ⟨[49]⟩)] rfl QB rfl (λM hs g=>by have h:=MA M;exact cO.cons (f:=λ(x:dN)y=>{x with Part:=y}) h H8 (g.sat 1 _ rfl).1 λ_ h=>cO.cons (f:=λ(x:dN)y=>{x with eA:=y}) h H9 (g.sat 0 _ rfl).1 λ_ h=>cO.nil h) λag j=>?_;refine Su ([(⟨⟨[97]⟩,⟨[49]⟩,0,⟨0,0⟩⟩:dN)]:List dN) j [ag] yA Jv (λM hs g=>⟨(g.sat 0 _ zr).1,zt⟩) λaa w j=>T2 (zs:=[n_,n_,n_,n_]) (cs:=[ad,n_,n_,aa]) zt zr [(0,ad),(3,aa)] zr QC ⟨kM 4 j,kM 0 j,zt⟩ zr<|Sj j QD.z λai w j=>?_;have j:=((((j.freeze 5).xy aH).xy cJ).freeze 3).Je (cs:=[ad,n_,n_,aa]) (x:=(⟨([([(⟨0,0,1,1⟩:aH)]:List aH)]:List (List aH)),([]:List aH),([]:List cJ),([(⟨⟨[97]⟩,⟨[49]⟩,0,⟨0,0⟩⟩:dN)]:List dN)⟩:gm)) (λM hs g=>⟨[ad],[n_,n_,aa],rfl,vl (g.sat 7 _ rfl).1,⟨[n_],[n_,aa],rfl,vl (g.sat 1 _ rfl).1,⟨[n_],[aa],rfl,vl (g.sat 0 _ rfl).1,vl (g.sat 3 _ rfl).1⟩⟩⟩) rfl;refine Sa 3 j 0 zr nT λw j=>?_;refine IT<|R5 3 j zr nT λaj j=>?_;have j:=(j.sc eC ⟨[97]⟩).sc eC ⟨[49]⟩;refine SI (⟨⟨[97]⟩,⟨[49]⟩⟩:eA) trivial rfl j [(0,str ⟨[97]⟩),(1,str ⟨[49]⟩)] rfl MC rfl (λM hs g=>by have h:=Jt M;exact cO.cons (f:=λ(x:eA)y=>{x with Part:=y}) h Bf (g.sat 1 _ rfl).1 λ_ h=>cO.cons (f:=λ(x:eA)y=>{x with eA:=y}) h Bg (g.sat 0 _ rfl).1 λ_ h=>cO.nil h) λak j=>?_;have j:=(j.sc eC ⟨[97]⟩).sc eC ⟨[49]⟩;refine SI (⟨⟨[97]⟩,⟨[49]⟩⟩:eA) trivial rfl j [(0,str ⟨[97]⟩),(1,str ⟨[49]⟩)] rfl MC rfl (λM hs g=>by have h:=Jt M;exact cO.cons (f:=λ(x:eA)y=>{x with Part:=y}) h Bf (g.sat 1 _ rfl).1 λ_ h=>cO.cons (f:=λ(x:eA)y=>{x with eA:=y}) h Bg (g.sat 0 _ rfl).1 λ_ h=>cO.nil h) λal j=>?_;have j:=j.xy mM;refine q_ hb λo ah hb=>RI (gL Tryz.func15) (xW N (i0:=7) (i1:=0) (i2:=4) (i3:=1) j zr zr zr zr ah) λw j=>mv (.tuple #[vb o.1,vi o.2])<|Sw (vb o.1)<|Sw (vi o.2)<|bZ o.1<|aM o.2<|IT<|aY o.2<|ic o.2 0<|fN (o.2==0)<|BY true (o.2==0) (vb o.1) zr zr zr cF<|Sb (o.2==0) (vb<|(o.2==0)&&o.1) (fE true)<|bZ ((o.2==0)&&o.1)<|AI<|RM ?_;exact oi hb▸bS ⟨rfl,j.drop 21⟩
theorem nC{p0:gm}{p1:List Test}{p2:List Touch}{res:Bool}(hw:Holds E w V)(h0:V[i0]? =some (rd v0 p0))(h1:V[i1]? =some (rd v1 p1))(h2:V[i2]? =some (rd v2 p2))(hb:dK N p0 p1 p2 p3 p4=some res):c_ 3 [v0,v1,v2,vi p3,vi p4] w<|aX E V res:=by
 unfold dK at hb;refine enter Tryz.func3 zr zr ?_;have hw:=((hw.dup (i0+0) h0).dup (i1+1) h1).dup (i2+2) h2;refine w_<|R1 2 v0 hw zr λak w hw=>?_;refine bZ false<|IT<|R5 0 hw zr nT λal hw=>mv v1<|mv v2<|aY p3<|aY p4<|q_ hb λj ah hb=>RI (gL Tryz.func4) (CE N (p3:=p3) (p4:=p4) (i0:=0) (i1:=3) (i2:=2) hw zr zr zr ah) λw hw=>mv (.tuple #[vi j.1,vi j.2])<|Sw (vi j.1)<|Sw (vi j.2)<|aM j.1<|aM j.2<|IT<|R5 1 hw zr nT λan hw=>mv v1 ?_;refine mv v2<|aY p3<|aY p4<|q_ hb λo ai hb=>RI (gL Tryz.func5) (uC N (p3:=p3) (p4:=p4) (i0:=0) (i1:=4) (i2:=3) hw zr zr zr ai) λw hw=>mv (.tuple #[vi o.1,vi o.2])<|Sw (vi o.1)<|Sw (vi o.2)<|aM o.1<|aM o.2<|RD<|q_ hb λaf hj hb=>RS (λ(af:Bool)=>SH E V [(10,vb af)] []) af ?_ ?_;refine IS<|aY j.1<|aY o.1<|ic j.1 o.1<|fN (j.1==o.1)<|BY true (j.1==o.1) (vi j.2) rfl rfl rfl cF<|BY true (j.1==o.1) (vi o.2) rfl rfl rfl cF<|BY true (j.1==o.1) (vb<|j.2==o.2) rfl rfl rfl (dB .eql .i64 j.2 o.2 rfl (by exact z_ (vi j.2)) (by exact z_ (vi o.2)) rfl)<|Sb (j.1==o.1) (vb<|(j.1==o.1)&&(j.2==o.2)) (fE true) ?_;refine fN ((j.1==o.1)&&(j.2==o.2))<|fp hj (λae hj=>?_) λae hj=>?_;exact q_ hj λag aj hj=>RI (hg:=cg ae) (gL Tryz.func6) (tL N hw aj) λw hw=>eY ae (vb ag)<|bZ ag<|By<|oi hj▸⟨rfl,hw.sp 6 []⟩;exact bK ae<|eY ae (vb false)<|bZ false<|By<|oi hj▸⟨rfl,hw.sp 6 []⟩;rintro _ w⟨O,rfl,hw⟩;exact aF<|RM<|oi hb▸bS ⟨rfl,hw.drop 0⟩
end Go.Gk
