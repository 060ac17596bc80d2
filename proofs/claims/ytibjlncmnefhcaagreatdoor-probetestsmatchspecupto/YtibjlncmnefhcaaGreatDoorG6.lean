/-
  Printed texts: Go functions as plain functions, and that they are. No statement of the seed is proved here.
-/
import Derived.Test.YtibjlncmnefhcaaGreatDoorG1
import Derived.Test.YtibjlncmnefhcaaGreatDoorG2
import Derived.Test.YtibjlncmnefhcaaGreatDoorG3
import Derived.Test.YtibjlncmnefhcaaGreatDoorG5
import Derived.Test.YtibjlncmnefhcaaGreatDoorG4
import Derived.Test.YtibjlncmnefhcaaGreatDoorA2
set_option linter.defProp false
set_option linter.unusedVariables false
set_option linter.unusedSimpArgs false
set_option linter.unusedSectionVars false
set_option maxRecDepth 100000
set_option maxHeartbeats 40000000
open Bool renaming true→aA,false→aK
open List renaming length→Z
open Option renaming bind→D,some→O
namespace Go.Gk
open Go IntKind Go.Proofs
variable (N:Nat){E w:aT}{b1 x i0 i1 i1c1 i2:Nat}{a g C p2 p3 res:Int}{l r D s A G:F}{V:aG HP}
def BO{a:ir}{g:aG bX}{res:aG k}(j:B E w V)(i:eo V i0 l a)(h1:eo V i1 r g)(o:kO N a g=O res):
    c_ 41 [l,r] w<|qH E V res:=by
 unfold kO at o
 refine cI Tryz.func41 b b ?_
 have j:=(j.dup (i0+0) i).dup (i1+1) h1
 refine IT<|eh 1 l j b λa5 w j=>?_
 refine c ?_
 refine ol E V (λ(a0:aG bA×Int)(i:F)=>[Y r g,bx 32 a5 a,own 157 i a0.1]) (λ_ i=>[(1,r),(5,i)]) (λa0 _=>[(2,h a5 0),(6,e a0.2)]) o ?_ ?_ ?_
 ·have j:=j.cO bA 157
  exact⟨n_,j.sp 4 [2,1,0]⟩
 ·rintro a0 fl _ w⟨i,aa,rfl,j⟩o
  refine c ?_
  refine IS 0 g j uC<|c ?_
  refine u o (λo=>?_) λo=>?_
  rotate_left
  ·refine fk ?_
   obtain rfl:=f o
   exact⟨rfl,i,j.sp 3 [0,1,2]⟩
  refine c ?_
  refine ol E V (λ(a1:aG bA×Int)(bs:F)=>[Y r g,bx 32 a5 a,own 157 bs a1.1]) (λ_ bs=>[(1,r),(2,h a5 0),(5,bs),(6,e a0.2)]) (λa1 _=>[(7,e a1.2)]) o ?_ ?_ ?_
  ·exact⟨i,j.sp 3 [0,1,2]⟩
  ·rintro a1 fl _ w⟨ba,aa,rfl,j⟩o
   refine c ?_
   refine IS 0 g j uC<|c ?_
   refine u o (λo=>?_) λo=>?_
   rotate_left
   ·refine fk ?_
    obtain rfl:=f o
    exact⟨rfl,ba,j.sp 3 [0,1,2]⟩
   refine hG<|dt<|cF ?_
   obtain⟨bt,cj,o⟩:=bd o
   obtain⟨i,cm,o⟩:=bd o
   obtain⟨bk,cn,o⟩:=bd o
   obtain⟨bu,cp,o⟩:=bd o
   obtain⟨q,cr,o⟩:=bd o
   obtain⟨bl,ct,o⟩:=bd o
   obtain⟨a6,cu,o⟩:=bd o
   refine q_ E V m [1,0,0,1,1,0,0,0,0,0,0,1,0,0,1,1,0,0,0,0,0,0,0,1,1,0,0,0] [1,2,5,6,8,9,10,12,13,16,17,19,20,21,25,26,27] (λ(x:F×F×F×F×F×F×F×F×F×F×F×F×F×F×F×Nat)=>(λz A C D G H K L M P Q R S T U v=>[(0,32,h a5 3),(1,33,z),(2,34,A),(3,35,r),(4,36,e a0.2),(5,37,C),(6,38,D),(7,39,e i),(8,40,G),(9,41,H),(10,42,K),(11,43,h a5 3),(12,44,L),(13,45,M),(14,46,r),(15,47,e a1.2),(16,48,P),(17,49,Q),(18,50,e q),(19,51,R),(20,52,S),(21,53,T),(22,54,e a6),(23,55,e a0.2),(24,56,e a1.2),(25,57,U),(26,8,h v 0)]) x.1 x.2.1 x.2.2.1 x.2.2.2.1 x.2.2.2.2.1 x.2.2.2.2.2.1 x.2.2.2.2.2.2.1 x.2.2.2.2.2.2.2.1 x.2.2.2.2.2.2.2.2.1 x.2.2.2.2.2.2.2.2.2.1 x.2.2.2.2.2.2.2.2.2.2.1 x.2.2.2.2.2.2.2.2.2.2.2.1 x.2.2.2.2.2.2.2.2.2.2.2.2.1 x.2.2.2.2.2.2.2.2.2.2.2.2.2.1 x.2.2.2.2.2.2.2.2.2.2.2.2.2.2.1 x.2.2.2.2.2.2.2.2.2.2.2.2.2.2.2) [(1,r),(2,h a5 0),(5,ba),(6,e a0.2),(7,e a1.2)] [] (λ(s:Nat->Bool)(x:F×F×F×F×F×F×F×F×F×F×F×F×F×F×F×Nat)=>(λz A C D G H K L M P Q R S T U v=>[bif s 0 then Y z a.cA else aW,bif s 1 then Y A a else aW,bif s 2 then pt C bt else aW,bif s 3 then Y D bt else aW,bif s 4 then pt G bk else aW,bif s 5 then pt H bk.At else aW,bif s 6 then Y K bk.At else aW,bif s 7 then Y L a.cA else aW,bif s 8 then Y M a else aW,bif s 9 then pt P bu else aW,bif s 10 then Y Q bu else aW,bif s 11 then pt R bl else aW,bif s 12 then pt S bl.At else aW,bif s 13 then Y T bl.At else aW,bif s 14 then Y U (⟨a6,a0.2,a1.2⟩:bA)else aW,bif s 16 then bx 157 v (⟨a6,a0.2,a1.2⟩:bA)else(bif s 15 then k3 157 v 3 else aW),Y r g,bx 32 a5 a,own 157 ba a1.1]) x.1 x.2.1 x.2.2.1 x.2.2.2.1 x.2.2.2.2.1 x.2.2.2.2.2.1 x.2.2.2.2.2.2.1 x.2.2.2.2.2.2.2.1 x.2.2.2.2.2.2.2.2.1 x.2.2.2.2.2.2.2.2.2.1 x.2.2.2.2.2.2.2.2.2.2.1 x.2.2.2.2.2.2.2.2.2.2.2.1 x.2.2.2.2.2.2.2.2.2.2.2.2.1 x.2.2.2.2.2.2.2.2.2.2.2.2.2.1 x.2.2.2.2.2.2.2.2.2.2.2.2.2.2.1 x.2.2.2.2.2.2.2.2.2.2.2.2.2.2.2) (λx=>by kernel_rfl) ?_ ⟨λ_=>oY gn qP,?_,?_,λ_=>jd gn,λ_=>jd gn,?_,?_,?_,?_,?_,?_,λ_=>oY gn qP,?_,?_,λ_=>jd gn,λ_=>jd gn,?_,?_,?_,?_,?_,?_,?_,λ_=>jd gn,λ_=>jd gn,?_,?_,?_,trivial⟩ ?_
   ·have j:=((((((((((((j.drew).aW).aW).aW).aW).aW).aW).aW).aW).aW).aW).aW).aW
    have j:=(((j.aW).aW).aW).aW
    exact⟨(undef,undef,undef,undef,undef,undef,undef,undef,undef,undef,undef,undef,undef,undef,undef,0),eT.none,J9 b,zt,j⟩
   ·rintro s ab w X q a2⟨⟨z,A,C,D,G,H,K,L,M,P,Q,R,S,T,U,v⟩,i,W,_,j⟩
    dsimp only at i j
    obtain⟨aa,rfl⟩:=i.o1 0 q
    have j:=j.bZ 0 X
    refine em 17 j b mu Cy λcv j=>?_
    have j:=j.nw 0
    exact y (cv,A,C,D,G,H,K,L,M,P,Q,R,S,T,U,v) 1 i W j
   ·rintro s ab w X q a2⟨⟨z,A,C,D,G,H,K,L,M,P,Q,R,S,T,U,v⟩,i,W,_,j⟩
    dsimp only at i j
    obtain⟨aa,rfl⟩:=W.v8
    have j:=j.bZ 1 X
    refine eX 17 j b pD λcw j=>?_
    have j:=j.nw 1
    exact y (z,cw,C,D,G,H,K,L,M,P,Q,R,S,T,U,v) 2 i W j
   ·rintro s ab w X q a2⟨⟨z,A,C,D,G,H,K,L,M,P,Q,R,S,T,U,v⟩,i,W,_,j⟩
    dsimp only at i j
    obtain⟨aa,rfl⟩:=i.o2 3 4 q
    have j:=j.bZ 2 X
    refine By 16 j th cj λcx j=>?_
    have j:=j.nw 2
    exact y (z,A,cx,D,G,H,K,L,M,P,Q,R,S,T,U,v) 5 i W j
   ·rintro s ab w X q a2⟨⟨z,A,C,D,G,H,K,L,M,P,Q,R,S,T,U,v⟩,i,W,_,j⟩
    dsimp only at i j
    obtain⟨aa,rfl⟩:=i.o1 5 q
    have j:=(j.dF 2<|q.1 rfl).bZ 3 X
    refine t 2 bt j fF λcy j=>?_
    have j:=((j.pl 20 [1,2,3,0,5,6,7,8,9,10,11,12,13,14,15,16,17,18,19]).cL 2 (s 5) (q.1 rfl) aW).cL 3 aA rfl aW
    exact y (z,A,C,cy,G,H,K,L,M,P,Q,R,S,T,U,v) 6 i W j
   ·rintro s ab w X q a2⟨⟨z,A,C,D,G,H,K,L,M,P,Q,R,S,T,U,v⟩,i,W,_,j⟩
    dsimp only at i j
    obtain⟨aa,rfl⟩:=i.o2 2 6 q
    have j:=(j.dF 1<|q.1 rfl).dF 3<|q.2.1 rfl
    refine IN Zu (pU N (i0:=1) (i1:=3) j b b cm) λw j=>?_
    have j:=(j.cL 1 (s 2) (q.1 rfl) aW).cL 3 (s 6) (q.2.1 rfl) aW
    exact y (z,A,C,D,G,H,K,L,M,P,Q,R,S,T,U,v) 7 i W j
   ·rintro s ab w X q a2⟨⟨z,A,C,D,G,H,K,L,M,P,Q,R,S,T,U,v⟩,i,W,_,j⟩
    dsimp only at i j
    obtain⟨aa,rfl⟩:=i.o2 1 7 q
    have j:=(j.dF 0<|q.1 rfl).bZ 4 X
    refine By 0 j Bm cn λcz j=>?_
    have j:=((j.pl 20 [1,2,3,4,0,6,7,8,9,10,11,12,13,14,15,16,17,18,19]).cL 0 (s 1) (q.1 rfl) aW).cL 4 aA rfl aW
    exact y (z,A,C,D,cz,H,K,L,M,P,Q,R,S,T,U,v) 8 i W j
   ·rintro s ab w X q a2⟨⟨z,A,C,D,G,H,K,L,M,P,Q,R,S,T,U,v⟩,i,W,_,j⟩
    dsimp only at i j
    obtain⟨aa,rfl⟩:=i.o1 8 q
    have j:=(j.dF 4<|q.1 rfl).bZ 5 X
    refine fq 4 j b wM nL λc0 j=>?_
    have j:=((j.pl 20 [1,2,3,4,5,0,7,8,9,10,11,12,13,14,15,16,17,18,19]).cL 4 (s 8) (q.1 rfl) aW).cL 5 aA rfl aW
    exact y (z,A,C,D,G,c0,K,L,M,P,Q,R,S,T,U,v) 9 i W j
   ·rintro s ab w X q a2⟨⟨z,A,C,D,G,H,K,L,M,P,Q,R,S,T,U,v⟩,i,W,_,j⟩
    dsimp only at i j
    obtain⟨aa,rfl⟩:=i.o1 9 q
    have j:=(j.dF 5<|q.1 rfl).bZ 6 X
    refine t 5 bk.At j tN λc1 j=>?_
    have j:=((j.pl 20 [1,2,3,4,5,6,0,8,9,10,11,12,13,14,15,16,17,18,19]).cL 5 (s 9) (q.1 rfl) aW).cL 6 aA rfl aW
    exact y (z,A,C,D,G,H,c1,L,M,P,Q,R,S,T,U,v) 10 i W j
   ·rintro s ab w X q a2⟨⟨z,A,C,D,G,H,K,L,M,P,Q,R,S,T,U,v⟩,i,W,_,j⟩
    dsimp only at i j
    obtain⟨aa,rfl⟩:=i.o1 11 q
    have j:=j.bZ 7 X
    refine em 17 j b mu Cy λc2 j=>?_
    have j:=j.nw 7
    exact y (z,A,C,D,G,H,K,c2,M,P,Q,R,S,T,U,v) 12 i W j
   ·rintro s ab w X q a2⟨⟨z,A,C,D,G,H,K,L,M,P,Q,R,S,T,U,v⟩,i,W,_,j⟩
    dsimp only at i j
    obtain⟨aa,rfl⟩:=W.v8
    have j:=j.bZ 8 X
    refine eX 17 j b pD λc3 j=>?_
    have j:=j.nw 8
    exact y (z,A,C,D,G,H,K,L,c3,P,Q,R,S,T,U,v) 13 i W j
   ·rintro s ab w X q a2⟨⟨z,A,C,D,G,H,K,L,M,P,Q,R,S,T,U,v⟩,i,W,_,j⟩
    dsimp only at i j
    obtain⟨aa,rfl⟩:=i.o2 14 15 q
    have j:=j.bZ 9 X
    refine By 16 j th cp λc4 j=>?_
    have j:=j.nw 9
    exact y (z,A,C,D,G,H,K,L,M,c4,Q,R,S,T,U,v) 16 i W j
   ·rintro s ab w X q a2⟨⟨z,A,C,D,G,H,K,L,M,P,Q,R,S,T,U,v⟩,i,W,_,j⟩
    dsimp only at i j
    obtain⟨aa,rfl⟩:=i.o1 16 q
    have j:=(j.dF 9<|q.1 rfl).bZ 10 X
    refine t 9 bu j fF λc5 j=>?_
    have j:=((j.pl 20 [1,2,3,4,5,6,7,8,9,10,0,12,13,14,15,16,17,18,19]).cL 9 (s 16) (q.1 rfl) aW).cL 10 aA rfl aW
    exact y (z,A,C,D,G,H,K,L,M,P,c5,R,S,T,U,v) 17 i W j
   ·rintro s ab w X q a2⟨⟨z,A,C,D,G,H,K,L,M,P,Q,R,S,T,U,v⟩,i,W,_,j⟩
    dsimp only at i j
    obtain⟨aa,rfl⟩:=i.o2 13 17 q
    have j:=(j.dF 8<|q.1 rfl).dF 10<|q.2.1 rfl
    refine IN Zu (pU N (i0:=8) (i1:=10) j b b cr) λw j=>?_
    have j:=(j.cL 8 (s 13) (q.1 rfl) aW).cL 10 (s 17) (q.2.1 rfl) aW
    exact y (z,A,C,D,G,H,K,L,M,P,Q,R,S,T,U,v) 18 i W j
   ·rintro s ab w X q a2⟨⟨z,A,C,D,G,H,K,L,M,P,Q,R,S,T,U,v⟩,i,W,_,j⟩
    dsimp only at i j
    obtain⟨aa,rfl⟩:=i.o2 12 18 q
    have j:=(j.dF 7<|q.1 rfl).bZ 11 X
    refine By 7 j Bm ct λc6 j=>?_
    have j:=((j.pl 20 [1,2,3,4,5,6,7,8,9,10,11,0,13,14,15,16,17,18,19]).cL 7 (s 12) (q.1 rfl) aW).cL 11 aA rfl aW
    exact y (z,A,C,D,G,H,K,L,M,P,Q,c6,S,T,U,v) 19 i W j
   ·rintro s ab w X q a2⟨⟨z,A,C,D,G,H,K,L,M,P,Q,R,S,T,U,v⟩,i,W,_,j⟩
    dsimp only at i j
    obtain⟨aa,rfl⟩:=i.o1 19 q
    have j:=(j.dF 11<|q.1 rfl).bZ 12 X
    refine fq 11 j b wM nL λc7 j=>?_
    have j:=((j.pl 20 [1,2,3,4,5,6,7,8,9,10,11,12,0,14,15,16,17,18,19]).cL 11 (s 19) (q.1 rfl) aW).cL 12 aA rfl aW
    exact y (z,A,C,D,G,H,K,L,M,P,Q,R,c7,T,U,v) 20 i W j
   ·rintro s ab w X q a2⟨⟨z,A,C,D,G,H,K,L,M,P,Q,R,S,T,U,v⟩,i,W,_,j⟩
    dsimp only at i j
    obtain⟨aa,rfl⟩:=i.o1 20 q
    have j:=(j.dF 12<|q.1 rfl).bZ 13 X
    refine t 12 bl.At j tN λc8 j=>?_
    have j:=((j.pl 20 [1,2,3,4,5,6,7,8,9,10,11,12,13,0,15,16,17,18,19]).cL 12 (s 20) (q.1 rfl) aW).cL 13 aA rfl aW
    exact y (z,A,C,D,G,H,K,L,M,P,Q,R,S,c8,U,v) 21 i W j
   ·rintro s ab w X q a2⟨⟨z,A,C,D,G,H,K,L,M,P,Q,R,S,T,U,v⟩,i,W,_,j⟩
    dsimp only at i j
    obtain⟨aa,rfl⟩:=i.o2 10 21 q
    have j:=(j.dF 6<|q.1 rfl).dF 13<|q.2.1 rfl
    refine IN (eP Tryz.func89) (CL N (i0:=6) (i1:=13) j b b cu) λw j=>?_
    have j:=(j.cL 6 (s 10) (q.1 rfl) aW).cL 13 (s 21) (q.2.1 rfl) aW
    exact y (z,A,C,D,G,H,K,L,M,P,Q,R,S,T,U,v) 22 i W j
   ·rintro s ab w X q a2⟨⟨z,A,C,D,G,H,K,L,M,P,Q,R,S,T,U,v⟩,i,W,_,j⟩
    dsimp only at i j
    obtain⟨aa,rfl⟩:=(ac (i.at 22 rfl<|q.1 rfl)<|ac (i.at 23 rfl<|q.2.1 rfl)<|ac (i.at 24 rfl<|q.2.2.1 rfl) az).v8
    have j:=(((j.bZ 14 X).sc Int a6).sc Int a0.2).sc Int a1.2
    refine lw (⟨a6,a0.2,a1.2⟩:bA) trivial rfl j [(0,e a6),(1,e a0.2),(2,e a1.2)] rfl abT rfl (λag hs af=>by have ad:=Cx ag;exact cC.cons (f:=λ(x:bA)ae=>{x with length:=ae}) ad zu (af.sat 2 _ rfl).1 λ_ ad=>cC.cons (f:=λ(x:bA)ae=>{x with a:=ae}) ad zv (af.sat 1 _ rfl).1 λ_ ad=>cC.cons (f:=λ(x:bA)ae=>{x with b:=ae}) ad zw (af.sat 0 _ rfl).1 λ_ ad=>cC.nil ad) λc9 j=>?_
    have j:=(j.pl 23 [4,5,6,7,8,9,10,11,12,13,14,15,16,17,0,19,20,21,22]).cL 14 aA rfl aW
    exact y (z,A,C,D,G,H,K,L,M,P,Q,R,S,T,c9,v) 25 i W j
   ·rintro s ab w X q a2⟨⟨z,A,C,D,G,H,K,L,M,P,Q,R,S,T,U,v⟩,i,W,_,j⟩
    dsimp only at i j
    obtain⟨aa,rfl⟩:=Tj ab
    have j:=(j.bZ 15<|nh a2 X 27).bZ 15 X
    refine f_ j Yx.z λb4 w j=>?_
    have j:=(j.nw 15).fO 15 (s 27) (nh a2 X 27)<|bx 157 b4 (⟨a6,a0.2,a1.2⟩:bA)
    exact y (z,A,C,D,G,H,K,L,M,P,Q,R,S,T,U,b4) 26 i W j
   ·rintro s ab w X q a2⟨⟨z,A,C,D,G,H,K,L,M,P,Q,R,S,T,U,v⟩,i,W,_,j⟩
    dsimp only at i j
    obtain⟨aa,rfl⟩:=i.o2 26 25 q
    have j:=((j.dF 14<|q.2.1 rfl).bZ 15 X).dF 15<|q.1 rfl
    refine fv 15 j 14 b Yy λw j=>?_
    have j:=(j.cL 14 (s 25) (q.2.1 rfl) aW).cL 15 aA rfl (bif s 26 then k3 157 v 3 else aW)
    exact qr (z,A,C,D,G,H,K,L,M,P,Q,R,S,T,U,v) i W j
   rintro s ab w q⟨⟨z,A,C,D,G,H,K,L,M,P,Q,R,S,T,U,v⟩,i,W,_,j⟩
   simp only[List.getD_cons_zero,List.getD_cons_succ,q 1 I,q 2 I,q 5 I,q 6 I,q 8 I,q 9 I,q 10 I,q 12 I,q 13 I,q 16 I,q 17 I,q 19 I,q 20 I,q 21 I,q 25 I,q 27 I,aN]at j
   obtain⟨aa,rfl⟩:=(ac (i.at 26 rfl<|tL q 26) W).v8
   refine c ?_
   refine lc (i:=18) (l:=a1.1) zt b j b b Yz<|c ?_
   refine m0 E V (λ(q:Int)=>[Y r g,bx 32 a5 a,own 157 ba a1.1,bx 157 v (⟨a6,a0.2,a1.2⟩:bA)]) (λq=>[(1,r),(2,h a5 0),(5,ba),(6,e a0.2),(7,e a1.2),(8,h v 0),(9,e q)]) (λ_=>[]) o ?_ ?_ ?_
   ·exact j.sp 19 [16,17,18,15]
   ·rintro q fl _ w⟨aa,rfl,j⟩o
    refine cF<|cF ?_
    obtain⟨s,i,o⟩:=bd o
    refine dz (λ(s:Bool)=>SH E V [(1,r),(2,h a5 0),(5,ba),(6,e a0.2),(7,e a1.2),(8,h v 0),(9,e q),(72,vb s)] [Y r g,bx 32 a5 a,own 157 ba a1.1,bx 157 v (⟨a6,a0.2,a1.2⟩:bA)]) s ?_ ?_
    ·refine k6 m ?_
     have j:=j.drew
     refine k5<|d ?_
     refine dU i (λs i=>?_) λs i=>?_
     rotate_left
     ·refine c ?_
      obtain rfl:=f i
      exact⟨rfl,j.sp 4 [0,1,2,3]⟩
     refine d ?_
     obtain⟨s,s,i⟩:=bd i
     refine ep 2 j b b ID s<|a_<|pe (α:=bA) (qM 2 j s 0) Sp<|a_<|sb 2 j (qM 2 j s 0) (eB s).2.1 tc n<|a_<|p b Sp<|a_<|BY 3 j b tc n ?_
     refine c ?_
     obtain rfl:=f i
     exact⟨rfl,j.sp 4 [0,1,2,3]⟩
    rintro _ w⟨aa,rfl,j⟩
    refine bE<|u o (λo=>?_) λo=>?_
    rotate_left
    ·refine fk ?_
     obtain rfl:=f o
     exact⟨rfl,j.sp 4 [0,1,2,3]⟩
    refine rx<|dt<|b_<|d ?_
    refine J<|cP ?_
    obtain rfl:=f o
    exact⟨rfl,j.sp 4 [0,1,2,3]⟩
   rintro q _ w o⟨aa,rfl,j⟩
   refine c ?_
   have j:=j.freeze 2
   obtain⟨q,q,o⟩:=bd o
   refine rs (hl:= .inr ⟨rfl,b⟩) 2 j ID q λq j=>?_
   have j:=j.cO bA 157
   obtain⟨q,q,o⟩:=bd o
   refine j0 0 1 j Vs q λq w j=>?_
   refine c ?_
   refine eX 5 j b Yy λq j=>js ([(⟨a6,a0.2,a1.2⟩:bA)]:aG bA) j [q] ID Yx (λ_ _=>j4) λq w j=>?_
   have j:=j.freeze 0
   obtain⟨q,q,o⟩:=bd o
   refine j0 2 0 j Vs q λq w j=>?_
   refine c ?_
   obtain⟨q,q,o⟩:=bd o
   refine rs (hh:= .inr ⟨rfl,b⟩) 6 j ID q λq j=>?_
   obtain⟨q,q,o⟩:=bd o
   refine j0 3 0 j Vs q λq w j=>?_
   refine xe q<|J<|cP<|bE<|b_<|d ?_
   refine J ?_
   obtain rfl:=f o
   exact⟨rfl,q,j.sp 9 [5,6,3]⟩
  rintro a1 _ w o⟨q,aa,rfl,j⟩
  refine cP<|bE<|b_<|d ?_
  refine J ?_
  obtain rfl:=f o
  exact⟨rfl,q,j.sp 3 [0,1,2]⟩
 rintro a0 _ w o⟨q,aa,rfl,j⟩
 refine c ?_
 refine IS 0 g j uC ?_
 obtain⟨s,s,o⟩:=bd o
 refine yj (Z g:Int) j xn Zj s λs w j=>?_
 refine c ?_
 refine m0 E V (λ(v:aG Int×Int)=>[Y r g,own 157 q a0.1,own 3 s v.1]) (λ_=>[(1,r),(5,q),(11,s)]) (λv=>[(12,e v.2)]) o ?_ ?_ ?_
 ·exact j.sp 4 [1,3,0]
 ·rintro v fl _ w⟨aa,rfl,j⟩o
  refine c ?_
  refine lc (i:=2) (l:=v.1) zt b j b b oI<|c ?_
  refine u o (λo=>?_) λo=>?_
  rotate_left
  ·refine fk ?_
   obtain rfl:=f o
   exact⟨rfl,j.sp 3 [0,1,2]⟩
  refine hG<|dt<|c ?_
  obtain⟨z,z,o⟩:=bd o
  refine ep 2 j b b eA z ?_
  have j:=j.sc Int v.2
  refine pz 3 0 j z n λw j=>?_
  refine J<|cP<|bE<|b_<|d ?_
  refine J ?_
  obtain rfl:=f o
  exact⟨rfl,j.sp 4 [1,2,3]⟩
 rintro v _ w o⟨aa,rfl,j⟩
 refine c ?_
 refine ol E V (λ(v:aG Int×aG k×Int)(z:F)=>[Y r g,own 157 q a0.1,own 3 s v.1,own 41 z v.2.1]) (λ_ z=>[(13,z)]) (λv _=>[(1,r),(5,q),(11,s),(14,e v.2.2)]) o ?_ ?_ ?_
 ·have j:=j.cO k 41
  exact⟨n_,j.sp 4 [1,2,3,0]⟩
 ·rintro v fl _ w⟨C,aa,rfl,j⟩o
  refine c ?_
  refine lc (i:=1) (l:=a0.1) zt b j b b Yz<|c ?_
  refine u o (λo=>?_) λo=>?_
  rotate_left
  ·refine fk ?_
   obtain rfl:=f o
   exact⟨rfl,C,j.sp 4 [0,1,2,3]⟩
  refine hG<|dt<|cF<|k6 m ?_
  have j:=j.drew
  refine k5<|d ?_
  obtain⟨z,z,o⟩:=bd o
  refine ep 1 j b b ID z<|a_<|pe (α:=bA) (qM 1 j z 0) Sq<|a_<|sb 1 j (qM 1 j z 1) (eB z).2.1 te n<|a_ ?_
  obtain⟨A,z,o⟩:=bd o
  refine ep 2 j b b eA z<|a_<|p8 2 j z n<|d ?_
  obtain⟨z,z,o⟩:=bd o
  refine ep 1 j b b ID z<|a_<|pe (α:=bA) (qM 1 j z 0) Sr<|a_<|sb 1 j (qM 1 j z 2) (eB z).2.1 tf n<|a_ ?_
  obtain⟨D,z,o⟩:=bd o
  refine ep 2 j b b eA z<|a_<|p8 2 j z n<|c ?_
  refine u o (λo=>?_) λo=>?_
  ·refine fk<|zo<|bE<|b_<|d ?_
   refine J ?_
   obtain rfl:=f o
   exact⟨rfl,C,j.sp 4 [0,1,2,3]⟩
  refine hG<|jb m (jv 20 2000000000000000000) (f0 0 20 []) ?_
  have j:=j.drew
  refine c ?_
  obtain⟨z,z,o⟩:=bd o
  refine ep 1 j b b ID z<|cX b<|pe (α:=bA) (qM 1 j z 0) Sq<|cX b<|sb 1 j (qM 1 j z 1) (eB z).2.1 te n<|cX b ?_
  obtain⟨C,z,o⟩:=bd o
  refine By 0 j th z λz j=>cX b<|t 0 C j fF λG j=>d ?_
  obtain⟨z,z,o⟩:=bd o
  refine ep 3 j b b ID z<|cX b<|pe (α:=bA) (qM 3 j z 0) Sr<|cX b<|sb 3 j (qM 3 j z 2) (eB z).2.1 tf n<|cX b ?_
  obtain⟨z,H,o⟩:=bd o
  refine By 2 j th H λH j=>cX b<|t 0 z j fF λH j=>cX b ?_
  have j:=j.sc Bool aA
  refine lw (⟨C,z,aA⟩:k) trivial rfl j [(0,G),(1,H),(2,vb aA)] rfl Vk rfl (λag hs af=>by have ad:=HJ ag;exact cC.cons (f:=λ(x:k)ae=>{x with A:=ae}) ad t7 (af.sat 3 _ rfl).1 λ_ ad=>cC.cons (f:=λ(x:k)ae=>{x with B:=ae}) ad t8 (af.sat 1 _ rfl).1 λ_ ad=>cC.cons (f:=λ(x:k)ae=>{x with Joined:=ae}) ad MA (af.sat 0 _ rfl).1 λ_ ad=>cC.nil ad) λx j=>?_
  refine oy b ?_
  have j:=j.freeze 9
  obtain⟨C,x,o⟩:=bd o
  refine d7 Xf (nk N (i0:=9) (i1:=0) j b b x) λx w j=>qY b<|c ?_
  refine m0 E V (λ(bc:aG Int×Int)=>[Y r g,own 157 q a0.1,own 3 s bc.1,own 41 x C]) (λ_=>[(1,r),(5,q),(11,s),(13,x),(14,e v.2.2)]) (λbc=>[(15,e A),(16,e D),(17,e bc.2)]) o ?_ ?_ ?_
  ·exact j.sp 11 [7,8,9,0]
  ·rintro bc fl _ w⟨aa,rfl,j⟩o
   refine c ?_
   refine lc (i:=2) (l:=bc.1) zt b j b b oI<|c ?_
   refine u o (λo=>?_) λo=>?_
   rotate_left
   ·refine fk ?_
    obtain rfl:=f o
    exact⟨rfl,j.sp 4 [0,1,2,3]⟩
   refine c ?_
   obtain⟨z,z,o⟩:=bd o
   refine ep 2 j b b eA z<|p8 2 j z n<|d ?_
   refine cJ ?_
   obtain⟨z,i,o⟩:=bd o
   refine dz (λ(z:aG Int)=>SH E V [(1,r),(5,q),(11,s),(13,x),(14,e v.2.2),(15,e A),(16,e D),(17,e bc.2)] [Y r g,own 157 q a0.1,own 3 s z,own 41 x C]) z ?_ ?_
   ·refine u i (λi=>?_) λi=>?_
    rotate_left
    ·refine dl ?_
     obtain rfl:=f i
     exact⟨rfl,j.sp 4 [0,1,2,3]⟩
    refine c ?_
    obtain⟨q,q,i⟩:=bd i
    refine ep 2 j b b eA q ?_
    have j:=j.sc Int A
    refine pz 3 0 j q n λw j=>?_
    refine J ?_
    obtain rfl:=f i
    exact⟨rfl,j.sp 5 [1,2,3,4]⟩
   rintro _ w⟨aa,rfl,j⟩
   refine cP<|bE<|b_<|d ?_
   refine J ?_
   obtain rfl:=f o
   exact⟨rfl,j.sp 4 [0,1,2,3]⟩
  rintro bc _ w o⟨aa,rfl,j⟩
  refine cP<|bE<|b_<|d ?_
  refine J ?_
  obtain rfl:=f o
  exact⟨rfl,x,j.sp 4 [0,1,2,3]⟩
 rintro v _ w o⟨i,aa,rfl,j⟩
 refine c ?_
 obtain rfl:=f o
 exact bH<|j.pk 4 [3]
def uo{a:bV}{g:ir}{res:aG k}(j:B E w V)(n:eo V i0 l a)(h1:eo V i1 r g)(o:ja N a g=O res):c_ 17 [l,r] w<|qH E V res:=by
 unfold ja at o;refine cI Tryz.func17 b b ?_;have j:=(j.dup (i0+0) n).dup (i1+1) h1;refine IT<|eh 1 l j b λs w j=>?_;refine eh 1 r j b λv w j=>?_;refine c ?_;refine ol E V (λ(n:aG k×Int)(q:F)=>[bx 26 s a,bx 32 v g,own 41 q n.1]) (λ_ q=>[(5,q)]) (λn _=>[(2,h s 0),(3,h v 0),(6,e n.2)]) o ?_ ?_ ?_;exact⟨n_,(j.cO k 41).sp 5 [2,1,0]⟩;rintro n G _ w⟨z,y,rfl,j⟩o;refine c ?_;refine p b rG<|em 0 j b gz Dc λq j=>IS 0 a.cD j NG<|c ?_;refine u o (λo=>?_) λo=>?_;refine c ?_;refine ol E V (λ(x:aG bX×Int)(q:F)=>[bx 26 s a,bx 32 v g,own 41 z n.1,own 39 q x.1]) (λ_ q=>[(2,h s 0),(3,h v 0),(5,z),(6,e n.2),(7,q)]) (λx _=>[(8,e x.2)]) o ?_ ?_ ?_;exact⟨n_,(j.cO bX 39).sp 5 [2,3,4,0]⟩;rintro x G _ w⟨C,y,rfl,j⟩o;refine c ?_;refine p b rG<|em 0 j b gz Dc λbk j=>gV n.2<|i o λq A o=>By 0 j GL A λA j=>fq 0 j b uS oq λA j=>t 0 q.aZ j uB λA j=>IS 0 q.aZ j uC<|c ?_;refine u o (λo=>?_) λo=>?_;refine hG<|dt<|cF<|jb m (jv 12 20000000000) (f0 0 12 []) ?_;have j:=j.drew;refine ge b b<|eX 5 j b pD λq j=>cX b<|p b rG<|cX b<|em 5 j b gz Dc λq j=>d ?_;refine i o λq A o=>By 0 j GL A λA j=>cX b<|fq 0 j b uS oq λA j=>cX b<|t 0 q.aZ j uB λbs j=>d ?_;refine i o λq A o=>By 0 j th A λA j=>cX b<|t 0 q j fF λq j=>oy b<|i o λq q o=>IN Zu (pU N (i0:=6) (i1:=0) j b b q) λw j=>qY b<|d ?_;refine dp<|k7<|bE<|i o λD q o=>dz (λ(D:aG bX)H w=>∃A:F,SH E V [(2,h s 0),(3,h v 0),(5,z),(6,e n.2),(7,A),(8,e x.2)] [bx 26 s a,bx 32 v g,own 41 z n.1,own 39 A D] H w) D ?_ ?_;refine u q (λq=>?_) λq=>?_;refine b_<|mv C<|p b rG<|em 11 j b gz Dc λD j=>gV n.2<|i q λD H q=>By 0 j GL H λH j=>fq 0 j b uS oq λH j=>t 0 D.aZ j uB λD j=>gV x.2<|i q λD H q=>By 0 j th H λH j=>t 0 D j fF λH j=>js ([D]:aG bX) j [H] th Kg (λ_ _=>j4) λD w j=>?_;have j:=j.freeze 0;refine i q λD D q=>j0 21 0 j Vh D λD w j=>?_;exact xe D<|J<|f q▸⟨rfl,D,j.sp 22 (f0 18 4 [])⟩;exact dl<|f q▸⟨rfl,C,j.sp 15 (f0 11 4 [])⟩;rintro _ w⟨A,y,rfl,j⟩;refine cP<|bE<|b_<|d ?_;exact J<|f o▸⟨rfl,A,j.sp 4 [0,1,2,3]⟩;exact fk<|f o▸⟨rfl,C,j.sp 8 [4,5,6,7]⟩;rintro x _ w o⟨q,y,rfl,j⟩;refine bE<|IT<|eX 1 j b pD λx j=>mv q ?_;have j:=j.freeze 4;refine i o λA bc o=>d7 (eP Tryz.func41) (BO N (i0:=0) (i1:=4) j b b bc) λC w j=>c ?_;refine ol E V (λ(q:aG k×Int)(x:F)=>[bx 26 s a,bx 32 v g,own 41 C A,own 41 x q.1]) (λ_ x=>[(2,h s 0),(3,h v 0),(5,x),(6,e n.2)]) (λq _=>[(9,C),(10,e q.2)]) o ?_ ?_ ?_;exact⟨z,j.sp 6 [2,3,0,4]⟩;rintro q G _ w⟨v,y,rfl,j⟩o;refine c ?_;refine lc (i:=2) (l:=A) zt b j b b Cz<|c ?_;refine u o (λo=>?_) λo=>?_;refine hG<|dt<|c ?_;refine i o λs s o=>ep 2 j b b Bp s<|mt 2 j s yh λs j=>?_;have j:=j.freeze 4;refine i o λs s o=>d7 Xf (nk N (i0:=4) (i1:=0) j b b s) λaz w j=>xe az<|J<|cP<|bE<|b_<|d ?_;exact J<|f o▸⟨rfl,az,j.sp 6 [2,3,4,0]⟩;exact fk<|f o▸⟨rfl,v,j.sp 4 [0,1,2,3]⟩;rintro q _ w o⟨q,y,rfl,j⟩;refine cP<|bE<|b_<|d ?_;exact J<|f o▸⟨rfl,q,j.sp 4 [0,1,3]⟩;exact fk<|f o▸⟨rfl,z,j.sp 4 [1,2,3]⟩;rintro n _ w o⟨n,y,rfl,j⟩;refine c ?_;obtain rfl:=f o;exact bH<|j.pk 3 [2]
def sL{a:aG k}{res:aG k×Int}(j:B E w V)(d:eo V i0 l a)(o:jq N a=O res):c_ 16 [l] w<|sC E V res:=by
 unfold jq at o;refine cI Tryz.func16 b b ?_;have j:=j.dup (i0+0) d;refine c ?_;refine IS 0 a j Cz<|c ?_;refine u o (λo=>?_) λo=>?_;refine c ?_;exact f o▸kD ⟨n_,b,(j.qL k).pk 2 [0]⟩;refine c ?_;exact f o▸kD ⟨l,b,j.pk 1 [0]⟩
def Aw{a:aG bD}{g:bV}{p2:ir}{res:aG k×Int}(j:B E w V)(d:eo V i0 l a)(h1:eo V i1 r g)(h2:eo V i2 G p2)(o:gX N a g p2=O res):c_ 5 [l,r,G] w<|sC E V res:=by
 unfold gX at o;refine cI Tryz.func5 b b ?_;have j:=((j.dup (i0+0) d).dup (i1+1) h1).dup (i2+2) h2;refine IT<|eh 1 r j b λd w j=>?_;refine eh 1 G j b λd w j=>?_;refine c ?_;refine eX 1 j b tg λd j=>eX 1 j b pD λd j=>?_;refine i o λd d o=>IN Zt (pT N (i0:=6) (i1:=1) (i2:=0) j b b b d) λw j=>c ?_;refine u o (λo=>?_) λo=>?_;refine c ?_;exact f o▸kD ⟨n_,b,(j.qL k).pk 8 [0]⟩;refine p_<|eX 3 j b tg λd j=>eX 3 j b pD λd j=>?_;refine i o λd d o=>d7 abU (uo N (i0:=1) (i1:=0) j b b d) λd w j=>?_;have j:=j.freeze 0;refine i o λd d o=>d7 abV (sL N (i0:=0) j b d) ?_;rintro _ w⟨d,rfl,j⟩;refine c ?_;exact f o▸kD ⟨d,b,j.pk 11 [0]⟩
def rQ{a:aG k}{g:aG k}{res:Bool}(j:B E w V)(h:eo V i0 l a)(h1:eo V i1 r g)(o:l5 N a g=O res):c_ 6 [l,r] w<|aO E V res:=by
 unfold l5 at o;refine cI Tryz.func6 b b ?_;have j:=(j.dup (i0+0) h).dup (i1+1) h1;refine c ?_;refine IS 1 a j Cz<|mv r<|IS 0 g j Cz<|c ?_;refine u o (λo=>?_) λo=>?_;refine c ?_;exact f o▸bH ⟨rfl,j.drop 2⟩;refine c ?_;refine IS 1 a j Cz<|gV 0<|cJ<|md E V (λ(h:Unit)=>[Y l a,Y r g]) (λ_=>[]) (λn _=>[(0,l),(1,r),(12,e (Z a)),(13,e n)]) (λs=>j3 q 26 Tryz.f6 (aO E V s) .ret) o ?_ ?_ ?_ ?_;exact j.sp 2 [1,0];rintro p n h n _ w n⟨v,rfl,j⟩o;refine c ?_;refine k6 m ?_;have j:=j.drew;refine k5<|d ?_;refine i o λn p o=>By 0 j Bp p λp j=>a_<|t 0 n j yh λp j=>d ?_;refine i o λp x o=>By 3 j Bp x λx j=>a_<|t 0 p j yh λx j=>a_<|HF 2 0 n p b j b b b b abW b<|fp<|bE<|u o (λo=>?_) λo=>?_;refine c ?_;exact f o▸⟨rfl,bH ⟨rfl,j.drop 6⟩⟩;refine dl<|cP<|bE<|b_<|d ?_;exact J<|f o▸⟨rfl,j.sp 6 [4,5]⟩;intro s n w o n;exact dx<|f o▸n;rintro h _ w o⟨v,rfl,j⟩;refine c ?_;exact f o▸bH ⟨rfl,j.drop 2⟩
def tI{res:Bool}(o:B E w V)(j:pK N a g p2=O res):c_ 42 [e a,e g,e p2] w<|aO E V res:=by
 unfold pK at j;refine cI Tryz.func42 b b<|IT<|mj aK<|hO<|sg ?_;exact cJ<|dw<|f j▸bH ⟨rfl,o.drop 0⟩
def ze{a:aG bD}{g:bV}{p2:ir}{res:aP (aG (aG z)×aG z×aG cM×aG dD×aG (aG aB)×aG aH×aG (aG Int)×aG bL×aG Int×aG Int×aG Int×aG gL)×Int}(o:B E w V)(d:eo V i0 l a)(h1:eo V i1 r g)(h2:eo V i2 G p2)(j:gu N a g p2 p3=O res):
    c_ 18 [l,r,G,e p3] w<|vV E V res:=by
 unfold gu at j
 refine cI Tryz.func18 b b ?_
 have o:=((o.dup (i0+0) d).dup (i1+1) h1).dup (i2+2) h2
 refine IT<|eh 1 r o b λd w o=>?_
 refine eh 1 G o b λd w o=>?_
 refine c ?_
 refine eX 1 o b tg λaz o=>eX 1 o b pD λd o=>?_
 obtain⟨h,d,j⟩:=bd j
 refine d7 abp (yo N (i0:=6) (i1:=1) (i2:=0) o b b b d) ?_
 rintro _ w d
 rcases aa:h.1 with _|h
 ·replace j:=Te aa j
  obtain⟨rfl,o⟩:=Mp aa d
  refine c ?_
  refine u j (λj=>?_) λj=>?_
  ·refine c ?_
   obtain rfl:=f j
   exact kD ⟨rfl,o.drop 7⟩
  refine c ?_
  obtain⟨h,h,j⟩:=bd j
  refine IN Xg (tI N (a:=p3) (g:=0) (p2:=100000) o h) λw o=>c ?_
  refine u j (λj=>?_) λj=>?_
  ·refine c ?_
   obtain rfl:=f j
   exact kD ⟨rfl,o.drop 7⟩
  refine c ?_
  obtain rfl:=f j
  exact kD ⟨rfl,o.drop 7⟩
 replace j:=Tf aa j
 obtain⟨h,i,k,m,n,p,q,s,t,v,x,y,A,rfl,o⟩:=Mq aa d
 refine c ?_
 refine u j (λj=>?_) λj=>?_
 ·refine c ?_
  obtain rfl:=f j
  exact kD ⟨rfl,o.drop 20⟩
 refine c ?_
 obtain⟨d,d,j⟩:=bd j
 refine IN Xg (tI N (a:=p3) (g:=0) (p2:=100000) o d) λw o=>c ?_
 refine u j (λj=>?_) λj=>?_
 ·refine c ?_
  obtain rfl:=f j
  exact kD ⟨rfl,o.drop 20⟩
 refine c ?_
 obtain rfl:=f j
 exact kD ⟨h,i,k,m,n,p,q,s,t,v,x,y,A,b,o.pk 20 (f0 0 13 [])⟩
def Kv(E:aT)(V:aG HP)(res:aG (bX×Int))(v:F)(w:aT):Prop:=B E w<|[mp v res]++V
def Cq{a:bV}{res:aG (bX×Int)}(j:B E w V)(g:eo V i0 l a)(o:pL N a=O res):c_ 43 [l] w<|Kv E V res:=by
 unfold pL at o;refine cI Tryz.func43 b b ?_;have j:=j.dup (i0+0) g;refine IT<|eh 0 l j b λg w j=>?_;refine c ?_;refine zr (κ:=bX) (ν:=Int) j λh w j=>c ?_;refine p b rG<|em 1 j b gz Dc λk j=>IS 0 a.cD j NG<|gV 0<|cJ<|s_ E V (λ(q:aG (bX×Int))=>[mp h q,Y k a.cD]) (λ_=>[(3,h)]) (λg _=>[(10,k),(11,e (Z a.cD)),(12,e g)]) o ?_ ?_ ?_;exact j.sp 4 [1,0];rintro v g q x _ w u⟨n,rfl,j⟩o;refine c ?_;refine i o λm r o=>By 1 j GL r λr j=>t 0 m j L0 λr j=>f_ j U6.z λr w j=>?_;refine jU (g:Int)<|fv 0 j 1 b L0 λw j=>?_;refine hO<|p b uS<|em 0 j b oq uB λs j=>IS 0 m.aZ j uC<|gV 0<|cJ<|s_ E V (λ(r:aG (bX×Int))=>[mp h r,Y k a.cD,Y s m.aZ]) (λ_=>[(3,h),(10,k),(11,e (Z a.cD)),(12,e g)]) (λh _=>[(4,e g),(18,s),(19,e (Z m.aZ)),(20,e h)]) o ?_ ?_ ?_;exact j.sp 6 [4,5,0];rintro v h r x _ w u⟨n,rfl,j⟩o;refine cF<|k4<|i o λh k o=>By 2 j th k λk j=>t 0 h j fF λk j=>f_ j Kg.z λk w j=>?_;refine fv 0 j 1 b fF λw j=>?_;refine c ?_;refine eX 0 j b fF λaz j=>gV (g:Int) ?_;have j:=j.sc Int (g:Int);refine zT 5 0 h j b (xU 1 j) b b Zv λw j=>J<|cP<|bE<|b_<|d ?_;exact J<|f o▸⟨rfl,j.sp 8 [5,6,7]⟩;rintro r _ w o⟨n,rfl,j⟩;refine cP<|bE<|b_<|d ?_;exact J<|f o▸⟨rfl,j.sp 3 [0,1]⟩;rintro q _ w o⟨n,rfl,j⟩;refine c ?_;obtain rfl:=f o;exact bH<|j.pk 2 [0]
def NU(E:aT)(V:aG HP)(res:dP)(v:F)(w:aT):Prop:=B E w<|[Y v res]++V
def Fj{a g:z}{res:dP}(j:B E w V)(c:eo V i0 l a)(h1:eo V i1 r g)(o:xZ N a g p2=O res):c_ 90 [l,r,e p2] w<|NU E V res:=by
 unfold xZ at o;refine cI Tryz.func90 b b ?_;have j:=(j.dup (i0+0) c).dup (i1+1) h1;refine IT<|eh 1 l j b λc w j=>?_;refine eh 1 r j b λc w j=>?_;refine f_ j Ra.z λc w j=>?_;refine hO<|p b iI<|BY 2 j b dV n<|p b iI<|BY 1 j b dV n<|d ?_;refine p b iv<|BY 2 j b dL n<|p b iv<|BY 1 j b dL n<|d ?_;have j:=(j.sc Int (cV a.X0 (bK (g.X0 - p2)))).sc Int (cV a.Y0 (bK (g.Y0 - p2)));refine lw (⟨(cV a.X0 (bK (g.X0 - p2))),(cV a.Y0 (bK (g.Y0 - p2)))⟩:dP) trivial rfl j [(0,e (cV a.X0 (bK (g.X0 - p2)))),(1,e (cV a.Y0 (bK (g.Y0 - p2))))] rfl Zx rfl (λh c k=>by have c:=Ea h;exact cC.cons (f:=λ(h:dP)i=>{h with X:=i}) c Kb (k.sat 1 _ rfl).1 λ_ c=>cC.cons (f:=λ(h:dP)i=>{h with Y:=i}) c Kc (k.sat 0 _ rfl).1 λ_ c=>cC.nil c) λc j=>?_;refine fv 3 j 0 b tN λw j=>?_;refine cJ<|dw ?_;obtain rfl:=f o;exact ON 3 j tN λc j=>j.pk 9 [0]
def Fk{a g:dP}{res:Bool}(j:B E w V)(c:eo V i0 l a)(h1:eo V i1 r g)(k:x6 N a g=O res):c_ 91 [l,r] w<|aO E V res:=by
 unfold x6 at k;refine cI Tryz.func91 b b ?_;have j:=(j.dup (i0+0) c).dup (i1+1) h1;refine IT<|eh 1 l j b λi w j=>?_;refine eh 1 r j b λc w j=>?_;refine mj aK<|hO<|p b m7<|BY 1 j b fN n<|p b m7<|BY 0 j b fN n<|d ?_;refine g7 aA (a.Y<g.Y) (h i 1) rfl rfl rfl (cW m7)<|g7 aA (a.Y<g.Y) (e a.Y) rfl rfl rfl (bO 1 rfl j (by exact z_ (h i 1)) rfl fN n)<|g7 aA (a.Y<g.Y) (h c 1) rfl rfl rfl (cW m7)<|g7 aA (a.Y<g.Y) (e g.Y) rfl rfl rfl (bO 0 rfl j (by exact z_ (h c 1)) rfl fN n)<|dq (vb<|a.Y==g.Y) rfl rfl (hB .eql)<|dq (vb<|a.Y==g.Y) rfl rfl eL<|dv (h i 0) rfl rfl (cW o9)<|dv (e a.X) rfl rfl (bO 1 rfl j (by exact z_ (h i 0)) rfl gN n)<|dv (h c 0) rfl rfl (cW o9) ?_;refine dv (e g.X) rfl rfl (bO 0 rfl j (by exact z_ (h c 0)) rfl gN n)<|sg ?_;exact cJ<|dw<|f k▸bH ⟨rfl,j.drop 4⟩
def DD{a:aG z}{g:aG z}{res:y6}(j:B E w V)(k:eo V i0 l a)(h1:eo V i1 r g)(o:oe N a g=O res):c_ 44 [l,r] w<|Fh E V res:=by
 unfold oe at o;refine cI Tryz.func44 b b ?_;have j:=(j.dup (i0+0) k).dup (i1+1) h1;refine IT<|f_ j Vu.z λs w j=>?_;refine c ?_;refine IS 2 a j oH<|gV 0<|cJ<|s_ E V (λ(v:Int)=>[Y l a,Y r g,k3 105 s 7]) (λv=>[(0,l),(1,r),(4,h s 0),(5,e v)]) (λm _=>[(22,l),(23,e (Z a)),(24,e m)]) o ?_ ?_ ?_;exact j.sp 3 [2,1,0];rintro P m v Q _ w M⟨x,rfl,j⟩o;refine cF<|k4<|i o λA k o=>By 0 j iO k λk j=>t 0 A j gG λk j=>f_ j rp.z λq w j=>?_;refine fv 0 j 1 b gG λw j=>?_;refine hO<|mv r<|IS 4 g j oH<|gV 0<|cJ<|s_ E V (λ(y:Int)=>[Y l a,Y r g,k3 105 s 7,bx 62 q A]) (λy=>[(0,l),(1,r),(4,h s 0),(5,e y),(22,l),(23,e (Z a)),(24,e m)]) (λC _=>[(7,h q 0),(28,r),(29,e (Z g)),(30,e C)]) o ?_ ?_ ?_;exact j.sp 6 [3,4,5,0];rintro P C y Q _ w M⟨x,rfl,j⟩o;refine cF<|k4<|i o λk D o=>By 1 j iO D λD j=>t 0 k j gG λk j=>f_ j rp.z λk w j=>?_;refine fv 0 j 1 b gG λw j=>?_;refine hO<|eX 6 j b gG λk j=>eX 1 j b gG λk j=>?_;refine i o λk bc o=>IN W9 (xz N (i0:=1) (i1:=0) j b b bc) λw j=>jU k<|hO<|sg ?_;refine cJ<|i o λD k o=>dz (λ(D:Int)=>SH E V [(0,l),(1,r),(4,h s 0),(5,e D),(7,h q 0),(22,l),(23,e (Z a)),(24,e m),(28,r),(29,e (Z g)),(30,e C)] [Y l a,Y r g,k3 105 s 7,bx 62 q A]) D ?_ ?_;refine u k (λk=>?_) λk=>?_;refine b_<|d ?_;exact J<|f k▸⟨rfl,j.sp 9 [5,6,7,8]⟩;exact dl<|f k▸⟨rfl,j.sp 9 [5,6,7,8]⟩;rintro _ w⟨x,rfl,j⟩;refine cP<|bE<|b_<|d ?_;exact J<|f o▸⟨rfl,j.sp 4 [0,1,2,3]⟩;rintro y _ w o⟨x,rfl,j⟩;refine cP<|bE<|b_<|d ?_;exact J<|f o▸⟨rfl,j.sp 4 [0,1,2]⟩;rintro v _ w o⟨x,rfl,j⟩;refine c ?_;have j:=j.sc Int<|bK<|v - 1;refine lw (⟨0,0,bK<|v - 1,⟨0,0⟩,⟨0,0⟩⟩:y6) trivial rfl j [(2,e<|bK<|v - 1)] rfl YA rfl (λR U G=>by have A:=XX R;exact cC.cons (f:=λ(m:y6)C=>{m with iY:=C}) A Pm (G.sat 0 _ rfl).1 λ_ A=>cC.nil A) λq j=>?_;refine f_ j Vu.z λy w j=>?_;refine fv 0 j 1 b MH λw j=>?_;refine c ?_;refine IS 3 a j oH<|gV 0<|cJ<|s_ E V (λ(q:y6×Bool)=>[Y r g,k3 105 s 7,bx 105 y q.1,Y l a]) (λ_=>[(1,r),(4,h s 0),(5,e v),(11,h y 0)]) (λH q=>[(12,vb q.2),(50,l),(51,e (Z a)),(52,e H)]) o ?_ ?_ ?_;exact j.sp 6 [4,5,0,3];rintro P H q Q _ w M⟨x,rfl,j⟩o;refine cF<|k4<|i o λI D o=>By 3 j iO D λD j=>t 0 I j gG λD j=>f_ j rp.z λF w j=>?_;refine fv 0 j 1 b gG λw j=>?_;refine hO<|mv r<|IS 3 g j oH<|gV 0<|cJ<|s_ E V (λ(D:y6×Bool)=>[Y r g,k3 105 s 7,bx 105 y D.1,bx 62 F I,Y l a]) (λD=>[(1,r),(4,h s 0),(5,e v),(11,h y 0),(12,vb D.2),(50,l),(51,e (Z a)),(52,e H)]) (λK _=>[(14,h F 0),(56,r),(57,e (Z g)),(58,e K)]) o ?_ ?_ ?_;exact j.sp 7 [3,4,5,0,6];rintro P K D Q _ w M⟨x,rfl,j⟩o;refine cF<|k4<|i o λL S o=>By 0 j iO S λS j=>t 0 L j gG λL j=>f_ j rp.z λL w j=>?_;refine fv 0 j 1 b gG λw j=>?_;refine hO<|eX 6 j b gG λL j=>eX 1 j b gG λL j=>gV v<|i o λT bk o=>d7 abZ (Fj N (p2:=v) (i0:=1) (i1:=0) j b b bk) λL w j=>f_ j Ra.z λS w j=>?_;refine fv 0 j 1 b tN λw j=>?_;refine i4<|i o λL k o=>dz (λ(L:Bool)=>SH E V [(1,r),(4,h s 0),(5,e v),(11,h y 0),(12,vb D.2),(14,h F 0),(17,h S 0),(50,l),(51,e (Z a)),(52,e H),(56,r),(57,e (Z g)),(58,e K),(80,vb L)] [Y r g,k3 105 s 7,bx 105 y D.1,bx 62 F I,bx 64 S T,Y l a]) L ?_ ?_;refine b_<|eX 10 j b gG λL j=>eX 5 j b gG λL j=>?_;refine i k λL L k=>IN W9 (xz N (i0:=1) (i1:=0) j b b L) λw j=>d ?_;refine dU k (λL k=>?_) λL k=>?_;refine d ?_;refine dU k (λL k=>?_) λL k=>?_;refine d ?_;exact J<|f k▸⟨rfl,j.sp 14 [9,10,11,12,2,13]⟩;refine eX 2 j b tN λL j=>p b Eh<|em 12 j b Da tN λL j=>?_;refine i k λL L k=>IN ab0 (Fk N (i0:=1) (i1:=0) j b b L) λw j=>d ?_;exact J<|f k▸⟨rfl,j.sp 16 [11,12,13,14,4,15]⟩;refine d ?_;exact J<|f k▸⟨rfl,j.sp 14 [9,10,11,12,2,13]⟩;rintro _ w⟨x,rfl,j⟩;refine bE<|i o λL k o=>dz (λ(L:y6×Bool)=>SH E V [(1,r),(4,h s 0),(5,e v),(11,h y 0),(12,vb L.2),(14,h F 0),(50,l),(51,e (Z a)),(52,e H),(56,r),(57,e (Z g)),(58,e K)] [Y r g,k3 105 s 7,bx 105 y L.1,bx 62 F I,Y l a]) L ?_ ?_;refine u k (λk=>?_) λk=>?_;refine b_<|eX 4 j b tN λF j=>p b Eh<|wn 3 j b 0 b Pn tN λw j=>?_;exact mj aA<|J<|f k▸⟨rfl,j.sp 7 [1,2,3,4,6]⟩;exact dl<|f k▸⟨rfl,j.sp 6 [0,1,2,3,5]⟩;rintro _ w⟨x,rfl,j⟩;refine cP<|bE<|b_<|d ?_;exact J<|f o▸⟨rfl,j.sp 5 [0,1,2,3,4]⟩;rintro D _ w o⟨x,rfl,j⟩;refine cP<|bE<|b_<|d ?_;exact J<|f o▸⟨rfl,j.sp 5 [0,1,2,4]⟩;rintro q _ w o⟨x,rfl,j⟩;refine bE<|IT<|p b Eh<|p b o9<|BY (f:=(λm=>m.dC.X)) 2 j b (Fd.comp (f:=λ(m:y6)=>m.dC) (λ(m:dP)=>m.X) Da gN) n<|p b Eh<|p b m7<|BY (f:=(λm=>m.dC.Y)) 2 j b (Fd.comp (f:=λ(m:y6)=>m.dC) (λ(m:dP)=>m.Y) Da fN) n<|p b Eh<|p b o9<|BY (f:=(λm=>m.dC.X)) 2 j b (Fd.comp (f:=λ(m:y6)=>m.dC) (λ(m:dP)=>m.X) Da gN) n<|d ?_;refine p b Eh<|p b m7<|BY (f:=(λm=>m.dC.Y)) 2 j b (Fd.comp (f:=λ(m:y6)=>m.dC) (λ(m:dP)=>m.Y) Da fN) n<|d ?_;have j:=(((j.sc Int q.1.dC.X).sc Int q.1.dC.Y).sc Int<|bK<|q.1.dC.X+1).sc Int<|bK<|q.1.dC.Y+1;refine lw (⟨q.1.dC.X,q.1.dC.Y,bK<|q.1.dC.X+1,bK<|q.1.dC.Y+1⟩:z) trivial rfl j [(0,e q.1.dC.X),(1,e q.1.dC.Y),(2,e<|bK<|q.1.dC.X+1),(3,e<|bK<|q.1.dC.Y+1)] rfl L2 rfl (λR U G=>by have A:=yc R;exact cC.cons (f:=λ(m:z)C=>{m with X0:=C}) A tY (G.sat 3 _ rfl).1 λ_ A=>cC.cons (f:=λ(m:z)C=>{m with Y0:=C}) A vx (G.sat 2 _ rfl).1 λ_ A=>cC.cons (f:=λ(m:z)C=>{m with X1:=C}) A su (G.sat 1 _ rfl).1 λ_ A=>cC.cons (f:=λ(m:z)C=>{m with Y1:=C}) A tZ (G.sat 0 _ rfl).1 λ_ A=>cC.nil A) λm j=>?_;refine f_ j rp.z λA w j=>?_;refine fv 0 j 1 b gG λw j=>?_;refine c ?_;refine IS 6 g j oH<|gV 0<|cJ<|s_ E V (λ(m:y6×Bool)=>[k3 105 s 7,bx 105 y m.1,bx 62 A (⟨q.1.dC.X,q.1.dC.Y,bK<|q.1.dC.X+1,bK<|q.1.dC.Y+1⟩:z),Y r g]) (λ_=>[(4,h s 0),(11,h y 0)]) (λaz m=>[(5,e v),(12,vb m.2),(18,h A 0),(100,r),(101,e (Z g)),(102,e az)]) o ?_ ?_ ?_;exact j.sp 10 [7,8,0,6];rintro P az m Q _ w M⟨x,rfl,j⟩o;refine cF<|k4<|i o λC D o=>By 3 j iO D λD j=>t 0 C j gG λcv j=>f_ j rp.z λC w j=>?_;refine fv 0 j 1 b gG λw j=>?_;refine hO<|eX 0 j b gG λC j=>eX 6 j b gG λC j=>gV v<|i o λF C o=>d7 abZ (Fj N (p2:=v) (i0:=1) (i1:=0) j b b C) λC w j=>f_ j Ra.z λD w j=>?_;refine fv 0 j 1 b tN λw j=>?_;refine i4<|i o λC k o=>dz (λ(C:Bool)=>SH E V [(4,h s 0),(5,e v),(11,h y 0),(12,vb m.2),(18,h A 0),(21,h D 0),(100,r),(101,e (Z g)),(102,e az),(124,vb C)] [k3 105 s 7,bx 105 y m.1,bx 62 A (⟨q.1.dC.X,q.1.dC.Y,bK<|q.1.dC.X+1,bK<|q.1.dC.Y+1⟩:z),bx 64 D F,Y r g]) C ?_ ?_;refine b_<|eX 4 j b gG λC j=>eX 10 j b gG λC j=>?_;refine i k λC C k=>IN W9 (xz N (i0:=1) (i1:=0) j b b C) λw j=>d ?_;refine dU k (λC k=>?_) λC k=>?_;refine d ?_;refine dU k (λC k=>?_) λC k=>?_;refine d ?_;exact J<|f k▸⟨rfl,j.sp 13 [9,10,11,2,12]⟩;refine eX 2 j b tN λC j=>p b Ss<|em 11 j b UZ tN λC j=>?_;refine i k λC C k=>IN ab0 (Fk N (i0:=1) (i1:=0) j b b C) λw j=>d ?_;exact J<|f k▸⟨rfl,j.sp 15 [11,12,13,4,14]⟩;refine d ?_;exact J<|f k▸⟨rfl,j.sp 13 [9,10,11,2,12]⟩;rintro _ w⟨x,rfl,j⟩;refine bE<|i o λC k o=>dz (λ(C:y6×Bool)=>SH E V [(4,h s 0),(5,e v),(11,h y 0),(12,vb C.2),(18,h A 0),(100,r),(101,e (Z g)),(102,e az)] [k3 105 s 7,bx 105 y C.1,bx 62 A (⟨q.1.dC.X,q.1.dC.Y,bK<|q.1.dC.X+1,bK<|q.1.dC.Y+1⟩:z),Y r g]) C ?_ ?_;refine u k (λk=>?_) λk=>?_;refine b_<|eX 3 j b tN λq j=>p b Ss<|wn 2 j b 0 b Po tN λw j=>?_;exact mj aA<|J<|f k▸⟨rfl,j.sp 6 [1,2,3,5]⟩;exact dl<|f k▸⟨rfl,j.sp 5 [0,1,2,4]⟩;rintro _ w⟨x,rfl,j⟩;refine cP<|bE<|b_<|d ?_;exact J<|f o▸⟨rfl,j.sp 4 [0,1,2,3]⟩;rintro m _ w o⟨x,rfl,j⟩;refine bE<|IT<|eX 1 j b MH λk j=>fv 1 j 0 b MH λw j=>?_;refine cJ<|dw ?_;obtain rfl:=f o;exact ON 1 j MH λk j=>j.pk 6 [0]
def BP{res:aG bX}(j:B E w V)(h:mo N g=O res):c_ 94 [n_,e g] w<|vq E V res:=by
 unfold mo at h;refine cI Tryz.func94 b b<|c ?_;refine u h (λh=>?_) λh=>?_;cases h;refine c ?_;refine LU b b uC<|d ?_;refine AB (m:=0) zt b b uC<|d ?_;refine hO<|d ?_;refine cJ<|i h λk a h=>dz (λ(k:aG bX)m w=>∃l:F,SH E V [(0,l)] [own 39 l k] m w) k ?_ ?_;refine u a (λa=>?_) λa=>?_;refine c ?_;refine LU b b uC<|WI bX zt b b th (.inr ⟨rfl,b⟩) b b<|d ?_;refine i a λk k a=>WF (bK<|g -(bK<|((0:Nat):Int) -((0:Nat):Int))) zt b j b b Vh FI adV k λk w j=>?_;refine d ?_;exact AB (m:=0) zt b b uC<|i a λk k a=>HH 0 b j b b th (.inr ⟨rfl,b⟩) k λk j=>xe k<|J<|f a▸⟨rfl,k,j.sp 1 [0]⟩;exact dl<|f a▸⟨rfl,n_,(j.cO bX 39).sp 1 [0]⟩;rintro _ w⟨l,a,rfl,j⟩;refine c ?_;obtain rfl:=f h;exact bH<|j.pk 1 [0]
def wv{a:aG (aG bX)}{res:aG bX}(j:B E w V)(g:eo V i0 l a)(o:kI N a=O res):c_ 46 [l] w<|vq E V res:=by
 unfold kI at o;refine cI Tryz.func46 b b ?_;have j:=j.dup (i0+0) g;refine c ?_;refine IS 0 a j YD<|gV 0<|cJ<|s_ E V (λ(g:Int)=>[Y l a]) (λg=>[(0,l),(3,e g)]) (λh _=>[(9,l),(10,e (Z a)),(11,e h)]) o ?_ ?_ ?_;exact j.sp 1 [0];rintro p h g q _ w n⟨h,rfl,j⟩o;refine cF<|k4<|i o λk m o=>By 0 j Sv m λm j=>t 0 k j uB λm j=>c ?_;refine IS 0 k j uC<|c ?_;refine u o (λo=>?_) λo=>?_;cases o;refine dl<|cP<|bE<|b_<|d ?_;exact J<|f o▸⟨rfl,j.sp 3 [2]⟩;rintro g _ w o⟨h,rfl,j⟩;refine c ?_;refine i o λk k o=>d7 (eP Tryz.func94) (BP N (g:=g) j k) λm w j=>c ?_;refine IS 1 a j YD<|gV 0<|cJ<|r_ E V (λ(g:aG bX)(k:F)=>[Y l a,own 39 k g]) (λ_ k=>[(6,k)]) (λk _ _=>[(25,l),(26,e (Z a)),(27,e k)]) o ?_ ?_ ?_;exact⟨m,j.sp 2 [1,0]⟩;rintro p k g q _ w n⟨k,h,rfl,j⟩o;refine cF<|k4<|i o λk m o=>By 0 j Sv m λm j=>t 0 k j uB λaz j=>c ?_;refine i o λk k o=>j0 3 0 j Vh k λk w j=>?_;refine xe k<|J<|cP<|bE<|b_<|d ?_;exact J<|f o▸⟨rfl,k,j.sp 4 [2,3]⟩;rintro g _ w o⟨g,h,rfl,j⟩;refine c ?_;obtain rfl:=f o;exact bH<|j.pk 2 [1]
def G4(E:aT)(V:aG HP)(b1:Nat)(D:F)(a:aG (bX×Int))(res:Bool)(v:F)(w:aT):Prop:=v= vb res/\B E w ([bc 88 b1 [D],mp D a]++V)
def FU{a:bX}{e:aG (bX×Int)}{res:Bool}(j:B E w (bc 88 b1 [D]::mp D e::V))(c:eo V i0 l a)(h2:eF V i2 G p2)(g:qj N a e p2=O res):c_ 93 [l,h b1 0,G] w<|G4 E V b1 D e res:=by
 unfold qj at g;refine cI Tryz.func93 b b ?_;have j:=(j.dup (i0+2) c).xS (i:=i2+3) h2;refine IT<|eh 1 l j b λc w j=>?_;refine mj aK<|hO<|d9 3 D j ab5<|eX 0 j b fF λc j=>LE 5 a b j b (xU 0 j) b Zv<|d ?_;refine i4<|i g λk c g=>dz (λ(k:Bool)=>SH E V [(1,h b1 0),(4,vb k)] [bc 88 b1 [D],mp D e]) k ?_ ?_;refine b_<|d ?_;refine dU c (λe c=>?_) λe c=>?_;refine d ?_;exact J<|f c▸⟨rfl,j.sp 6 [4,5]⟩;refine d ?_;refine eY p2 2 j n<|d ?_;exact J<|f c▸⟨rfl,j.sp 6 [4,5]⟩;rintro _ w⟨c,rfl,j⟩;exact bE<|dw<|f g▸bH ⟨rfl,j.pk 2 [0,1]⟩
def kS(E:aT)(V:aG HP)(x:Nat)(s:F)(a:aG (bX×Int))(res:Int)(v:F)(w:aT):Prop:=v= e res/\B E w ([bc 88 x [s],mp s a]++V)
def qt(E:aT)(V:aG HP)(x:Nat)(s:F)(a:aG (bX×Int))(r:Int)(U:Nat->F)(w:aT):Prop:=j3 q 19 Tryz.f156 (kS E V x s a r) .ret U w
def pV{a:aG bX}{g:aG (bX×Int)}(j:B E w (bc 88 x [s]::mp s g::V))(k:eo V i0 l a)(m:eF V i1c1 A C)(o:iS N a g C=O res):Calls q 156 [l,(.func (.func 93) #[] #[h x 0,A])].toArray w (eE<|kS E V x s g res):=by
 unfold iS at o;refine cI Tryz.func156 b b ?_;have j:=(j.dup (i0+2) k).xS (i:=i1c1+3) m;refine c ?_;refine IS 1 a j uC<|gV 0<|cJ<|md E V (λ(k:Unit)=>[Y l a,bc 88 x [s],mp s g,pt A C]) (λ_=>[]) (λm _=>[(0,l),(1,(.func (.func 93) #[] #[h x 0,A])),(7,e (Z a)),(8,e m)]) (qt E V x s g) o ?_ ?_ ?_ ?_;exact j.sp 4 [1,2,3,0];rintro g m k g _ w g⟨g,rfl,j⟩o;refine c ?_;refine i o λm n o=>By 0 j th n λn j=>t 0 m j fF λm j=>?_;have j:=(j.pull 4).pull 4;refine i o λn n o=>vt [h x 0,A] (eP Tryz.func93) [m]<|fE (FU N (i0:=0) (i2:=5) j b b n) ?_;rintro _ w⟨rfl,j⟩;refine cJ<|u o (λo=>?_) λo=>?_;refine c ?_;exact f o▸⟨rfl,bH ⟨rfl,j.pk 8 [0,1]⟩⟩;refine dl<|cP<|bE<|b_<|d ?_;exact J<|f o▸⟨rfl,j.sp 8 [4,0,1,7]⟩;intro m m w o m;exact dx<|f o▸m;rintro k _ w o⟨g,rfl,j⟩;refine c ?_;exact f o▸bH ⟨rfl,j.pk 4 [1,2]⟩
def pq(E:aT)(V:aG HP)(x:Nat)(s:F)(a:aG (bX×Int))(res:Bool)(v:F)(w:aT):Prop:=v= vb res/\B E w ([bc 88 x [s],mp s a]++V)
def oJ{a:aG bX}{d:aG (bX×Int)}{res:Bool}(j:B E w (bc 88 x [s]::mp s d::V))(e:eo V i0 l a)(g:eF V i1c1 A C)(o:fC N a d C=O res):Calls q 92 [l,(.func (.func 93) #[] #[h x 0,A])].toArray w (eE<|pq E V x s d res):=by
 unfold fC at o;refine cI Tryz.func92 b b ?_;have j:=(j.dup (i0+2) e).xS (i:=i1c1+3) g;refine c ?_;have j:=(j.pull 3).pull 3;refine i o λd d o=>IN (eP Tryz.func156) (pV N (i0:=1) (i1c1:=0) j b b d) λw j=>c ?_;exact f o▸bH ⟨rfl,j.pk 6 [0,1]⟩
def Kw(E:aT)(V:aG HP)(l:F)(res:Bool×aG (bX×Int))(v:F)(w:aT):Prop:=v= vb res.1/\B E w ([mp l res.2]++V)
def Cr{a:aG (bX×Int)}{g:aG bX}{res:Bool×aG (bX×Int)}(j:B E w (mp l a::V))(h1:eo V i1 r g)(D:pM N a g=O res):c_ 45 [l,r] w<|Kw E V l res:=by
 unfold pM at D;refine cI Tryz.func45 b b ?_;have j:=j.dup (i1+1) h1;refine IT<|UV l zt b j b (UM 1 j b) λG w j=>?_;refine mj aK<|i4 ?_;refine i D λs H D=>q_ E V m [0,1,0,0,0,1,1,1,0,0,1] [2,3,8,9] (λ(c:F×F×Nat)=>(λp q k=>[(0,8,l),(1,9,r),(2,10,p),(3,11,q),(4,12,(.tuple #[e<|eU a s (0:Int),vb<|oN a s])),(5,7,(.tuple #[e<|eU a s (0:Int),vb<|oN a s])),(6,13,e<|eU a s (0:Int)),(7,14,vb<|oN a s),(8,5,h k 0),(10,6,vb<|oN a s)]) c.1 c.2.1 c.2.2) [(0,l),(1,r),(2,h G 0)] [] (λ(o:Nat->Bool)(c:F×F×Nat)=>(λp q k=>[bif o 0 then pt p s else aW,bif o 1 then Y q s else aW,bif o 3 then bx 3 k (eU a s (0:Int))else(bif o 2 then k3 3 k 1 else aW),bc 88 G [l],Y r g,mp l a]) c.1 c.2.1 c.2.2) (λc=>by kernel_rfl) ?_ ⟨?_,λ_=>jd gn,?_,?_,?_,λ_=>jd gn,λ_=>Zb gn rfl,λ_=>Zb gn rfl,?_,?_,λ_=>ada gn rfl,trivial⟩ ?_;exact⟨(undef,undef,0),eT.none,J9 b,zt,(((j.drew).aW).aW).aW⟩;rintro o A w x u C⟨⟨p,q,k⟩,c,v,_,j⟩;obtain⟨z,rfl⟩:=v.v8;exact d9 3 l j ab5<|y (p,q,k) 0 c v j;rintro o A w x u C⟨⟨p,q,k⟩,c,v,_,j⟩;obtain⟨z,rfl⟩:=c.o1 1 u;have j:=j.bZ 0 x;refine By 4 j th H λH j=>?_;exact y (H,q,k) 2 c v (j.nw 0);rintro o A w x u C⟨⟨p,q,k⟩,c,v,_,j⟩;obtain⟨z,rfl⟩:=c.o1 2 u;have j:=(j.dF 0<|u.1 rfl).bZ 1 x;refine t 0 s j fF λH j=>?_;exact y (p,H,k) 3 c v (((j.pl 7 [1,0,3,4,5,6]).cL 0 (o 2) (u.1 rfl) aW).cL 1 aA rfl aW);rintro o A w x u C⟨⟨p,q,k⟩,c,v,_,j⟩;obtain⟨z,rfl⟩:=c.o2 0 3 u;have j:=j.dF 1<|u.2.1 rfl;exact LE 5 s b j b (xU 1 j) b Zv<|y (p,q,k) 4 c v (j.cL 1 (o 3) (u.2.1 rfl) aW);rintro o A w x u C⟨⟨p,q,k⟩,c,v,_,j⟩;obtain⟨z,rfl⟩:=Tj A;have j:=(j.bZ 2<|nh C x 9).bZ 2 x;refine f_ j L1.z λH w j=>?_;exact y (p,q,H) 8 c v ((j.nw 2).fO 2 (o 9) (nh C x 9)<|bx 3 H<|eU a s (0:Int));rintro o A w x u C⟨⟨p,q,k⟩,c,v,_,j⟩;obtain⟨z,rfl⟩:=c.o2 8 6 u;have j:=((j.bZ 2 x).dF 2<|u.1 rfl).sc Int<|eU a s (0:Int);refine fv 3 j 0 b n λw j=>?_;exact qr (p,q,k) c v ((j.pl 7 [1,2,3,4,5,6]).cL 2 aA rfl (bif o 8 then k3 3 k 1 else aW));rintro o A w o⟨⟨p,q,k⟩,c,v,_,j⟩;have j:=((j.dF 0<|tL o 2).dF 1<|tL o 3).dF 2<|tL o 9;obtain⟨z,rfl⟩:=(ac (c.at 8 rfl<|tL o 8)<|ac (c.at 9 rfl<|tL o 10) v).v8;refine bE<|cF<|i D λo c D=>dz (λ(o:Bool)=>SH E V [(0,l),(4,vb o)] [mp l a]) o ?_ ?_;refine b_<|d ?_;refine dU c (λo c=>?_) λo c=>?_;refine d ?_;have j:=j.fw (i:=2) rfl;refine yl (hg:=cg o) [h G 0,h k 0] ?_;have j:=(j.pull 5).pull 4;refine i c λk k c=>IN (eP Tryz.func92) (oJ N (i0:=4) (i1c1:=2) j b b k) λw j=>d ?_;exact J<|f c▸⟨rfl,j.sp 8 [1]⟩;refine d ?_;exact J<|f c▸⟨rfl,j.sp 6 [5]⟩;rintro _ w⟨z,rfl,j⟩;exact bE<|dw<|f D▸bH ⟨rfl,j.pk 1 [0]⟩
end Go.Gk
namespace Go.Gk
open Go IntKind Go.Proofs
variable (N:Nat){E w:aT}{b0 b1 i0 i1 i2:Nat}{a g p2 p3:Int}{l M P A L D C K s r S C_ K_ R W E_ T x X H G M_ Q:F}{V:aG HP}
def Kx(E:aT)(V:aG HP)(b1:Nat)(S C_:F)(W E_:F)(T x:F)(X H:F)(G M_:F)(K_ R:F)(res:aG k)(v:F)(w:aT):Prop:=B E w<|[own 41 v res,bc 98 b1 [S,C_,W,E_,T,x,X,H,G,M_,K_,R]]++V
def Jl{a:bV}{C:aG aH}{N_:aG bL}{O_:aG Int}{res:aG k}(j:B E w (bc 98 b1 [S,C_,W,E_,T,x,X,H,G,M_,K_,R]::Y x C::Y H N_::Y G O_::V))(g:eo V i0 l a)(o:og N a C N_ O_ p2=O res):c_ 19 [l,h b1 0,e p2] w<|Kx E V b1 S C_ W E_ T x X H G M_ K_ R res:=by
 unfold og at o;refine cI Tryz.func19 b b ?_;have j:=j.dup (i0+4) g;refine IT<|eh 0 l j b λg w j=>?_;refine c ?_;refine eX 0 j b tg λg j=>?_;refine i o λP b0 o=>d7 abY (Cq N (i0:=0) j b b0) λA w j=>xe A<|hO<|zr (κ:=bU) (ν:=Bool) j λav w j=>c ?_;refine p b sO<|d9 5 x j EM<|IS 6 C j L3<|gV 0<|cJ<|s_ E V (λ(a5:aG (bU×Bool))=>[bc 98 b1 [S,C_,W,E_,T,x,X,H,G,M_,K_,R],Y x C,Y H N_,Y G O_,mp A P,mp av a5]) (λ_=>[(1,h b1 0),(7,A),(8,av)]) (λK _=>[(2,e p2),(25,x),(26,e (Z C)),(27,e K)]) o ?_ ?_ ?_;exact j.sp 9 [5,6,7,8,1,0];rintro g K a5 g _ w g⟨D,rfl,j⟩o;refine c ?_;refine i o λQ g o=>By 1 j NI g λg j=>t 0 Q j IC λg j=>f_ j Ps.z λM w j=>?_;refine jU (K:Int)<|fv 0 j 1 b IC λw j=>?_;refine hO<|gV (K:Int)<|tb (K:Int) 1<|jU (bK<|(K:Int)+1)<|cJ<|m0 E V (λ(L:aG (bU×Bool)×Int)=>[bc 98 b1 [S,C_,W,E_,T,x,X,H,G,M_,K_,R],Y x C,Y H N_,Y G O_,mp A P,mp av L.1,bx 102 M Q]) (λ_=>[(1,h b1 0),(2,e p2),(7,A),(8,av),(25,x),(26,e (Z C)),(27,e K)]) (λL=>[(9,e K),(10,h M 0),(11,e L.2)]) o ?_ ?_ ?_;exact j.sp 9 (f0 3 6 [0]);rintro L fl _ w⟨D,rfl,j⟩o;refine cF<|cF<|i o λq g o=>dz (λ(q:Bool)=>SH E V [(1,h b1 0),(2,e p2),(7,A),(8,av),(9,e K),(10,h M 0),(11,e L.2),(25,x),(26,e (Z C)),(27,e K),(53,vb q)] [bc 98 b1 [S,C_,W,E_,T,x,X,H,G,M_,K_,R],Y x C,Y H N_,Y G O_,mp A P,mp av L.1,bx 102 M Q]) q ?_ ?_;refine k6 m ?_;have j:=j.drew;refine k5<|d ?_;refine p b sO<|a_<|d9 0 x j EM<|a_<|IS 1 C j L3<|d ?_;refine dU g (λq g=>?_) λq g=>?_;refine d ?_;refine p b sO<|a_<|d9 0 x j EM<|d ?_;refine i g λq r g=>By 1 j NI r λr j=>a_<|fq 0 j b Ec l7 λr j=>a_<|eY q.cR 0 j n<|a_<|p b Ec<|a_<|BY 8 j b l7 n<|c ?_;exact f g▸⟨rfl,j.sp 9 (f0 2 7 [])⟩;refine c ?_;exact f g▸⟨rfl,j.sp 7 (f0 0 7 [])⟩;rintro _ w⟨D,rfl,j⟩;refine bE<|u o (λo=>?_) λo=>?_;refine hG<|dt<|cF<|k6 m ?_;have j:=j.drew;refine k5<|d ?_;refine p b yg<|a_<|d9 0 G j fV<|d ?_;refine i o λr q o=>By 3 j eA q λq j=>a_<|eY r 0 j n<|d ?_;refine p b yg<|a_<|d9 1 G j fV<|d ?_;refine i o λs q o=>By 4 j eA q λq j=>a_<|eY s 0 j n<|d ?_;refine p b yg<|a_<|d9 2 G j fV<|d ?_;refine i o λv q o=>By 5 j eA q λq j=>a_<|eY v 0 j n<|d ?_;refine p b yg<|a_<|d9 3 G j fV<|d ?_;refine i o λz q o=>By 6 j eA q λq j=>a_<|eY z 0 j n<|d ?_;refine fp<|bE<|cF<|i o λq g o=>dz (λ(q:Bool)=>SH E V [(1,h b1 0),(2,e p2),(7,A),(8,av),(9,e K),(10,h M 0),(11,e L.2),(12,e (bT s r)),(13,e (cV v z)),(25,x),(26,e (Z C)),(27,e K),(112,vb q)] [bc 98 b1 [S,C_,W,E_,T,x,X,H,G,M_,K_,R],Y x C,Y H N_,Y G O_,mp A P,mp av L.1,bx 102 M Q]) q ?_ ?_;refine jb m (jv 27 1020000000000000000000000) (f0 0 22 [24,22,23,25,26]) ?_;have j:=j.drew;refine ge b b<|gV (bT s r)<|cX b<|gV (cV v z)<|cX b<|ic ((bT s r)) ((cV v z))<|cX b<|xh ((bT s r) != (cV v z))<|dp<|dU g (λbh g=>?_) λbh g=>?_;refine c ?_;have j:=(j.sc Int (bT s r)).sc Int (cV v z);refine M0 (⟨(bT s r),(cV v z)⟩:bU) (cg bh) rfl j [(0,e (bT s r)),(1,e (cV v z))] rfl NL rfl (λae hs ab=>by have U:=Bi ae;exact cC.cons (f:=λ(q:bU)ad=>{q with e0:=ad}) U vP (ab.sat 1 _ rfl).1 λ_ U=>cC.cons (f:=λ(q:bU)ad=>{q with e1:=ad}) U vQ (ab.sat 0 _ rfl).1 λ_ U=>cC.nil U) λda j=>?_;refine cX b<|yW 12 (⟨(bT s r),(cV v z)⟩:bU) (cg bh) j (xU 0 j) Xh<|cX b<|FO (eU L.1 (⟨(bT s r),(cV v z)⟩:bU) (aK:Bool)) (cg bh) b b<|cX b<|NB bh (vb<|!(eU L.1 (⟨(bT s r),(cV v z)⟩:bU) (aK:Bool)))<|cX b<|xh (!(eU L.1 (⟨(bT s r),(cV v z)⟩:bU) (aK:Bool)))<|dp ?_;refine dU g (λay g=>?_) λay g=>?_;refine ge b b<|p b Ed<|cX b<|em 13 j b l8 xm λdb j=>d ?_;refine p b sO<|cX b<|d9 8 x j EM<|d ?_;refine i g λca cb g=>By 9 j NI cb λdc j=>cX b<|fq 0 j b Ed l8 λdd j=>cX b<|t 0 ca.eG j xm λde j=>dp<|ek (e p2) b (λw=>i8 (e p2) dT)<|io b b<|i g λdf cc g=>d7 ab1 (DD N (i0:=3) (i1:=0) j b b cc) λdg w j=>qY b<|P1 (f:=λ(q:y6)=>q.iY) 0 (cg ay) b j b b b NM Kd n<|c ?_;exact f g▸⟨rfl,j.sp 19 (f0 12 7 [])⟩;refine c ?_;refine ek undef b (λw=>kR ay dT)<|io b b<|d ?_;refine qY b<|c ?_;exact f g▸⟨rfl,j.sp 14 (f0 7 7 [])⟩;refine c ?_;refine ek undef b (λw=>QM dT)<|io b b<|QM<|qY b<|d ?_;exact nt (b:=aK) (v:=vb aK) zt b b b<|dp<|k7<|f g▸⟨rfl,j.sp 11 (f0 4 7 [])⟩;rintro _ w⟨D,rfl,j⟩;refine bE<|i o λbq g o=>dz (λ(bq:aG (bU×Bool))=>SH E V [(1,h b1 0),(2,e p2),(7,A),(8,av),(9,e K),(10,h M 0),(11,e L.2),(25,x),(26,e (Z C)),(27,e K)] [bc 98 b1 [S,C_,W,E_,T,x,X,H,G,M_,K_,R],Y x C,Y H N_,Y G O_,mp A P,mp av bq,bx 102 M Q]) bq ?_ ?_;refine u g (λg=>?_) λg=>?_;refine c ?_;have j:=(j.sc Int (bT s r)).sc Int (cV v z);refine M0 (⟨(bT s r),(cV v z)⟩:bU) trivial rfl j [(0,e (bT s r)),(1,e (cV v z))] rfl NL rfl (λae hs ab=>by have U:=Bi ae;exact cC.cons (f:=λ(q:bU)ad=>{q with e0:=ad}) U vP (ab.sat 1 _ rfl).1 λ_ U=>cC.cons (f:=λ(q:bU)ad=>{q with e1:=ad}) U vQ (ab.sat 0 _ rfl).1 λ_ U=>cC.nil U) λK j=>?_;have j:=j.sc Bool aA;exact zT 9 0 (⟨(bT s r),(cV v z)⟩:bU) j b (xU 1 j) b b Xh λw j=>J<|f g▸⟨rfl,j.sp 11 (f0 4 7 [])⟩;exact dl<|f g▸⟨rfl,j.sp 7 (f0 0 7 [])⟩;rintro _ w⟨D,rfl,j⟩;refine cP<|bE<|b_<|d ?_;exact J<|f o▸⟨rfl,j.sp 7 (f0 0 7 [])⟩;exact fk<|f o▸⟨rfl,j.sp 7 (f0 0 7 [])⟩;rintro L _ w o⟨D,rfl,j⟩;refine cP<|bE<|b_<|d ?_;exact J<|f o▸⟨rfl,j.sp 7 (f0 0 6 [])⟩;rintro a5 _ w o⟨D,rfl,j⟩;refine c ?_;refine X2 5 zt b j b b ab2 λa2 w j=>cJ<|Y9 (λ(af:aG (bU×Bool))(az:aG (bX×Int)×aG k)aa w=>∃r:F,SH E V [(1,h b1 0),(7,A),(14,r),(119,h a2 0)] [bc 98 b1 [S,C_,W,E_,T,x,X,H,G,M_,K_,R],Y x C,Y H N_,Y G O_,mp A az.1,QJ av a2 a5 af,own 41 r az.2] aa w) (λ(az:aG (bX×Int)×aG k)aa w=>∃br:F,SH E V [(1,h b1 0),(14,br)] [bc 98 b1 [S,C_,W,E_,T,x,X,H,G,M_,K_,R],Y x C,Y H N_,Y G O_,mp A az.1,own 41 br az.2] aa w) (λ(ag:Empty)_ _=>ag.elim) o ?_ ?_ ?_ ?_;exact⟨n_,(j.cO k 41).sp 7 (f0 1 6 [0])⟩;rintro af az _ w⟨a3,D,rfl,j⟩r;refine Y_ 5 b j b b r ?_ ?_;refine c ?_;exact A5 b<|fk<|⟨rfl,a3,j.sp 7 [0,1,2,3,4,6]⟩;rintro bj r fl w o j;obtain rfl:=j.CZ (γ:=Bool) (i:=0) rfl;have j:=j.kv bj.1;refine c ?_;refine A0 b<|rx<|k4<|X_ 7 zt b j b b λr j=>?_;obtain rfl:=j.CZ (γ:=Bool) (i:=0) rfl;have j:=j.kv bj.1;refine d ?_;refine f_ j YB.z λr w j=>?_;refine fv 0 j 1 b YC λw j=>?_;refine i4<|k6 m ?_;have j:=j.drew;refine k5<|d ?_;refine p b zx<|a_<|d9 5 H j xt<|a_<|Ml b b b St<|a_<|BY 0 j b E9 n<|a_<|i o λbk r o=>By 7 j EN r λr j=>a_<|fq 0 j b q9 oD λr j=>a_<|t 0 bk.aZ j uB λr j=>d ?_;refine p b zx<|a_<|d9 8 H j xt<|a_<|Ml b b b Su<|a_<|BY 3 j b Fa n<|a_<|i o λbl s o=>By 10 j EN s λs j=>a_<|fq 0 j b q9 oD λs j=>a_<|t 0 bl.aZ j uB λz j=>d ?_;refine fp<|bE<|cF<|cF<|i o λbb g o=>dz (λ(bb:aG (bX×Int)×Bool)=>SH E V [(1,h b1 0),(7,A),(14,a3),(16,r),(17,z),(119,h a2 0),(157,vb bb.2)] [bc 98 b1 [S,C_,W,E_,T,x,X,H,G,M_,K_,R],Y x C,Y H N_,Y G O_,mp A bb.1,own 41 a3 az.2,Y r bk.aZ,Y z bl.aZ,QJ av a2 a5<|af++[bj]]) bb ?_ ?_;refine b_<|mv r<|IS 3 bk.aZ j uC<|d ?_;refine dU g (λs g=>?_) λs g=>?_;refine d ?_;exact nt (b:=aA) (v:=vb aA) zt b b b<|J<|f g▸⟨rfl,j.sp 18 (f0 11 5 [17,3,0,16])⟩;refine d ?_;refine IS 0 bl.aZ j uC<|d ?_;refine dU g (λs g=>?_) λs g=>?_;refine d ?_;exact J<|f g▸⟨rfl,j.sp 18 (f0 11 5 [17,3,0,16])⟩;refine d ?_;refine js (hg:=cg s) ([bk.aZ,bl.aZ]:aG (aG bX)) j [r,z] Sv ab3 (λae hs ab=>⟨(ab.sat 3 _ b).1,⟨(ab.sat 0 _ b).1,zt⟩⟩) λs w j=>?_;have j:=j.freeze 0;refine i g λs s g=>d7 ab4 (wv N (i0:=0) j b s) λs w j=>?_;have j:=(j.freeze 0).pull 17;refine i g λs s g=>IN ab7 (Cr N (i1:=0) j b s) λw j=>d ?_;exact J<|f g▸⟨rfl,j.sp 21 [14,15,16,17,0,20,6,3,19]⟩;rintro _ w⟨D,rfl,j⟩;refine bE<|u o (λo=>?_) λo=>?_;exact fk<|zo<|f o▸⟨rfl,a3,j.sp 9 [0,1,2,3,4,8,5]⟩;refine hG ?_;obtain⟨a7,ck,o⟩:=bd o;refine i o λa8 cm o=>q_ E V m [1,0,0,1,0,0,0,0,0] [1,2,4,5,6,7,8] (λ(q:F×F×F×F×F×Nat)=>(λM K P L Q v=>[(0,158,r),(1,159,M),(2,160,K),(3,161,z),(4,162,P),(5,163,L),(6,164,Q),(7,18,h v 0)]) q.1 q.2.1 q.2.2.1 q.2.2.2.1 q.2.2.2.2.1 q.2.2.2.2.2) [(1,h b1 0),(7,A),(14,a3),(16,r),(17,z),(119,h a2 0)] [] (λ(s:Nat->Bool)(q:F×F×F×F×F×Nat)=>(λM K P L Q v=>[bif s 0 then pt M a7 else aW,bif s 1 then Y K a7 else aW,bif s 2 then pt P a8 else aW,bif s 3 then Y L a8 else aW,bif s 4 then Y Q (⟨a7,a8,aK⟩:k)else aW,bif s 6 then bx 41 v (⟨a7,a8,aK⟩:k)else(bif s 5 then k3 41 v 5 else aW),bc 98 b1 [S,C_,W,E_,T,x,X,H,G,M_,K_,R],Y x C,Y H N_,Y G O_,mp A bb.1,own 41 a3 az.2,Y r bk.aZ,Y z bl.aZ,QJ av a2 a5<|af++[bj]]) q.1 q.2.1 q.2.2.1 q.2.2.2.1 q.2.2.2.2.1 q.2.2.2.2.2) (λq=>by kernel_rfl) ?_ ⟨λ_=>jd gn,?_,?_,λ_=>jd gn,?_,?_,?_,?_,?_,trivial⟩ ?_;exact⟨(undef,undef,undef,undef,undef,0),eT.none,J9 b,zt,((((((j.drew).aW).aW).aW).aW).aW).aW⟩;rintro s aa w hD r a4⟨⟨M,K,P,L,Q,v⟩,z,ha,_,j⟩;obtain⟨D,rfl⟩:=z.o1 0 r;have j:=j.bZ 0 hD;refine By 12 j th ck λcn j=>?_;exact y (cn,K,P,L,Q,v) 1 z ha (j.nw 0);rintro s aa w hD r a4⟨⟨M,K,P,L,Q,v⟩,z,ha,_,j⟩;obtain⟨D,rfl⟩:=z.o1 1 r;have j:=(j.dF 0<|r.1 rfl).bZ 1 hD;refine t 0 a7 j fF λcp j=>?_;exact y (M,cp,P,L,Q,v) 2 z ha (((j.pl 16 [1,0,3,4,5,6,7,8,9,10,11,12,13,14,15]).cL 0 (s 1) (r.1 rfl) aW).cL 1 aA rfl aW);rintro s aa w hD r a4⟨⟨M,K,P,L,Q,v⟩,z,ha,_,j⟩;obtain⟨D,rfl⟩:=z.o1 3 r;have j:=j.bZ 2 hD;refine By 13 j th cm λcq j=>?_;exact y (M,K,cq,L,Q,v) 4 z ha (j.nw 2);rintro s aa w hD r a4⟨⟨M,K,P,L,Q,v⟩,z,ha,_,j⟩;obtain⟨D,rfl⟩:=z.o1 4 r;have j:=(j.dF 2<|r.1 rfl).bZ 3 hD;refine t 2 a8 j fF λcr j=>?_;exact y (M,K,P,cr,Q,v) 5 z ha (((j.pl 16 [1,2,3,0,5,6,7,8,9,10,11,12,13,14,15]).cL 2 (s 4) (r.1 rfl) aW).cL 3 aA rfl aW);rintro s aa w hD r a4⟨⟨M,K,P,L,Q,v⟩,z,ha,_,j⟩;obtain⟨D,rfl⟩:=z.o2 2 5 r;have j:=((j.dF 1<|r.1 rfl).dF 3<|r.2.1 rfl).bZ 4 hD;refine lw (⟨a7,a8,aK⟩:k) trivial rfl j [(0,K),(1,L)] rfl Vk rfl (λae hs ab=>by have U:=HJ ae;exact cC.cons (f:=λ(q:k)ad=>{q with A:=ad}) U t7 (ab.sat 1 _ rfl).1 λ_ U=>cC.cons (f:=λ(q:k)ad=>{q with B:=ad}) U t8 (ab.sat 3 _ rfl).1 λ_ U=>cC.nil U) λq j=>?_;exact y (M,K,P,L,q,v) 6 z ha ((((j.pl 16 [1,2,3,4,0,6,7,8,9,10,11,12,13,14,15]).cL 1 (s 2) (r.1 rfl) aW).cL 3 (s 5) (r.2.1 rfl) aW).cL 4 aA rfl aW);rintro s aa w hD r a4⟨⟨M,K,P,L,Q,v⟩,z,ha,_,j⟩;obtain⟨D,rfl⟩:=Tj aa;have j:=(j.bZ 5<|nh a4 hD 8).bZ 5 hD;refine f_ j Q9.z λq w j=>?_;exact y (M,K,P,L,Q,q) 7 z ha ((j.nw 5).fO 5 (s 8) (nh a4 hD 8)<|bx 41 q (⟨a7,a8,aK⟩:k));rintro s aa w hD r a4⟨⟨M,K,P,L,Q,v⟩,z,ha,_,j⟩;obtain⟨D,rfl⟩:=z.o2 7 6 r;have j:=((j.dF 4<|r.2.1 rfl).bZ 5 hD).dF 5<|r.1 rfl;refine fv 5 j 4 b yh λw j=>?_;exact qr (M,K,P,L,Q,v) z ha ((j.cL 4 (s 6) (r.2.1 rfl) aW).cL 5 aA rfl (bif s 7 then k3 41 v 5 else aW));rintro s aa w q⟨⟨M,K,P,L,Q,v⟩,z,ha,_,j⟩;simp only[List.getD_cons_zero,List.getD_cons_succ,q 1 I,q 2 I,q 4 I,q 5 I,q 6 I,q 8 I,aN]at j;obtain⟨D,rfl⟩:=(ac (z.at 7 rfl<|tL q 7) ha).v8;refine bE<|cF<|IT<|p b tO<|em 5 j b nM fF λq j=>p b rI<|em 6 j b l9 fF λq j=>?_;refine i o λq q o=>IN Q3 (iq N (i0:=1) (i1:=0) j b b q) λw j=>d ?_;refine cJ<|i o λq g o=>dz (λ(q:k)=>SH E V [(1,h b1 0),(7,A),(14,a3),(18,h v 0),(119,h a2 0)] [bc 98 b1 [S,C_,W,E_,T,x,X,H,G,M_,K_,R],Y x C,Y H N_,Y G O_,mp A bb.1,own 41 a3 az.2,bx 41 v q,QJ av a2 a5<|af++[bj]]) q ?_ ?_;refine u g (λg=>?_) λg=>?_;refine b_<|p b tO<|em 7 j b nM fF λr j=>p b rI<|em 8 j b l9 fF λr j=>p b rI<|wn 9 j b 1 b t7 fF λw j=>?_;refine p b tO<|wn 9 j b 0 b t8 fF λw j=>?_;exact J<|f g▸⟨rfl,j.sp 19 (f0 10 6 [9,18])⟩;exact dl<|f g▸⟨rfl,j.sp 17 (f0 8 6 [7,16])⟩;rintro _ w⟨D,rfl,j⟩;refine c ?_;refine eX 6 j b yh λcv j=>js ([q]:aG k) j [cv] Bp Q9 (λ_ _=>j4) λq w j=>?_;have j:=j.freeze 0;refine i o λq q o=>j0 7 0 j Pw q λq w j=>?_;exact xe q<|J<|cP<|f o▸⟨rfl,q,j.sp 10 [2,3,4,5,6,9,7]⟩;intro ag _ _ _ _;exact ag.elim;rintro az _ w o⟨br,D,rfl,j⟩;refine c ?_;obtain⟨q,q,o⟩:=bd o;have j:=j.pull 5;refine IN Xb (El Tryz.lay24 k yh.Tc yh.sz Vl (λj r g s=>lj N j r g s) j q) λw j=>c ?_;obtain rfl:=f o;exact bH<|j.pk 7 [0,1]
def Jm{a:aG bD}{g:bV}{p2:ir}{res:aG k×Int}(j:B E w V)(h:eo V i0 l a)(h1:eo V i1 r g)(h2:eo V i2 Q p2)(o:oh N a g p2 p3=O res):
    c_ 7 [l,r,Q,e p3] w<|sC E V res:=by
 unfold oh at o
 refine cI Tryz.func7 b b ?_
 have j:=((j.dup (i0+0) h).dup (i1+1) h1).dup (i2+2) h2
 refine IT<|eh 1 r j b λh w j=>?_
 refine eh 1 Q j b λh w j=>?_
 refine c ?_
 refine eX 1 j b tg λh j=>eX 1 j b pD λh j=>gV p3 ?_
 obtain⟨i,h,o⟩:=bd o
 refine d7 abX (ze N (p3:=p3) (i0:=6) (i1:=1) (i2:=0) j b b b h) ?_
 rintro _ w h
 rcases aa:i.1 with _|i
 ·replace o:=Te aa o
  obtain⟨rfl,j⟩:=Mp aa h
  refine c ?_
  refine u o (λo=>?_) λo=>?_
  rotate_left
  ·cases o
  refine c ?_
  obtain rfl:=f o
  have j:=j.qL k
  exact kD ⟨n_,b,j.pk 8 [0]⟩
 replace o:=Tf aa o
 obtain⟨i,i,i,i,i,i,i,i,i,az,i,i,i,rfl,j⟩:=Mq aa h
 refine c ?_
 refine u o (λo=>?_) λo=>?_
 ·refine c ?_
  obtain rfl:=f o
  have j:=j.qL k
  exact kD ⟨n_,b,j.pk 21 [0]⟩
 refine p_<|eX 16 j b tg λh j=>d ?_
 have j:=((((j.freeze 9).dup 10 rfl).dup 10 rfl).dup 9 rfl).pull 4
 obtain⟨h,h,o⟩:=bd o
 refine d7 ab8 (Jl N (p2:=p3) (i0:=0) j b h) λh w j=>?_
 have j:=j.freeze 0
 obtain⟨h,h,o⟩:=bd o
 refine d7 Xc (zC N (i0:=0) j b h) ?_
 rintro _ w⟨h,rfl,j⟩
 refine c ?_
 obtain rfl:=f o
 exact kD ⟨h,b,j.pk 24 [0]⟩
def tt{res:Bool}(o:B E w V)(j:ld N a g p2=O res):c_ 20 [e a,e g,e p2] w<|aO E V res:=by
 unfold ld at j;refine cI Tryz.func20 b b<|IT<|mj aK<|hO<|sg ?_;exact cJ<|dw<|f j▸bH ⟨rfl,o.drop 0⟩
def CM{a:aG z}{g:z}{res:Bool}(j:B E w V)(k:eo V i0 l a)(h1:eo V i1 r g)(o:lq N a g=O res):c_ 55 [l,r] w<|aO E V res:=by
 unfold lq at o;refine cI Tryz.func55 b b ?_;have j:=(j.dup (i0+0) k).dup (i1+1) h1;refine IT<|eh 0 r j b λs w j=>?_;refine c ?_;refine pr E V (λ(k:Int)=>[Y l a,bx 62 s g]) (λ_=>[]) (λk=>[(0,l),(3,h s 0),(5,e k)]) (λs=>j3 q 62 Tryz.f55 (aO E V s) .ret) o ?_ ?_ ?_ ?_;exact j.sp 3 [2,0];rintro k t _ w⟨t,rfl,j⟩o;refine c ?_;refine IS 0 a j oH<|c ?_;refine u o (λo=>?_) λo=>?_;refine hG<|dt<|cF<|k6 m ?_;have j:=j.drew;refine k5<|d ?_;refine i o λv x o=>By 0 j iO x λx j=>a_<|fq 0 j b j7 eQ λx j=>a_<|eY v.X1 0 j n<|a_<|p b j7<|a_<|BY 3 j b eQ n<|d ?_;refine i o λv x o=>By 2 j iO x λx j=>a_<|fq 0 j b iI dV λx j=>a_<|eY v.X0 0 j n<|a_<|p b iI<|a_<|BY 5 j b dV n<|c ?_;refine k6 m ?_;have j:=j.drew;refine k5<|d ?_;refine i o λv x o=>By 4 j iO x λx j=>a_<|fq 0 j b lO fS λx j=>a_<|eY v.Y1 0 j n<|a_<|p b lO<|a_<|BY 7 j b fS n<|d ?_;refine i o λv x o=>By 6 j iO x λx j=>a_<|fq 0 j b iv dL λx j=>a_<|eY v.Y0 0 j n<|a_<|p b iv<|a_<|BY 9 j b dL n<|d ?_;refine fp<|bE<|IT<|sg ?_;refine cJ<|u o (λo=>?_) λo=>?_;refine c ?_;exact f o▸⟨rfl,bH ⟨rfl,j.drop 10⟩⟩;refine dl<|cP<|bE<|b_<|d ?_;exact J<|f o▸⟨rfl,j.sp 10 [8,9]⟩;exact fk<|f o▸⟨rfl,j.sp 2 [0,1]⟩;intro s s w o s;exact dx<|f o▸s;rintro k _ w o⟨t,rfl,j⟩;refine c ?_;exact f o▸bH ⟨rfl,j.drop 2⟩
def kK{a:aG Int}{res:Bool}(o:B E w V)(h:eo V i0 l a)(j:dK N a g=O res):c_ 166 [l,e g] w<|aO E V res:=by
 unfold dK at j;refine cI Tryz.func166 b b ?_;have o:=o.dup (i0+0) h;refine c ?_;refine pr E V (λ(h:Int)=>[Y l a]) (λ_=>[]) (λh=>[(0,l),(1,e g),(5,e h)]) (λk=>j3 q 18 Tryz.f166 (aO E V k) .ret) j ?_ ?_ ?_ ?_;exact o.sp 1 [0];rintro h m _ w⟨m,rfl,o⟩j;refine c ?_;refine IS 0 a o oI<|c ?_;refine u j (λj=>?_) λj=>?_;refine c ?_;refine i j λp r j=>By 0 o eA r λr o=>eY p 0 o n<|c ?_;refine u j (λj=>?_) λj=>?_;refine c ?_;exact f j▸⟨rfl,bH ⟨rfl,o.drop 2⟩⟩;refine dl<|cP<|bE<|b_<|d ?_;exact J<|f j▸⟨rfl,o.sp 2 [1]⟩;exact fk<|f j▸⟨rfl,o.sp 1 [0]⟩;intro k k w j k;exact dx<|f j▸k;rintro h _ w j⟨m,rfl,o⟩;refine c ?_;exact f j▸bH ⟨rfl,o.drop 1⟩
def uq{a:aG Int}{res:aG Int}(j:B E w V)(h:eo V i0 l a)(o:kl N a g=O res):c_ 167 [l,e g] w<|sP E V res:=by
 unfold kl at o;refine cI Tryz.func167 b b ?_;have j:=j.dup (i0+0) h;refine c ?_;refine IS 0 a j oI<|c ?_;refine m0 E V (λ(k:Int)=>[Y l a]) (λk=>[(0,l),(1,e g),(5,e k)]) (λ_=>[]) o ?_ ?_ ?_;exact j.sp 1 [0];rintro k h _ w⟨m,rfl,j⟩o;refine cF<|cF<|i o λp h o=>dz (λ(p:Bool)=>SH E V [(0,l),(1,e g),(5,e k),(19,vb p)] [Y l a]) p ?_ ?_;refine b_<|d ?_;refine dU h (λp h=>?_) λp h=>?_;refine d ?_;refine i h λp q h=>By 0 j eA q λq j=>eY p 0 j n<|d ?_;exact J<|f h▸⟨rfl,j.sp 2 [1]⟩;refine d ?_;exact J<|f h▸⟨rfl,j.sp 1 [0]⟩;rintro _ w⟨m,rfl,j⟩;refine bE<|u o (λo=>?_) λo=>?_;refine rx<|dt<|b_<|d ?_;exact J<|cP<|f o▸⟨rfl,j.sp 1 [0]⟩;exact fk<|f o▸⟨rfl,j.sp 1 [0]⟩;rintro k _ w o⟨m,rfl,j⟩;refine bE<|cF<|cF<|i o λp h o=>dz (λ(p:Bool)=>SH E V [(0,l),(1,e g),(5,e k),(32,vb p)] [Y l a]) p ?_ ?_;refine b_<|d ?_;refine dU h (λk h=>?_) λk h=>?_;refine d ?_;refine i h λk p h=>By 0 j eA p λp j=>eY k 0 j n<|d ?_;exact J<|f h▸⟨rfl,j.sp 2 [1]⟩;refine d ?_;exact J<|f h▸⟨rfl,j.sp 1 [0]⟩;rintro _ w⟨m,rfl,j⟩;refine bE<|u o (λo=>?_) λo=>?_;refine c ?_;obtain rfl:=f o;exact bH<|j.pk 1 [0];refine c ?_;refine i o λh h o=>rs (hl:= .inr ⟨rfl,b⟩) 0 j eA h λh j=>?_;have j:=j.cO Int 3;refine i o λaz h o=>j0 0 1 j xn h λh w j=>?_;refine c ?_;have j:=j.sc Int g;refine js ([g]:aG Int) j [e g] eA L1 (λ_ _=>j4) λh w j=>?_;have j:=j.freeze 0;refine i o λh h o=>j0 2 0 j xn h λh w j=>?_;refine c ?_;refine i o λh h o=>rs (hh:= .inr ⟨rfl,b⟩) 4 j eA h λh j=>?_;refine i o λh h o=>j0 3 0 j xn h λh w j=>?_;refine c ?_;obtain rfl:=f o;exact bH<|(j.freeze 3).pk 6 [3]
def wS(E:aT)(V:aG HP)(b0:Nat)(M P:F)(A L:F)(D C:F)(K s Q:F)(res:(aG Int×aG Int×aG bX)×aG Bool)(v:F)(w:aT):Prop:=∃a b c:F,v=(.agg ([a,b,c]:aG F).toArray)/\B E w ([Y a res.1.1,Y b res.1.2.1,own 39 c res.1.2.2,bc 113 b0 [M,P,A,L,D,C,K,s],own 4 Q res.2]++V)
def wx{x:aG (aG Int)}{p2:aG Bool}{res:(aG Int×aG Int×aG bX)×aG Bool}(j:B E w (bc 113 b0 [M,P,A,L,D,C,K,s]::Y s x::own 4 Q p2::V))(o:jc N x g p2=O res):c_ 102 [h b0 0,e g,Q] w<|wS E V b0 M P A L D C K s Q res:=by
 unfold jc at o;refine cI Tryz.func102 b b<|IT<|Br j Vf λq w j=>?_;refine hO<|gV g ?_;have j:=j.sc Int g;refine js ([g]:aG Int) j [e g] eA L1 (λ_ _=>j4) λa w j=>LT [n_,n_,n_] [a,n_,n_] b [(0,a)] b YE ⟨jX 0 j,zt⟩ b<|Br j Vf λr w j=>?_;refine V_ (cs:=[a,n_,n_]) 0 zt j b b b (Gt.all (⟨jX 1 j,b,b,zt⟩:Gt [a,n_,n_])) De b b λw j=>?_;refine c ?_;refine i o λk k o=>ep 6 j b b Ff k ?_;have j:=j.sc Bool aA;refine pz 7 0 j k Cn λw j=>?_;refine c ?_;refine p b xw<|d9 5 s j HL<|IS 6 x j Q4<|i o λk k o=>yj (Z x:Int) j Vr Se k λv w j=>?_;refine c ?_;have j:=j.sc Int g;refine js ([g]:aG Int) j [e g] eA L1 (λ_ _=>j4) λI w j=>c ?_;refine i o λk k o=>zq (λ(l:aG Bool×aG Int×aG Int×aG Bool×aG Int×Int)y w=>∃z G H:F,SH E V [(0,h b0 0),(2,Q),(6,h q 0),(7,h r 0),(8,v),(9,H),(10,e l.2.2.2.2.2)] [bc 113 b0 [M,P,A,L,D,C,K,s],Y s x,own 4 Q l.1,bc 108 q [n_,n_,n_],bc 108 r [z,G,n_],Y z l.2.1,Y G l.2.2.1,own 4 v l.2.2.2.1,own 3 H l.2.2.2.2.1] y w) (λ(l:aG Bool×aG Int×aG Int×aG Bool×aG Int×Int)y w=>∃G H:F,SH E V [(0,h b0 0),(2,Q),(6,h q 0),(7,h r 0)] [bc 113 b0 [M,P,A,L,D,C,K,s],Y s x,own 4 Q l.1,bc 108 q [n_,n_,n_],bc 108 r [G,H,n_],Y G l.2.1,Y H l.2.2.1,own 4 v l.2.2.2.1] y w) (λ(R:Empty)_ _=>R.elim) k ?_ ?_ ?_ ?_;exact⟨a,n_,I,((j.freeze 5).qL Int).sp 12 [9,10,11,8,5,6,0,3,1]⟩;rintro l fl _ w⟨ba,bb,bx,I,rfl,j⟩o;refine c ?_;refine lc (i:=8) (l:=l.2.2.2.2.1) zt b j b b oI<|c ?_;refine u o (λo=>?_) λo=>?_;refine c ?_;refine i o λa k o=>zq (λ(a:aG Bool×aG Int×aG Int×aG Bool×aG Int×Int)y w=>∃z S T:F,SH E V [(0,h b0 0),(2,Q),(6,h q 0),(7,h r 0),(8,v),(9,T),(10,e l.2.2.2.2.2),(11,e a.2.2.2.2.2)] [bc 113 b0 [M,P,A,L,D,C,K,s],Y s x,own 4 Q a.1,bc 108 q [n_,n_,n_],bc 108 r [z,S,n_],Y z a.2.1,Y S a.2.2.1,own 4 v a.2.2.2.1,own 3 T a.2.2.2.2.1] y w) (λ(a:aG Bool×aG Int×aG Int×aG Bool×aG Int×Int)y w=>∃aw ax ay:F,SH E V [(0,h b0 0),(2,Q),(6,h q 0),(7,h r 0),(8,v),(9,ay),(10,e l.2.2.2.2.2)] [bc 113 b0 [M,P,A,L,D,C,K,s],Y s x,own 4 Q a.1,bc 108 q [n_,n_,n_],bc 108 r [aw,ax,n_],Y aw a.2.1,Y ax a.2.2.1,own 4 v a.2.2.2.1,own 3 ay a.2.2.2.2.1] y w) (λ(R:Empty)_ _=>R.elim) k ?_ ?_ ?_ ?_;exact⟨ba,bb,bx,j.sp 9 (f0 0 9 [])⟩;rintro a fl _ w⟨U,W,X,I,rfl,j⟩o;refine c ?_;refine p b xw<|d9 0 s j HL<|IS 1 x j Q4<|c ?_;refine u o (λo=>?_) λo=>?_;refine hG<|dt<|cF<|cF<|i o λz k o=>dz (λ(z:Bool)=>SH E V [(0,h b0 0),(2,Q),(6,h q 0),(7,h r 0),(8,v),(9,X),(10,e l.2.2.2.2.2),(11,e a.2.2.2.2.2),(61,vb z)] [bc 113 b0 [M,P,A,L,D,C,K,s],Y s x,own 4 Q a.1,bc 108 q [n_,n_,n_],bc 108 r [U,W,n_],Y U a.2.1,Y W a.2.2.1,own 4 v a.2.2.2.1,own 3 X a.2.2.2.2.1]) z ?_ ?_;refine jb m (jv 19 20000000000000000) (f0 0 19 []) ?_;have j:=j.drew;refine c ?_;refine i k λS z k=>ep 7 j b b Ff z<|cX b<|p8 7 j z Cn<|cX b<|xh S<|dp<|dU k (λz k=>?_) λz k=>?_;refine ge b b<|d ?_;refine oy b<|d ?_;refine qY b<|c ?_;exact f k▸⟨rfl,j.sp 9 (f0 0 9 [])⟩;refine c ?_;refine p b xw<|cX b<|d9 0 s j HL<|d ?_;refine i k λb1 S k=>By 1 j Jh S λS j=>cX b<|t 0 b1 j fV λS j=>d ?_;refine i k λS bk k=>ep 10 j b b eA bk<|cX b<|p8 (hg:=cg z) 10 j bk n<|oy b<|i k λz z k=>IN Sw (kK N (g:=S) (i0:=0) j b z) λw j=>qY b<|c ?_;exact f k▸⟨rfl,j.sp 11 (f0 2 9 [])⟩;rintro _ w⟨I,rfl,j⟩;refine bE<|u o (λo=>?_) λo=>?_;refine fk<|zo<|bE<|b_<|d ?_;exact J<|f o▸⟨rfl,U,W,X,j.sp 9 (f0 0 9 [])⟩;refine c ?_;refine i o λz z o=>ep 7 j b b Ff z ?_;have j:=j.sc Bool aA;refine pz 8 0 j z Cn λw j=>?_;refine hO<|p b Ee<|d9 5 W j fV<|d ?_;refine i o λbm z o=>d7 YF (uq N (g:=a.2.2.2.2.2) (i0:=7) j b z) λS w j=>p b Ee<|q5 6 S j b b (tC 0 j) fV λw j=>?_;refine c ?_;refine Ji E V (λ(z:aG Bool×aG Int×aG Int×Int)(bn T:F)=>[bc 113 b0 [M,P,A,L,D,C,K,s],Y s x,own 4 Q z.1,bc 108 q [n_,n_,n_],bc 108 r [bn,S,n_],Y bn z.2.1,Y S bm,own 4 v<|a.2.2.2.1.set (mr a.2.2.2.2.2) aA,own 3 T z.2.2.1]) (λ_ _ T=>[(0,h b0 0),(2,Q),(6,h q 0),(7,h r 0),(8,v),(9,T),(10,e l.2.2.2.2.2),(11,e a.2.2.2.2.2)]) (λz _ _=>[(12,e z.2.2.2)]) o ?_ ?_ ?_;exact⟨U,X,j.sp 11 (f0 2 6 [0,9,10])⟩;rintro z fl _ w⟨a4,bo,I,rfl,j⟩o;refine c ?_;refine p b xw<|d9 0 s j HL<|d ?_;refine i o λT b6 o=>By 1 j Jh b6 λcr j=>t 0 T j fV λct j=>IS 0 T j oI<|c ?_;refine u o (λo=>?_) λo=>?_;refine c ?_;refine p b xw<|d9 2 s j HL<|d ?_;refine i o λT b8 o=>By 3 j Jh b8 λcu j=>t 0 T j fV λcv j=>gV z.2.2.2<|i o λT b9 o=>By 0 j eA b9 λcw j=>eY T 0 j n<|c ?_;refine i o λcx bq o=>ep 7 j b b Ff bq<|p8 7 j bq Cn<|d ?_;refine cJ<|i o λav k o=>dz (λ(av:aG Bool×aG Int×aG Int)y w=>∃az a0:F,SH E V [(0,h b0 0),(2,Q),(6,h q 0),(7,h r 0),(8,v),(9,a0),(10,e l.2.2.2.2.2),(11,e a.2.2.2.2.2),(12,e z.2.2.2)] [bc 113 b0 [M,P,A,L,D,C,K,s],Y s x,own 4 Q av.1,bc 108 q [n_,n_,n_],bc 108 r [az,S,n_],Y az av.2.1,Y S bm,own 4 v<|a.2.2.2.1.set (mr a.2.2.2.2.2) aA,own 3 a0 av.2.2] y w) av ?_ ?_;refine u k (λk=>?_) λk=>?_;refine c ?_;refine i k λq q k=>ep 7 j b b Ff q ?_;have j:=j.sc Bool aA;refine pz 8 0 j q Cn λw j=>?_;refine hO<|p b uT<|d9 10 a4 j fV<|gV T<|i k λq q k=>d7 YF (uq N (g:=T) (i0:=11) j b q) λbs w j=>p b uT<|q5 11 bs j b b (tC 0 j) fV λw j=>?_;refine c ?_;have j:=j.sc Int T;refine js ([T]:aG Int) j [e T] eA L1 (λ_ _=>j4) λq w j=>?_;have j:=j.freeze 0;refine i k λq q k=>j0 17 0 j xn q λq w j=>?_;exact xe q<|J<|f k▸⟨rfl,bs,q,j.sp 18 (f0 9 5 [2,15,16,17])⟩;exact dl<|f k▸⟨rfl,a4,bo,j.sp 14 (f0 5 9 [])⟩;rintro _ w⟨az,a0,I,rfl,j⟩;refine cP<|bE<|b_<|d ?_;exact J<|f o▸⟨rfl,az,a0,j.sp 9 (f0 0 9 [])⟩;exact fk<|f o▸⟨rfl,a4,bo,j.sp 11 (f0 2 9 [])⟩;rintro z _ w o⟨k,q,I,rfl,j⟩;refine cP<|bE<|b_<|d ?_;exact J<|f o▸⟨rfl,k,S,q,j.sp 9 (f0 0 9 [])⟩;exact fk<|f o▸⟨rfl,U,W,X,j.sp 9 (f0 0 9 [])⟩;intro R _ _ _ _;exact R.elim;rintro a _ w rfl⟨aw,ax,ay,I,rfl,j⟩;rw[Fo.OX]at o;refine cP<|bE<|b_<|d ?_;exact J<|f o▸⟨rfl,aw,ax,ay,j.sp 9 (f0 0 9 [])⟩;exact fk<|f o▸⟨rfl,ba,bb,j.sp 9 (f0 0 8 [])⟩;intro R _ _ _ _;exact R.elim;rintro l _ w rfl⟨G,H,I,rfl,j⟩;rw[Fo.OX]at o;refine bE<|IT<|W1 (cs:=[G,H,n_]) 4 zt b j b b De b<|V_ (cs:=[G,H,n_]) 3 zt j b b b (Gt.all (⟨tC 5 j,tC 6 j,b,zt⟩:Gt [G,H,n_])) De b b λw j=>?_;refine cJ<|dw ?_;obtain rfl:=f o;have j:=j.cO bX 39;exact aag (i:=4) (cs:=[G,H,n_]) b j b b De b ⟨G,H,n_,b,j.pk 9 [6,7,0,1,3]⟩
def sM{a:aG z}{g:dP}{res:Bool}(j:B E w V)(d:eo V i0 l a)(h1:eo V i1 r g)(o:gv N a g=O res):c_ 222 [l,r] w<|aO E V res:=by
 unfold gv at o;refine cI Tryz.func222 b b ?_;have j:=(j.dup (i0+0) d).dup (i1+1) h1;refine IT<|eh 0 r j b λd w j=>?_;refine mj aK<|i4 ?_;have j:=j.drew;refine v_ (λw=>B E w<|[bx 64 d g]++V) m [0,0,0,2,1,1,2,0] [0,1,2,4,5,3,6,7] (j.pk 3 [0])<|c ?_;refine p b m7<|cX b<|BY 0 j b fN n<|dp<|ek (h d 0) b (λw=>p b o9 dT)<|si (e g.X) b (λw j=>BY 0 j b gN n dT)<|io b b<|i o λd d o=>d7 Sn (ot N (g:=g.Y) (i0:=2) j b d) λd w j=>gj (j.pk 4 [1])<|io b b ?_;have j:=j.freeze 0;refine i o λd d o=>IN Vq (po N (g:=g.X) (i0:=0) j b d) λw j=>gj (j.pk 4 [1])<|c ?_;exact f o▸bH ⟨rfl,j.drop 4⟩
def ri(E:aT)(V:aG HP)(b0:Nat)(M P:F)(A L:F)(D C:F)(K s:F)(res:gL×Bool)(v:F)(w:aT):Prop:=∃a:F,v = .tuple #[a,vb res.2]/\B E w ([Y a res.1,bc 113 b0 [M,P,A,L,D,C,K,s]]++V)
def rj(E:aT)(V:aG HP)(b0:Nat)(M P:F)(A L:F)(D C:F)(K s:F)(r:gL×Bool)(U:Nat->F)(w:aT):Prop:=j3 q 91 Tryz.f168 (ri E V b0 M P A L D C K s r) .ret U w
def wT{y:aG cM}{F:aG Int}{x:aG (aG z)}{g:dD}{res:gL×Bool}(j:B E w (bc 113 b0 [M,P,A,L,D,C,K,s]::Y A y::Y D F::Y C x::V))(h1:eo V i1 r g)(o:jy N y F x g=O res):c_ 168 [h b0 0,r] w<|ri E V b0 M P A L D C K s res:=by
 unfold jy at o;refine cI Tryz.func168 b b ?_;have j:=j.dup (i1+4) h1;refine IT<|eh 0 r j b λq w j=>?_;have j:=j.fw (i:=0) rfl;refine f_ j ME.z λv w j=>?_;refine c ?_;refine pr E V (λ(l:Int)=>[bc 113 b0 [M,P,A,L,D,C,K,s],Y A y,Y D F,Y C x,pt (h q 0) g,k3 183 v 2]) (λ_=>[(0,h b0 0),(3,h q 0),(4,h v 0)]) (λl=>[(6,e l)]) (rj E V b0 M P A L D C K s) o ?_ ?_ ?_ ?_;exact j.sp 7 [3,4,5,6,1,0];rintro l X _ w⟨H,rfl,j⟩o;refine c ?_;refine p b vU<|d9 0 C j vC<|IS 3 x j ye<|c ?_;refine u o (λo=>?_) λo=>?_;refine hG<|dt<|cF<|i o λk a o=>dz (λ(k:Bool)=>SH E V [(0,h b0 0),(3,h q 0),(4,h v 0),(6,e l),(38,vb k)] [bc 113 b0 [M,P,A,L,D,C,K,s],Y A y,Y D F,Y C x,pt (h q 0) g,k3 183 v 2]) k ?_ ?_;refine jb m (jv 22 200000000000000000000) (f0 0 22 []) ?_;have j:=j.drew;refine c ?_;refine p b Bq<|cX b<|d9 0 D j fV<|d ?_;refine i a λk G a=>By 2 j eA G λG j=>cX b<|eY k 0 j n<|cX b<|fq 5 j b HK xL λG j=>cX b<|eY g.cR 0 j n<|cX b<|ic k g.cR<|cX b<|xh (k==g.cR)<|dp<|dU a (λk a=>?_) λk a=>?_;refine c ?_;refine p b vU<|cX b<|d9 2 C j vC<|d ?_;refine i a λk G a=>By 5 j Ad G λG j=>cX b<|t 0 k j xm λk j=>cX b<|fq 8 j b wM nL λk j=>cX b<|t 0 g.At j tN λbk j=>oy b<|i a λk k a=>IN YG (sM N (i0:=2) (i1:=0) j b b k) λw j=>qY b<|c ?_;exact f a▸⟨rfl,j.sp 12 (f0 6 6 [])⟩;refine ge b b<|d ?_;refine oy b<|d ?_;refine qY b<|c ?_;exact f a▸⟨rfl,j.sp 8 (f0 2 6 [])⟩;rintro _ w⟨H,rfl,j⟩;refine bE<|u o (λo=>?_) λo=>?_;refine IT<|gV l ?_;have j:=j.sc Int l;refine lw (⟨aK,l⟩:gL) trivial rfl j [(1,e l)] rfl Kk rfl (λG U I=>by have k:=Kf G;exact cC.cons (f:=λ(Q:gL)R=>{Q with Number:=R}) k GG (I.sat 0 _ rfl).1 λ_ k=>cC.nil k) λS j=>?_;refine fv 7 j 0 b q8 λw j=>?_;refine c ?_;obtain rfl:=f o;exact⟨rfl,E7 7 j q8 λS j=>⟨S,b,j.pk 9 [0,3]⟩⟩;refine dl<|cP<|bE<|b_<|d ?_;exact J<|f o▸⟨rfl,j.sp 6 (f0 0 6 [])⟩;exact fk<|f o▸⟨rfl,j.sp 6 (f0 0 6 [])⟩;intro Z W w o T;exact dx<|f o▸T;rintro l _ w o⟨H,rfl,j⟩;refine c ?_;refine pr E V (λ(l:Int)=>[bc 113 b0 [M,P,A,L,D,C,K,s],Y A y,Y D F,Y C x,pt (h q 0) g,k3 183 v 2]) (λ_=>[(0,h b0 0),(4,h v 0)]) (λl=>[(3,h q 0),(7,e l)]) (rj E V b0 M P A L D C K s) o ?_ ?_ ?_ ?_;exact j.sp 6 (f0 0 6 []);rintro l X _ w⟨H,rfl,j⟩o;refine c ?_;refine p b Bs<|p b ju<|d9 0 A j sA<|IS 1 y j Dd<|c ?_;refine u o (λo=>?_) λo=>?_;refine hG<|dt<|cF<|i o λS a o=>dz (λ(S:Bool)=>SH E V [(0,h b0 0),(3,h q 0),(4,h v 0),(7,e l),(87,vb S)] [bc 113 b0 [M,P,A,L,D,C,K,s],Y A y,Y D F,Y C x,pt (h q 0) g,k3 183 v 2]) S ?_ ?_;refine jb m (jv 37 211220000000000200000000000000000000) (f0 0 31 [33,34,31,32,35,36]) ?_;have j:=j.drew;refine c ?_;refine p b Bs<|cX b<|p b ju<|cX b<|d9 0 A j sA<|d ?_;refine i a λq az a=>By 1 j xp az λv j=>cX b<|fq 0 j b Bo vz λv j=>cX b<|eY q.iE 0 j Cn<|cX b<|xh q.iE<|dp<|dU a (λq a=>?_) λq a=>?_;refine c ?_;refine p b Bs<|cX b<|p b ju<|cX b<|d9 2 A j sA<|d ?_;refine i a λv x a=>By 3 j xp x λx j=>cX b<|t 0 v j lh λv j=>cX b<|fq 8 j b HK xL λv j=>cX b<|eY g.cR 0 j n<|oy b<|i a λv x a=>IN Xd (lC N (g:=g.cR) (i0:=1) j b x) λw j=>qY b<|NB q (vb v)<|cX b<|xh v<|dp<|dU a (λq a=>?_) λq a=>?_;refine c ?_;refine p b Bs<|cX b<|p b ju<|cX b<|d9 5 A j sA<|d ?_;refine i a λv x a=>By 6 j xp x λbs j=>cX b<|t 0 v j lh λv j=>dp<|wI (hg:=cg q) 11 b j b wM nL λv j=>rR (hg:=cg q) g.At 0 b j tN λv v bx j=>io b b<|i a λv x a=>d7 Ts (ig N (i0:=3) j b x) λx w j=>gj (⟨zt,j.gE 1⟩)<|io b b<|js (hg:=cg q) ([v]:aG z) j [x] iO rp (λ_ _=>j4) λv w j=>gj (⟨zt,j.gE 2⟩)<|io b b ?_;have j:=j.freeze 0;refine i a λb1 v a=>IN YG (sM N (i0:=0) (i1:=3) j b b v) λw j=>gj (⟨zt,j.gE 2⟩)<|ge b b<|d ?_;refine dp ?_;have j:=j.pl 18 [0,1,3,4,5,6,7,8,9,10,11,12,13,14,15,16,17];exact k7<|f a▸⟨rfl,j.sp 17 (f0 11 6 [])⟩;refine c ?_;refine ek undef b (λw=>kR q dT)<|ek undef b (λw=>kR q dT)<|io b b<|d ?_;refine QL b<|d ?_;refine QL b<|d ?_;refine qY b<|c ?_;exact f a▸⟨rfl,j.sp 11 (f0 5 6 [])⟩;refine ge b b<|d ?_;refine oy b<|d ?_;refine qY b<|c ?_;refine ek undef b (λw=>QM dT)<|ek undef b (λw=>QM dT)<|io b b<|QM<|QL b<|QM<|QL b<|QM<|qY b<|nt (b:=aK) (v:=vb aK) zt b b b<|dp<|k7 ?_;exact f a▸⟨rfl,j.sp 8 (f0 2 6 [])⟩;rintro _ w⟨H,rfl,j⟩;refine bE<|u o (λo=>?_) λo=>?_;refine IT<|gV l ?_;have j:=(j.sc Bool aA).sc Int l;refine lw (⟨aA,l⟩:gL) trivial rfl j [(0,vb aA),(1,e l)] rfl Kk rfl (λG U I=>by have k:=Kf G;exact cC.cons (f:=λ(Q:gL)R=>{Q with cM:=R}) k Pl (I.sat 1 _ rfl).1 λ_ k=>cC.cons (f:=λ(Q:gL)R=>{Q with Number:=R}) k GG (I.sat 0 _ rfl).1 λ_ k=>cC.nil k) λa j=>?_;refine fv 8 j 0 b q8 λw j=>?_;refine c ?_;obtain rfl:=f o;exact⟨rfl,E7 8 j q8 λa j=>⟨a,b,j.pk 10 [0,4]⟩⟩;refine dl<|cP<|bE<|b_<|d ?_;exact J<|f o▸⟨rfl,j.sp 6 (f0 0 6 [])⟩;exact fk<|f o▸⟨rfl,j.sp 6 (f0 0 6 [])⟩;intro Z W w o T;exact dx<|f o▸T;rintro l _ w o⟨H,rfl,j⟩;refine bE<|IT<|lw (⟨aK,0⟩:gL) trivial rfl j [] rfl Kk rfl (λG U I=>by have k:=Kf G;exact cC.nil k) λa j=>?_;refine fv 6 j 0 b q8 λw j=>?_;refine c ?_;obtain rfl:=f o;exact E7 6 j q8 λa j=>⟨a,b,j.pk 8 [0,2]⟩
end Go.Gk
