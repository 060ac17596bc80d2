/-
  Printed texts: Go functions as plain functions, and that they are. No statement of the seed is proved here.
-/
import Derived.Test.YtibjlncmnefhcaaGreatDoorG1
import Derived.Test.YtibjlncmnefhcaaGreatDoorG2
import Derived.Test.YtibjlncmnefhcaaGreatDoorA2
set_option linter.defProp false
set_option linter.unusedVariables false
set_option linter.unusedSimpArgs false
set_option linter.unusedSectionVars false
set_option maxRecDepth 100000
set_option maxHeartbeats 40000000
open Bool renaming true→aA,false→aK
open List renaming length→Z
open Option renaming bind→D,some→O,none→aQ
namespace Go.Gk
open Go IntKind Go.Proofs
variable (N:Nat){E w:aT}{b0 i0 i1:Nat}{a g p2:Int}{l k K D G s H P x M L C A r:F}{V:aG HP}
def G2(E:aT)(V:aG HP)(res:aG (aG aB))(v:F)(w:aT):Prop:=B E w<|[own 100 v res]++V
def FP{a:aG aB}{res:aG (aG aB)}(o:B E w V)(i:eo V i0 l a)(g:qh N a=O res):
    c_ 137 [l] w<|G2 E V res:=by
 unfold qh at g
 refine cI Tryz.func137 b b ?_
 have o:=o.dup (i0+0) i
 refine c ?_
 obtain⟨C,i,g⟩:=bd g
 refine d7 U8 (tQ N (i0:=0) o b i) λx w o=>c ?_
 refine lc (i:=0) (l:=C) zt b o b b oH ?_
 obtain⟨r,i,g⟩:=bd g
 refine yj (Z C:Int) o xn Zj i λi w o=>?_
 refine Br o aaR λk w o=>?_
 refine q5 0 i o b b (jX 1 o) fV λw o=>?_
 refine i4<|IT<|d9 0 i o fV<|lc (i:=1) (l:=r) zt b o b b oI<|gV 0<|cJ<|s_ E V (λ(j:aG Int)=>[Y l a,own 62 x C,bc 95 k [i],own 3 i j]) (λ_=>[(0,l),(3,x),(4,h k 0)]) (λq _=>[(32,e (Z r)),(33,e q)]) g ?_ ?_ ?_
 ·exact o.sp 4 [3,2,0,1]
 ·rintro X q j s' _ w W⟨v,rfl,o⟩g
  refine c ?_
  refine d9 2 i o fV<|d ?_
  obtain⟨r,r,g⟩:=bd g
  refine ep 3 o b b eA r ?_
  have o:=o.sc Int (q:Int)
  refine pz 4 0 o r n λw o=>?_
  refine J<|cP<|bE<|b_<|d ?_
  refine J ?_
  obtain rfl:=f g
  exact⟨rfl,o.sp 5 [1,2,3,4]⟩
 rintro j _ w g⟨v,rfl,o⟩
 refine bE<|IT<|yl [h k 0]<|c ?_
 refine IS 0 a o wZ<|gV 0<|cJ<|r_ E V (λ(q:aG Int×Int×Int)(j:F)=>[Y l a,own 62 x C,bc 95 k [j],own 3 j q.1]) (λ_ _=>[(3,x),(6,(.func (.func 201) #[] #[h k 0]))]) (λr q _=>[(0,l),(4,h k 0),(7,e q.2.1),(8,e q.2.2),(42,l),(43,e (Z a)),(44,e r)]) g ?_ ?_ ?_
 ·exact⟨i,o.sp 4 [0,1,2,3]⟩
 ·rintro X r q s' _ w W⟨A,v,rfl,o⟩g
  refine c ?_
  obtain⟨s,i,g⟩:=bd g
  refine By 0 o qo i λi o=>t 0 s o GM λi o=>f_ o Pp.z λi w o=>?_
  refine jU (r:Int)<|fv 0 o 1 b GM λw o=>?_
  refine hO<|p b qZ<|em 0 o b fI fV λi o=>IS 0 s.Xs o oI<|BA (Z s.Xs:Int) 2<|d ?_
  refine i4<|cF ?_
  obtain⟨b0,i,g⟩:=bd g
  refine dz (λ(b0:Bool)=>SH E V [(0,l),(3,x),(4,h k 0),(6,(.func (.func 201) #[] #[h k 0])),(7,e q.2.1),(8,e q.2.2),(11,e<|bK<|Int.tdiv (Z s.Xs:Int) 2),(42,l),(43,e (Z a)),(44,e r),(65,vb b0)] [Y l a,own 62 x C,bc 95 k [A],own 3 A q.1]) b0 ?_ ?_
  ·refine k6 m ?_
   have o:=o.drew
   refine k5<|d ?_
   refine dU i (λj i=>?_) λj i=>?_
   rotate_left
   ·refine c ?_
    obtain rfl:=f i
    exact⟨rfl,o.sp 8 [4,5,6,7]⟩
   refine d ?_
   obtain⟨D,j,i⟩:=bd i
   refine By 4 o qo j λj o=>a_<|fq 0 o b tE iu λj o=>a_<|eY D.Y1 0 o n<|a_<|p b xo<|a_<|BY 3 o b jY n ?_
   refine c ?_
   obtain rfl:=f i
   exact⟨rfl,o.sp 10 [6,7,8,9]⟩
  rintro _ w⟨v,rfl,o⟩
  refine bE ?_
  obtain⟨j,i,g⟩:=bd g
  refine dz (λ(j:aG Int)G w=>∃D:F,SH E V [(0,l),(3,x),(4,h k 0),(6,(.func (.func 201) #[] #[h k 0])),(7,e q.2.1),(11,e<|bK<|Int.tdiv (Z s.Xs:Int) 2),(42,l),(43,e (Z a)),(44,e r)] [Y l a,own 62 x C,bc 95 k [D],own 3 D j] G w) j ?_ ?_
  ·refine u i (λi=>?_) λi=>?_
   rotate_left
   ·refine dl ?_
    obtain rfl:=f i
    exact⟨rfl,A,o.sp 4 [0,1,2,3]⟩
   refine c ?_
   refine ol E V (λ(j:aG Int×Int×Int)(H:F)=>[Y l a,own 62 x C,bc 95 k [H],own 3 H j.1]) (λ_ _=>[(0,l),(3,x),(4,h k 0),(6,(.func (.func 201) #[] #[h k 0])),(7,e q.2.1),(11,e<|bK<|Int.tdiv (Z s.Xs:Int) 2),(42,l),(43,e (Z a)),(44,e r)]) (λj _=>[(12,e j.2.1),(13,e j.2.2)]) i ?_ ?_ ?_
   ·exact⟨A,o.sp 4 [0,1,2,3]⟩
   ·rintro j A _ w⟨H,v,rfl,o⟩g
    refine cF<|IT<|sg ?_
    refine cJ<|u g (λg=>?_) λg=>?_
    rotate_left
    ·refine fk ?_
     obtain rfl:=f g
     exact⟨rfl,H,o.sp 4 [0,1,2,3]⟩
    refine rx<|dt<|cF<|cF ?_
    obtain⟨A,i,g⟩:=bd g
    refine dz (λ(A:Bool)=>SH E V [(0,l),(3,x),(4,h k 0),(6,(.func (.func 201) #[] #[h k 0])),(7,e q.2.1),(11,e<|bK<|Int.tdiv (Z s.Xs:Int) 2),(12,e j.2.1),(13,e j.2.2),(42,l),(43,e (Z a)),(44,e r),(101,vb A)] [Y l a,own 62 x C,bc 95 k [H],own 3 H j.1]) A ?_ ?_
    ·refine k6 m ?_
     have o:=o.drew
     refine k5<|d ?_
     obtain⟨A,A,i⟩:=bd i
     refine ep 1 o b b iO A<|a_<|pe (α:=z) (qM 1 o A 0) iI<|a_<|sb 1 o (qM 1 o A 0) (eB A).2.1 dV n<|d ?_
     obtain⟨A,bk,i⟩:=bd i
     refine ep 1 o b b iO bk<|a_<|pe (α:=z) (qM 1 o bk 0) j7<|a_<|sb 1 o (qM 1 o bk 2) (eB bk).2.1 eQ n<|d ?_
     refine dU i (λA i=>?_) λA i=>?_
     rotate_left
     ·refine c ?_
      obtain rfl:=f i
      exact⟨rfl,o.sp 4 [0,1,2,3]⟩
     refine d ?_
     obtain⟨A,A,i⟩:=bd i
     refine ep 1 o b b iO A<|a_<|pe (α:=z) (qM 1 o A 0) iI<|a_<|sb 1 o (qM 1 o A 0) (eB A).2.1 dV n<|d ?_
     obtain⟨A,A,i⟩:=bd i
     refine ep 1 o b b iO A<|a_<|pe (α:=z) (qM 1 o A 0) j7<|a_<|sb 1 o (qM 1 o A 2) (eB A).2.1 eQ n<|c ?_
     obtain rfl:=f i
     exact⟨rfl,o.sp 4 [0,1,2,3]⟩
    rintro _ w⟨v,rfl,o⟩
    refine bE ?_
    obtain⟨K,i,g⟩:=bd g
    refine dz (λ(K:aG Int)G w=>∃A:F,SH E V [(0,l),(3,x),(4,h k 0),(6,(.func (.func 201) #[] #[h k 0])),(7,e q.2.1),(11,e<|bK<|Int.tdiv (Z s.Xs:Int) 2),(12,e j.2.1),(13,e j.2.2),(42,l),(43,e (Z a)),(44,e r)] [Y l a,own 62 x C,bc 95 k [A],own 3 A K] G w) K ?_ ?_
    ·refine u i (λi=>?_) λi=>?_
     rotate_left
     ·refine dl ?_
      obtain rfl:=f i
      exact⟨rfl,H,o.sp 4 [0,1,2,3]⟩
     refine c ?_
     have o:=(o.pull 3).pull 3
     obtain⟨M,H,i⟩:=bd i
     refine vt [h k 0] Vd [e j.2.1]<|fE (qQ N (a:=j.2.1) o H) ?_
     rintro _ w⟨H,rfl,o⟩
     refine d ?_
     have o:=(o.pull 1).pull 1
     obtain⟨P,H,i⟩:=bd i
     refine vt [h k 0] Vd [e j.2.2]<|fE (qQ N (a:=j.2.2) o H) ?_
     rintro _ w⟨H,rfl,o⟩
     refine c ?_
     refine d9 0 H o fV<|d ?_
     obtain⟨L,L,i⟩:=bd i
     refine ep 1 o b b eA L ?_
     have o:=o.sc Int (bT P.1 M.1)
     refine pz 2 0 o L n λw o=>?_
     refine J ?_
     obtain rfl:=f i
     exact⟨rfl,H,o.sp 9 [5,6,1,2]⟩
    rintro _ w⟨A,v,rfl,o⟩
    refine bE<|cF<|k6 m ?_
    have o:=o.drew
    refine k5<|d ?_
    obtain⟨H,H,g⟩:=bd g
    refine ep 1 o b b iO H<|a_<|pe (α:=z) (qM 1 o H 0) j7<|a_<|sb 1 o (qM 1 o H 2) (eB H).2.1 eQ n<|d ?_
    obtain⟨H,H,g⟩:=bd g
    refine ep 1 o b b iO H<|a_<|pe (α:=z) (qM 1 o H 0) j7<|a_<|sb 1 o (qM 1 o H 2) (eB H).2.1 eQ n<|d ?_
    refine fp<|bE ?_
    obtain⟨H,i,g⟩:=bd g
    refine dz (λ(H:Int×Int)=>SH E V [(0,l),(3,x),(4,h k 0),(6,(.func (.func 201) #[] #[h k 0])),(7,e q.2.1),(11,e<|bK<|Int.tdiv (Z s.Xs:Int) 2),(12,e H.1),(13,e H.2),(42,l),(43,e (Z a)),(44,e r)] [Y l a,own 62 x C,bc 95 k [A],own 3 A K]) H ?_ ?_
    ·refine u i (λi=>?_) λi=>?_
     ·refine b_<|d ?_
      refine J ?_
      obtain rfl:=f i
      exact⟨rfl,o.sp 4 [0,1,2,3]⟩
     refine b_<|d ?_
     refine J ?_
     obtain rfl:=f i
     exact⟨rfl,o.sp 4 [0,1,2,3]⟩
    rintro _ w⟨v,rfl,o⟩
    refine cP ?_
    obtain rfl:=f g
    exact⟨rfl,A,o.sp 4 [0,1,2,3]⟩
   rintro j _ w i⟨j,v,rfl,o⟩
   obtain rfl:=f i
   exact⟨rfl,j,o.sp 4 [0,1,2,3]⟩
  rintro _ w⟨D,v,rfl,o⟩
  refine bE<|b_<|d ?_
  refine J<|cP<|bE<|b_<|d ?_
  refine J ?_
  obtain rfl:=f g
  exact⟨rfl,D,o.sp 4 [0,1,2,3]⟩
 rintro q _ w g⟨A,v,rfl,o⟩
 refine bE<|IT<|zr (κ:=Int) (ν:=Int) o λK w o=>c ?_
 refine lc (i:=2) (l:=C) zt b o b b oH<|gV 0<|cJ ?_
 obtain⟨L,D,g⟩:=bd g
 refine K2 (λ(q:Nat)(L:aG Int×aG (Int×Int)×aG (aG z))G w=>∃(j r:F)(s:aG RV),SH E V [(6,(.func (.func 201) #[] #[h k 0])),(16,K),(17,r),(137,x),(138,e (Z C)),(139,e q)] [bc 95 k [j],own 3 j L.1,mp K L.2.1,own 62 x C,own 28 r s,kM (XS 62 z) s L.2.2 aQ] G w) (λ(L:aG Int×aG (Int×Int)×aG (aG z))G w=>∃(b4 Q:F)(aa:aG RV),SH E V [(17,Q)] [bc 95 k [b4],own 3 b4 L.1,mp K L.2.1,own 62 x C,own 28 Q aa,kM (XS 62 z) aa L.2.2 aQ] G w) D ?_ ?_ ?_ ?_
 ·have o:=(o.Jz<|XS 62 z).cO RV 28
  exact⟨A,n_,([]:aG RV),o.sp 7 [5,6,2,4,0,1]⟩
 ·rintro X L _ w⟨j,r,s,v,rfl,o⟩
  refine c ?_
  refine A5 Z8<|fk ?_
  exact⟨rfl,j,r,s,o.sp 6 (f0 0 6 [])⟩
 ·rintro X q L s' _ w W⟨j,r,A,v,rfl,o⟩g
  refine c ?_
  refine A0 (Z7 W)<|c ?_
  obtain⟨az,j,g⟩:=bd g
  refine ep 3 o b b iO j<|mt 3 o j gG λj o=>?_
  refine f_ o rp.z λS w o=>?_
  refine jU (q:Int)<|fv 0 o 1 b gG λw o=>?_
  refine c ?_
  have o:=(o.pull 3).pull 3
  obtain⟨T,j,g⟩:=bd g
  refine vt [h k 0] Vd [e q]<|fE (qQ N (a:=(q:Int)) o j) ?_
  rintro _ w⟨R,rfl,o⟩
  refine c ?_
  refine LE 6 T.1 b o b b b IB<|d ?_
  refine i4<|IT<|d ?_
  refine cJ ?_
  obtain⟨j,i,g⟩:=bd g
  refine dz (λ(j:aG (Int×Int)×aG (aG z)×Int)G w=>∃(H:F)(s:aG RV),SH E V [(6,(.func (.func 201) #[] #[h k 0])),(16,K),(17,H),(19,h S 0),(21,e j.2.2),(137,x),(138,e (Z C)),(139,e q)] [bc 95 k [R],own 3 R T.2,mp K j.1,bx 62 S az,own 62 x C,own 28 H s,kM (XS 62 z) s j.2.1 aQ] G w) j ?_ ?_
  ·refine u i (λi=>?_) λi=>?_
   rotate_left
   ·refine dl ?_
    obtain rfl:=f i
    exact⟨rfl,r,A,o.sp 10 [0,1,6,2,7,8,9]⟩
   refine IT<|mv r<|FV 8 9 L.2.2 o ye<|c ?_
   have o:=o.sc Int (Z L.2.2:Int)
   refine zT 7 0 T.1 o b b b b IB λw o=>c ?_
   have o:=(o.cO z 62).Mo (i:=0) rfl
   refine js ([rv<|.slice aQ 0 0]:aG RV) o [n_] Ad Xa (λ_ _=>j4) λr w o=>?_
   obtain⟨r,r,i⟩:=bd i
   have o:=o.freeze 0
   refine W0 12 0 13 2 zt b o b b b b b b Ve r λr w o=>?_
   refine xe r<|J ?_
   obtain rfl:=f i
   exact⟨rfl,r,A++[rv<|.slice aQ 0 0],o.sp 14 [4,5,10,6,11,12,13]⟩
  rintro _ w⟨H,s,v,rfl,o⟩
  refine bE ?_
  obtain⟨i,U,g⟩:=bd g
  obtain⟨P,da,g⟩:=bd g
  obtain⟨i,b5,g⟩:=bd g
  refine q_ E V m [1,1,1,1,0,0,0,0,0,0,0] [6,7,8,10] (λ(M:F×F×F)=>(λD A r=>[(0,163,H),(1,164,e j.2.2),(2,165,H),(3,166,e j.2.2),(4,167,Ge H (mr j.2.2) 1 0),(5,168,(s.getD (mr j.2.2) OE).v),(6,169,D),(7,170,A),(8,171,r),(9,172,Ge H (mr j.2.2) 1 0)]) M.1 M.2.1 M.2.2) [(6,(.func (.func 201) #[] #[h k 0])),(16,K),(17,H),(19,h S 0),(21,e j.2.2),(137,x),(138,e (Z C)),(139,e q)] [] (λ(q:Nat->Bool)(M:F×F×F)=>(λD A r=>[bif q 0 then Y D az else aW,bif q 2 then Y A ([az]:aG z)else(bif q 1 then own 62 A ([az]:aG z)else aW),bif q 3 then aW else(bif q 2 then own 62 r P else aW),bc 95 k [R],own 3 R T.2,mp K j.1,bx 62 S az,own 62 x C,bif q 3 then own 28 H (s.set (mr j.2.2)<|rv r)else own 28 H s,bif q 3 then kM (XS 62 z) (s.set (mr j.2.2)<|rv r) (j.2.1.set (mr j.2.2) P) aQ else(bif q 2 then kM (XS 62 z) s j.2.1 (O<|mr j.2.2)else kM (XS 62 z) s j.2.1 aQ)]) M.1 M.2.1 M.2.2) (λM=>by kernel_rfl) ?_ ⟨λ_=>jd gn,λ_=>jd gn,λ_=>jd gn,λ_=>jd gn,?_,?_,?_,?_,?_,?_,?_,trivial⟩ ?_
  ·have o:=(((o.drew).aW).aW).aW
   exact⟨(undef,undef,undef),eT.none,J9 b,zt,o⟩
  ·rintro q G w i C k⟨⟨D,A,r⟩,x,K,_,o⟩
   obtain⟨v,rfl⟩:=x.o2 2 3 C
   have o:=((o.bZ 8<|nh k i 10).bZ 9<|nh k i 10).bZ 9<|nf<|λS=>ft i<|(k 5 _ rfl<|(k 8 _ rfl S).1 rfl).1 rfl
   have T:=o.fP 9
   have ab:=iA OE T U
   refine ep 8 o b b Ad ab ?_
   have o:=(o.fO 8 (q 10) (nh k i 10)<|own 28 H<|s.set (mr j.2.2)<|rv r).fO 9 (q 8) (nf<|λS=>ft i<|(k 5 _ rfl<|(k 8 _ rfl S).1 rfl).1 rfl)<|kM (XS 62 z) s j.2.1<|O<|mr j.2.2
   have o:=o.fO 9 (q 10) (nh k i 10)<|kM (XS 62 z) (s.set (mr j.2.2)<|rv r) (j.2.1.set (mr j.2.2) P) aQ
   exact y (D,A,r) 4 x K o
  ·rintro q G w i C k⟨⟨D,A,r⟩,x,K,_,o⟩
   obtain⟨v,rfl⟩:=x.o1 4 C
   have o:=((o.bZ 8<|nh k i 10).bZ 9<|nh k i 10).bZ 9<|nh k i 8
   have T:=o.fP 9
   have ab:=iA OE T U
   refine M2 8 9 j.2.2 (Mn 62 z) OE b o b (qM 8 o ab 0) b b U xm ?_
   have o:=(o.fO 8 (q 10) (nh k i 10)<|own 28 H<|s.set (mr j.2.2)<|rv r).fO 9 (q 8) (nh k i 8)<|kM (XS 62 z) s j.2.1<|O<|mr j.2.2
   have o:=o.fO 9 (q 10) (nh k i 10)<|kM (XS 62 z) (s.set (mr j.2.2)<|rv r) (j.2.1.set (mr j.2.2) P) aQ
   exact y (D,A,r) 5 x K o
  ·rintro q G w i C k⟨⟨D,A,r⟩,x,K,_,o⟩
   obtain⟨v,rfl⟩:=K.v8
   have o:=o.bZ 0 i
   refine eX 6 o b gG λT o=>?_
   have o:=o.nw 0
   exact y (T,A,r) 6 x K o
  ·rintro q G w i C k⟨⟨D,A,r⟩,x,K,_,o⟩
   obtain⟨v,rfl⟩:=x.o1 6 C
   have o:=((o.dF 0<|C.1 rfl).bZ 1<|nh k i 8).bZ 1 i
   refine js ([az]:aG z) o [D] iO rp (λ_ _=>j4) λT w o=>?_
   have o:=(((o.pl 11 [1,0,3,4,5,6,7,8,9,10]).cL 0 (q 6) (C.1 rfl) aW).cL 1 aA rfl aW).fO 1 (q 8) (nh k i 8)<|Y T ([az]:aG z)
   exact y (D,T,r) 7 x K o
  ·rintro q G w i C k⟨⟨D,A,r⟩,x,K,_,o⟩
   obtain⟨v,rfl⟩:=x.o2 5 7 C
   have o:=(((((((o.bZ 1 i).dF 1<|C.2.1 rfl).bZ 2<|nh k i 10).bZ 2 i).bZ 8<|nh k i 10).bZ 9<|nh k i 10).bZ 9 i).J0 (j:=9) (jj:=j.2.2) (Mn 62 z) OE rfl U
   have o:=o.freeze 2
   refine j0 0 2 o Kh da λT w o=>?_
   dsimp only[List.cons_append,List.nil_append,List.set_cons_zero,List.set_cons_succ]at o
   have o:=((((o.pl 11 [1,2,0,4,5,6,7,8,9,10]).cL 1 aA rfl (bif q 7 then own 62 A ([az]:aG z)else aW)).cL 2 aA rfl aW).fO 2 (q 10) (nh k i 10) aW).fO 8 (q 10) (nh k i 10)<|own 28 H<|s.set (mr j.2.2)<|rv T
   have o:=(o.cL 9 aA rfl<|kM (XS 62 z) s j.2.1 aQ).fO 9 (q 10) (nh k i 10)<|kM (XS 62 z) (s.set (mr j.2.2)<|rv T) (j.2.1.set (mr j.2.2) P) aQ
   exact y (D,A,T) 8 x K o
  ·rintro q G w i C k⟨⟨D,A,r⟩,x,K,_,o⟩
   obtain⟨v,rfl⟩:=x.o2 0 1 C
   have o:=((o.bZ 8<|nh k i 10).bZ 9<|nh k i 10).dF 9<|C.2.2.2.2.2.2.2.2.2.2.1 rfl
   have T:=o.fP 9
   have U:=iA OE T b5
   refine ep 8 o b b Ad U ?_
   have o:=((o.fO 8 (q 10) (nh k i 10)<|own 28 H<|s.set (mr j.2.2)<|rv r).cL 9 (q 8) (C.2.2.2.2.2.2.2.2.2.2.1 rfl)<|kM (XS 62 z) s j.2.1 aQ).fO 9 (q 10) (nh k i 10)<|kM (XS 62 z) (s.set (mr j.2.2)<|rv r) (j.2.1.set (mr j.2.2) P) aQ
   exact y (D,A,r) 9 x K o
  ·rintro q G w i C k⟨⟨D,A,r⟩,x,K,_,o⟩
   obtain⟨v,rfl⟩:=x.o2 9 8 C
   have o:=((((o.bZ 2 i).dF 2<|C.2.1 rfl).bZ 8 i).bZ 9 i).dF 9<|C.2.1 rfl
   have i:=o.fP 9
   have k:=iA OE i b5
   refine LW 8 9 2 j.2.2 (Mn 62 z) OE o b b (qM 8 o k 0) b b b b5 xm λw o=>?_
   have o:=((o.cL 2 aA rfl (bif q 8 then own 62 r P else aW)).cL 8 aA rfl<|own 28 H s).cL 9 aA rfl (bif q 8 then kM (XS 62 z) s j.2.1 (O<|mr j.2.2)else kM (XS 62 z) s j.2.1 aQ)
   exact qr (D,A,r) x K o
  rintro q G w i⟨⟨D,A,r⟩,x,K,_,o⟩
  simp only[List.getD_cons_zero,List.getD_cons_succ,i 6 I,i 8 I,i 10 I,i 10 I,i 10 I,aN]at o
  obtain⟨v,rfl⟩:=K.v8
  refine cP<|bE<|b_<|d ?_
  refine J ?_
  obtain rfl:=f g
  exact⟨rfl,R,H,s.set (mr j.2.2)<|rv r,o.sp 10 [3,4,5,7,8,9]⟩
 rintro _ w⟨b4,Q,aa,v,rfl,o⟩
 refine c ?_
 refine FV 4 5 L.2.2 o ye<|gV 0<|cJ ?_
 have o:=o.JA (X:=XS 62 z) (b:=5) (j:=4) rfl (λi S k M j=>(XR 62) i S k M j) rfl rfl I
 refine r_ E V (λ(i:aG (aG aB))(j:F)=>[own 28 Q L.2.2,own 100 j i]) (λ_ j=>[(23,j)]) (λj _ _=>[(174,Q),(175,e (Z L.2.2)),(176,e j)]) g ?_ ?_ ?_
 ·have o:=o.cO (aG aB) 100
  exact⟨n_,o.sp 7 [5,0]⟩
 ·rintro X j i s' _ w W⟨j,v,rfl,o⟩g
  refine cF<|k4 ?_
  obtain⟨j,j,g⟩:=bd g
  refine ep 0 o b b Ad j<|mt 0 o j xm λj o=>?_
  refine c ?_
  obtain⟨j,k,g⟩:=bd g
  refine d7 Pq (rO N (i0:=0) o b k) λk w o=>?_
  have o:=o.freeze 0
  refine js ([j]:aG (aG aB)) o [k] Va Vb (λ_ _=>j4) λj w o=>?_
  have o:=o.freeze 0
  obtain⟨j,j,g⟩:=bd g
  refine j0 4 0 o abd j λcv w o=>?_
  refine xe cv<|J<|cP<|bE<|b_<|d ?_
  refine J ?_
  obtain rfl:=f g
  exact⟨rfl,cv,o.sp 5 [3,4]⟩
 rintro i _ w g⟨i,v,rfl,o⟩
 refine c ?_
 obtain rfl:=f g
 exact bH<|o.pk 2 [1]
def Dx(E:aT)(V:aG HP)(b0:Nat)(k K:F)(s H:F)(M L:F)(C A:F)(D G:F)(res:Bool×aG (aG aB)×aG aH)(v:F)(w:aT):Prop:=∃a b:F,v= vb res.1/\B E w ([bc 98 b0 [k,K,s,H,a,b,M,L,C,A,D,G],own 100 a res.2.1,own 102 b res.2.2]++V)
def CE{n:aG (aG z)}{q:aG cM}{a:aG (aG aB)}{g:aG aH}{res:Bool×aG (aG aB)×aG aH}(j:B E w (bc 98 b0 [k,K,s,H,P,x,M,L,C,A,D,G]::Y k n::Y s q::own 100 P a::own 102 x g::V))(o:mS N n q a g=O res):c_ 76 [h b0 0] w<|Dx E V b0 k K s H M L C A D G res:=by
 unfold mS at o;refine cI Tryz.func76 b b ?_;refine c ?_;refine p b wN<|p b rH<|d9 0 k j vC<|IS 1 n j ye<|gV 0<|cJ<|Nm E V (λ(l:aG (aG aB)×aG aH×Bool)(a g:F)=>[bc 98 b0 [k,K,s,H,a,g,M,L,C,A,D,G],own 100 a l.1,own 102 g l.2.1,Y k n,Y s q]) (λl _ _=>[(0,h b0 0),(3,vb l.2.2)]) (λg _ _ _=>[(16,k),(17,e (Z n)),(18,e g)]) o ?_ ?_ ?_;exact⟨P,x,j.sp 5 [0,3,4,1,2]⟩;rintro hm g l s' _ w hk⟨v,y,r,rfl,j⟩o;refine c ?_;refine i o λS a o=>By 3 j Ad a λa j=>t 0 S j xm λI j=>?_;refine c ?_;refine p b wN<|p b ju<|d9 2 s j sA<|IS 6 q j Dd<|gV 0<|cJ<|r_ E V (λ(T:aG z)(a:F)=>[bc 98 b0 [k,K,s,H,v,y,M,L,C,A,D,G],Y k n,Y s q,own 100 v l.1,own 102 y l.2.1,Y I S,own 62 a T]) (λ_ a=>[(0,h b0 0),(3,vb l.2.2),(4,e g),(5,I),(6,a),(16,k),(17,e (Z n)),(18,e g)]) (λU _ _=>[(27,s),(28,e (Z q)),(29,e U)]) o ?_ ?_ ?_;exact⟨n_,(j.cO z 62).sp 8 [3,6,7,4,5,1,0]⟩;rintro hm U T s' _ w hk⟨X,r,rfl,j⟩o;refine cF<|k4<|i o λa Q o=>By 2 j xp Q λQ j=>t 0 a j lh λa j=>f_ j Ki.z λa w j=>?_;refine fv 0 j 1 b lh λw j=>?_;refine hO<|eX 0 j b lh λa j=>gV (g:Int)<|i o λa a o=>IN U9 (uZ N (g:=(g:Int)) (i0:=0) j b a) λw j=>cJ<|i o λW a o=>dz (λ(W:aG z)R w=>∃Q:F,SH E V [(0,h b0 0),(3,vb l.2.2),(4,e g),(5,I),(6,Q),(16,k),(17,e (Z n)),(18,e g),(27,s),(28,e (Z q)),(29,e U)] [bc 98 b0 [k,K,s,H,v,y,M,L,C,A,D,G],Y k n,Y s q,own 100 v l.1,own 102 y l.2.1,Y I S,own 62 Q W] R w) W ?_ ?_;refine u a (λa=>?_) λa=>?_;refine b_<|mv X<|eX 1 j b lh λI j=>?_;refine i a λI S a=>d7 Tq (lr N (i0:=0) j b S) λS w j=>js ([I]:aG z) j [S] iO rp (λ_ _=>j4) λI w j=>?_;have j:=j.freeze 0;refine i a λI I a=>j0 13 0 j Kh I λI w j=>?_;exact xe I<|J<|f a▸⟨rfl,I,j.sp 14 (f0 7 7 [])⟩;exact dl<|f a▸⟨rfl,X,j.sp 11 (f0 4 7 [])⟩;rintro _ w⟨Q,r,rfl,j⟩;refine cP<|bE<|b_ ?_;refine d ?_;exact J<|f o▸⟨rfl,Q,j.sp 7 (f0 0 7 [])⟩;rintro T _ w o⟨I,r,rfl,j⟩;refine c ?_;refine i o λQ Q o=>d7 Pq (rO N (i0:=5) j b Q) λQ w j=>mv I ?_;have j:=j.freeze 7;refine i o λI bx o=>d7 Pq (rO N (i0:=7) j b bx) λI w j=>?_;have j:=(j.freeze 1).freeze 0;refine i o λI I o=>d7 (eP Tryz.func135) (G0 N (i0:=1) (i1:=0) j b b I) λS w j=>xe S<|i4<|i o λI a o=>dz (λ(I:Bool×aG aB)R w=>∃Q:F,SH E V [(0,h b0 0),(3,vb I.1),(4,e g),(9,Q),(16,k),(17,e (Z n)),(18,e g)] [bc 98 b0 [k,K,s,H,v,y,M,L,C,A,D,G],Y k n,Y s q,own 100 v l.1,own 102 y l.2.1,Y Q I.2] R w) I ?_ ?_;refine b_ ?_;refine d ?_;refine dU a (λR a=>?_) λR a=>?_;refine d ?_;have j:=j.freeze 0;refine i a λcv R a=>IN (eP Tryz.func136) (G1 N (i0:=0) j b R) λw j=>?_;refine d ?_;exact J<|f a▸⟨rfl,S,j.sp 10 [3,4,5,6,7,0]⟩;refine d ?_;exact J<|f a▸⟨rfl,S,(j.freeze 0).sp 10 [3,4,5,6,7,0]⟩;rintro _ w⟨Q,r,rfl,j⟩;refine c ?_;refine p b Vc<|d9 0 v j abc<|mv Q<|js ([I.2]:aG (aG aB)) j [Q] Va Vb (λT X S=>⟨(S.sat 5 _ b).1,zt⟩) λv w j=>?_;have j:=j.freeze 0;refine i o λW v o=>j0 4 0 j abd v λR w j=>?_;refine wr b<|p b Vc<|q5 1 R j b b (jX 4 j) abc λw j=>?_;refine hO<|mv Q<|i o λv Q o=>d7 (eP Tryz.func137) (FP N (i0:=6) j b Q) λQ w j=>lc (i:=0) (l:=v) zt b j b b aa5<|gV 0<|cJ<|r_ E V (λ(az:aG aH)(U:F)=>[bc 98 b0 [k,K,s,H,R,U,M,L,C,A,D,G],own 102 U az,Y k n,Y s q,own 100 R W,own 100 Q v]) (λ_ _=>[(0,h b0 0),(3,vb I.1),(16,k),(17,e (Z n)),(18,e g)]) (λI _ _=>[(4,e g),(64,Q),(65,e (Z v)),(66,e I)]) o ?_ ?_ ?_;exact⟨y,j.sp 8 [2,6,3,4,5,0]⟩;rintro hm I az s' _ w hk⟨y,r,rfl,j⟩o;refine cF<|k4<|i o λQ v o=>ep 5 j b b Va v<|mt 5 j v Ye λv j=>?_;refine xe v<|cJ ?_;have j:=j.drew;refine v_ (λw=>B E w<|[bc 98 b0 [k,K,s,H,R,y,M,L,C,A,D,G]]++V) m [1,1,1,1,1,1,1,0,2,0,2,2,0,0,2] [0,1,2,3,4,5,6,7,8,9,10,11,12,13,14] (j.pk 7 [1])<|ek (h b0 0) b (λw=>i8 (h b0 0) dT)<|ek (h b0 0) b (λw=>i8 (h b0 0) dT)<|ek (h b0 0) b (λw=>wr b dT)<|ek (h b0 5) b (λw=>p b sO dT)<|si y b (λw j=>d9 0 y j EM dT)<|ek (e g) b (λw=>i8 (e g) dT)<|ek v b (λw=>i8 v dT)<|ge b b ?_;refine mv v<|oy b<|i o λU y o=>d7 U8 (tQ N (i0:=0) j b y) λy w j=>gj (j.pk 8 [2])<|ge b b ?_;have j:=(j.sc Int (g:Int)).freeze 1;refine lw (⟨(g:Int),Q,U⟩:aH) trivial rfl j [(0,e g),(1,v),(2,y)] rfl abf rfl (λT X S=>by have v:=Ke T;exact cC.cons (f:=λ(y:aH)I=>{y with cR:=I}) v GC (S.sat 0 _ rfl).1 λ_ v=>cC.cons (f:=λ(y:aH)I=>{y with Set:=I}) v GD (S.sat 2 _ rfl).1 λ_ v=>cC.cons (f:=λ(y:aH)I=>{y with eG:=I}) v GF (S.sat 1 _ rfl).1 λ_ v=>cC.nil v) λv j=>?_;refine oy b<|js ([(⟨(g:Int),Q,U⟩:aH)]:aG aH) j [v] NI Ps (λ_ _=>j4) λg w j=>gj (j.pk 11 [5])<|io b b ?_;have j:=j.freeze 0;refine i o λg g o=>j0 6 0 j ads g λbk w j=>?_;refine gj (j.pk 11 [5]) ?_;refine c ?_;refine p b sO<|dp<|Nk b b<|q5 5 bk j b b (jX 6 j) EM λw j=>?_;refine gj zt<|k7<|cP<|bE<|b_ ?_;refine d ?_;exact J<|f o▸⟨rfl,bk,j.sp 11 (f0 5 6 [])⟩;rintro az _ w o⟨g,r,rfl,j⟩;refine cP<|bE<|b_ ?_;refine d ?_;exact J<|f o▸⟨rfl,R,g,j.sp 6 [0,4,1,2,3]⟩;rintro l _ w o⟨v,g,r,rfl,j⟩;refine bE<|cF<|i o λy a o=>dz (λ(y:Bool)=>SH E V [(0,h b0 0),(2,vb y)] [bc 98 b0 [k,K,s,H,v,g,M,L,C,A,D,G],Y k n,Y s q,own 100 v l.1,own 102 g l.2.1]) y ?_ ?_;refine b_ ?_;refine d ?_;refine dU a (λn a=>?_) λn a=>?_;refine d ?_;refine p b sO<|d9 0 g j EM<|lc (i:=2) (l:=l.2.1) (cg n) b j b b L3 ?_;refine d ?_;exact J<|f a▸⟨rfl,j.sp 5 [0,3,4,1,2]⟩;refine d ?_;exact J<|f a▸⟨rfl,j.sp 5 [0,3,4,1,2]⟩;rintro _ w⟨r,rfl,j⟩;exact bE<|dw<|f o▸bH ⟨v,g,b,j.pk 5 [0,3,4]⟩
def HU{a g:z}{res:Bool}(j:B E w V)(c:eo V i0 l a)(h1:eo V i1 r g)(k:zp N a g=O res):c_ 140 [l,r] w<|aO E V res:=by
 unfold zp at k;refine cI Tryz.func140 b b ?_;have j:=(j.dup (i0+0) c).dup (i1+1) h1;refine IT<|eh 1 l j b λi w j=>?_;refine eh 1 r j b λc w j=>?_;refine mj aK<|hO<|p b iI<|BY 1 j b dV n<|p b j7<|BY 0 j b eQ n<|d ?_;refine g7 aA (a.X0<g.X1) (h c 0) rfl rfl rfl (cW iI)<|g7 aA (a.X0<g.X1) (e g.X0) rfl rfl rfl (bO 0 rfl j (by exact z_ (h c 0)) rfl dV n)<|g7 aA (a.X0<g.X1) (h i 2) rfl rfl rfl (cW j7)<|g7 aA (a.X0<g.X1) (e a.X1) rfl rfl rfl (bO 1 rfl j (by exact z_ (h i 2)) rfl eQ n)<|sg ?_;refine hO<|p b iv<|BY 1 j b dL n<|p b lO<|BY 0 j b fS n<|d ?_;refine g7 aA (a.Y0<g.Y1) (h c 1) rfl rfl rfl (cW iv)<|g7 aA (a.Y0<g.Y1) (e g.Y0) rfl rfl rfl (bO 0 rfl j (by exact z_ (h c 1)) rfl dL n)<|g7 aA (a.Y0<g.Y1) (h i 3) rfl rfl rfl (cW lO)<|g7 aA (a.Y0<g.Y1) (e a.Y1) rfl rfl rfl (bO 1 rfl j (by exact z_ (h i 3)) rfl fS n)<|sg ?_;refine hO<|d ?_;refine g7 aA (kE (a.X0<g.X1)&&kE (g.X0<a.X1)) (h i 3) rfl rfl rfl (cW lO)<|g7 aA (kE (a.X0<g.X1)&&kE (g.X0<a.X1)) (e a.Y1) rfl rfl rfl (bO 1 rfl j (by exact z_ (h i 3)) rfl fS n)<|g7 aA (kE (a.X0<g.X1)&&kE (g.X0<a.X1)) (h c 1) rfl rfl rfl (cW iv)<|g7 aA (kE (a.X0<g.X1)&&kE (g.X0<a.X1)) (e g.Y0) rfl rfl rfl (bO 0 rfl j (by exact z_ (h c 1)) rfl dL n)<|dq (vb<|a.Y1==g.Y0) rfl rfl (hB .eql)<|dq (vb<|a.Y1==g.Y0) rfl rfl eL<|dv (h c 3) rfl rfl (cW lO)<|dv (e g.Y1) rfl rfl (bO 0 rfl j (by exact z_ (h c 3)) rfl fS n)<|dv (h i 1) rfl rfl (cW iv) ?_;refine dv (e a.Y0) rfl rfl (bO 1 rfl j (by exact z_ (h i 1)) rfl dL n)<|dv (vb<|g.Y1==a.Y0) rfl rfl (hB .eql)<|dq (vb<|(a.Y1==g.Y0)||(g.Y1==a.Y0)) rfl rfl ql<|d ?_;refine dq (vb<|kE (a.Y0<g.Y1)&&kE (g.Y0<a.Y1)) rfl rfl eL<|dq (vb<|kE (a.Y0<g.Y1)&&kE (g.Y0<a.Y1)) rfl rfl eL<|dv (h i 2) rfl rfl (cW j7)<|dv (e a.X1) rfl rfl (bO 1 rfl j (by exact z_ (h i 2)) rfl eQ n)<|dv (h c 0) rfl rfl (cW iI)<|dv (e g.X0) rfl rfl (bO 0 rfl j (by exact z_ (h c 0)) rfl dV n)<|dv (vb<|a.X1==g.X0) rfl rfl (hB .eql)<|dv (vb<|a.X1==g.X0) rfl rfl eL<|dv (h c 2) rfl rfl (cW j7) ?_;refine dv (e g.X1) rfl rfl (bO 0 rfl j (by exact z_ (h c 2)) rfl eQ n)<|dv (h i 0) rfl rfl (cW iI)<|dv (e a.X0) rfl rfl (bO 1 rfl j (by exact z_ (h i 0)) rfl dV n)<|sg ?_;exact cJ<|dw<|f k▸bH ⟨rfl,j.drop 4⟩
def zA{a:z}{g:cM}{res:Bool}(j:B E w V)(c:eo V i0 l a)(h1:eF V i1 r g)(o:ni N a g=O res):c_ 139 [l,r] w<|aO E V res:=by
 unfold ni at o;refine cI Tryz.func139 b b ?_;have j:=(j.dup (i0+0) c).xS (i:=i1+1) h1;refine IT<|eh 1 l j b λc w j=>?_;have j:=j.fw (i:=0) rfl;refine mj aK<|i4<|jb m [1,0,2,2,0] [0,1,2,3,4] ?_;have j:=j.drew;refine rR a 0 b j gG λc c c j=>ge b b<|t 3 g j lh λc j=>oy b<|i o λc c o=>d7 Tq (lr N (i0:=0) j b c) λc w j=>gj (⟨zt,j.gE 2⟩)<|io b b<|i o λc d o=>IN (eP Tryz.func140) (HU N (i0:=3) (i1:=0) j b b d) λw j=>gj (⟨zt,j.gE 2⟩)<|ge b b<|mj c<|dp ?_;have j:=j.pl 7 [0,1,3,4,5,6];exact k7<|bE<|dw<|f o▸bH ⟨rfl,j.drop 6⟩
def rh{a:aG z}{g:z->aP Bool}{res:Bool}(j:B E w V)(d:eo V i0 l a)(h1:R3 q E V r g (λ(e:Bool)=>Value.bool e))(o:jP N a g=O res):c_ 138 [l,r] w<|aO E V res:=by
 unfold jP at o;refine cI Tryz.func138 b b ?_;have j:=j.dup (i0+0) d;refine c ?_;refine i o λd d o=>IN X8 (zz N (i0:=0) j b (h1.lift 1 b) d) λw j=>c ?_;exact f o▸bH ⟨rfl,j.drop 1⟩
def Dy(E:aT)(V:aG HP)(b0:Nat)(k K:F)(s H:F)(P x:F)(L C:F)(A D G:F)(res:aG (aG Int))(v:F)(w:aT):Prop:=∃a:F,v = .tuple #[]/\B E w ([bc 98 b0 [k,K,s,H,P,x,a,L,C,A,D,G],own 95 a res]++V)
def CF{l:aG cM}{m:aG aH}{a:aG (aG Int)}{res:aG (aG Int)}(j:B E w (bc 98 b0 [k,K,s,H,P,x,M,L,C,A,D,G]::Y s l::Y x m::own 95 M a::V))(g:mT N l m a=O res):c_ 77 [h b0 0] w<|Dy E V b0 k K s H P x L C A D G res:=by
 unfold mT at g;refine cI Tryz.func77 b b<|c ?_;refine p b wN<|p b ju<|d9 0 s j sA<|IS 1 l j Dd<|gV 0<|cJ<|r_ E V (λ(y:aG (aG Int))(a:F)=>[bc 98 b0 [k,K,s,H,P,x,a,L,C,A,D,G],own 95 a y,Y s l,Y x m]) (λ_ _=>[(0,h b0 0)]) (λI _ _=>[(11,s),(12,e (Z l)),(13,e I)]) g ?_ ?_ ?_;exact⟨M,j.sp 4 [0,3,1,2]⟩;rintro S I y T _ w R⟨r,z,rfl,j⟩g;refine cF<|k4<|i g λv a g=>By 2 j xp a λa j=>t 0 v j lh λa j=>f_ j Ki.z λq w j=>?_;refine fv 0 j 1 b lh λw j=>?_;refine c ?_;refine p b sO<|d9 3 x j EM<|IS 6 m j L3<|gV 0<|cJ ?_;have j:=j.fw (i:=0) rfl;refine r_ E V (λ(Q:aG Int)(a:F)=>[bc 98 b0 [k,K,s,H,P,x,r,L,C,A,D,G],Y s l,Y x m,own 95 r y,pt (h q 0) v,own 3 a Q]) (λ_ a=>[(0,h b0 0),(4,a),(11,s),(12,e (Z l)),(13,e I)]) (λo _ _=>[(3,h q 0),(20,x),(21,e (Z m)),(22,e o)]) g ?_ ?_ ?_;exact⟨n_,(j.cO Int 3).sp 8 [4,6,7,5,1,0]⟩;rintro S o Q T _ w R⟨S,z,rfl,j⟩g;refine c ?_;refine i g λT a g=>By 2 j NI a λa j=>t 0 T j IC λa j=>f_ j Ps.z λa w j=>?_;refine jU (o:Int)<|fv 0 j 1 b IC λw j=>?_;refine i4<|i g λR a g=>dz (λ(R:Bool)=>SH E V [(0,h b0 0),(3,h q 0),(4,S),(5,e o),(11,s),(12,e (Z l)),(13,e I),(20,x),(21,e (Z m)),(22,e o),(40,vb R)] [bc 98 b0 [k,K,s,H,P,x,r,L,C,A,D,G],Y s l,Y x m,own 95 r y,pt (h q 0) v,own 3 S Q]) R ?_ ?_;refine b_<|fq 7 j b Bo vz λR j=>eY v.iE 0 j Cn<|xh v.iE<|dU a (λR a=>?_) λR a=>?_;refine t 8 v j lh λR j=>p b Ec<|BY 2 j b l7 n<|i a λR R a=>IN U9 (uZ N (g:=T.cR) (i0:=0) j b R) λw j=>d ?_;refine dU a (λR a=>?_) λR a=>?_;refine p b Ed<|em 2 j b l8 xm λbk j=>yl (hg:=cg R) [h q 0] ?_;refine i a λR R a=>IN Yg (rh N (i0:=0) j rfl ⟨139,[h q 0],rfl,(eP Tryz.func139),λw X T T T W j T U=>by exact fE (zA N (i0:=W) (i1:=Z X+10) j T Fy U) λ_ _ T=>T⟩ R) λw j=>d ?_;exact J<|f a▸⟨rfl,j.sp 12 (f0 6 6 [])⟩;refine d ?_;exact J<|f a▸⟨rfl,j.sp 11 (f0 5 6 [])⟩;refine d ?_;exact nt (b:=aK) (v:=vb aK) zt b b b<|J<|f a▸⟨rfl,j.sp 10 (f0 4 6 [])⟩;rintro _ w⟨z,rfl,j⟩;refine bE<|i g λT a g=>dz (λ(T:aG Int)U w=>∃R:F,SH E V [(0,h b0 0),(3,h q 0),(4,R),(11,s),(12,e (Z l)),(13,e I),(20,x),(21,e (Z m)),(22,e o)] [bc 98 b0 [k,K,s,H,P,x,r,L,C,A,D,G],Y s l,Y x m,own 95 r y,pt (h q 0) v,own 3 R T] U w) T ?_ ?_;refine u a (λa=>?_) λa=>?_;refine c ?_;have j:=j.sc Int (o:Int);refine js ([(o:Int)]:aG Int) j [e o] eA L1 (λ_ _=>j4) λl w j=>?_;have j:=j.freeze 0;refine i a λl l a=>j0 7 0 j xn l λl w j=>?_;exact xe l<|J<|f a▸⟨rfl,l,j.sp 8 (f0 2 6 [])⟩;exact dl<|f a▸⟨rfl,S,j.sp 6 (f0 0 6 [])⟩;rintro _ w⟨R,z,rfl,j⟩;refine cP<|bE<|b_<|d ?_;exact J<|f g▸⟨rfl,R,j.sp 6 (f0 0 6 [])⟩;rintro Q _ w g⟨a,z,rfl,j⟩;refine c ?_;refine p b NJ<|d9 0 r j HL<|mv a ?_;have j:=j.freeze 5;refine js ([Q]:aG (aG Int)) j [a] Jh Zk (λa a a=>⟨(a.sat 5 _ b).1,zt⟩) λa w j=>?_;have j:=j.freeze 0;refine i g λa a g=>j0 4 0 j Zl a λa w j=>?_;refine wr b<|p b NJ<|q5 1 a j b b (jX 4 j) HL λw j=>?_;refine J<|cP<|bE<|b_<|d ?_;exact J<|f g▸⟨rfl,a,j.sp 7 [1,4,2,3]⟩;rintro y _ w g⟨a,z,rfl,j⟩;obtain rfl:=f g;exact Cf<|HB ⟨a,b,j.pk 4 [0,1]⟩
def FQ(E:aT)(V:aG HP)(res:aG Int)(v:F)(w:aT):Prop:=∃(b:Nat)(a:F),v=h b 0/\B E w ([bc 151 b [a],own 3 a res]++V)
def sQ{res:aG Int}(j:B E w V)(o:lk N a=O res):c_ 35 [e a] w<|FQ E V res:=by
 unfold lk at o;refine cI Tryz.func35 b b<|c ?_;refine i o λq g o=>yj a j xn Zj g λg w j=>?_;refine LT [n_] [g] b [(0,g)] b abi ⟨jX 0 j,zt⟩ b<|Pi [g] b j b (Gt.all (⟨jX 0 j,zt⟩:Gt [g])) λk w j=>?_;refine c ?_;refine p b xq<|d9 0 g j fV<|lc (i:=1) (l:=q) zt b j b b oI<|gV 0<|cJ<|s_ E V (λ(l:aG Int)=>[bc 151 k [g],own 3 g l]) (λ_=>[(3,h k 0)]) (λm _=>[(13,e (Z q)),(14,e m)]) o ?_ ?_ ?_;exact j.sp 2 [0,1];rintro q m l q _ w q⟨r,rfl,j⟩o;refine c ?_;refine p b xq<|d9 0 g j fV<|d ?_;refine i o λq q o=>ep 1 j b b eA q ?_;have j:=j.sc Int (m:Int);refine pz 2 0 j q n λw j=>?_;refine J<|cP<|bE<|b_<|d ?_;exact J<|f o▸⟨rfl,j.sp 3 [1,2]⟩;rintro l _ w o⟨r,rfl,j⟩;refine c ?_;exact f o▸bH ⟨k,g,b,j.pk 2 [0,1]⟩
def EZ(E:aT)(V:aG HP)(b0:Nat)(res:Int×aG Int)(v:F)(w:aT):Prop:=∃a:F,v= e res.1/\B E w ([bc 151 b0 [a],own 3 a res.2]++V)
def gZ{a:aG Int}{res:Int×aG Int}(j:B E w (bc 151 b0 [k]::own 3 k a::V))(o:eC N a g=O res):c_ 36 [h b0 0,e g] w<|EZ E V b0 res:=by
 unfold eC at o;refine cI Tryz.func36 b b<|c ?_;refine m0 E V (λ(a:aG Int×Int)=>[bc 151 b0 [k],own 3 k a.1]) (λa=>[(0,h b0 0),(1,e a.2)]) (λ_=>[]) o ?_ ?_ ?_;exact j.sp 2 [0,1];rintro a l _ w⟨q,rfl,j⟩o;refine c ?_;refine p b xq<|d9 0 k j fV<|gV a.2<|i o λl l o=>ep 1 j b b eA l<|p8 1 j l n<|c ?_;refine u o (λo=>?_) λo=>?_;refine rx<|dt<|cF<|jb m (jv 20 20000000000000000000) (f0 0 20 []) ?_;have j:=j.drew;refine c ?_;refine p b xq<|cX b<|d9 0 k j fV<|d ?_;refine p b xq<|cX b<|d9 0 k j fV<|d ?_;refine p b xq<|cX b<|d9 0 k j fV<|d ?_;refine i o λl l o=>ep 1 j b b eA l<|cX b<|p8 1 j l n<|cX b<|i o λr l o=>ep 1 j b b eA l<|cX b<|p8 1 j l n<|cX b<|i o λl l o=>ep 1 j b b eA l<|oy b ?_;have j:=j.sc Int r;refine pz 2 0 j l n λw j=>?_;refine gj zt<|c ?_;refine p b xq<|d9 1 k j fV<|gV a.2<|i o λr l o=>ep 2 j b b eA l<|p8 2 j l n<|jU r<|J<|cP ?_;exact f o▸⟨rfl,j.sp 3 [1,2]⟩;exact fk<|f o▸⟨rfl,j.sp 2 [0,1]⟩;rintro a _ w o⟨q,rfl,j⟩;refine c ?_;exact f o▸bH ⟨k,b,j.pk 2 [0,1]⟩
def Dz(E:aT)(V:aG HP)(b0:Nat)(res:aG Int)(v:F)(w:aT):Prop:=∃a:F,v = .tuple #[]/\B E w ([bc 151 b0 [a],own 3 a res]++V)
def qR{a:aG Int}{res:aG Int}(j:B E w (bc 151 b0 [k]::own 3 k a::V))(o:eV N a g p2=O res):c_ 37 [h b0 0,e g,e p2] w<|Dz E V b0 res:=by
 unfold eV at o;refine cI Tryz.func37 b b<|c ?_;have j:=(j.pull 1).pull 1;refine i o λm a o=>d7 Pt (gZ N (g:=g) j a) ?_;rintro _ w⟨a,rfl,j⟩;refine d ?_;have j:=(j.pull 1).pull 1;refine i o λq a o=>d7 Pt (gZ N (g:=p2) j a) ?_;rintro _ w⟨a,rfl,j⟩;refine c ?_;refine p b xq<|d9 0 a j fV<|d ?_;refine i o λl l o=>ep 1 j b b eA l ?_;have j:=j.sc Int (bT q.1 m.1);refine pz 2 0 j l n λw j=>?_;refine J ?_;obtain rfl:=f o;exact Cf<|HB ⟨a,b,j.pk 7 [1,2]⟩
def DA(E:aT)(V:aG HP)(b0:Nat)(res:aG (aG Int)×aG Int)(v:F)(w:aT):Prop:=∃b a:F,v=b/\B E w ([own 95 b res.1,bc 151 b0 [a],own 3 a res.2]++V)
def CG{r:aG Int}{res:aG (aG Int)×aG Int}(o:B E w (bc 151 b0 [k]::own 3 k r::V))(A:mU N r=O res):
    c_ 141 [h b0 0] w<|DA E V b0 res:=by
 unfold mU at A
 refine cI Tryz.func141 b b<|c ?_
 refine zr (κ:=Int) (ν:=Int) o λj w o=>c ?_
 refine p b xq<|d9 1 k o fV<|lc (i:=2) (l:=r) zt b o b b oI<|gV 0<|cJ ?_
 obtain⟨g,n,A⟩:=bd A
 refine K2 (λ(x:Nat)(g:aG Int×aG (aG Int)×aG (Int×Int))C w=>∃(a i:F)(l:aG RV),SH E V [(0,h b0 0),(3,i),(4,j),(12,e (Z r)),(13,e x)] [bc 151 b0 [a],own 3 a g.1,mp j g.2.2,own 95 i l,kM (XS 3 Int) l g.2.1 aQ] C w) (λ(g:aG Int×aG (aG Int)×aG (Int×Int))C w=>∃(M P:F)(S:aG RV),SH E V [(0,h b0 0),(3,P)] [bc 151 b0 [M],own 3 M g.1,mp j g.2.2,own 95 P S,kM (XS 3 Int) S g.2.1 aQ] C w) n ?_ ?_ ?_ ?_
 ·have o:=(o.Jz<|XS 3 Int).cO RV 95
  exact⟨k,n_,([]:aG RV),o.sp 5 [3,4,2,0,1]⟩
 ·rintro l g _ w⟨a,i,n,D,rfl,o⟩
  refine c ?_
  refine A5 Z8<|fk ?_
  exact⟨rfl,a,i,n,o.sp 5 [0,1,2,3,4]⟩
 ·rintro l x g a _ w a⟨i,s,n,D,rfl,o⟩A
  refine c ?_
  refine A0 (Z7 a)<|c ?_
  have o:=(o.pull 1).pull 1
  obtain⟨i,a,A⟩:=bd A
  refine d7 Pt (gZ N (g:=(x:Int)) o a) ?_
  rintro _ w⟨K,rfl,o⟩
  refine jU i.1<|i4<|IT<|d ?_
  refine cJ ?_
  obtain⟨a,l,A⟩:=bd A
  refine dz (λ(a:aG (aG Int)×aG (Int×Int))C w=>∃(z:F)(q:aG RV),SH E V [(0,h b0 0),(3,z),(4,j),(5,e x),(6,e i.1),(12,e (Z r)),(13,e x)] [bc 151 b0 [K],own 3 K i.2,mp j a.2,own 95 z q,kM (XS 3 Int) q a.1 aQ] C w) a ?_ ?_
  ·refine u l (λl=>?_) λl=>?_
   rotate_left
   ·refine dl ?_
    obtain rfl:=f l
    exact⟨rfl,s,n,o.sp 7 [0,1,4,5,6]⟩
   refine c ?_
   refine FV 5 6 g.2.1 o Q4 ?_
   have o:=o.sc Int (Z g.2.1:Int)
   refine zT 5 0 (x:Int) o b b b b IB λw o=>c ?_
   have o:=(o.cO Int 3).Mo (i:=0) rfl
   refine js ([rv<|.slice aQ 0 0]:aG RV) o [n_] Jh Zk (λ_ _=>j4) λbk w o=>?_
   obtain⟨g,g,l⟩:=bd l
   have o:=o.freeze 0
   refine W0 9 0 10 2 zt b o b b b b b b Zl g λg w o=>?_
   refine xe g<|J ?_
   obtain rfl:=f l
   exact⟨rfl,g,n++[rv<|.slice aQ 0 0],o.sp 11 [4,5,8,9,10]⟩
  rintro _ w⟨z,q,D,rfl,o⟩
  refine bE ?_
  obtain⟨g,Q,A⟩:=bd A
  obtain⟨H,U,A⟩:=bd A
  obtain⟨g,R,A⟩:=bd A
  refine q_ E V m [1,1,1,0,1,1,1,0,0,0,1,0,0,0,0] [11,12,14] (λ(G:F×F)=>(λs n=>[(0,29,z),(1,30,j),(2,31,e i.1),(3,32,e<|eU a.2 i.1 (0:Int)),(4,33,z),(5,34,j),(6,35,e i.1),(7,36,e<|eU a.2 i.1 (0:Int)),(8,37,Ge z (mr<|eU a.2 i.1 (0:Int)) 1 0),(9,38,(q.getD (mr<|eU a.2 i.1 (0:Int)) OE).v),(10,39,e x),(11,40,s),(12,41,n),(13,42,Ge z (mr<|eU a.2 i.1 (0:Int)) 1 0)]) G.1 G.2) [(0,h b0 0),(3,z),(4,j),(5,e x),(6,e i.1),(12,e (Z r)),(13,e x)] [] (λ(l:Nat->Bool)(G:F×F)=>(λs n=>[bif l 1 then Y s ([(x:Int)]:aG Int)else(bif l 0 then own 3 s ([(x:Int)]:aG Int)else aW),bif l 2 then aW else(bif l 1 then own 3 n H else aW),bc 151 b0 [K],own 3 K i.2,mp j a.2,bif l 2 then own 95 z (q.set (mr<|eU a.2 i.1 (0:Int))<|rv n)else own 95 z q,bif l 2 then kM (XS 3 Int) (q.set (mr<|eU a.2 i.1 (0:Int))<|rv n) (a.1.set (mr<|eU a.2 i.1 (0:Int)) H) aQ else(bif l 1 then kM (XS 3 Int) q a.1 (O<|mr<|eU a.2 i.1 (0:Int))else kM (XS 3 Int) q a.1 aQ)]) G.1 G.2) (λG=>by kernel_rfl) ?_ ⟨λ_=>jd gn,λ_=>jd gn,λ_=>jd gn,?_,λ_=>jd gn,λ_=>jd gn,λ_=>jd gn,?_,?_,?_,λ_=>jd gn,?_,?_,?_,?_,trivial⟩ ?_
  ·have o:=((o.drew).aW).aW
   exact⟨(undef,undef),eT.none,J9 b,zt,o⟩
  ·rintro l C w g t j⟨⟨s,n⟩,r,v,_,o⟩
   obtain⟨D,rfl⟩:=r.o2 1 2 t
   refine yW 4 i.1 zt o b IB ?_
   exact y (s,n) 3 r v o
  ·rintro l C w g t j⟨⟨s,n⟩,r,v,_,o⟩
   obtain⟨D,rfl⟩:=r.o2 5 6 t
   refine yW 4 i.1 zt o b IB ?_
   exact y (s,n) 7 r v o
  ·rintro l C w g t j⟨⟨s,n⟩,r,v,_,o⟩
   obtain⟨D,rfl⟩:=r.o2 4 7 t
   have o:=((o.bZ 5<|nh j g 14).bZ 6<|nh j g 14).bZ 6<|nf<|λL=>ft g<|(j 9 _ rfl<|(j 12 _ rfl L).1 rfl).1 rfl
   have T:=o.fP 6
   have W:=iA OE T Q
   refine ep 5 o b b Jh W ?_
   have o:=(o.fO 5 (l 14) (nh j g 14)<|own 95 z<|q.set (mr<|eU a.2 i.1 (0:Int))<|rv n).fO 6 (l 12) (nf<|λL=>ft g<|(j 9 _ rfl<|(j 12 _ rfl L).1 rfl).1 rfl)<|kM (XS 3 Int) q a.1<|O<|mr<|eU a.2 i.1 (0:Int)
   have o:=o.fO 6 (l 14) (nh j g 14)<|kM (XS 3 Int) (q.set (mr<|eU a.2 i.1 (0:Int))<|rv n) (a.1.set (mr<|eU a.2 i.1 (0:Int)) H) aQ
   exact y (s,n) 8 r v o
  ·rintro l C w g t j⟨⟨s,n⟩,r,v,_,o⟩
   obtain⟨D,rfl⟩:=r.o1 8 t
   have o:=((o.bZ 5<|nh j g 14).bZ 6<|nh j g 14).bZ 6<|nh j g 12
   have T:=o.fP 6
   have W:=iA OE T Q
   refine M2 5 6 (eU a.2 i.1 (0:Int)) (Mn 3 Int) OE b o b (qM 5 o W 0) b b Q fV ?_
   have o:=(o.fO 5 (l 14) (nh j g 14)<|own 95 z<|q.set (mr<|eU a.2 i.1 (0:Int))<|rv n).fO 6 (l 12) (nh j g 12)<|kM (XS 3 Int) q a.1<|O<|mr<|eU a.2 i.1 (0:Int)
   have o:=o.fO 6 (l 14) (nh j g 14)<|kM (XS 3 Int) (q.set (mr<|eU a.2 i.1 (0:Int))<|rv n) (a.1.set (mr<|eU a.2 i.1 (0:Int)) H) aQ
   exact y (s,n) 9 r v o
  ·rintro l C w g t j⟨⟨s,n⟩,r,v,_,o⟩
   obtain⟨D,rfl⟩:=r.o1 10 t
   have o:=((o.bZ 0<|nh j g 12).bZ 0 g).sc Int (x:Int)
   refine js ([(x:Int)]:aG Int) o [e x] eA L1 (λ_ _=>j4) λT w o=>?_
   have o:=((o.pl 9 [0,3,4,5,6,7,8]).cL 0 aA rfl aW).fO 0 (l 12) (nh j g 12)<|Y T ([(x:Int)]:aG Int)
   exact y (T,n) 11 r v o
  ·rintro l C w g t j⟨⟨s,n⟩,r,v,_,o⟩
   obtain⟨D,rfl⟩:=r.o2 9 11 t
   have o:=(((((((o.bZ 0 g).dF 0<|t.2.1 rfl).bZ 1<|nh j g 14).bZ 1 g).bZ 5<|nh j g 14).bZ 6<|nh j g 14).bZ 6 g).J0 (j:=6) (jj:=eU a.2 i.1 (0:Int)) (Mn 3 Int) OE rfl Q
   have o:=o.freeze 1
   refine j0 0 1 o xn U λQ w o=>?_
   dsimp only[List.cons_append,List.nil_append,List.set_cons_zero,List.set_cons_succ]at o
   have o:=((((o.pl 8 [1,0,3,4,5,6,7]).cL 0 aA rfl (bif l 11 then own 3 s ([(x:Int)]:aG Int)else aW)).cL 1 aA rfl aW).fO 1 (l 14) (nh j g 14) aW).fO 5 (l 14) (nh j g 14)<|own 95 z<|q.set (mr<|eU a.2 i.1 (0:Int))<|rv Q
   have o:=(o.cL 6 aA rfl<|kM (XS 3 Int) q a.1 aQ).fO 6 (l 14) (nh j g 14)<|kM (XS 3 Int) (q.set (mr<|eU a.2 i.1 (0:Int))<|rv Q) (a.1.set (mr<|eU a.2 i.1 (0:Int)) H) aQ
   exact y (s,Q) 12 r v o
  ·rintro l C w g t j⟨⟨s,n⟩,r,v,_,o⟩
   obtain⟨D,rfl⟩:=r.o2 0 3 t
   have o:=((o.bZ 5<|nh j g 14).bZ 6<|nh j g 14).dF 6<|t.2.2.2.2.2.2.2.2.2.2.2.2.2.2.1 rfl
   have x:=o.fP 6
   have Q:=iA OE x R
   refine ep 5 o b b Jh Q ?_
   have o:=(o.fO 5 (l 14) (nh j g 14)<|own 95 z<|q.set (mr<|eU a.2 i.1 (0:Int))<|rv n).cL 6 (l 12) (t.2.2.2.2.2.2.2.2.2.2.2.2.2.2.1 rfl)<|kM (XS 3 Int) q a.1 aQ
   have o:=o.fO 6 (l 14) (nh j g 14)<|kM (XS 3 Int) (q.set (mr<|eU a.2 i.1 (0:Int))<|rv n) (a.1.set (mr<|eU a.2 i.1 (0:Int)) H) aQ
   exact y (s,n) 13 r v o
  ·rintro l C w g t j⟨⟨s,n⟩,r,v,_,o⟩
   obtain⟨D,rfl⟩:=r.o2 13 12 t
   have o:=((((o.bZ 1 g).dF 1<|t.2.1 rfl).bZ 5 g).bZ 6 g).dF 6<|t.2.1 rfl
   have g:=o.fP 6
   have j:=iA OE g R
   refine LW 5 6 1 (eU a.2 i.1 (0:Int)) (Mn 3 Int) OE o b b (qM 5 o j 0) b b b R fV λw o=>?_
   have o:=((o.cL 1 aA rfl (bif l 12 then own 3 n H else aW)).cL 5 aA rfl<|own 95 z q).cL 6 aA rfl (bif l 12 then kM (XS 3 Int) q a.1 (O<|mr<|eU a.2 i.1 (0:Int))else kM (XS 3 Int) q a.1 aQ)
   exact qr (s,n) r v o
  rintro l C w az⟨⟨s,n⟩,r,v,_,o⟩
  have o:=(((o.dF 0<|tL az 12).dF 1<|tL az 14).dF 5<|tL az 14).dF 6<|tL az 14
  obtain⟨D,rfl⟩:=v.v8
  refine cP<|bE<|b_<|d ?_
  refine J ?_
  obtain rfl:=f A
  exact⟨rfl,K,z,q.set (mr<|eU a.2 i.1 (0:Int))<|rv n,o.sp 7 [2,3,4,5,6]⟩
 rintro _ w⟨M,P,S,D,rfl,o⟩
 refine c ?_
 obtain rfl:=f A
 have o:=o.JA (X:=XS 3 Int) (b:=4) (j:=3) rfl (λa L i G g=>(XR 3) a L i G g) rfl rfl I
 exact bH ⟨P,M,b,o.pk 5 [3,0,1]⟩
def CH{a:z}{g:dP}{res:Bool}(j:B E w V)(c:eo V i0 l a)(h1:eF V i1 r g)(e:pJ N a g=O res):c_ 237 [l,r] w<|aO E V res:=by
 unfold pJ at e;refine cI Tryz.func237 b b ?_;have j:=(j.dup (i0+0) c).xS (i:=i1+1) h1;refine IT<|eh 1 l j b λc w j=>?_;refine mj aK<|i4<|i e λh c e=>dz (λ(h:Bool)=>SH E V [(3,vb h)] []) h ?_ ?_;refine b_<|fq 1 j b o9 gN λh j=>eY g.X 0 j n<|p b iI<|BY 1 j b dV n<|d ?_;refine dU c (λh c=>?_) λh c=>?_;refine fq 2 j b o9 gN λh j=>eY g.X 0 j n<|p b j7<|BY 2 j b eQ n<|d ?_;refine dU c (λh c=>?_) λh c=>?_;refine fq 3 j b m7 fN λh j=>eY g.Y 0 j n<|p b iv<|BY 3 j b dL n<|d ?_;refine dU c (λh c=>?_) λh c=>?_;refine fq 4 j b m7 fN λh j=>eY g.Y 0 j n<|p b lO<|BY 4 j b fS n<|d ?_;exact J<|f c▸⟨rfl,j.sp 7 []⟩;refine d ?_;exact J<|f c▸⟨rfl,j.sp 6 []⟩;refine d ?_;exact nt (b:=aK) (v:=vb aK) zt b b b<|mj aK<|J<|f c▸⟨rfl,j.sp 5 []⟩;refine d ?_;refine nt (b:=aK) (v:=vb aK) zt b b b<|d ?_;exact nt (b:=aK) (v:=vb aK) zt b b b<|mj aK<|J<|f c▸⟨rfl,j.sp 4 []⟩;rintro _ w⟨c,rfl,j⟩;exact bE<|dw<|f e▸bH ⟨rfl,j.drop 0⟩
def ym{a:aG z}{g:dP}{res:Bool}(j:B E w V)(d:eo V i0 l a)(h1:eo V i1 r g)(o:nJ N a g=O res):c_ 203 [l,r] w<|aO E V res:=by
 unfold nJ at o;refine cI Tryz.func203 b b ?_;have j:=(j.dup (i0+0) d).dup (i1+1) h1;refine IT<|eh 0 r j b λd w j=>?_;have j:=j.fw (i:=0) rfl;refine c ?_;refine yl [h d 0] ?_;refine i o λe e o=>IN Yg (rh N (i0:=2) j rfl ⟨237,[h d 0],rfl,(eP Tryz.func237),λw n d d d m j d k=>by exact fE (CH N (i0:=m) (i1:=Z n+0) j d Fy k) λ_ _ d=>d⟩ e) λw j=>c ?_;exact f o▸bH ⟨rfl,j.drop 3⟩
end Go.Gk
namespace Go.Gk
open Go IntKind Go.Proofs
variable (N:Nat){E w:aT}{b0 i0 i1 i2:Nat}{res:Int}{l D G H K k x C s A P M L r Q:F}{V:aG HP}
def wo(E:aT)(V:aG HP)(b0:Nat)(D G:F)(k x:F)(C s:F)(A P:F)(M L:F)(H K:F)(res:gL×Bool)(v:F)(w:aT):Prop:=∃a:F,v = .tuple #[a,vb res.2]/\B E w ([Y a res.1,bc 98 b0 [D,G,k,x,C,s,A,P,M,L,H,K]]++V)
def wq(E:aT)(V:aG HP)(b0:Nat)(D G:F)(k x:F)(C s:F)(A P:F)(M L:F)(H K:F)(r:gL×Bool)(U:Nat->F)(w:aT):Prop:=j3 q 66 Tryz.f142 (wo E V b0 D G k x C s A P M L H K r) .ret U w
def CI{v:aG cM}{q:aG aH}{g:dD}{res:gL×Bool}(j:B E w (bc 98 b0 [D,G,k,x,C,s,A,P,M,L,H,K]::Y k v::Y s q::V))(h1:eo V i1 r g)(o:mV N v q g=O res):c_ 142 [h b0 0,r] w<|wo E V b0 D G k x C s A P M L H K res:=by
 unfold mV at o;refine cI Tryz.func142 b b ?_;have j:=j.dup (i1+3) h1;refine IT<|eh 0 r j b λy w j=>?_;have j:=j.fw (i:=0) rfl;refine f_ j ME.z λF w j=>?_;refine c ?_;refine p b wN<|p b ju<|d9 3 k j sA<|IS 4 v j Dd<|gV 0<|cJ<|md E V (λ(W:Unit)=>[bc 98 b0 [D,G,k,x,C,s,A,P,M,L,H,K],Y k v,Y s q,pt (h y 0) g,k3 183 F 2]) (λ_=>[(0,h b0 0),(3,h y 0),(4,h F 0)]) (λl _=>[(14,k),(15,e (Z v)),(16,e l)]) (wq E V b0 D G k x C s A P M L H K) o ?_ ?_ ?_ ?_;exact j.sp 6 [3,4,5,1,0];rintro hm l W fl _ w hk⟨R,rfl,j⟩o;refine c ?_;refine i o λQ a o=>By 1 j xp a λa j=>t 0 Q j lh λa j=>f_ j Ki.z λa w j=>?_;refine jU (l:Int)<|fv 0 j 1 b lh λw j=>?_;refine i4<|i o λI a o=>dz (λ(I:Bool)=>SH E V [(0,h b0 0),(3,h y 0),(4,h F 0),(6,e l),(14,k),(15,e (Z v)),(16,e l),(36,vb I)] [bc 98 b0 [D,G,k,x,C,s,A,P,M,L,H,K],Y k v,Y s q,pt (h y 0) g,k3 183 F 2]) I ?_ ?_;refine jb m (jv 16 211220002000000) (f0 0 10 [12,13,10,11,14,15]) ?_;have j:=j.drew;refine ge b b<|p b Bo<|cX b<|BY 0 j b vz Cn<|cX b<|xh Q.iE<|dp<|dU a (λI a=>?_) λI a=>?_;refine ge b b<|eX 0 j b lh λQ j=>cX b<|fq 7 j b HK xL λQ j=>cX b<|eY g.cR 0 j n<|oy b<|i a λQ S a=>IN U9 (uZ N (g:=g.cR) (i0:=1) j b S) λw j=>qY b<|NB I (vb Q)<|cX b<|xh Q<|dp<|dU a (λI a=>?_) λI a=>?_;refine ge b b<|eX 2 j b lh λQ j=>dp<|wI (hg:=cg I) 9 b j b wM nL λQ j=>rR (hg:=cg I) g.At 0 b j tN λbk Q Q j=>io b b<|i a λaz Q a=>d7 Tq (lr N (i0:=3) j b Q) λQ w j=>gj (⟨zt,j.gE 1⟩)<|io b b<|js (hg:=cg I) ([az]:aG z) j [Q] iO rp (λ_ _=>j4) λQ w j=>gj (⟨zt,j.gE 2⟩)<|io b b ?_;have j:=j.freeze 0;refine i a λQ Q a=>IN Yh (ym N (i0:=0) (i1:=3) j b b Q) λw j=>gj (⟨zt,j.gE 2⟩)<|ge b b<|d ?_;refine dp ?_;have j:=j.pl 16 [0,1,3,4,5,6,7,8,9,10,11,12,13,14,15];exact k7<|f a▸⟨rfl,j.sp 15 (f0 10 5 [])⟩;refine c ?_;refine ek undef b (λw=>kR I dT)<|ek undef b (λw=>kR I dT)<|io b b<|d ?_;refine QL b<|d ?_;refine QL b<|d ?_;refine qY b<|c ?_;exact f a▸⟨rfl,j.sp 10 [5,6,7,8,9]⟩;refine ge b b<|d ?_;refine oy b<|d ?_;refine qY b<|c ?_;refine ek undef b (λw=>QM dT)<|ek undef b (λw=>QM dT)<|io b b<|QM<|QL b<|QM<|QL b<|QM<|qY b<|nt (b:=aK) (v:=vb aK) zt b b b<|dp<|k7 ?_;exact f a▸⟨rfl,j.sp 8 [3,4,5,6,7]⟩;rintro _ w⟨R,rfl,j⟩;refine bE<|u o (λo=>?_) λo=>?_;refine c ?_;have j:=(j.sc Bool aA).sc Int (l:Int);refine lw (⟨aA,(l:Int)⟩:gL) trivial rfl j [(0,vb aA),(1,e l)] rfl Kk rfl (λQ hs S=>by have l:=Kf Q;exact cC.cons (f:=λ(T:gL)U=>{T with cM:=U}) l Pl (S.sat 1 _ rfl).1 λ_ l=>cC.cons (f:=λ(T:gL)U=>{T with Number:=U}) l GG (S.sat 0 _ rfl).1 λ_ l=>cC.nil l) λI j=>?_;refine fv 7 j 0 b q8 λw j=>?_;refine c ?_;obtain rfl:=f o;exact⟨rfl,E7 7 j q8 λI j=>⟨I,b,j.pk 9 [0,4]⟩⟩;refine dl<|cP<|bE<|b_<|d ?_;exact J<|f o▸⟨rfl,j.sp 5 [0,1,2,3,4]⟩;intro ab aa w o X;exact dx<|f o▸X;rintro W _ w o⟨R,rfl,j⟩;refine c ?_;refine p b sO<|d9 0 s j EM<|IS 2 q j L3<|gV 0<|cJ<|md E V (λ(ar:Unit)=>[bc 98 b0 [D,G,k,x,C,s,A,P,M,L,H,K],Y k v,Y s q,pt (h y 0) g,k3 183 F 2]) (λ_=>[(0,h b0 0),(4,h F 0)]) (λI _=>[(3,h y 0),(43,s),(44,e (Z q)),(45,e I)]) (wq E V b0 D G k x C s A P M L H K) o ?_ ?_ ?_ ?_;exact j.sp 5 [0,1,2,3,4];rintro hm I ar fl _ w hk⟨R,rfl,j⟩o;refine c ?_;refine i o λW a5 o=>By 2 j NI a5 λbp j=>t 0 W j IC λW j=>f_ j Ps.z λW w j=>?_;refine jU (I:Int)<|fv 0 j 1 b IC λw j=>?_;refine i4<|i o λW a o=>dz (λ(W:Bool)=>SH E V [(0,h b0 0),(3,h y 0),(4,h F 0),(8,e I),(43,s),(44,e (Z q)),(45,e I),(61,vb W)] [bc 98 b0 [D,G,k,x,C,s,A,P,M,L,H,K],Y k v,Y s q,pt (h y 0) g,k3 183 F 2]) W ?_ ?_;refine b_<|p b Ec<|BY 0 j b l7 n<|fq 6 j b HK xL λbs j=>eY g.cR 0 j n<|d ?_;refine dU a (λq a=>?_) λq a=>?_;refine p b Ed<|em 1 j b l8 xm λq j=>fq 8 j b wM nL λq j=>t 0 g.At j tN λq j=>?_;refine i a λbx q a=>IN Yh (ym N (i0:=2) (i1:=0) j b b q) λw j=>d ?_;exact J<|f a▸⟨rfl,j.sp 12 (f0 7 5 [])⟩;refine d ?_;exact J<|f a▸⟨rfl,j.sp 9 [4,5,6,7,8]⟩;rintro _ w⟨R,rfl,j⟩;refine bE<|u o (λo=>?_) λo=>?_;refine c ?_;have j:=j.sc Int (I:Int);refine lw (⟨aK,(I:Int)⟩:gL) trivial rfl j [(1,e I)] rfl Kk rfl (λQ hs S=>by have l:=Kf Q;exact cC.cons (f:=λ(T:gL)U=>{T with Number:=U}) l GG (S.sat 0 _ rfl).1 λ_ l=>cC.nil l) λa j=>?_;refine fv 6 j 0 b q8 λw j=>?_;refine c ?_;obtain rfl:=f o;exact⟨rfl,E7 6 j q8 λa j=>⟨a,b,j.pk 8 [0,3]⟩⟩;refine dl<|cP<|bE<|b_<|d ?_;exact J<|f o▸⟨rfl,j.sp 5 [0,1,2,3,4]⟩;intro ab aa w o X;exact dx<|f o▸X;rintro ar _ w o⟨R,rfl,j⟩;refine bE<|IT<|lw (⟨aK,0⟩:gL) trivial rfl j [] rfl Kk rfl (λQ hs S=>by have l:=Kf Q;exact cC.nil l) λa j=>?_;refine fv 5 j 0 b q8 λw j=>?_;refine c ?_;obtain rfl:=f o;exact E7 5 j q8 λa j=>⟨a,b,j.pk 7 [0,2]⟩
def yn{a:aG Int}{e:aG Int}{g:gL}(j:B E w (bc 98 b0 [D,G,k,x,C,s,A,P,M,L,H,K]::Y M a::Y L e::V))(h1:eo V i1 r g)(o:j9 N a e g=O res):c_ 143 [h b0 0,r] w<|nA E V b0 D G k x C s A P M L H K res:=by
 unfold j9 at o;refine cI Tryz.func143 b b ?_;have j:=j.dup (i1+3) h1;refine IT<|eh 0 r j b λa w j=>?_;refine c ?_;refine p b Ef<|BY 0 j b Aa Cn<|cJ<|u o (λo=>?_) λo=>?_;refine cF<|k6 m ?_;have j:=j.drew;refine k5<|d ?_;refine p b NK<|a_<|d9 2 L j fV<|a_<|p b vT<|a_<|BY 0 j b s9 n<|a_<|i o λa e o=>By 4 j eA e λe j=>a_<|eY a 0 j n<|c ?_;exact f o▸bH ⟨rfl,j.pk 6 [3]⟩;refine hG<|k6 m ?_;have j:=j.drew;refine k5<|d ?_;refine p b yg<|a_<|d9 2 M j fV<|a_<|p b vT<|a_<|BY 0 j b s9 n<|a_<|i o λa e o=>By 3 j eA e λe j=>a_<|eY a 0 j n<|c ?_;exact f o▸bH ⟨rfl,j.pk 6 [3]⟩
def wO(E:aT)(V:aG HP)(b0:Nat)(D G:F)(k x:F)(C s A:F)(res:aG bL×aG Int×aG Int×aG Int×aG gL)(v:F)(w:aT):Prop:=∃a b c d e:F,v = .tuple #[]/\B E w ([bc 98 b0 [D,G,k,x,C,s,A,a,b,c,d,e],own 108 a res.1,Y b res.2.1,Y c res.2.2.1,own 3 d res.2.2.2.1,own 183 e res.2.2.2.2]++V)
def wt{m_:aG cM}{x_:aG dD}{X:aG aH}{t_:aG (aG Int)}{i:aG Int}{j:aG Int}{J_:aG Int}{H_:aG gL}{res:aG bL×aG Int×aG Int×aG Int×aG gL}(o:B E w (bc 98 b0 [D,G,k,x,C,s,A,n_,M,L,H,K]::Y k m_::Y x x_::Y s X::Y A t_::own 3 M i::own 3 L j::own 3 H J_::own 183 K H_::V))(v:i5 N m_ x_ X t_ i j J_ H_=O res):
    c_ 78 [h b0 0] w<|wO E V b0 D G k x C s A res:=by
 unfold i5 at v
 refine cI Tryz.func78 b b<|c ?_
 refine p b sO<|d9 0 s o EM<|IS 3 X o L3<|c ?_
 refine p b wN<|p b ju<|d9 0 k o sA<|IS 1 m_ o Dd<|d ?_
 obtain⟨a,a,v⟩:=bd v
 refine d7 Zm (sQ N (a:=bK<|(Z X:Int)+(Z m_:Int)) o a) ?_
 rintro _ w⟨a,q,rfl,o⟩
 refine c ?_
 refine p b NJ<|d9 2 A o HL<|IS 6 t_ o Q4<|gV 0<|cJ<|r_ E V (λ(l:aG Int)(g:F)=>[bc 98 b0 [D,G,k,x,C,s,A,n_,M,L,H,K],Y k m_,Y x x_,Y s X,Y A t_,own 3 M i,own 3 L j,own 3 H J_,own 183 K H_,bc 151 a [g],own 3 g l]) (λ_ _=>[(0,h b0 0),(2,e (Z X)),(3,h a 0)]) (λg _ _=>[(35,A),(36,e (Z t_)),(37,e g)]) v ?_ ?_ ?_
 ·exact⟨q,o.sp 11 (f0 2 9 [0,1])⟩
 ·rintro hm g l s' _ w hk⟨Q,P,rfl,o⟩v
  refine c ?_
  obtain⟨q,r,v⟩:=bd v
  refine By 4 o Jh r λr o=>t 0 q o fV λcv o=>c ?_
  refine IS 0 q o oI<|gV 0<|cJ<|r_ E V (λ(r:aG Int)(z:F)=>[bc 98 b0 [D,G,k,x,C,s,A,n_,M,L,H,K],Y k m_,Y x x_,Y s X,Y A t_,own 3 M i,own 3 L j,own 3 H J_,own 183 K H_,bc 151 a [z],own 3 z r,Y cv q]) (λ_ _=>[(0,h b0 0),(2,e (Z X)),(3,h a 0),(35,A),(36,e (Z t_)),(37,e g)]) (λz _ _=>[(4,e g),(42,cv),(43,e (Z q)),(44,e z)]) v ?_ ?_ ?_
  ·exact⟨Q,o.sp 13 (f0 2 11 [0])⟩
  ·rintro hm z r s' _ w hk⟨q,P,rfl,o⟩v
   refine cF<|k4 ?_
   obtain⟨q,z,v⟩:=bd v
   refine By 11 o eA z λz o=>eY q 0 o n<|c ?_
   have o:=(o.pull 11).pull 11
   obtain⟨z,z,v⟩:=bd v
   refine d7 Zn (qR N (g:=q) (p2:=bK<|(Z X:Int)+(g:Int)) o z) ?_
   rintro _ w⟨g,rfl,o⟩
   refine J<|cP<|bE<|b_<|d ?_
   refine J ?_
   obtain rfl:=f v
   exact⟨rfl,g,o.sp 15 (f0 3 9 [0,1,14])⟩
  rintro r _ w v⟨g,P,rfl,o⟩
  refine cP<|bE<|b_<|d ?_
  refine J ?_
  obtain rfl:=f v
  exact⟨rfl,g,o.sp 12 (f0 0 11 [])⟩
 rintro l _ w v⟨q,P,rfl,o⟩
 refine bE<|cF ?_
 obtain⟨z,S,v⟩:=bd v
 obtain⟨R,T,v⟩:=bd v
 refine q_ E V m [1,1,1,0,1,1,1,1,0,0,0,1,1,0,1,1,0] [3,10,13,16] (λ(W:F×F)=>(λr Q=>[(0,56,h b0 0),(1,57,h b0 0),(2,58,e (Z X)),(3,59,r),(4,60,h b0 0),(5,61,h b0 0),(6,62,h b0 0),(7,63,h b0 2),(8,64,k),(9,65,e (Z m_)),(10,66,Q),(11,67,h b0 0),(12,68,h b0 8),(14,69,h b0 0),(15,70,h b0 9)]) W.1 W.2) [(0,h b0 0),(2,e (Z X)),(3,h a 0)] [] (λ(g:Nat->Bool)(W:F×F)=>(λr Q=>[bif g 0 then own 3 r z else aW,bif g 1 then own 3 Q R else aW,bif g 3 then bc 98 b0 [D,G,k,x,C,s,A,n_,r,Q,H,K]else(bif g 2 then bc 98 b0 [D,G,k,x,C,s,A,n_,r,L,H,K]else bc 98 b0 [D,G,k,x,C,s,A,n_,M,L,H,K]),Y k m_,Y x x_,Y s X,Y A t_,own 3 M i,own 3 L j,own 3 H J_,own 183 K H_,bc 151 a [q],own 3 q l]) W.1 W.2) (λW=>by kernel_rfl) ?_ ⟨λ_=>jd gn,λ_=>jd gn,λ_=>jd gn,?_,λ_=>jd gn,λ_=>C8 gn,λ_=>oY gn wN,λ_=>oY gn ju,?_,?_,?_,λ_=>C8 gn,λ_=>oY gn yg,?_,λ_=>C8 gn,λ_=>oY gn NK,?_,trivial⟩ ?_
 ·have o:=((o.drew).aW).aW
  exact⟨(undef,undef),eT.none,J9 b,zt,o⟩
 ·rintro g R w a l i⟨⟨r,Q⟩,j,q,_,o⟩
  obtain⟨P,rfl⟩:=j.o1 2 l
  have o:=((o.bZ 0 a).bZ 2<|nh i a 16).bZ 2<|nh i a 13
  refine yj (Z X:Int) o xn Zj S λz w o=>?_
  have o:=((o.nw 0).fO 2 (g 13) (nh i a 13)<|bc 98 b0 [D,G,k,x,C,s,A,n_,z,L,H,K]).fO 2 (g 16) (nh i a 16)<|bc 98 b0 [D,G,k,x,C,s,A,n_,z,Q,H,K]
  exact y (z,Q) 3 j q o
 ·rintro g R w a l i⟨⟨r,Q⟩,j,q,_,o⟩
  obtain⟨P,rfl⟩:=j.o1 7 l
  have o:=(o.bZ 2<|nh i a 16).bZ 2<|nh i a 13
  refine d9 2 k o sA ?_
  have o:=(o.fO 2 (g 13) (nh i a 13)<|bc 98 b0 [D,G,k,x,C,s,A,n_,r,L,H,K]).fO 2 (g 16) (nh i a 16)<|bc 98 b0 [D,G,k,x,C,s,A,n_,r,Q,H,K]
  exact y (r,Q) 8 j q o
 ·rintro g R w a l i⟨⟨r,Q⟩,j,q,_,o⟩
  obtain⟨P,rfl⟩:=j.o1 8 l
  refine IS 3 m_ o Dd ?_
  exact y (r,Q) 9 j q o
 ·rintro g R w a l i⟨⟨r,Q⟩,j,q,_,o⟩
  obtain⟨P,rfl⟩:=j.o1 9 l
  have o:=(o.bZ 1 a).bZ 2<|nh i a 16
  refine yj (Z m_:Int) o xn Zj T λz w o=>?_
  have o:=(o.nw 1).fO 2 (g 16) (nh i a 16)<|bc 98 b0 [D,G,k,x,C,s,A,n_,r,z,H,K]
  exact y (r,z) 10 j q o
 ·rintro g R w a l i⟨⟨r,Q⟩,j,q,_,o⟩
  obtain⟨P,rfl⟩:=j.o2 12 3 l
  have o:=((o.dF 0<|l.2.1 rfl).bZ 2<|nh i a 16).bZ 2 a
  refine q5 2 r o b b (jX 0 o) fV λw o=>?_
  have o:=((o.cL 0 (g 3) (l.2.1 rfl) aW).cL 2 aA rfl<|bc 98 b0 [D,G,k,x,C,s,A,n_,M,L,H,K]).fO 2 (g 16) (nh i a 16)<|bc 98 b0 [D,G,k,x,C,s,A,n_,r,Q,H,K]
  exact qr (r,Q) j q o
 ·rintro g R w a l i⟨⟨r,Q⟩,j,q,_,o⟩
  obtain⟨P,rfl⟩:=j.o2 14 10 l
  have o:=((o.dF 1<|l.2.1 rfl).bZ 2 a).dF 2<|l.2.2.1 rfl
  refine q5 2 Q o b b (jX 1 o) fV λw o=>?_
  have o:=(o.cL 1 (g 10) (l.2.1 rfl) aW).cL 2 aA rfl (bif g 13 then bc 98 b0 [D,G,k,x,C,s,A,n_,r,L,H,K]else bc 98 b0 [D,G,k,x,C,s,A,n_,M,L,H,K])
  exact qr (r,Q) j q o
 rintro g R w a4⟨⟨r,Q⟩,j,q,_,o⟩
 have o:=((o.dF 0<|tL a4 3).dF 1<|tL a4 10).dF 2<|tL a4 16
 obtain⟨P,rfl⟩:=q.v8
 refine c ?_
 have o:=(o.pull 12).pull 12
 obtain⟨T,z,v⟩:=bd v
 refine d7 (eP Tryz.func141) (CG N o z) ?_
 rintro bb w⟨_,z,rfl,o⟩
 refine lc (i:=0) (l:=T.1) zt b o b b Q4<|gV 0<|cJ<|Nm E V (λ(z:aG bL×aG Int×aG Int)(S:F)(U:aG bI)=>[bc 98 b0 [D,G,k,x,C,s,A,S,r,Q,H,K],own 108 S U,kM bP U z.1 aQ,Y k m_,Y x x_,Y s X,Y A t_,own 3 r z.2.1,own 3 Q z.2.2,own 3 H J_,own 183 K H_,own 95 bb T.1]) (λ_ _ _=>[(0,h b0 0)]) (λbm _ _ _=>[(2,e (Z X)),(72,bb),(73,e (Z T.1)),(74,e bm)]) v ?_ ?_ ?_
 ·have o:=(o.Jz bP).cO bI 108
  exact⟨n_,([]:aG bI),o.sp 18 [7,0,1,8,9,10,11,5,6,14,15,2]⟩
 ·rintro hm bm z s' _ w hk⟨S,ab,P,rfl,o⟩v
  refine cF<|k4 ?_
  obtain⟨bh,U,v⟩:=bd v
  refine ep 11 o b b Jh U<|mt 11 o U fV λbj o=>?_
  refine xe bj<|hO<|Br o Vf λbn w o=>?_
  refine c ?_
  refine IS 1 bh o oI<|gV 0<|cJ<|Nm E V (λ(az:aG Int×aG Int×aG Int×aG Int)(U c4:F)=>[bc 98 b0 [D,G,k,x,C,s,A,S,r,Q,H,K],Y k m_,Y x x_,Y s X,Y A t_,own 108 S ab,kM bP ab z.1 aQ,own 3 r az.1,own 3 Q az.2.1,own 3 H J_,own 183 K H_,bc 108 bn [U,c4,n_],own 3 U az.2.2.1,own 3 c4 az.2.2.2,own 95 bb T.1,Y bj bh]) (λ_ _ _=>[(0,h b0 0),(2,e (Z X)),(10,h bn 0),(72,bb),(73,e (Z T.1)),(74,e bm)]) (λb7 _ _ _=>[(78,bj),(79,e (Z bh)),(80,e b7)]) v ?_ ?_ ?_
  ·have o:=(o.cO Int 3).cO Int 3
   exact⟨n_,n_,o.sp 16 [4,7,8,9,10,5,6,11,12,13,14,2,1,0,15,3]⟩
  ·rintro hm b7 az s' _ w hk⟨b8,cp,P,rfl,o⟩v
   refine cF<|k4 ?_
   obtain⟨bf,U,v⟩:=bd v
   refine By 15 o eA U λU o=>eY bf 0 o n<|jU bf<|cJ<|k4<|d ?_
   refine cJ ?_
   obtain⟨bo,U,v⟩:=bd v
   refine dz (λ(bo:aG Int×aG Int×aG Int×aG Int)R w=>∃b9 ca:F,SH E V [(0,h b0 0),(2,e (Z X)),(10,h bn 0),(72,bb),(73,e (Z T.1)),(74,e bm),(78,bj),(79,e (Z bh)),(80,e b7)] [bc 98 b0 [D,G,k,x,C,s,A,S,r,Q,H,K],Y k m_,Y x x_,Y s X,Y A t_,own 108 S ab,kM bP ab z.1 aQ,own 3 r bo.1,own 3 Q bo.2.1,own 3 H J_,own 183 K H_,bc 108 bn [b9,ca,n_],own 3 b9 bo.2.2.1,own 3 ca bo.2.2.2,own 95 bb T.1,Y bj bh] R w) bo ?_ ?_
   ·refine u U (λU=>?_) λU=>?_
    ·refine cF<|jb m (jv 12 200000000000) (f0 0 12 []) ?_
     have o:=o.drew
     refine c ?_
     refine p b yg<|cX b<|d9 1 r o fV<|d ?_
     refine p b zx<|cX b<|d9 1 S o xt<|cX b<|FV 6 7 z.1 o Vg<|cX b ?_
     obtain⟨fa,c5,U⟩:=bd U
     refine ep 8 o b b eA c5<|oy b ?_
     have o:=o.sc Int (Z z.1:Int)
     refine pz 9 0 o c5 n λw o=>?_
     refine gj zt<|k7<|bE<|b_<|p b uT<|d9 13 b8 o fV<|gV bf ?_
     have o:=o.sc Int bf
     refine js ([bf]:aG Int) o [e bf] eA L1 (λ_ _=>j4) λfb w o=>?_
     have o:=o.freeze 0
     obtain⟨fc,d4,U⟩:=bd U
     refine j0 16 0 o xn d4 λc6 w o=>?_
     refine p b uT<|q5 15 c6 o b b (jX 16 o) fV λw o=>?_
     refine J ?_
     obtain rfl:=f U
     exact⟨rfl,c6,cp,o.sp 20 (f0 4 16 [])⟩
    refine c ?_
    refine p b wN<|p b ju<|d9 1 k o sA<|d ?_
    obtain⟨c7,d5,U⟩:=bd U
    refine By 2 o xp d5 λfe o=>fq 0 o b Bo vz λff o=>eY c7.iE 0 o Cn<|mj c7.iE<|cJ ?_
    obtain⟨cb,aa,U⟩:=bd U
    refine dz (λ(cb:aG Int×aG Int)R w=>∃cc:F,SH E V [(0,h b0 0),(2,e (Z X)),(10,h bn 0),(72,bb),(73,e (Z T.1)),(74,e bm),(78,bj),(79,e (Z bh)),(80,e b7)] [bc 98 b0 [D,G,k,x,C,s,A,S,r,Q,H,K],Y k m_,Y x x_,Y s X,Y A t_,own 108 S ab,kM bP ab z.1 aQ,own 3 r az.1,own 3 Q cb.1,own 3 H J_,own 183 K H_,bc 108 bn [b8,cc,n_],own 3 cc cb.2,own 3 b8 az.2.2.1,own 95 bb T.1,Y bj bh] R w) cb ?_ ?_
    ·refine u aa (λaa=>?_) λaa=>?_
     rotate_left
     ·refine c ?_
      refine p b NK<|d9 3 Q o fV<|d ?_
      obtain⟨fg,c8,aa⟩:=bd aa
      refine ep 11 o b b eA c8 ?_
      have o:=o.sc Int<|-1
      refine pz 12 0 o c8 n λw o=>?_
      refine J ?_
      obtain rfl:=f aa
      exact⟨rfl,cp,o.sp 20 (f0 4 12 [17,16,18,19])⟩
     refine cF<|jb m (jv 14 20000000000000) (f0 0 14 []) ?_
     have o:=o.drew
     refine c ?_
     refine p b NK<|cX b<|d9 3 Q o fV<|d ?_
     refine p b zx<|cX b<|d9 3 S o xt<|cX b<|FV 8 9 z.1 o Vg<|cX b ?_
     obtain⟨fh,c9,aa⟩:=bd aa
     refine ep 11 o b b eA c9<|oy b ?_
     have o:=o.sc Int (Z z.1:Int)
     refine pz 12 0 o c9 n λw o=>?_
     refine gj zt<|k7<|bE<|b_<|p b Ee<|d9 15 cp o fV<|d ?_
     have o:=o.sc Int<|bK<|bf -(Z X:Int)
     refine js ([bK<|bf -(Z X:Int)]:aG Int) o [e<|bK<|bf -(Z X:Int)] eA L1 (λ_ _=>j4) λfi w o=>?_
     have o:=o.freeze 0
     obtain⟨fj,d6,aa⟩:=bd aa
     refine j0 19 0 o xn d6 λda w o=>?_
     refine p b Ee<|q5 17 da o b b (jX 19 o) fV λw o=>?_
     refine J ?_
     obtain rfl:=f aa
     exact⟨rfl,da,o.sp 22 (f0 6 12 [19,18,20,21])⟩
    rintro _ w⟨cc,P,rfl,o⟩
    obtain rfl:=f U
    exact⟨rfl,b8,cc,o.sp 16 (f0 0 12 [13,12,14,15])⟩
   rintro _ w⟨b9,ca,P,rfl,o⟩
   refine cP<|cP<|bE<|b_<|d ?_
   refine J ?_
   obtain rfl:=f v
   exact⟨rfl,b9,ca,o.sp 16 (f0 0 16 [])⟩
  rintro az _ w v⟨b2,bp,P,rfl,o⟩
  refine bE<|IT<|p b uT<|d9 11 b2 o fV<|lc (i:=12) (l:=az.2.2.1) zt b o b b oI<|p b Ee<|d9 11 bp o fV<|lc (i:=13) (l:=az.2.2.2) zt b o b b oI<|d ?_
  refine cJ ?_
  obtain⟨cq,U,v⟩:=bd v
  refine dz (λ(cq:aG bL)R w=>∃(cd:F)(aa:aG bI),SH E V [(0,h b0 0),(2,e (Z X)),(72,bb),(73,e (Z T.1)),(74,e bm)] [bc 98 b0 [D,G,k,x,C,s,A,cd,r,Q,H,K],own 108 cd aa,kM bP aa cq aQ,Y k m_,Y x x_,Y s X,Y A t_,own 3 r az.1,own 3 Q az.2.1,own 3 H J_,own 183 K H_,own 95 bb T.1] R w) cq ?_ ?_
  ·refine u U (λU=>?_) λU=>?_
   rotate_left
   ·refine dl ?_
    obtain rfl:=f U
    exact⟨rfl,S,ab,o.sp 16 [0,5,6,1,2,3,4,7,8,9,10,14]⟩
   have o:=o.drew
   refine v_ (λw=>B E w<|[bc 98 b0 [D,G,k,x,C,s,A,S,r,Q,H,K]]++V) m [1,1,1,1,1,0,2,2,0,0,2] [0,1,2,3,4,5,6,7,8,9,10] (o.pk 16 [0])<|ek (h b0 0) b (λw=>i8 (h b0 0) dT)<|ek (h b0 0) b (λw=>i8 (h b0 0) dT)<|ek (h b0 0) b (λw=>wr b dT)<|ek (h b0 7) b (λw=>p b zx dT)<|si S b (λw o=>d9 0 S o xt dT)<|ge b b<|W1 (cs:=[b2,bp,n_]) 11 zt b o b b De b<|oy b ?_
   have o:=((((o.cO bX 39).Mo (i:=0) rfl).freeze 14).freeze 15).Nl (cs:=[b2,bp,n_]) (x:=(⟨az.2.2.1,az.2.2.2,rv<|.slice aQ 0 0⟩:bI)) (λae hs ad=>⟨[b2],[bp,n_],rfl,uI (ad.sat 14 _ rfl).1,⟨[bp],[n_],rfl,uI (ad.sat 15 _ rfl).1,uI (ad.sat 0 _ rfl).1⟩⟩) rfl
   refine js ([(⟨az.2.2.1,az.2.2.2,rv<|.slice aQ 0 0⟩:bI)]:aG bI) o [(.agg ([b2,bp,n_]:aG F).toArray)] EN Pv (λ_ _=>j4) λS w o=>gj (o.pk 20 [4])<|io b b ?_
   obtain⟨S,S,U⟩:=bd U
   have o:=o.freeze 0
   refine Qf 9 0 10 3 bP (⟨az.2.2.1,az.2.2.2,rv<|.slice aQ 0 0⟩:bI) (⟨az.2.2.1,az.2.2.2,([]:aG bX)⟩:bL) n_ ([]:aG bX) (λ_ _ T=>⟨⟨rfl,b⟩,T⟩) b o b b b b b b Zo S λS w o=>?_
   refine gj (o.pk 20 [4])<|c ?_
   refine p b zx<|dp<|Nk b b<|q5 4 S o b b (jX 9 o) xt λw o=>?_
   refine gj zt<|k7 ?_
   obtain rfl:=f U
   exact⟨rfl,S,ab++[(⟨az.2.2.1,az.2.2.2,rv<|.slice aQ 0 0⟩:bI)],o.sp 20 [4,9,10,5,6,7,8,11,12,13,14,18]⟩
  rintro _ w⟨cd,aa,P,rfl,o⟩
  refine cP<|bE<|b_<|d ?_
  refine J ?_
  obtain rfl:=f v
  exact⟨rfl,cd,aa,o.sp 12 (f0 0 12 [])⟩
 rintro z _ w v⟨S,ab,P,rfl,o⟩
 refine c ?_
 refine p b wN<|p b qP<|d9 0 x o Cy<|IS 4 x_ o Jg<|gV 0<|cJ ?_
 obtain⟨z,hN,v⟩:=bd v
 refine K2 (λ(b3:Nat)(z:aG bL×aG Int×aG Int×aG Int×aG gL)R w=>∃(T dd:F)(de df:F)(aa:aG bI),SH E V [(0,h b0 0),(170,x),(171,e (Z x_)),(172,e b3)] [bc 98 b0 [D,G,k,x,C,s,A,S,T,dd,de,df],Y T z.2.1,Y dd z.2.2.1,own 3 de z.2.2.2.1,own 183 df z.2.2.2.2,Y k m_,Y x x_,Y s X,Y A t_,own 108 S aa,kM bP aa z.1 aQ] R w) (λ(z:aG bL×aG Int×aG Int×aG Int×aG gL)R w=>∃(cf cg:F)(ch cj:F)(af:aG bI),SH E V [(0,h b0 0)] [bc 98 b0 [D,G,k,x,C,s,A,S,cf,cg,ch,cj],Y cf z.2.1,Y cg z.2.2.1,own 3 ch z.2.2.2.1,own 183 cj z.2.2.2.2,Y k m_,Y x x_,Y s X,Y A t_,own 108 S af,kM bP af z.1 aQ] R w) hN ?_ ?_ ?_ ?_
 ·have o:=(o.freeze 7).freeze 8
  exact⟨r,Q,H,K,ab,o.sp 12 [0,7,8,9,10,3,4,5,6,1,2]⟩
 ·rintro hm z _ w⟨r,Q,T,ec,aa,P,rfl,o⟩
  refine c ?_
  refine A5 Z8<|fk ?_
  exact⟨rfl,r,Q,T,ec,aa,o.sp 11 (f0 0 11 [])⟩
 ·rintro hm b3 z s' _ w hk⟨a1,a2,a9,a3,Q,P,rfl,o⟩v
  refine c ?_
  refine A0 (Z7 hk)<|hG<|k4 ?_
  obtain⟨bq,r,v⟩:=bd v
  refine By 6 o Bm r λee o=>t 0 bq o vm λef o=>f_ o Kj.z λdg w o=>?_
  refine fv 0 o 1 b vm λw o=>?_
  refine c ?_
  refine eX 0 o b vm λeg o=>?_
  have o:=((o.dup 11 rfl).dup 10 rfl).pull 6
  obtain⟨a6,r,v⟩:=bd v
  refine d7 (eP Tryz.func142) (CI N (i1:=0) o b r) ?_
  rintro _ w⟨ei,rfl,o⟩
  refine d ?_
  refine f_ o ME.z λbr w o=>?_
  refine fv 0 o 1 b q8 λw o=>?_
  refine mj a6.2<|hO<|jU (-1)<|i4<|IT<|xh a6.2<|cJ ?_
  obtain⟨a5,U,v⟩:=bd v
  refine dz (λ(a5:aG bL×Int)R w=>∃(ab:aG bI),SH E V [(0,h b0 0),(15,h br 0),(17,e a5.2),(170,x),(171,e (Z x_)),(172,e b3)] [bc 98 b0 [D,G,k,x,C,s,A,S,a1,a2,a9,a3],Y k m_,Y x x_,Y s X,Y A t_,own 108 S ab,kM bP ab a5.1 aQ,Y a1 z.2.1,Y a2 z.2.2.1,own 3 a9 z.2.2.2.1,own 183 a3 z.2.2.2.2,bx 183 br a6.1] R w) a5 ?_ ?_
  ·refine u U (λU=>?_) λU=>?_
   rotate_left
   ·refine dl ?_
    obtain rfl:=f U
    exact⟨rfl,Q,o.sp 18 (2::f0 12 6 [8,9,10,11,0])⟩
   refine c ?_
   refine eX 0 o b q8 λej o=>?_
   have o:=((o.dup 10 rfl).dup 10 rfl).pull 5
   obtain⟨r,T,U⟩:=bd U
   refine IN (eP Tryz.func143) (yn N (i1:=0) o b T) λw o=>jU r<|cJ ?_
   obtain⟨T,b4,U⟩:=bd U
   obtain⟨bt,el,U⟩:=bd U
   obtain⟨bg,en,U⟩:=bd U
   obtain⟨bk,ck,U⟩:=bd U
   refine q_ E V m [1,1,1,0,1,1,1,1,0,1,0,0,0,0,0,0,0,0,0,0] [13,14,15,16,19] (λ(W:F×F×F×F)=>(λaw au ar T=>[(0,186,h b0 0),(1,187,h b0 0),(2,188,h b0 7),(3,189,S),(4,190,e r),(5,191,h b0 0),(6,192,h b0 0),(7,193,h b0 7),(8,194,S),(9,195,e r),(10,196,Ge S (mr r) 3 0),(11,197,Ge S (mr r) 3 2),(12,198,(Q.getD (mr r) (default:bI)).aZ.v),(13,199,aw),(14,200,au),(15,201,ar),(16,202,T),(17,203,Ge S (mr r) 3 0),(18,204,Ge S (mr r) 3 2)]) W.1 W.2.1 W.2.2.1 W.2.2.2) [(0,h b0 0),(14,h dg 0),(15,h br 0),(17,e r),(170,x),(171,e (Z x_)),(172,e b3)] [] (λ(g:Nat->Bool)(W:F×F×F×F)=>(λaw au ar T=>[bif g 0 then Y aw bq else aW,bif g 1 then Y au bt else aW,bif g 3 then Y ar ([bt]:aG bX)else(bif g 2 then own 39 ar ([bt]:aG bX)else aW),bif g 4 then aW else(bif g 3 then own 39 T bg else aW),bc 98 b0 [D,G,k,x,C,s,A,S,a1,a2,a9,a3],Y ej a6.1,bx 183 br a6.1,Y ei a6.1,aW,Y eg bq,bx 66 dg bq,Y ef bq,pt ee bq,aW,Y a1 z.2.1,Y a2 z.2.2.1,own 3 a9 z.2.2.2.1,own 183 a3 z.2.2.2.2,Y k m_,Y x x_,Y s X,Y A t_,bif g 4 then own 108 S (Q.set (mr r) {(Q.getD (mr r) (default:bI))with aZ:=rv T})else own 108 S Q,bif g 4 then kM bP (Q.set (mr r) {(Q.getD (mr r) (default:bI))with aZ:=rv T}) (z.1.set (mr r) {bk with aZ:=bg}) aQ else(bif g 3 then kM bP Q z.1 (O<|mr r)else kM bP Q z.1 aQ)]) W.1 W.2.1 W.2.2.1 W.2.2.2) (λW=>by kernel_rfl) ?_ ⟨λ_=>jd gn,λ_=>C8 gn,λ_=>oY gn zx,?_,λ_=>jd gn,λ_=>jd gn,λ_=>C8 gn,λ_=>oY gn zx,?_,λ_=>jd gn,?_,?_,?_,?_,?_,?_,?_,?_,?_,?_,trivial⟩ ?_
   ·have o:=((((o.drew).aW).aW).aW).aW
    exact⟨(undef,undef,undef,undef),eT.none,J9 b,zt,o⟩
   ·rintro g R w a l i⟨⟨aw,au,ar,T⟩,j,q,_,o⟩
    obtain⟨P,rfl⟩:=j.o1 2 l
    refine d9 4 S o xt ?_
    exact y (aw,au,ar,T) 3 j q o
   ·rintro g R w a l i⟨⟨aw,au,ar,T⟩,j,q,_,o⟩
    obtain⟨P,rfl⟩:=j.o1 7 l
    refine d9 4 S o xt ?_
    exact y (aw,au,ar,T) 8 j q o
   ·rintro g R w a l i⟨⟨aw,au,ar,T⟩,j,q,_,o⟩
    obtain⟨P,rfl⟩:=j.o2 8 9 l
    have o:=((o.bZ 22<|nh i a 19).bZ 23<|nh i a 19).bZ 23<|nf<|λaa=>ft a<|(i 11 _ rfl<|(i 12 _ rfl<|(i 16 _ rfl aa).1 rfl).1 rfl).1 rfl
    have ag:=o.fP 23
    have ah:=iA (default:bI) ag b4
    refine ep 22 o b b EN ah ?_
    have o:=(o.fO 22 (g 19) (nh i a 19)<|own 108 S<|Q.set (mr r) {(Q.getD (mr r) (default:bI))with aZ:=rv T}).fO 23 (g 16) (nf<|λaa=>ft a<|(i 11 _ rfl<|(i 12 _ rfl<|(i 16 _ rfl aa).1 rfl).1 rfl).1 rfl)<|kM bP Q z.1<|O<|mr r
    have o:=o.fO 23 (g 19) (nh i a 19)<|kM bP (Q.set (mr r) {(Q.getD (mr r) (default:bI))with aZ:=rv T}) (z.1.set (mr r) {bk with aZ:=bg}) aQ
    exact y (aw,au,ar,T) 10 j q o
   ·rintro g R w a l i⟨⟨aw,au,ar,T⟩,j,q,_,o⟩
    obtain⟨P,rfl⟩:=j.o1 10 l
    have o:=((o.bZ 22<|nh i a 19).bZ 23<|nh i a 19).bZ 23<|nf<|λaa=>ft a<|(i 12 _ rfl<|(i 16 _ rfl aa).1 rfl).1 rfl
    have ag:=o.fP 23
    have ah:=iA (default:bI) ag b4
    refine pe (α:=bI) (qM 22 o ah 0) q9 ?_
    have o:=(o.fO 22 (g 19) (nh i a 19)<|own 108 S<|Q.set (mr r) {(Q.getD (mr r) (default:bI))with aZ:=rv T}).fO 23 (g 16) (nf<|λaa=>ft a<|(i 12 _ rfl<|(i 16 _ rfl aa).1 rfl).1 rfl)<|kM bP Q z.1<|O<|mr r
    have o:=o.fO 23 (g 19) (nh i a 19)<|kM bP (Q.set (mr r) {(Q.getD (mr r) (default:bI))with aZ:=rv T}) (z.1.set (mr r) {bk with aZ:=bg}) aQ
    exact y (aw,au,ar,T) 11 j q o
   ·rintro g R w a l i⟨⟨aw,au,ar,T⟩,j,q,_,o⟩
    obtain⟨P,rfl⟩:=j.o1 11 l
    have o:=((o.bZ 22<|nh i a 19).bZ 23<|nh i a 19).bZ 23<|nh i a 16
    have ag:=o.fP 23
    have ah:=iA (default:bI) ag b4
    refine M2 22 23 r ue (default:bI) b o b (qM 22 o ah 2) b b b4 uB ?_
    have o:=(o.fO 22 (g 19) (nh i a 19)<|own 108 S<|Q.set (mr r) {(Q.getD (mr r) (default:bI))with aZ:=rv T}).fO 23 (g 16) (nh i a 16)<|kM bP Q z.1<|O<|mr r
    have o:=o.fO 23 (g 19) (nh i a 19)<|kM bP (Q.set (mr r) {(Q.getD (mr r) (default:bI))with aZ:=rv T}) (z.1.set (mr r) {bk with aZ:=bg}) aQ
    exact y (aw,au,ar,T) 12 j q o
   ·rintro g R w a l i⟨⟨aw,au,ar,T⟩,j,q,_,o⟩
    obtain⟨P,rfl⟩:=q.v8
    have o:=o.bZ 0 a
    refine eX 10 o b vm λer o=>?_
    have o:=o.nw 0
    exact y (er,au,ar,T) 13 j q o
   ·rintro g R w a l i⟨⟨aw,au,ar,T⟩,j,q,_,o⟩
    obtain⟨P,rfl⟩:=j.o1 13 l
    have o:=(o.dF 0<|l.1 rfl).bZ 1 a
    refine d7 W8 (tH N (i0:=0) o b el) λet w o=>?_
    have o:=((o.pl 25 [1,0,3,4,5,6,7,8,9,10,11,12,13,14,15,16,17,18,19,20,21,22,23,24]).cL 0 (g 13) (l.1 rfl) aW).cL 1 aA rfl aW
    exact y (aw,et,ar,T) 14 j q o
   ·rintro g R w a l i⟨⟨aw,au,ar,T⟩,j,q,_,o⟩
    obtain⟨P,rfl⟩:=j.o1 14 l
    have o:=((o.dF 1<|l.1 rfl).bZ 2<|nh i a 16).bZ 2 a
    refine js ([bt]:aG bX) o [au] th Kg (λae hs ad=>⟨(ad.sat 1 _ b).1,zt⟩) λdh w o=>?_
    have o:=(((o.pl 25 [1,2,0,4,5,6,7,8,9,10,11,12,13,14,15,16,17,18,19,20,21,22,23,24]).cL 1 (g 14) (l.1 rfl) aW).cL 2 aA rfl aW).fO 2 (g 16) (nh i a 16)<|Y dh ([bt]:aG bX)
    exact y (aw,au,dh,T) 15 j q o
   ·rintro g R w a l i⟨⟨aw,au,ar,T⟩,j,q,_,o⟩
    obtain⟨P,rfl⟩:=j.o2 12 15 l
    have o:=(((((((o.bZ 2 a).dF 2<|l.2.1 rfl).bZ 3<|nh i a 19).bZ 3 a).bZ 22<|nh i a 19).bZ 23<|nh i a 19).bZ 23 a).J0 (j:=23) (jj:=r) ue (default:bI) rfl b4
    have o:=o.freeze 3
    refine j0 0 3 o Vh en λcr w o=>?_
    dsimp only[List.cons_append,List.nil_append,List.set_cons_zero,List.set_cons_succ]at o
    have o:=((((o.pl 25 [1,2,3,0,5,6,7,8,9,10,11,12,13,14,15,16,17,18,19,20,21,22,23,24]).cL 2 aA rfl (bif g 15 then own 39 ar ([bt]:aG bX)else aW)).cL 3 aA rfl aW).fO 3 (g 19) (nh i a 19) aW).fO 22 (g 19) (nh i a 19)<|own 108 S<|Q.set (mr r) {(Q.getD (mr r) (default:bI))with aZ:=rv cr}
    have o:=(o.cL 23 aA rfl<|kM bP Q z.1 aQ).fO 23 (g 19) (nh i a 19)<|kM bP (Q.set (mr r) {(Q.getD (mr r) (default:bI))with aZ:=rv cr}) (z.1.set (mr r) {bk with aZ:=bg}) aQ
    exact y (aw,au,ar,cr) 16 j q o
   ·rintro g R w a l i⟨⟨aw,au,ar,T⟩,j,q,_,o⟩
    obtain⟨P,rfl⟩:=j.o2 3 4 l
    have o:=o.bZ 22<|nf<|λaa=>ft a<|(i 18 _ rfl<|(i 19 _ rfl aa).1 rfl).1 rfl
    have o:=o.bZ 23<|nf<|λaa=>ft a<|(i 18 _ rfl<|(i 19 _ rfl aa).1 rfl).1 rfl
    have o:=o.dF 23<|l.2.2.2.2.2.2.2.2.2.2.2.2.2.2.2.2.2.2.1 rfl
    have ag:=o.fP 23
    have ah:=iA (default:bI) ag ck
    refine ep 22 o b b EN ah ?_
    have o:=o.fO 22 (g 19) (nf<|λaa=>ft a<|(i 18 _ rfl<|(i 19 _ rfl aa).1 rfl).1 rfl)<|own 108 S<|Q.set (mr r) {(Q.getD (mr r) (default:bI))with aZ:=rv T}
    have o:=(o.cL 23 (g 16) (l.2.2.2.2.2.2.2.2.2.2.2.2.2.2.2.2.2.2.1 rfl)<|kM bP Q z.1 aQ).fO 23 (g 19) (nf<|λaa=>ft a<|(i 18 _ rfl<|(i 19 _ rfl aa).1 rfl).1 rfl)<|kM bP (Q.set (mr r) {(Q.getD (mr r) (default:bI))with aZ:=rv T}) (z.1.set (mr r) {bk with aZ:=bg}) aQ
    exact y (aw,au,ar,T) 17 j q o
   ·rintro g R w a l i⟨⟨aw,au,ar,T⟩,j,q,_,o⟩
    obtain⟨P,rfl⟩:=j.o1 17 l
    have o:=((o.bZ 22<|nh i a 19).bZ 23<|nh i a 19).dF 23<|l.2.2.2.2.2.2.2.2.2.2.2.2.2.2.2.2.2.1 rfl
    have ag:=o.fP 23
    have ah:=iA (default:bI) ag ck
    refine pe (α:=bI) (qM 22 o ah 0) q9 ?_
    have o:=(o.fO 22 (g 19) (nh i a 19)<|own 108 S<|Q.set (mr r) {(Q.getD (mr r) (default:bI))with aZ:=rv T}).cL 23 (g 16) (l.2.2.2.2.2.2.2.2.2.2.2.2.2.2.2.2.2.1 rfl)<|kM bP Q z.1 aQ
    have o:=o.fO 23 (g 19) (nh i a 19)<|kM bP (Q.set (mr r) {(Q.getD (mr r) (default:bI))with aZ:=rv T}) (z.1.set (mr r) {bk with aZ:=bg}) aQ
    exact y (aw,au,ar,T) 18 j q o
   ·rintro g R w a l i⟨⟨aw,au,ar,T⟩,j,q,_,o⟩
    obtain⟨P,rfl⟩:=j.o2 18 16 l
    have o:=((((o.bZ 3 a).dF 3<|l.2.1 rfl).bZ 22 a).bZ 23 a).dF 23<|l.2.1 rfl
    have ag:=o.fP 23
    have ah:=iA (default:bI) ag ck
    refine LW 22 23 3 r ue (default:bI) o b b (qM 22 o ah 2) b b b ck uB λw o=>?_
    have o:=((o.cL 3 aA rfl (bif g 16 then own 39 T bg else aW)).cL 22 aA rfl<|own 108 S Q).cL 23 aA rfl (bif g 16 then kM bP Q z.1 (O<|mr r)else kM bP Q z.1 aQ)
    exact qr (aw,au,ar,T) j q o
   rintro g R w a4⟨⟨aw,au,ar,T⟩,j,q,_,o⟩
   simp only[List.getD_cons_zero,List.getD_cons_succ,a4 13 I,a4 14 I,a4 16 I,a4 19 I,a4 19 I,a4 19 I,aN]at o
   obtain⟨P,rfl⟩:=q.v8
   obtain rfl:=f U
   exact⟨rfl,Q.set (mr r) {(Q.getD (mr r) (default:bI))with aZ:=rv T},o.sp 24 (4::f0 18 6 [14,15,16,17,6])⟩
  rintro _ w⟨ab,P,rfl,o⟩
  refine bE ?_
  obtain⟨eu,ev,v⟩:=bd v
  obtain⟨ew,ey,v⟩:=bd v
  refine q_ E V m [1,1,1,1,1,0,1,0,0,1,1,1,0,0,0,0,1,1,0,1,1,0] [7,8,13,14,15,18,21] (λ(W:F×F×F×F×F)=>(λT a0 U r Q=>[(0,205,h b0 0),(1,206,h b0 0),(2,207,h b0 0),(3,208,h b0 0),(4,209,h b0 10),(5,210,a9),(6,211,e a5.2),(7,212,T),(8,213,r),(9,214,h b0 0),(10,215,h b0 0),(11,216,h b0 11),(12,217,a3),(13,218,a0),(14,219,U),(15,220,Q),(16,221,h b0 0),(17,222,h b0 10),(19,223,h b0 0),(20,224,h b0 11)]) W.1 W.2.1 W.2.2.1 W.2.2.2.1 W.2.2.2.2) [(0,h b0 0),(15,h br 0),(17,e a5.2),(170,x),(171,e (Z x_)),(172,e b3)] [] (λ(g:Nat->Bool)(W:F×F×F×F×F)=>(λT a0 U r Q=>[bif g 1 then Y T ([a5.2]:aG Int)else(bif g 0 then own 3 T ([a5.2]:aG Int)else aW),bif g 2 then Y a0 a6.1 else aW,bif g 4 then Y U ([a6.1]:aG gL)else(bif g 3 then own 183 U ([a6.1]:aG gL)else aW),bif g 6 then bc 98 b0 [D,G,k,x,C,s,A,S,a1,a2,r,Q]else(bif g 5 then bc 98 b0 [D,G,k,x,C,s,A,S,a1,a2,r,a3]else bc 98 b0 [D,G,k,x,C,s,A,S,a1,a2,a9,a3]),Y k m_,Y x x_,Y s X,Y A t_,own 108 S ab,kM bP ab a5.1 aQ,Y a1 z.2.1,Y a2 z.2.2.1,bif g 1 then own 3 r eu else own 3 a9 z.2.2.2.1,bif g 4 then own 183 Q ew else own 183 a3 z.2.2.2.2,bx 183 br a6.1]) W.1 W.2.1 W.2.2.1 W.2.2.2.1 W.2.2.2.2) (λW=>by kernel_rfl) ?_ ⟨λ_=>jd gn,λ_=>jd gn,λ_=>jd gn,λ_=>C8 gn,λ_=>oY gn Q5,?_,λ_=>jd gn,?_,?_,λ_=>jd gn,λ_=>C8 gn,λ_=>oY gn Q6,?_,?_,?_,?_,λ_=>C8 gn,λ_=>oY gn Q5,?_,λ_=>C8 gn,λ_=>oY gn Q6,?_,trivial⟩ ?_
  ·have o:=(((o.drew).aW).aW).aW
   exact⟨(undef,undef,undef,undef,undef),eT.none,J9 b,zt,o⟩
  ·rintro g R w a l i⟨⟨T,a0,U,r,Q⟩,j,q,_,o⟩
   obtain⟨P,rfl⟩:=j.o1 4 l
   have o:=(o.bZ 3<|nh i a 21).bZ 3<|nh i a 18
   refine d9 3 a9 o fV ?_
   have o:=(o.fO 3 (g 18) (nh i a 18)<|bc 98 b0 [D,G,k,x,C,s,A,S,a1,a2,r,a3]).fO 3 (g 21) (nh i a 21)<|bc 98 b0 [D,G,k,x,C,s,A,S,a1,a2,r,Q]
   exact y (T,a0,U,r,Q) 5 j q o
  ·rintro g R w a l i⟨⟨T,a0,U,r,Q⟩,j,q,_,o⟩
   obtain⟨P,rfl⟩:=j.o1 6 l
   have o:=((o.bZ 0<|nh i a 8).bZ 0 a).sc Int a5.2
   refine js ([a5.2]:aG Int) o [e a5.2] eA L1 (λ_ _=>j4) λX w o=>?_
   have o:=((o.pl 17 [0,3,4,5,6,7,8,9,10,11,12,13,14,15,16]).cL 0 aA rfl aW).fO 0 (g 8) (nh i a 8)<|Y X ([a5.2]:aG Int)
   exact y (X,a0,U,r,Q) 7 j q o
  ·rintro g R w a l i⟨⟨T,a0,U,r,Q⟩,j,q,_,o⟩
   obtain⟨P,rfl⟩:=j.o2 5 7 l
   have o:=(((((o.bZ 0 a).dF 0<|l.2.1 rfl).bZ 3<|nh i a 21).bZ 3<|nh i a 18).bZ 12 a).freeze 0
   refine j0 12 0 o xn ev λX w o=>?_
   dsimp only[List.cons_append,List.nil_append,List.set_cons_zero,List.set_cons_succ]at o
   have o:=((o.cL 0 aA rfl (bif g 7 then own 3 T ([a5.2]:aG Int)else aW)).fO 3 (g 18) (nh i a 18)<|bc 98 b0 [D,G,k,x,C,s,A,S,a1,a2,X,a3]).fO 3 (g 21) (nh i a 21)<|bc 98 b0 [D,G,k,x,C,s,A,S,a1,a2,X,Q]
   have o:=o.cL 12 aA rfl<|own 3 a9 z.2.2.2.1
   exact y (T,a0,U,X,Q) 8 j q o
  ·rintro g R w a l i⟨⟨T,a0,U,r,Q⟩,j,q,_,o⟩
   obtain⟨P,rfl⟩:=j.o1 11 l
   have o:=(o.bZ 3<|nh i a 21).bZ 3<|nh i a 18
   refine d9 3 a3 o Zp ?_
   have o:=(o.fO 3 (g 18) (nh i a 18)<|bc 98 b0 [D,G,k,x,C,s,A,S,a1,a2,r,a3]).fO 3 (g 21) (nh i a 21)<|bc 98 b0 [D,G,k,x,C,s,A,S,a1,a2,r,Q]
   exact y (T,a0,U,r,Q) 12 j q o
  ·rintro g R w a l i⟨⟨T,a0,U,r,Q⟩,j,q,_,o⟩
   obtain⟨P,rfl⟩:=q.v8
   have o:=o.bZ 1 a
   refine eX 14 o b q8 λX o=>?_
   have o:=o.nw 1
   exact y (T,X,U,r,Q) 13 j q o
  ·rintro g R w a l i⟨⟨T,a0,U,r,Q⟩,j,q,_,o⟩
   obtain⟨P,rfl⟩:=j.o1 13 l
   have o:=((o.dF 1<|l.1 rfl).bZ 2<|nh i a 15).bZ 2 a
   refine js ([a6.1]:aG gL) o [a0] abn ME (λae hs ad=>⟨(ad.sat 1 _ b).1,zt⟩) λX w o=>?_
   have o:=(((o.pl 16 [1,2,0,4,5,6,7,8,9,10,11,12,13,14,15]).cL 1 (g 13) (l.1 rfl) aW).cL 2 aA rfl aW).fO 2 (g 15) (nh i a 15)<|Y X ([a6.1]:aG gL)
   exact y (T,a0,X,r,Q) 14 j q o
  ·rintro g R w a l i⟨⟨T,a0,U,r,Q⟩,j,q,_,o⟩
   obtain⟨P,rfl⟩:=j.o2 12 14 l
   have o:=(((((o.bZ 2 a).dF 2<|l.2.1 rfl).bZ 3<|nh i a 21).bZ 3<|nh i a 18).bZ 13 a).freeze 2
   refine j0 13 2 o adv ey λX w o=>?_
   dsimp only[List.cons_append,List.nil_append,List.set_cons_zero,List.set_cons_succ]at o
   have o:=((o.cL 2 aA rfl (bif g 14 then own 183 U ([a6.1]:aG gL)else aW)).fO 3 (g 18) (nh i a 18)<|bc 98 b0 [D,G,k,x,C,s,A,S,a1,a2,r,a3]).fO 3 (g 21) (nh i a 21)<|bc 98 b0 [D,G,k,x,C,s,A,S,a1,a2,r,X]
   have o:=o.cL 13 aA rfl<|own 183 a3 z.2.2.2.2
   exact y (T,a0,U,r,X) 15 j q o
  ·rintro g R w a l i⟨⟨T,a0,U,r,Q⟩,j,q,_,o⟩
   obtain⟨P,rfl⟩:=j.o2 17 8 l
   have o:=((o.bZ 3<|nh i a 21).bZ 3 a).dF 12<|l.2.1 rfl
   refine q5 3 r o b b (jX 12 o) fV λw o=>?_
   have o:=((o.cL 3 aA rfl<|bc 98 b0 [D,G,k,x,C,s,A,S,a1,a2,a9,a3]).fO 3 (g 21) (nh i a 21)<|bc 98 b0 [D,G,k,x,C,s,A,S,a1,a2,r,Q]).cL 12 (g 8) (l.2.1 rfl)<|own 3 a9 z.2.2.2.1
   exact qr (T,a0,U,r,Q) j q o
  ·rintro g R w a l i⟨⟨T,a0,U,r,Q⟩,j,q,_,o⟩
   obtain⟨P,rfl⟩:=j.o2 19 15 l
   have o:=((o.bZ 3 a).dF 3<|l.2.2.1 rfl).dF 13<|l.2.1 rfl
   refine q5 3 Q o b b (jX 13 o) Zp λw o=>?_
   have o:=(o.cL 3 aA rfl (bif g 18 then bc 98 b0 [D,G,k,x,C,s,A,S,a1,a2,r,a3]else bc 98 b0 [D,G,k,x,C,s,A,S,a1,a2,a9,a3])).cL 13 (g 15) (l.2.1 rfl)<|own 183 a3 z.2.2.2.2
   exact qr (T,a0,U,r,Q) j q o
  rintro g R w a4⟨⟨T,a0,U,r,Q⟩,j,q,_,o⟩
  simp only[List.getD_cons_zero,List.getD_cons_succ,a4 8 I,a4 13 I,a4 15 I,a4 21 I,a4 8 I,a4 15 I,aN]at o
  obtain⟨P,rfl⟩:=q.v8
  refine cP<|bE<|b_<|d ?_
  refine J ?_
  obtain rfl:=f v
  exact⟨rfl,a1,a2,r,Q,ab,o.sp 15 [3,10,11,12,13,4,5,6,7,8,9]⟩
 rintro _ w⟨cf,cg,ch,cj,af,P,rfl,o⟩
 obtain rfl:=f v
 have o:=o.JA (X:=bP) (b:=10) (j:=9) rfl (λae aa g W a=>GJ ae aa g W a) rfl rfl I
 refine Cf ?_
 exact HB ⟨S,cf,cg,ch,cj,b,o.pk 11 [0,9,1,2,3,4]⟩
def zB(E:aT)(V:aG HP)(r:aP (aG (aG z)×aG z×aG cM×aG dD×aG (aG aB)×aG aH×aG (aG Int)×aG bL×aG Int×aG Int×aG Int×aG gL)×Int)(U:Nat->F)(w:aT):Prop:=j3 q 112 Tryz.f29 (vV E V r) .ret U w
def DB{a:ir}{res:aP (aG (aG z)×aG z×aG cM×aG dD×aG (aG aB)×aG aH×aG (aG Int)×aG bL×aG Int×aG Int×aG Int×aG gL)×Int}(j:B E w V)(g:eo V i0 l a)(o:jE N a=O res):c_ 29 [l] w<|vV E V res:=by
 unfold jE at o;refine cI Tryz.func29 b b ?_;have j:=j.dup (i0+0) g;refine IT<|eh 0 l j b λQ w j=>?_;refine c ?_;refine p b rH<|em 0 j b lf vC λg j=>IS 0 a.aS j ye<|c ?_;refine u o (λo=>?_) λo=>?_;refine c ?_;exact f o▸kD ⟨rfl,j.drop 3⟩;refine hG<|IT<|p b rH<|em 1 j b lf vC λg j=>IS 0 a.aS j ye<|c ?_;refine u o (λo=>?_) λo=>?_;refine c ?_;exact f o▸kD ⟨rfl,j.drop 4⟩;refine p_<|p b NH<|em 2 j b z9 xm λg j=>IS 0 a.cZ j oH<|c ?_;refine p b rH<|em 3 j b lf vC λk j=>IS 0 a.aS j ye<|gV 0<|cJ<|md E V (λ(g:Int)=>[bx 32 Q a,Y k a.aS]) (λg=>[(1,h Q 0),(4,e g)]) (λq _=>[(28,k),(29,e (Z a.aS)),(30,e q)]) (zB E V) o ?_ ?_ ?_ ?_;exact j.sp 6 [4,0];rintro v q g q _ w r⟨x,rfl,j⟩o;refine cF<|k4<|i o λk s o=>By 1 j Ad s λs j=>t 0 k j xm λs j=>c ?_;refine i o λs s o=>IN aa1 (wm N (i0:=0) j b s) λw j=>c ?_;refine u o (λo=>?_) λo=>?_;refine c ?_;exact f o▸⟨rfl,kD ⟨rfl,j.drop 4⟩⟩;refine c ?_;refine IS 0 k j oH<|d ?_;refine J<|cP<|bE<|b_<|d ?_;exact J<|f o▸⟨rfl,j.sp 4 [2,3]⟩;intro aa H w o hK;exact dx<|f o▸hK;rintro g _ w o⟨x,rfl,j⟩;refine bE<|cF<|IT<|p b NH<|em 0 j b z9 xm λg j=>?_;refine i o λg g o=>IN aa1 (wm N (i0:=0) j b g) λw j=>c ?_;refine u o (λo=>?_) λo=>?_;refine c ?_;exact f o▸kD ⟨rfl,j.drop 3⟩;refine c ?_;refine u o (λo=>?_) λo=>?_;refine c ?_;exact f o▸kD ⟨rfl,j.drop 3⟩;refine hG<|IT<|eX 1 j b pD λg j=>?_;refine i o λg g o=>IN (eP Tryz.func72) (Dt N (i0:=0) j b g) λw j=>c ?_;refine u o (λo=>?_) λo=>?_;refine c ?_;exact f o▸kD ⟨rfl,j.drop 4⟩;refine hG<|IT<|eX 2 j b pD λg j=>?_;refine i o λg g o=>IN (eP Tryz.func73) (Du N (i0:=0) j b g) λw j=>c ?_;refine u o (λo=>?_) λo=>?_;refine c ?_;exact f o▸kD ⟨rfl,j.drop 5⟩;refine hG<|IT<|p b ju<|em 3 j b jz sA λT j=>IS 0 a.aX j Dd<|gV 0<|cJ<|md E V (λ(bj:Unit)=>[bx 32 Q a,Y T a.aX]) (λ_=>[(1,h Q 0)]) (λW _=>[(63,T),(64,e (Z a.aX)),(65,e W)]) (zB E V) o ?_ ?_ ?_ ?_;exact j.sp 6 [4,0];rintro v W bj q _ w r⟨x,rfl,j⟩o;refine c ?_;refine i o λs g o=>By 1 j xp g λg j=>t 0 s j lh λg j=>f_ j Ki.z λM w j=>?_;refine jU (W:Int)<|fv 0 j 1 b lh λw j=>?_;refine hO<|p b ju<|em 3 j b jz sA λg j=>gV (W:Int)<|i o λU g o=>rs (hl:= .inr ⟨rfl,b⟩) 0 j xp g λX j=>IS 0 U j Dd<|gV 0<|cJ<|md E V (λ(bk:Unit)=>[bx 32 Q a,bx 121 M s,Y T a.aX,Y X U]) (λ_=>[(1,h Q 0),(63,T),(64,e (Z a.aX)),(65,e W)]) (λa2 _=>[(12,h M 0),(73,X),(74,e (Z U)),(75,e a2)]) (zB E V) o ?_ ?_ ?_ ?_;exact j.sp 7 [5,2,6,0];rintro v a2 bk q _ w r⟨x,rfl,j⟩o;refine cF<|k4<|i o λr g o=>By 3 j xp g λbl j=>t 0 r j lh λbm j=>f_ j Ki.z λP w j=>?_;refine fv 0 j 1 b lh λw j=>?_;refine i4<|i o λg R o=>dz (λ(g:Bool)=>SH E V [(1,h Q 0),(12,h M 0),(63,T),(64,e (Z a.aX)),(65,e W),(73,X),(74,e (Z U)),(75,e a2),(98,vb g)] [bx 32 Q a,bx 121 M s,Y T a.aX,Y X U]) g ?_ ?_;refine dU R (λS R=>?_) λS R=>?_;obtain⟨q,b0,R⟩:=bd R;obtain⟨k,b3,R⟩:=bd R;refine i R λg b4 R=>q_ E V m [1,0,1,0,1,1,0,0,0,0,0,0,1,0,0,0,0,0,1,1] [13,14,15,16] (λ(K:F×F×F×F)=>(λA C D G=>[(0,79,h M 3),(1,80,e s.dC),(2,81,h P 4),(3,82,e r.To),(4,83,vb<|s.dC<=r.To),(5,84,vb<|s.dC<=r.To),(6,85,cv (aA&&(kE (s.dC<=r.To)==aA))<|h P 3),(7,86,cv (aA&&(kE (s.dC<=r.To)==aA))<|e r.dC),(8,87,cv (aA&&(kE (s.dC<=r.To)==aA))<|h M 4),(9,88,cv (aA&&(kE (s.dC<=r.To)==aA))<|e s.To),(10,89,cv (aA&&(kE (s.dC<=r.To)==aA))<|vb<|r.dC<=s.To),(11,90,vb<|kE (s.dC<=r.To)&&kE (r.dC<=s.To)),(12,91,vb<|kE (s.dC<=r.To)&&kE (r.dC<=s.To)),(13,92,A),(14,93,C),(15,94,D),(16,95,G),(17,96,e g),(18,97,vb<|g==0),(19,98,vb<|g==0)]) K.1 K.2.1 K.2.2.1 K.2.2.2) [(1,h Q 0),(12,h M 0),(14,h P 0),(63,T),(64,e (Z a.aX)),(65,e W),(73,X),(74,e (Z U)),(75,e a2)] [] (λ(v:Nat->Bool)(K:F×F×F×F)=>(λA C D G=>[bif v 0 then Y A s else aW,bif v 1 then Y C q else aW,bif v 2 then Y D r else aW,bif v 3 then Y G k else aW,bx 121 P r,Y bm r,pt bl r,bx 32 Q a,bx 121 M s,Y T a.aX,Y X U]) K.1 K.2.1 K.2.2.1 K.2.2.2) (λK=>by kernel_rfl) ?_ ⟨λ_=>oY gn tF,?_,λ_=>oY gn vS,?_,λ_=>Ze gn rfl,λ_=>jd gn,?_,?_,?_,?_,?_,?_,λ_=>jd gn,?_,?_,?_,?_,?_,λ_=>Ze (gy S rfl) rfl,λ_=>Z1 gn S rfl,trivial⟩ ?_;exact⟨(undef,undef,undef,undef),eT.none,J9 b,zt,((((j.drew).aW).aW).aW).aW⟩;rintro v H w I k L⟨⟨A,C,D,G⟩,g,q,_,j⟩;obtain⟨x,rfl⟩:=g.o1 0 k;exact BY 8 j b nK n<|y (A,C,D,G) 1 g q j;rintro v H w I k L⟨⟨A,C,D,G⟩,g,q,_,j⟩;obtain⟨x,rfl⟩:=g.o1 2 k;exact BY 4 j b qG n<|y (A,C,D,G) 3 g q j;rintro v H w I k L⟨⟨A,C,D,G⟩,g,q,_,j⟩;obtain⟨x,rfl⟩:=g.oa 5 k q;exact g7 aA (s.dC<=r.To) (h P 3) b b b (cW tF)<|y (A,C,D,G) 6 g q j;rintro v H w I k L⟨⟨A,C,D,G⟩,g,q,_,j⟩;obtain⟨x,rfl⟩:=g.o2 6 5 k;refine g7 aA (s.dC<=r.To) (e r.dC) rfl rfl rfl (bO 4 rfl j (by exact z_ (h P 3)) rfl nK n) ?_;exact y (A,C,D,G) 7 g q j;rintro v H w I k L⟨⟨A,C,D,G⟩,g,q,_,j⟩;obtain⟨x,rfl⟩:=g.oa 5 k q;exact g7 aA (s.dC<=r.To) (h M 4) b b b (cW vS)<|y (A,C,D,G) 8 g q j;rintro v H w I k L⟨⟨A,C,D,G⟩,g,q,_,j⟩;obtain⟨x,rfl⟩:=g.o2 8 5 k;refine g7 aA (s.dC<=r.To) (e s.To) rfl rfl rfl (bO 8 rfl j (by exact z_ (h M 4)) rfl qG n) ?_;exact y (A,C,D,G) 9 g q j;rintro v H w I k L⟨⟨A,C,D,G⟩,g,q,_,j⟩;obtain⟨x,rfl⟩:=(ac (g.at 5 rfl<|k.2.2.1 rfl)<|ac (g.at 7 rfl<|k.1 rfl)<|ac (g.at 9 rfl<|k.2.1 rfl) az).v8;refine sg ?_;exact y (A,C,D,G) 10 g q j;rintro v H w I k L⟨⟨A,C,D,G⟩,g,q,_,j⟩;obtain⟨x,rfl⟩:=g.o2 5 10 k;refine d ?_;exact y (A,C,D,G) 11 g q j;rintro v H w I k L⟨⟨A,C,D,G⟩,g,q,_,j⟩;obtain⟨x,rfl⟩:=g.oa 12 k q;have j:=j.bZ 0 I;refine eX 8 j b lh λb5 j=>?_;exact y (b5,C,D,G) 13 g q (j.nw 0);rintro v H w I k L⟨⟨A,C,D,G⟩,g,q,_,j⟩;obtain⟨x,rfl⟩:=g.o2 13 12 k;have j:=(j.dF 0<|k.1 rfl).bZ 1 I;refine d7 Tq (lr N (i0:=0) j b b0) λb6 w j=>?_;exact y (A,b6,D,G) 14 g q (((j.pl 12 [1,0,3,4,5,6,7,8,9,10,11]).cL 0 (v 13) (k.1 rfl) aW).cL 1 aA rfl aW);rintro v H w I k L⟨⟨A,C,D,G⟩,g,q,_,j⟩;obtain⟨x,rfl⟩:=g.oa 12 k q;have j:=j.bZ 2 I;refine eX 4 j b lh λb7 j=>?_;exact y (A,C,b7,G) 15 g q (j.nw 2);rintro v H w I k L⟨⟨A,C,D,G⟩,g,q,_,j⟩;obtain⟨x,rfl⟩:=(ac (g.at 12 rfl<|k.2.2.1 rfl)<|ac (g.at 15 rfl<|k.1 rfl) az).v8;have j:=(j.dF 2<|k.1 rfl).bZ 3 I;refine d7 Tq (lr N (i0:=2) j b b3) λb8 w j=>?_;exact y (A,C,D,b8) 16 g q (((j.pl 12 [1,2,3,0,5,6,7,8,9,10,11]).cL 2 (v 15) (k.1 rfl) aW).cL 3 aA rfl aW);rintro v H w I k L⟨⟨A,C,D,G⟩,g,q,_,j⟩;obtain⟨x,rfl⟩:=(ac (g.at 12 rfl<|k.2.2.2.1 rfl)<|ac (g.at 14 rfl<|k.1 rfl)<|ac (g.at 16 rfl<|k.2.1 rfl) az).v8;have j:=(j.dF 1<|k.1 rfl).dF 3<|k.2.1 rfl;refine IN W9 (xz N (i0:=1) (i1:=3) j b b b4) λw j=>?_;exact y (A,C,D,G) 17 g q ((j.cL 1 (v 14) (k.1 rfl) aW).cL 3 (v 16) (k.2.1 rfl) aW);rintro v H w a0⟨⟨A,C,D,G⟩,g,q,_,j⟩;have j:=(((j.dF 0<|tL a0 13).dF 1<|tL a0 14).dF 2<|tL a0 15).dF 3<|tL a0 16;obtain⟨x,rfl⟩:=(ac (g.at 19 rfl<|tL a0 19) q).v8;exact f R▸⟨rfl,j.sp 11 [7,8,9,10]⟩;refine q_ E V m [1,0,1,0,1,1,0,0,0,0,0,0,1,1,1,1,1,1,1,1] [] (λ(K:Unit)=>[(0,79,h M 3),(1,80,e s.dC),(2,81,h P 4),(3,82,e r.To),(4,83,vb<|s.dC<=r.To),(5,84,vb<|s.dC<=r.To),(6,85,cv (aA&&(kE (s.dC<=r.To)==aA))<|h P 3),(7,86,cv (aA&&(kE (s.dC<=r.To)==aA))<|e r.dC),(8,87,cv (aA&&(kE (s.dC<=r.To)==aA))<|h M 4),(9,88,cv (aA&&(kE (s.dC<=r.To)==aA))<|e s.To),(10,89,cv (aA&&(kE (s.dC<=r.To)==aA))<|vb<|r.dC<=s.To),(11,90,vb<|kE (s.dC<=r.To)&&kE (r.dC<=s.To)),(12,91,vb<|kE (s.dC<=r.To)&&kE (r.dC<=s.To)),(13,92,undef),(14,93,undef),(15,94,undef),(16,95,undef),(17,96,undef),(18,97,undef),(19,98,vb aK)]) [(1,h Q 0),(12,h M 0),(14,h P 0),(63,T),(64,e (Z a.aX)),(65,e W),(73,X),(74,e (Z U)),(75,e a2)] [] (λ(v:Nat->Bool)(K:Unit)=>[bx 121 P r,Y bm r,pt bl r,bx 32 Q a,bx 121 M s,Y T a.aX,Y X U]) (λK=>by kernel_rfl) ?_ ⟨λ_=>oY gn tF,?_,λ_=>oY gn vS,?_,λ_=>Ze gn rfl,λ_=>jd gn,?_,?_,?_,?_,?_,?_,λ_=>jd gn,λ_=>zX S,λ_=>zX S,λ_=>zX S,λ_=>zX S,λ_=>zX S,λ_=>zX S,λ_=>Z2 gn S rfl,trivial⟩ ?_;exact⟨(),eT.none,J9 b,zt,j.drew⟩;rintro v H w I k L⟨_,g,q,_,j⟩;obtain⟨x,rfl⟩:=g.o1 0 k;exact BY 4 j b nK n<|y () 1 g q j;rintro v H w I k L⟨_,g,q,_,j⟩;obtain⟨x,rfl⟩:=g.o1 2 k;exact BY 0 j b qG n<|y () 3 g q j;rintro v H w I k L⟨_,g,q,_,j⟩;obtain⟨x,rfl⟩:=g.oa 5 k q;exact g7 aA (s.dC<=r.To) (h P 3) b b b (cW tF)<|y () 6 g q j;rintro v H w I k L⟨_,g,q,_,j⟩;obtain⟨x,rfl⟩:=g.o2 6 5 k;refine g7 aA (s.dC<=r.To) (e r.dC) rfl rfl rfl (bO 0 rfl j (by exact z_ (h P 3)) rfl nK n) ?_;exact y () 7 g q j;rintro v H w I k L⟨_,g,q,_,j⟩;obtain⟨x,rfl⟩:=g.oa 5 k q;exact g7 aA (s.dC<=r.To) (h M 4) b b b (cW vS)<|y () 8 g q j;rintro v H w I k L⟨_,g,q,_,j⟩;obtain⟨x,rfl⟩:=g.o2 8 5 k;refine g7 aA (s.dC<=r.To) (e s.To) rfl rfl rfl (bO 4 rfl j (by exact z_ (h M 4)) rfl qG n) ?_;exact y () 9 g q j;rintro v H w I k L⟨_,g,q,_,j⟩;obtain⟨x,rfl⟩:=(ac (g.at 5 rfl<|k.2.2.1 rfl)<|ac (g.at 7 rfl<|k.1 rfl)<|ac (g.at 9 rfl<|k.2.1 rfl) az).v8;refine sg ?_;exact y () 10 g q j;rintro v H w I k L⟨_,g,q,_,j⟩;obtain⟨x,rfl⟩:=g.o2 5 10 k;refine d ?_;exact y () 11 g q j;rintro v H w a0⟨_,g,q,_,j⟩;obtain⟨x,rfl⟩:=(ac (g.at 19 rfl<|tL a0 19) q).v8;exact f R▸⟨rfl,j.sp 7 [3,4,5,6]⟩;rintro _ w⟨x,rfl,j⟩;refine bE<|u o (λo=>?_) λo=>?_;refine c ?_;exact f o▸⟨rfl,kD ⟨rfl,j.drop 4⟩⟩;refine dl<|cP<|bE<|b_<|d ?_;exact J<|f o▸⟨rfl,j.sp 4 [0,1,2,3]⟩;intro aa H w o hK;exact qg<|dx<|f o▸⟨rfl,hK⟩;rintro bk _ w o⟨x,rfl,j⟩;refine cP<|bE<|b_<|d ?_;exact J<|f o▸⟨rfl,j.sp 4 [0,2]⟩;intro aa H w o hK;exact dx<|f o▸hK;rintro bj _ w o⟨x,rfl,j⟩;refine bE<|IT<|eX 0 j b pD λs j=>?_;obtain⟨g,v,x,j⟩:=j.Sa (i:=0) rfl rfl;obtain⟨g,k,q,r,rfl⟩:=UT v;have j:=(((j.lT (i:=0) (k:=0) (f:=λK=>K.aS) rfl lf rfl rfl rfl).lT (i:=1) (k:=1) (f:=λK=>K.cZ) rfl z9 rfl rfl rfl).lT (i:=2) (k:=2) (f:=λK=>K.aX) rfl jz rfl rfl rfl).lT (i:=3) (k:=3) (f:=λK=>K.cA) rfl mu rfl rfl rfl;refine XW (zs:=[n_,n_,n_,n_,n_,n_,n_,n_,n_,n_,n_,n_]) (cs:=[g,k,q,r,n_,n_,n_,n_,n_,n_,n_,n_]) zt b [(0,s)] [(0,[g,k,q,r])] b adr ⟨rfl,congrArg Value.cells x,zt⟩ b<|Pi [g,k,q,r,n_,n_,n_,n_,n_,n_,n_,n_] b j b (Gt.all (⟨tC 3 j,tC 2 j,tC 1 j,tC 0 j,b,b,b,b,b,b,b,b,zt⟩:Gt [g,k,q,r,n_,n_,n_,n_,n_,n_,n_,n_])) λs w j=>?_;refine c ?_;have j:=((((((j.cO (aG aB) 100).cO aH 102).pull 0).pull 2).dup 6 rfl).dup 9 rfl).pull 6;refine i o λv v o=>d7 (eP Tryz.func76) (CE N j v) ?_;rintro _ w⟨v,x,rfl,j⟩;refine c ?_;refine u o (λo=>?_) λo=>?_;refine c ?_;exact f o▸kD ⟨rfl,j.drop 14⟩;refine c ?_;have j:=(((((j.freeze 2).cO (aG Int) 95).pull 0).dup 4 rfl).dup 10 rfl).pull 4;refine i o λA A o=>d7 (eP Tryz.func77) (CF N j A) ?_;rintro _ w⟨A,rfl,j⟩;refine c ?_;have j:=((((((((((((j.freeze 1).cO Int 3).cO Int 3).cO Int 3).cO gL 183).pull 0).pull 2).pull 4).pull 6).dup 9 rfl).dup 14 rfl).dup 19 rfl).dup 21 rfl;have j:=j.pull 12;refine i o λC C o=>d7 (eP Tryz.func78) (wt N j C) ?_;rintro _ w⟨C,D,G,H,I,rfl,j⟩;refine c ?_;exact f o▸kD ⟨s,g,k,q,r,v,x,A,C,D,G,H,I,b,j.pk 27 [0,22,21,20,19,14,15,11,1,2,3,4,5]⟩
def yo{a:aG bD}{g:bV}{p2:ir}{res:aP (aG (aG z)×aG z×aG cM×aG dD×aG (aG aB)×aG aH×aG (aG Int)×aG bL×aG Int×aG Int×aG Int×aG gL)×Int}(j:B E w V)(d:eo V i0 l a)(h1:eo V i1 r g)(h2:eo V i2 Q p2)(o:fH N a g p2=O res):
    c_ 12 [l,r,Q] w<|vV E V res:=by
 unfold fH at o
 refine cI Tryz.func12 b b ?_
 have j:=((j.dup (i0+0) d).dup (i1+1) h1).dup (i2+2) h2
 refine IT<|eh 1 r j b λd w j=>?_
 refine eh 1 Q j b λd w j=>?_
 refine c ?_
 refine eX 1 j b tg λd j=>?_
 obtain⟨az,d,o⟩:=bd o
 refine IN (eP Tryz.func28) (Dp N (i0:=5) (i1:=0) j b b d) λw j=>c ?_
 refine u o (λo=>?_) λo=>?_
 ·refine c ?_
  obtain rfl:=f o
  exact kD ⟨rfl,j.drop 6⟩
 refine p_<|eX 1 j b pD λd j=>?_
 obtain⟨e,d,o⟩:=bd o
 refine d7 abo (DB N (i0:=0) j b d) ?_
 rintro _ w d
 rcases aa:e.1 with _|e
 ·replace o:=Te aa o
  obtain⟨rfl,j⟩:=Mp aa d
  refine c ?_
  obtain rfl:=f o
  exact kD ⟨rfl,j.drop 7⟩
 replace o:=Tf aa o
 obtain⟨e,h,i,k,m,n,p,q,s,t,v,x,y,rfl,j⟩:=Mq aa d
 refine c ?_
 obtain rfl:=f o
 exact kD ⟨e,h,i,k,m,n,p,q,s,t,v,x,y,b,j.pk 20 (f0 0 13 [])⟩
end Go.Gk
