/-
  Printed texts: Go functions as plain functions, and that they are. No statement of the seed is proved here.
-/
import Derived.Test.YtibjlncmnefhcaaGreatDoorG1
import Derived.Test.YtibjlncmnefhcaaGreatDoorG5
import Derived.Test.YtibjlncmnefhcaaGreatDoorG6
import Derived.Test.YtibjlncmnefhcaaGreatDoorA2
set_option linter.defProp false
set_option linter.unusedVariables false
set_option linter.unusedSimpArgs false
set_option linter.unusedSectionVars false
set_option maxRecDepth 100000
set_option maxHeartbeats 40000000
open Bool renaming true→aA,false→aK
open List renaming length→Z
open Option renaming bind→D,some→O,none→aQ
namespace Go.Gk
open Go IntKind Go.Proofs
variable (N:Nat){E w:aT}{b0 i0 i1:Nat}{a g p2 p3 res:Int}{l D G s x C k H A r:F}{V:aG HP}
def rq{t:aG bI}{v:aG bL}{g:gL}(j:B E w (bc 113 b0 [D,G,s,x,C,k,H,A]::own 108 H t::kM bP t v aQ::V))(h1:eo V i1 r g)(l:fu N v g=O res):c_ 169 [h b0 0,r] w<|je E V b0 D G s x C k H t v A res:=by
 unfold fu at l;refine cI Tryz.func169 b b ?_;have j:=j.dup (i1+3) h1;refine IT<|eh 0 r j b λy w j=>?_;refine c ?_;refine pr E V (λ(o:Int)=>[bc 113 b0 [D,G,s,x,C,k,H,A],own 108 H t,kM bP t v aQ,bx 183 y g]) (λ_=>[(0,h b0 0)]) (λo=>[(3,h y 0),(5,e o)]) (λK=>j3 q 49 Tryz.f169 (je E V b0 D G s x C k H t v A K) .ret) l ?_ ?_ ?_ ?_;exact j.sp 5 [2,3,4,0];rintro o a _ w⟨F,rfl,j⟩l;refine c ?_;refine p b re<|d9 0 H j xt<|FV 1 2 v j Vg<|c ?_;refine u l (λl=>?_) λl=>?_;refine hG<|dt<|cF<|i l λz a l=>dz (λ(z:Bool)=>SH E V [(0,h b0 0),(3,h y 0),(5,e o),(47,vb z)] [bc 113 b0 [D,G,s,x,C,k,H,A],own 108 H t,kM bP t v aQ,bx 183 y g]) z ?_ ?_;refine jb m (jv 33 2000000000000000020000000000000) (f0 0 33 []) ?_;have j:=j.drew;refine ge b b<|p b Ef<|cX b<|BY 3 j b Aa Cn<|cX b<|xh g.cM<|dp<|dU a (λy a=>?_) λy a=>?_;refine c ?_;refine p b re<|cX b<|d9 0 H j xt<|d ?_;obtain⟨z,v,a⟩:=bd a;have I:=j.fP 2;have t:=iA (default:bI) I v;have I:=qM 1 j t 0;refine ep 1 j b b EN t<|cX b ?_;have t:=j.fP 2;have I:=iA (default:bI) t v;refine pe (α:=bI) (qM 1 j I 0) Ee<|cX b ?_;have t:=j.fP 2;have I:=iA (default:bI) t v;refine P_ (λt=>t.aX) z.aX 1 2 o LX (default:bI) (cg y) b j b (qM 1 j I 1) b b v (λt v=>v.2) fV λz j=>cX b<|p b vT<|cX b<|BY 4 j b s9 n<|oy b<|i a λz I a=>IN Sw (kK N (g:=g.Number) (i0:=0) j b I) λw j=>qY b<|NB y (vb z)<|cX b<|xh z<|dp<|dU a (λy a=>?_) λy a=>?_;refine ge b b<|d ?_;refine oy b<|sku<|qY b<|c ?_;exact f a▸⟨rfl,j.sp 5 [1,2,3,4]⟩;refine ge b b<|p b Ef<|cX b<|BY 4 j b Aa Cn<|cX b<|FO g.cM (cg y) b b<|cX b<|i8 (vb<|!g.cM)<|dp ?_;refine dU a (λz a=>?_) λz a=>?_;refine c ?_;refine p b re<|cX b<|d9 1 H j xt<|d ?_;obtain⟨L,y,a⟩:=bd a;have M:=j.fP 3;have I:=iA (default:bI) M y;have M:=qM 2 j I 0;refine ep 2 j b b EN I<|cX b ?_;have I:=j.fP 3;have M:=iA (default:bI) I y;refine pe (α:=bI) (qM 2 j M 0) uT<|cX b ?_;have I:=j.fP 3;have M:=iA (default:bI) I y;refine P_ (λt=>t.fK) L.fK 2 3 o Fb (default:bI) (cg z) b j b (qM 2 j M 0) b b y (λt v=>v.1) fV λy j=>cX b<|p b vT<|cX b<|BY 5 j b s9 n<|oy b<|i a λy y a=>IN Sw (kK N (g:=g.Number) (i0:=0) j b y) λw j=>qY b<|c ?_;exact f a▸⟨rfl,j.sp 6 [2,3,4,5]⟩;refine ge b b<|d ?_;refine oy b<|d ?_;refine qY b<|c ?_;exact f a▸⟨rfl,j.sp 5 [1,2,3,4]⟩;refine ge b b<|d ?_;refine oy b<|d ?_;refine qY b<|d ?_;refine p b Ef<|cX b<|BY 3 j b Aa Cn<|cX b<|FO g.cM ⟨_,b,b⟩ b b<|cX b<|i8 (vb<|!g.cM)<|dp<|dU a (λy a=>?_) λy a=>?_;refine c ?_;refine p b re<|cX b<|d9 0 H j xt<|d ?_;obtain⟨L,z,a⟩:=bd a;have M:=j.fP 2;have I:=iA (default:bI) M z;have M:=qM 1 j I 0;refine ep 1 j b b EN I<|cX b ?_;have I:=j.fP 2;have M:=iA (default:bI) I z;refine pe (α:=bI) (qM 1 j M 0) uT<|cX b ?_;have I:=j.fP 2;have M:=iA (default:bI) I z;refine P_ (λt=>t.fK) L.fK 1 2 o Fb (default:bI) (cg y) b j b (qM 1 j M 0) b b z (λt v=>v.1) fV λt j=>cX b<|p b vT<|cX b<|BY 4 j b s9 n<|oy b<|i a λt v a=>IN Sw (kK N (g:=g.Number) (i0:=0) j b v) λw j=>qY b<|NB y (vb t) (hg:=⟨_,b,b⟩)<|cX b<|nt (b:=aK) (v:=vb t) zt b b b<|dp<|k7 ?_;exact f a▸⟨rfl,j.sp 5 [1,2,3,4]⟩;refine ge b b<|d ?_;refine oy b<|d ?_;exact qY b<|NB y (vb aK) (hg:=⟨_,b,b⟩)<|cX b<|nt (b:=aK) (v:=vb aK) zt b b b<|dp<|k7<|f a▸⟨rfl,j.sp 4 [0,1,2,3]⟩;rintro _ w⟨F,rfl,j⟩;refine bE<|u l (λl=>?_) λl=>?_;refine c ?_;exact f l▸⟨rfl,bH ⟨rfl,j.pk 4 [0,1,2]⟩⟩;refine dl<|cP<|bE<|b_<|d ?_;exact J<|f l▸⟨rfl,j.sp 4 [0,1,2,3]⟩;exact fk<|f l▸⟨rfl,j.sp 4 [0,1,2,3]⟩;intro K a w l a;exact dx<|f l▸a;rintro o _ w l⟨F,rfl,j⟩;refine c ?_;exact f l▸bH ⟨rfl,j.pk 4 [0,1,2]⟩
def sR{n:aG cM}{l:aG Int}{m:aG (aG z)}{e:aG bI}{a:aG bL}{g:dD}(j:B E w (bc 113 b0 [D,G,s,x,C,k,H,A]::Y s n::Y C l::Y k m::own 108 H e::kM bP e a aQ::V))(h1:eo V i1 r g)(o:fX N n l m a g=O res):c_ 103 [h b0 0,r] w<|je E V b0 D G s x C k H e a A res:=by
 unfold fX at o;refine cI Tryz.func103 b b ?_;have j:=j.dup (i1+6) h1;refine IT<|eh 0 r j b λa w j=>?_;refine c ?_;refine eX 0 j b vm λa j=>?_;have j:=(((j.dup 6 rfl).dup 6 rfl).dup 6 rfl).pull 6;refine i o λa a o=>d7 (eP Tryz.func168) (wT N (i1:=0) j b a) ?_;rintro _ w⟨a,rfl,j⟩;refine d ?_;refine f_ j ME.z λa w j=>?_;refine fv 0 j 1 b q8 λw j=>?_;refine c ?_;refine u o (λo=>?_) λo=>?_;refine c ?_;exact f o▸bH ⟨rfl,j.pk 12 [2,10,11]⟩;refine c ?_;refine eX 0 j b q8 λa j=>?_;have j:=((j.pull 12).pull 12).pull 5;refine i o λa a o=>IN (eP Tryz.func169) (rq N (i1:=0) j b a) λw j=>c ?_;exact f o▸bH ⟨rfl,j.pk 16 [0,1,2]⟩
def uD(E:aT)(V:aG HP)(b0:Nat)(D G:F)(s x:F)(C k A:F)(res:aG bL)(v:F)(w:aT):Prop:=∃a:F,v = .tuple #[]/\B E w ([bc 113 b0 [D,G,s,x,C,k,a,A],own 108 a res]++V)
def tR{T:aG cM}{H:aG dD}{M:aG Int}{i:aG (aG z)}{v:aG (aG Int)}{res:aG bL}(o:B E w (bc 113 b0 [D,G,s,x,C,k,n_,A]::Y s T::Y x H::Y C M::Y k i::Y A v::V))(q:gD N T H M i v=O res):
    c_ 57 [h b0 0] w<|uD E V b0 D G s x C k A res:=by
 unfold gD at q
 refine cI Tryz.func57 b b<|c ?_
 refine p b vU<|d9 0 k o vC<|IS 4 i o ye ?_
 obtain⟨a,a,q⟩:=bd q
 refine yj (Z i:Int) o Vr Se a λg w o=>?_
 refine c ?_
 refine Ji E V (λ(j:aG bL×aG Bool×Int)(a:F)(l:aG bI)=>[bc 113 b0 [D,G,s,x,C,k,a,A],own 108 a l,kM bP l j.1 aQ,Y s T,Y x H,Y C M,Y k i,Y A v,own 4 g j.2.1]) (λ_ _ _=>[(0,h b0 0)]) (λj _ _=>[(2,g),(3,e j.2.2)]) q ?_ ?_ ?_
 ·have o:=(o.Jz bP).cO bI 108
  exact⟨n_,([]:aG bI),o.sp 9 [3,0,1,4,5,6,7,8,2]⟩
 ·rintro j Q _ w⟨a,P,R,rfl,o⟩q
  refine c ?_
  refine p b vU<|d9 0 k o vC<|IS 6 i o ye<|c ?_
  refine u q (λq=>?_) λq=>?_
  rotate_left
  ·refine fk ?_
   obtain rfl:=f q
   exact⟨rfl,a,P,o.sp 9 (f0 0 9 [])⟩
  refine c ?_
  obtain⟨l,l,q⟩:=bd q
  refine ep 8 o b b Ff l<|p8 8 o l Cn<|d ?_
  refine cJ ?_
  obtain⟨l,r,q⟩:=bd q
  refine dz (λ(l:aG bL×aG Bool)U w=>∃(n:F)(K:aG bI),SH E V [(0,h b0 0),(2,g),(3,e j.2.2)] [bc 113 b0 [D,G,s,x,C,k,n,A],own 108 n K,kM bP K l.1 aQ,Y s T,Y x H,Y C M,Y k i,Y A v,own 4 g l.2] U w) l ?_ ?_
  ·refine u r (λr=>?_) λr=>?_
   rotate_left
   ·refine dl ?_
    obtain rfl:=f r
    exact⟨rfl,a,P,o.sp 9 (f0 0 9 [])⟩
   have o:=o.drew
   refine v_ (λw=>B E w<|[bc 113 b0 [D,G,s,x,C,k,a,A]]++V) m [1,1,1,1,1,0,0,0,2,2,2,0,0,2] [0,1,2,3,4,5,6,7,8,9,10,11,12,13] (o.pk 9 [0])<|ek (h b0 0) b (λw=>i8 (h b0 0) dT)<|ek (h b0 0) b (λw=>i8 (h b0 0) dT)<|ek (h b0 0) b (λw=>wr b dT)<|ek (h b0 6) b (λw=>p b re dT)<|si a b (λw o=>d9 0 a o xt dT)<|ge b b<|d ?_
   refine oy b ?_
   have o:=((o.pull 8).dup 8 rfl).pull 2
   obtain⟨a,g,r⟩:=bd r
   refine d7 (eP Tryz.func102) (wx N (g:=j.2.2) o g) ?_
   rintro _ w⟨L,l,g,rfl,o⟩
   refine gj (o.pk 14 [3])<|io b b ?_
   have o:=(o.Mo (i:=2) rfl).Nl (cs:=[L,l,g]) (x:=(⟨a.1.1,a.1.2.1,rv g⟩:bI)) (λaa hs X=>⟨[L],[l,g],rfl,uI (X.sat 1 _ rfl).1,⟨[l],[g],rfl,uI (X.sat 2 _ rfl).1,uI (X.sat 0 _ rfl).1⟩⟩) rfl
   refine js ([(⟨a.1.1,a.1.2.1,rv g⟩:bI)]:aG bI) o [(.agg ([L,l,g]:aG F).toArray)] EN Pv (λ_ _=>j4) λl w o=>gj (o.pk 17 [6])<|io b b ?_
   obtain⟨l,l,r⟩:=bd r
   have o:=o.freeze 0
   refine Qf 9 0 10 5 bP (⟨a.1.1,a.1.2.1,rv g⟩:bI) (⟨a.1.1,a.1.2.1,a.1.2.2⟩:bL) g a.1.2.2 (λ_ _ L=>⟨⟨rfl,b⟩,L⟩) b o b b b b b b Zo l λl w o=>?_
   refine gj (o.pk 17 [6])<|c ?_
   refine p b re<|dp<|Nk b b<|q5 6 l o b b (jX 9 o) xt λw o=>?_
   refine gj zt<|k7 ?_
   obtain rfl:=f r
   exact⟨rfl,l,P++[(⟨a.1.1,a.1.2.1,rv g⟩:bI)],o.sp 17 (6::f0 9 7 [7])⟩
  rintro _ w⟨n,K,R,rfl,o⟩
  refine cP<|bE<|b_<|d ?_
  refine J ?_
  obtain rfl:=f q
  exact⟨rfl,n,K,o.sp 9 (f0 0 9 [])⟩
 rintro j _ w q⟨l,n,R,rfl,o⟩
 refine c ?_
 refine Ji E V (λ(a:aG bL×Int)(g:F)(j:aG bI)=>[bc 113 b0 [D,G,s,x,C,k,g,A],own 108 g j,kM bP j a.1 aQ,Y s T,Y x H,Y C M,Y k i,Y A v]) (λ_ _ _=>[(0,h b0 0)]) (λa _ _=>[(4,e a.2)]) q ?_ ?_ ?_
 ·exact⟨l,n,o.sp 9 (f0 0 8 [])⟩
 ·rintro a Q _ w⟨g,j,R,rfl,o⟩q
  refine c ?_
  refine p b xw<|d9 0 A o HL<|IS 7 v o Q4<|c ?_
  refine u q (λq=>?_) λq=>?_
  rotate_left
  ·refine fk ?_
   obtain rfl:=f q
   exact⟨rfl,g,j,o.sp 8 (f0 0 8 [])⟩
  refine hG<|dt<|cF ?_
  obtain⟨l,r,q⟩:=bd q
  refine dz (λ(l:Bool)=>SH E V [(0,h b0 0),(4,e a.2),(69,vb l)] [bc 113 b0 [D,G,s,x,C,k,g,A],Y s T,Y x H,Y C M,Y k i,own 108 g j,kM bP j a.1 aQ,Y A v]) l ?_ ?_
  ·refine c ?_
   refine p b Bs<|p b ju<|d9 0 s o sA<|gV a.2 ?_
   obtain⟨l,n,r⟩:=bd r
   refine By 3 o xp n λn o=>fq 0 o b Bo vz λn o=>eY l.iE 0 o Cn<|xh l.iE<|dU r (λaz r=>?_) λaz r=>?_
   rotate_left
   ·refine d ?_
    refine J ?_
    obtain rfl:=f r
    exact⟨rfl,o.sp 10 [2,5,6,7,8,3,4,9]⟩
   refine d ?_
   refine p b xw<|d9 2 A o HL<|d ?_
   obtain⟨l,n,r⟩:=bd r
   refine By 9 o Jh n λn o=>t 0 l o fV λn o=>IS 0 l o oI<|d ?_
   refine J ?_
   obtain rfl:=f r
   exact⟨rfl,o.sp 12 [4,7,8,9,10,5,6,11]⟩
  rintro _ w⟨R,rfl,o⟩
  refine bE ?_
  obtain⟨K,r,q⟩:=bd q
  refine dz (λ(K:aG bL)U w=>∃(l:F)(n:aG bI),SH E V [(0,h b0 0),(4,e a.2)] [bc 113 b0 [D,G,s,x,C,k,l,A],own 108 l n,kM bP n K aQ,Y s T,Y x H,Y C M,Y k i,Y A v] U w) K ?_ ?_
  ·refine u r (λr=>?_) λr=>?_
   rotate_left
   ·refine dl ?_
    obtain rfl:=f r
    exact⟨rfl,g,j,o.sp 8 [0,5,6,1,2,3,4,7]⟩
   refine c ?_
   refine p b re<|d9 0 g o xt<|gV a.2 ?_
   have o:=o.sc Int a.2
   refine js ([a.2]:aG Int) o [e a.2] eA L1 (λ_ _=>j4) λg w o=>LT [n_,n_,n_] [n_,g,n_] b [(1,g)] b YE ⟨jX 0 o,zt⟩ b ?_
   have o:=((((o.cO bX 39).Mo (i:=0) rfl).qL Int).freeze 3).Nl (cs:=[n_,g,n_]) (x:=(⟨([]:aG Int),([a.2]:aG Int),rv<|.slice aQ 0 0⟩:bI)) (λaa hs X=>⟨[n_],[g,n_],rfl,uI (X.sat 0 _ rfl).1,⟨[g],[n_],rfl,uI (X.sat 3 _ rfl).1,uI (X.sat 1 _ rfl).1⟩⟩) rfl
   refine js ([(⟨([]:aG Int),([a.2]:aG Int),rv<|.slice aQ 0 0⟩:bI)]:aG bI) o [(.agg ([n_,g,n_]:aG F).toArray)] EN Pv (λ_ _=>j4) λg w o=>?_
   obtain⟨g,g,r⟩:=bd r
   have o:=o.freeze 0
   refine Qf 12 0 13 4 bP (⟨([]:aG Int),([a.2]:aG Int),rv<|.slice aQ 0 0⟩:bI) (⟨([]:aG Int),([a.2]:aG Int),([]:aG bX)⟩:bL) n_ ([]:aG bX) (λ_ _ L=>⟨⟨rfl,b⟩,L⟩) b o b b b b b b Zo g λbs w o=>?_
   refine wr b<|p b re<|q5 7 bs o b b (jX 12 o) xt λw o=>?_
   refine J ?_
   obtain rfl:=f r
   exact⟨rfl,bs,j++[(⟨([]:aG Int),([a.2]:aG Int),rv<|.slice aQ 0 0⟩:bI)],o.sp 15 [7,12,13,8,9,10,11,14]⟩
  rintro _ w⟨l,n,R,rfl,o⟩
  refine cP<|bE<|b_<|d ?_
  refine J ?_
  obtain rfl:=f q
  exact⟨rfl,l,n,o.sp 8 (f0 0 8 [])⟩
 rintro a _ w q⟨S,g,R,rfl,o⟩
 refine c ?_
 refine ol E V (λ(P:aG bL×Int)(a:aG bI)=>[bc 113 b0 [D,G,s,x,C,k,S,A],Y s T,Y x H,Y C M,Y k i,own 108 S a,kM bP a P.1 aQ,Y A v]) (λ_ _=>[(0,h b0 0)]) (λP _=>[(5,e P.2)]) q ?_ ?_ ?_
 ·exact⟨g,o.sp 8 [0,3,4,5,6,1,2,7]⟩
 ·rintro P Q _ w⟨l,R,rfl,o⟩q
  refine c ?_
  refine p b Bs<|p b qP<|d9 0 x o Cy<|IS 2 H o Jg<|c ?_
  refine u q (λq=>?_) λq=>?_
  rotate_left
  ·refine fk ?_
   obtain rfl:=f q
   exact⟨rfl,l,o.sp 8 (f0 0 8 [])⟩
  refine c ?_
  refine p b Bs<|p b qP<|d9 0 x o Cy<|gV P.2 ?_
  obtain⟨Q,a,q⟩:=bd q
  refine By 2 o Bm a λb7 o=>t 0 Q o vm λb8 o=>f_ o Kj.z λa w o=>?_
  refine fv 0 o 1 b vm λw o=>?_
  refine c ?_
  refine eX 0 o b vm λb9 o=>?_
  have o:=(((((o.pull 10).pull 10).dup 10 rfl).dup 10 rfl).dup 9 rfl).pull 9
  obtain⟨g,j,q⟩:=bd q
  refine IN (eP Tryz.func103) (sR N (i1:=0) o b j) λw o=>jU g<|hO<|d ?_
  refine cJ ?_
  obtain⟨j,r,q⟩:=bd q
  refine dz (λ(j:aG bL)U w=>∃(ab:aG bI),SH E V [(0,h b0 0),(5,e P.2)] [bc 113 b0 [D,G,s,x,C,k,S,A],Y s T,Y x H,Y C M,Y k i,own 108 S ab,kM bP ab j aQ,Y A v] U w) j ?_ ?_
  ·refine u r (λr=>?_) λr=>?_
   rotate_left
   ·refine dl ?_
    obtain rfl:=f r
    exact⟨rfl,l,o.sp 15 [0,8,9,10,11,1,2,14]⟩
   obtain⟨j,a3,r⟩:=bd r
   obtain⟨aw,cb,r⟩:=bd r
   obtain⟨ay,bb,r⟩:=bd r
   refine q_ E V m [1,1,1,0,1,1,1,1,0,1,0,0,0,1,0,1,0,0,0,0,0,0,0] [17,18,19,22] (λ(W:F×F×F)=>(λL K n=>[(0,105,h b0 0),(1,106,h b0 0),(2,107,h b0 6),(3,108,S),(4,109,e g),(5,110,h b0 0),(6,111,h b0 0),(7,112,h b0 6),(8,113,S),(9,114,e g),(10,115,Ge S (mr g) 3 0),(11,116,Ge S (mr g) 3 2),(12,117,(l.getD (mr g) (default:bI)).aZ.v),(13,118,h a 0),(14,119,str Q.Part),(15,120,h a 1),(16,121,str Q.bX),(17,122,L),(18,123,K),(19,124,n),(20,125,Ge S (mr g) 3 0),(21,126,Ge S (mr g) 3 2)]) W.1 W.2.1 W.2.2) [(0,h b0 0),(5,e P.2),(6,h a 0),(7,e g)] [] (λ(j:Nat->Bool)(W:F×F×F)=>(λL K n=>[bif j 0 then Y L (⟨Q.Part,Q.bX⟩:bX)else aW,bif j 2 then Y K ([(⟨Q.Part,Q.bX⟩:bX)]:aG bX)else(bif j 1 then own 39 K ([(⟨Q.Part,Q.bX⟩:bX)]:aG bX)else aW),bif j 3 then aW else(bif j 2 then own 39 n aw else aW),bc 113 b0 [D,G,s,x,C,k,S,A],bif j 3 then own 108 S (l.set (mr g) {(l.getD (mr g) (default:bI))with aZ:=rv n})else own 108 S l,bif j 3 then kM bP (l.set (mr g) {(l.getD (mr g) (default:bI))with aZ:=rv n}) (P.1.set (mr g) {ay with aZ:=aw}) aQ else(bif j 2 then kM bP l P.1 (O<|mr g)else kM bP l P.1 aQ),Y b9 Q,bx 66 a Q,Y b8 Q,pt b7 Q,aW,Y s T,Y x H,Y C M,Y k i,aW,aW,Y A v]) W.1 W.2.1 W.2.2) (λW=>by kernel_rfl) ?_ ⟨λ_=>jd gn,λ_=>C8 gn,λ_=>oY gn re,?_,λ_=>jd gn,λ_=>jd gn,λ_=>C8 gn,λ_=>oY gn re,?_,λ_=>jd gn,?_,?_,?_,λ_=>oY gn yf,?_,λ_=>oY gn Bn,?_,?_,?_,?_,?_,?_,?_,trivial⟩ ?_
   ·have o:=(((o.drew).aW).aW).aW
    exact⟨(undef,undef,undef),eT.none,J9 b,zt,o⟩
   ·rintro j U w i H a⟨⟨L,K,n⟩,v,M,_,o⟩
    obtain⟨R,rfl⟩:=v.o1 2 H
    refine d9 3 S o xt ?_
    exact y (L,K,n) 3 v M o
   ·rintro j U w i H a⟨⟨L,K,n⟩,v,M,_,o⟩
    obtain⟨R,rfl⟩:=v.o1 7 H
    refine d9 3 S o xt ?_
    exact y (L,K,n) 8 v M o
   ·rintro j U w i H a⟨⟨L,K,n⟩,v,M,_,o⟩
    obtain⟨R,rfl⟩:=v.o2 8 9 H
    have o:=((o.bZ 4<|nh a i 22).bZ 5<|nh a i 22).bZ 5<|nf<|λT=>ft i<|(a 11 _ rfl<|(a 12 _ rfl<|(a 19 _ rfl T).1 rfl).1 rfl).1 rfl
    have ad:=o.fP 5
    have ae:=iA (default:bI) ad a3
    refine ep 4 o b b EN ae ?_
    have o:=(o.fO 4 (j 22) (nh a i 22)<|own 108 S<|l.set (mr g) {(l.getD (mr g) (default:bI))with aZ:=rv n}).fO 5 (j 19) (nf<|λT=>ft i<|(a 11 _ rfl<|(a 12 _ rfl<|(a 19 _ rfl T).1 rfl).1 rfl).1 rfl)<|kM bP l P.1<|O<|mr g
    have o:=o.fO 5 (j 22) (nh a i 22)<|kM bP (l.set (mr g) {(l.getD (mr g) (default:bI))with aZ:=rv n}) (P.1.set (mr g) {ay with aZ:=aw}) aQ
    exact y (L,K,n) 10 v M o
   ·rintro j U w i H a⟨⟨L,K,n⟩,v,M,_,o⟩
    obtain⟨R,rfl⟩:=v.o1 10 H
    have o:=((o.bZ 4<|nh a i 22).bZ 5<|nh a i 22).bZ 5<|nf<|λT=>ft i<|(a 12 _ rfl<|(a 19 _ rfl T).1 rfl).1 rfl
    have ad:=o.fP 5
    have ae:=iA (default:bI) ad a3
    refine pe (α:=bI) (qM 4 o ae 0) q9 ?_
    have o:=(o.fO 4 (j 22) (nh a i 22)<|own 108 S<|l.set (mr g) {(l.getD (mr g) (default:bI))with aZ:=rv n}).fO 5 (j 19) (nf<|λT=>ft i<|(a 12 _ rfl<|(a 19 _ rfl T).1 rfl).1 rfl)<|kM bP l P.1<|O<|mr g
    have o:=o.fO 5 (j 22) (nh a i 22)<|kM bP (l.set (mr g) {(l.getD (mr g) (default:bI))with aZ:=rv n}) (P.1.set (mr g) {ay with aZ:=aw}) aQ
    exact y (L,K,n) 11 v M o
   ·rintro j U w i H a⟨⟨L,K,n⟩,v,M,_,o⟩
    obtain⟨R,rfl⟩:=v.o1 11 H
    have o:=((o.bZ 4<|nh a i 22).bZ 5<|nh a i 22).bZ 5<|nh a i 19
    have ad:=o.fP 5
    have ae:=iA (default:bI) ad a3
    refine M2 4 5 g ue (default:bI) b o b (qM 4 o ae 2) b b a3 uB ?_
    have o:=(o.fO 4 (j 22) (nh a i 22)<|own 108 S<|l.set (mr g) {(l.getD (mr g) (default:bI))with aZ:=rv n}).fO 5 (j 19) (nh a i 19)<|kM bP l P.1<|O<|mr g
    have o:=o.fO 5 (j 22) (nh a i 22)<|kM bP (l.set (mr g) {(l.getD (mr g) (default:bI))with aZ:=rv n}) (P.1.set (mr g) {ay with aZ:=aw}) aQ
    exact y (L,K,n) 12 v M o
   ·rintro j U w i H a⟨⟨L,K,n⟩,v,M,_,o⟩
    obtain⟨R,rfl⟩:=v.o1 13 H
    refine BY 7 o b o4 mO ?_
    exact y (L,K,n) 14 v M o
   ·rintro j U w i H a⟨⟨L,K,n⟩,v,M,_,o⟩
    obtain⟨R,rfl⟩:=v.o1 15 H
    refine BY 7 o b sw mO ?_
    exact y (L,K,n) 16 v M o
   ·rintro j U w i H a⟨⟨L,K,n⟩,v,M,_,o⟩
    obtain⟨R,rfl⟩:=v.o2 14 16 H
    have o:=((o.bZ 0 i).sc cU Q.Part).sc cU Q.bX
    refine lw (⟨Q.Part,Q.bX⟩:bX) trivial rfl o [(0,str Q.Part),(1,str Q.bX)] rfl Tr rfl (λaa hs X=>by have T:=GH aa;exact cC.cons (f:=λ(W:bX)ad=>{W with Part:=ad}) T z5 (X.sat 1 _ rfl).1 λ_ T=>cC.cons (f:=λ(W:bX)ad=>{W with bX:=ad}) T z6 (X.sat 0 _ rfl).1 λ_ T=>cC.nil T) λX o=>?_
    have o:=(o.pl 21 [0,4,5,6,7,8,9,10,11,12,13,14,15,16,17,18,19,20]).cL 0 aA rfl aW
    exact y (X,K,n) 17 v M o
   ·rintro j U w i H a⟨⟨L,K,n⟩,v,M,_,o⟩
    obtain⟨R,rfl⟩:=v.o1 17 H
    have o:=((o.dF 0<|H.1 rfl).bZ 1<|nh a i 19).bZ 1 i
    refine js ([(⟨Q.Part,Q.bX⟩:bX)]:aG bX) o [L] th Kg (λ_ _=>j4) λX w o=>?_
    have o:=(((o.pl 19 [1,0,3,4,5,6,7,8,9,10,11,12,13,14,15,16,17,18]).cL 0 (j 17) (H.1 rfl) aW).cL 1 aA rfl aW).fO 1 (j 19) (nh a i 19)<|Y X ([(⟨Q.Part,Q.bX⟩:bX)]:aG bX)
    exact y (L,X,n) 18 v M o
   ·rintro j U w i H a⟨⟨L,K,n⟩,v,M,_,o⟩
    obtain⟨R,rfl⟩:=v.o2 12 18 H
    have o:=(((((((o.bZ 1 i).dF 1<|H.2.1 rfl).bZ 2<|nh a i 22).bZ 2 i).bZ 4<|nh a i 22).bZ 5<|nh a i 22).bZ 5 i).J0 (j:=5) (jj:=g) ue (default:bI) rfl a3
    have o:=o.freeze 2
    refine j0 0 2 o Vh cb λbk w o=>?_
    dsimp only[List.cons_append,List.nil_append,List.set_cons_zero,List.set_cons_succ]at o
    have o:=((((o.pl 19 [1,2,0,4,5,6,7,8,9,10,11,12,13,14,15,16,17,18]).cL 1 aA rfl (bif j 18 then own 39 K ([(⟨Q.Part,Q.bX⟩:bX)]:aG bX)else aW)).cL 2 aA rfl aW).fO 2 (j 22) (nh a i 22) aW).fO 4 (j 22) (nh a i 22)<|own 108 S<|l.set (mr g) {(l.getD (mr g) (default:bI))with aZ:=rv bk}
    have o:=(o.cL 5 aA rfl<|kM bP l P.1 aQ).fO 5 (j 22) (nh a i 22)<|kM bP (l.set (mr g) {(l.getD (mr g) (default:bI))with aZ:=rv bk}) (P.1.set (mr g) {ay with aZ:=aw}) aQ
    exact y (L,K,bk) 19 v M o
   ·rintro j U w i H a⟨⟨L,K,n⟩,v,M,_,o⟩
    obtain⟨R,rfl⟩:=v.o2 3 4 H
    have o:=o.bZ 4<|nf<|λT=>ft i<|(a 21 _ rfl<|(a 22 _ rfl T).1 rfl).1 rfl
    have o:=o.bZ 5<|nf<|λT=>ft i<|(a 21 _ rfl<|(a 22 _ rfl T).1 rfl).1 rfl
    have o:=o.dF 5<|H.2.2.2.2.2.2.2.2.2.2.2.2.2.2.2.2.2.2.2.2.2.1 rfl
    have Q:=o.fP 5
    have X:=iA (default:bI) Q bb
    refine ep 4 o b b EN X ?_
    have o:=o.fO 4 (j 22) (nf<|λT=>ft i<|(a 21 _ rfl<|(a 22 _ rfl T).1 rfl).1 rfl)<|own 108 S<|l.set (mr g) {(l.getD (mr g) (default:bI))with aZ:=rv n}
    have o:=(o.cL 5 (j 19) (H.2.2.2.2.2.2.2.2.2.2.2.2.2.2.2.2.2.2.2.2.2.1 rfl)<|kM bP l P.1 aQ).fO 5 (j 22) (nf<|λT=>ft i<|(a 21 _ rfl<|(a 22 _ rfl T).1 rfl).1 rfl)<|kM bP (l.set (mr g) {(l.getD (mr g) (default:bI))with aZ:=rv n}) (P.1.set (mr g) {ay with aZ:=aw}) aQ
    exact y (L,K,n) 20 v M o
   ·rintro j U w i H a⟨⟨L,K,n⟩,v,M,_,o⟩
    obtain⟨R,rfl⟩:=v.o1 20 H
    have o:=((o.bZ 4<|nh a i 22).bZ 5<|nh a i 22).dF 5<|H.2.2.2.2.2.2.2.2.2.2.2.2.2.2.2.2.2.2.2.2.1 rfl
    have Q:=o.fP 5
    have X:=iA (default:bI) Q bb
    refine pe (α:=bI) (qM 4 o X 0) q9 ?_
    have o:=(o.fO 4 (j 22) (nh a i 22)<|own 108 S<|l.set (mr g) {(l.getD (mr g) (default:bI))with aZ:=rv n}).cL 5 (j 19) (H.2.2.2.2.2.2.2.2.2.2.2.2.2.2.2.2.2.2.2.2.1 rfl)<|kM bP l P.1 aQ
    have o:=o.fO 5 (j 22) (nh a i 22)<|kM bP (l.set (mr g) {(l.getD (mr g) (default:bI))with aZ:=rv n}) (P.1.set (mr g) {ay with aZ:=aw}) aQ
    exact y (L,K,n) 21 v M o
   ·rintro j U w i H a⟨⟨L,K,n⟩,v,M,_,o⟩
    obtain⟨R,rfl⟩:=v.o2 21 19 H
    have o:=((((o.bZ 2 i).dF 2<|H.2.1 rfl).bZ 4 i).bZ 5 i).dF 5<|H.2.1 rfl
    have a:=o.fP 5
    have i:=iA (default:bI) a bb
    refine LW 4 5 2 g ue (default:bI) o b b (qM 4 o i 2) b b b bb uB λw o=>?_
    have o:=((o.cL 2 aA rfl (bif j 19 then own 39 n aw else aW)).cL 4 aA rfl<|own 108 S l).cL 5 aA rfl (bif j 19 then kM bP l P.1 (O<|mr g)else kM bP l P.1 aQ)
    exact qr (L,K,n) v M o
   rintro j U w a⟨⟨L,K,n⟩,v,M,_,o⟩
   simp only[List.getD_cons_zero,List.getD_cons_succ,a 17 I,a 19 I,a 22 I,a 22 I,a 22 I,aN]at o
   obtain⟨R,rfl⟩:=M.v8
   obtain rfl:=f r
   exact⟨rfl,l.set (mr g) {(l.getD (mr g) (default:bI))with aZ:=rv n},o.sp 18 [3,11,12,13,14,4,5,17]⟩
  rintro _ w⟨ab,R,rfl,o⟩
  refine cP<|bE<|b_<|d ?_
  refine J ?_
  obtain rfl:=f q
  exact⟨rfl,ab,o.sp 8 (f0 0 8 [])⟩
 rintro P _ w q⟨a,R,rfl,o⟩
 obtain rfl:=f q
 have o:=o.JA (X:=bP) (b:=6) (j:=5) rfl (λaa T g W a=>GJ aa T g W a) rfl rfl I
 refine Cf ?_
 exact HB ⟨S,b,o.pk 8 [0,5]⟩
def Ax(E:aT)(V:aG HP)(res:(aG (aG z)×aG z×aG cM×aG dD×aG Int×aG (aG z)×aG bL×aG (aG Int)))(v:F)(w:aT):Prop:=∃(j:Nat)(a c:F)(d i:F)(e f:F)(b g:F),v=h j 0/\B E w ([bc 113 j [a,c,d,i,e,f,b,g],Y a res.1,Y c res.2.1,Y d res.2.2.1,Y i res.2.2.2.1,Y e res.2.2.2.2.1,Y f res.2.2.2.2.2.1,own 108 b res.2.2.2.2.2.2.1,Y g res.2.2.2.2.2.2.2]++V)
def tu{a:ir}{res:(aG (aG z)×aG z×aG cM×aG dD×aG Int×aG (aG z)×aG bL×aG (aG Int))}(j:B E w V)(g:eo V i0 l a)(k:jK N a=O res):
    c_ 22 [l] w<|Ax E V res:=by
 unfold jK at k
 refine cI Tryz.func22 b b ?_
 have j:=j.dup (i0+0) g
 refine IT<|eh 0 l j b λa1 w j=>?_
 refine c ?_
 refine eX 0 j b pD λg j=>?_
 obtain⟨i,i,o,j⟩:=j.Sa (i:=0) rfl rfl
 obtain⟨U,W,X,Z,rfl⟩:=UT i
 have j:=(((j.lT (i:=0) (k:=0) (f:=λC=>C.aS) rfl lf rfl rfl rfl).lT (i:=1) (k:=1) (f:=λC=>C.cZ) rfl z9 rfl rfl rfl).lT (i:=2) (k:=2) (f:=λC=>C.aX) rfl jz rfl rfl rfl).lT (i:=3) (k:=3) (f:=λC=>C.cA) rfl mu rfl rfl rfl
 refine XW (zs:=[n_,n_,n_,n_,n_,n_,n_,n_]) (cs:=[U,W,X,Z,n_,n_,n_,n_]) zt b [(0,g)] [(0,[U,W,X,Z])] b aca ⟨rfl,congrArg Value.cells o,zt⟩ b<|Pi [U,W,X,Z,n_,n_,n_,n_] b j b (Gt.all (⟨tC 3 j,tC 2 j,tC 1 j,tC 0 j,b,b,b,b,zt⟩:Gt [U,W,X,Z,n_,n_,n_,n_])) λx w j=>?_
 refine c ?_
 refine Ji E V (λ(Q:aG Int×aG (aG z)×Int)(g i:F)=>[bx 32 a1 a,bc 113 x [U,W,X,Z,g,i,n_,n_],own 3 g Q.1,own 28 i Q.2.1,Y U a.aS,Y W a.cZ,Y X a.aX,Y Z a.cA]) (λ_ _ _=>[(1,h a1 0),(3,h x 0)]) (λQ _ _=>[(4,e Q.2.2)]) k ?_ ?_ ?_
 ·have j:=(j.cO Int 3).cO (aG z) 28
  exact⟨n_,n_,j.sp 11 [9,2,1,0,6,5,4,3]⟩
 ·rintro Q q _ w⟨s,v,D,rfl,j⟩k
  refine c ?_
  refine p b rH<|em 0 j b lf vC λg j=>IS 0 a.aS j ye<|c ?_
  refine u k (λk=>?_) λk=>?_
  rotate_left
  ·refine fk ?_
   obtain rfl:=f k
   exact⟨rfl,s,v,j.sp 9 (f0 1 8 [])⟩
  refine hG<|k4<|eX 1 j b pD λg j=>gV Q.2.2 ?_
  obtain⟨g,g,k⟩:=bd k
  refine d7 abR (rP N (g:=Q.2.2) (i0:=0) j b g) λg w j=>?_
  have j:=j.freeze 0
  obtain⟨b0,g,k⟩:=bd k
  refine d7 abS (sK N (i0:=0) j b g) λi w j=>c ?_
  refine Ji E V (λ(g:aG Int×aG (aG z)×Int)(o r:F)=>[bx 32 a1 a,bc 113 x [U,W,X,Z,o,r,n_,n_],own 3 o g.1,own 28 r g.2.1,Y U a.aS,Y W a.cZ,Y X a.aX,Y Z a.cA,own 28 i b0]) (λ_ _ _=>[(1,h a1 0),(3,h x 0),(4,e Q.2.2)]) (λg _ _=>[(5,i),(6,e g.2.2)]) k ?_ ?_ ?_
  ·exact⟨s,v,j.sp 12 (f0 4 8 [0])⟩
  ·rintro g q _ w⟨o,i,D,rfl,j⟩k
   refine c ?_
   refine lc (i:=8) (l:=b0) zt b j b b ye<|c ?_
   refine u k (λk=>?_) λk=>?_
   rotate_left
   ·refine fk ?_
    obtain rfl:=f k
    exact⟨rfl,o,i,j.sp 9 (f0 0 9 [])⟩
   refine c ?_
   refine p b Bq<|d9 1 o j fV<|gV Q.2.2 ?_
   have j:=j.sc Int Q.2.2
   refine js ([Q.2.2]:aG Int) j [e Q.2.2] eA L1 (λ_ _=>j4) λo w j=>?_
   have j:=j.freeze 0
   obtain⟨o,o,k⟩:=bd k
   refine j0 4 0 j xn o λo w j=>?_
   refine wr b<|p b Bq<|q5 3 o j b b (jX 4 j) fV λw j=>?_
   refine cJ ?_
   have j:=j.drew
   refine v_ (λw=>B E w<|[bc 113 x [U,W,X,Z,o,i,n_,n_]]++V) m [1,1,1,1,1,0,0,0,0,2,2,0,0,2] [0,1,2,3,4,5,6,7,8,9,10,11,12,13] (j.pk 11 [3])<|ek (h x 0) b (λw=>i8 (h x 0) dT)<|ek (h x 0) b (λw=>i8 (h x 0) dT)<|ek (h x 0) b (λw=>wr b dT)<|ek (h x 5) b (λw=>p b vU dT)<|si i b (λw j=>d9 0 i j vC dT)<|c ?_
   obtain⟨r,i,k⟩:=bd k
   refine ep 10 j b b Ad i<|cX b<|mt 10 j i xm λi j=>?_
   refine oy b<|js ([r]:aG (aG z)) j [i] Ad Xa (λ_ _=>j4) λi w j=>gj (j.pk 13 [5])<|io b b ?_
   have j:=j.freeze 0
   obtain⟨i,i,k⟩:=bd k
   refine j0 7 0 j Ve i λi w j=>?_
   refine gj (j.pk 13 [5])<|c ?_
   refine p b vU<|dp<|Nk b b<|q5 5 i j b b (jX 7 j) vC λw j=>?_
   refine gj zt<|k7<|cP<|bE<|b_<|d ?_
   refine J ?_
   obtain rfl:=f k
   exact⟨rfl,o,i,j.sp 13 (f0 4 9 [])⟩
  rintro g _ w k⟨g,i,D,rfl,j⟩
  refine cP<|bE<|b_<|d ?_
  refine J ?_
  obtain rfl:=f k
  exact⟨rfl,g,i,j.sp 9 (f0 0 8 [])⟩
 rintro Q _ w k⟨a2,a5,D,rfl,j⟩
 refine c ?_
 refine ol E V (λ(a4:aG (aG Int)×Int)(g:F)=>[bx 32 a1 a,bc 113 x [U,W,X,Z,a2,a5,n_,g],own 95 g a4.1,Y U a.aS,Y W a.cZ,Y X a.aX,Y Z a.cA,own 3 a2 Q.1,own 28 a5 Q.2.1]) (λ_ _=>[(3,h x 0)]) (λa4 _=>[(1,h a1 0),(7,e a4.2)]) k ?_ ?_ ?_
 ·have j:=j.cO (aG Int) 95
  exact⟨n_,j.sp 9 [1,2,0,5,6,7,8,3,4]⟩
 ·rintro a4 q _ w⟨a6,D,rfl,j⟩k
  refine c ?_
  refine p b ju<|em 0 j b jz sA λg j=>IS 0 a.aX j Dd<|c ?_
  refine u k (λk=>?_) λk=>?_
  rotate_left
  ·refine fk ?_
   obtain rfl:=f k
   exact⟨rfl,a6,j.sp 10 (f0 1 9 [])⟩
  refine c ?_
  refine ol E V (λ(S:aG Int×Int)(g:F)=>[bx 32 a1 a,bc 113 x [U,W,X,Z,a2,a5,n_,a6],Y U a.aS,Y W a.cZ,Y X a.aX,Y Z a.cA,own 3 a2 Q.1,own 28 a5 Q.2.1,own 95 a6 a4.1,own 3 g S.1]) (λ_ g=>[(1,h a1 0),(3,h x 0),(7,e a4.2),(8,g)]) (λS _=>[(9,e S.2)]) k ?_ ?_ ?_
  ·have j:=j.cO Int 3
   exact⟨n_,j.sp 11 (2::3::f0 5 6 [4,0])⟩
  ·rintro S q _ w⟨a8,D,rfl,j⟩k
   refine cF<|cF ?_
   obtain⟨g,A,k⟩:=bd k
   refine dz (λ(g:Bool)=>SH E V [(1,h a1 0),(3,h x 0),(7,e a4.2),(8,a8),(9,e S.2),(74,vb g)] [bx 32 a1 a,bc 113 x [U,W,X,Z,a2,a5,n_,a6],Y U a.aS,Y W a.cZ,Y X a.aX,Y Z a.cA,own 3 a2 Q.1,own 28 a5 Q.2.1,own 95 a6 a4.1,own 3 a8 S.1]) g ?_ ?_
   ·refine c ?_
    refine p b vU<|d9 1 a5 j vC<|lc (i:=7) (l:=Q.2.1) zt b j b b ye<|d ?_
    refine dU A (λg A=>?_) λg A=>?_
    rotate_left
    ·refine d ?_
     refine J ?_
     obtain rfl:=f A
     exact⟨rfl,j.sp 10 (f0 0 10 [])⟩
    refine p b ju<|em 0 j b jz sA λg j=>d ?_
    obtain⟨cv,g,A⟩:=bd A
    refine By 0 j xp g λg j=>fq 0 j b Bo vz λg j=>eY cv.iE 0 j Cn<|d ?_
    refine J ?_
    obtain rfl:=f A
    exact⟨rfl,j.sp 13 (f0 3 10 [])⟩
   rintro _ w⟨D,rfl,j⟩
   refine bE<|u k (λk=>?_) λk=>?_
   rotate_left
   ·refine fk ?_
    obtain rfl:=f k
    exact⟨rfl,a8,j.sp 10 (f0 0 10 [])⟩
   refine hG<|dt<|cF ?_
   obtain⟨g,A,k⟩:=bd k
   refine dz (λ(g:Bool)=>SH E V [(1,h a1 0),(3,h x 0),(7,e a4.2),(8,a8),(9,e S.2),(105,vb g)] [bx 32 a1 a,bc 113 x [U,W,X,Z,a2,a5,n_,a6],Y U a.aS,Y W a.cZ,Y X a.aX,Y Z a.cA,own 3 a2 Q.1,own 28 a5 Q.2.1,own 95 a6 a4.1,own 3 a8 S.1]) g ?_ ?_
   ·obtain⟨bb,b9,A⟩:=bd A
    obtain⟨bg,bh,A⟩:=bd A
    obtain⟨bj,ca,A⟩:=bd A
    refine dU A (λT A=>?_) λT A=>?_
    rotate_left
    ·refine q_ E V m [1,0,1,0,0,1,1,1,0,1,0,0,0,1,1,1,1,1,1,1,1,1,1,1,1,1,1,1,1] [1,3,4] (λ(C:F×F×F)=>(λo q r=>[(0,77,h a1 2),(1,78,o),(2,79,e a4.2),(3,80,q),(4,81,r),(5,82,h x 0),(6,83,h x 0),(7,84,h x 4),(8,85,a2),(9,86,e S.2),(10,87,Ge a2 (mr S.2) 1 0),(11,88,e bg),(12,89,vb bj),(13,90,vb bj),(14,91,undef),(15,92,undef),(16,93,undef),(17,94,undef),(18,95,undef),(19,96,undef),(20,97,undef),(21,98,undef),(22,99,undef),(23,100,undef),(24,101,undef),(25,102,undef),(26,103,undef),(27,104,undef),(28,105,vb aK)]) C.1 C.2.1 C.2.2) [(1,h a1 0),(3,h x 0),(7,e a4.2),(8,a8),(9,e S.2)] [] (λ(s:Nat->Bool)(C:F×F×F)=>(λo q r=>[bif s 0 then Y o a.aX else aW,bif s 1 then pt q bb else aW,bif s 2 then Y r bb else aW,bx 32 a1 a,bc 113 x [U,W,X,Z,a2,a5,n_,a6],Y U a.aS,Y W a.cZ,Y X a.aX,Y Z a.cA,own 3 a2 Q.1,own 28 a5 Q.2.1,own 95 a6 a4.1,own 3 a8 S.1]) C.1 C.2.1 C.2.2) (λC=>by kernel_rfl) ?_ ⟨λ_=>oY gn ju,?_,λ_=>jd gn,?_,?_,λ_=>jd gn,λ_=>C8 gn,λ_=>oY gn Bq,?_,λ_=>jd gn,?_,?_,?_,λ_=>jd gn,λ_=>zX T,λ_=>zX T,λ_=>zX T,λ_=>zX T,λ_=>zX T,λ_=>zX T,λ_=>zX T,λ_=>zX T,λ_=>zX T,λ_=>zX T,λ_=>zX T,λ_=>zX T,λ_=>zX T,λ_=>zX T,λ_=>Z2 gn T rfl,trivial⟩ ?_
     ·have j:=(((j.drew).aW).aW).aW
      exact⟨(undef,undef,undef),eT.none,J9 b,zt,j⟩
     ·rintro s R w P i a3⟨⟨o,q,r⟩,g,v,_,j⟩
      obtain⟨D,rfl⟩:=g.o1 0 i
      have j:=j.bZ 0 P
      refine em 3 j b jz sA λG j=>?_
      have j:=j.nw 0
      exact y (G,q,r) 1 g v j
     ·rintro s R w P i a3⟨⟨o,q,r⟩,g,v,_,j⟩
      obtain⟨D,rfl⟩:=g.o2 1 2 i
      have j:=(j.dF 0<|i.1 rfl).bZ 1 P
      refine By 0 j xp b9 λG j=>?_
      have j:=((j.pl 14 [1,0,3,4,5,6,7,8,9,10,11,12,13]).cL 0 (s 1) (i.1 rfl) aW).cL 1 aA rfl aW
      exact y (o,G,r) 3 g v j
     ·rintro s R w P i a3⟨⟨o,q,r⟩,g,v,_,j⟩
      obtain⟨D,rfl⟩:=g.o1 3 i
      have j:=(j.dF 1<|i.1 rfl).bZ 2 P
      refine t 1 bb j lh λG j=>?_
      have j:=((j.pl 14 [1,2,0,4,5,6,7,8,9,10,11,12,13]).cL 1 (s 3) (i.1 rfl) aW).cL 2 aA rfl aW
      exact y (o,q,G) 4 g v j
     ·rintro s R w P i a3⟨⟨o,q,r⟩,g,v,_,j⟩
      obtain⟨D,rfl⟩:=g.o1 7 i
      refine d9 4 a2 j fV ?_
      exact y (o,q,r) 8 g v j
     ·rintro s R w P i a3⟨⟨o,q,r⟩,g,v,_,j⟩
      obtain⟨D,rfl⟩:=g.o2 8 9 i
      refine ep 9 j b b eA bh ?_
      exact y (o,q,r) 10 g v j
     ·rintro s R w P i a3⟨⟨o,q,r⟩,g,v,_,j⟩
      obtain⟨D,rfl⟩:=g.o1 10 i
      refine p8 9 j bh n ?_
      exact y (o,q,r) 11 g v j
     ·rintro s R w P i a3⟨⟨o,q,r⟩,g,v,_,j⟩
      obtain⟨D,rfl⟩:=g.o2 4 11 i
      have j:=j.dF 2<|i.1 rfl
      refine IN Xd (lC N (g:=bg) (i0:=2) j b ca) λw j=>?_
      have j:=j.cL 2 (s 4) (i.1 rfl) aW
      exact y (o,q,r) 12 g v j
     rintro s R w a7⟨⟨o,q,r⟩,g,v,_,j⟩
     have j:=((j.dF 0<|tL a7 1).dF 1<|tL a7 3).dF 2<|tL a7 4
     obtain⟨D,rfl⟩:=(ac (g.at 28 rfl<|tL a7 28) v).v8
     obtain rfl:=f A
     exact⟨rfl,j.sp 13 (f0 3 10 [])⟩
    obtain⟨c0,cb,A⟩:=bd A
    obtain⟨bq,c1,A⟩:=bd A
    obtain⟨c2,c3,A⟩:=bd A
    obtain⟨cc,c4,A⟩:=bd A
    refine q_ E V m [1,0,1,0,0,1,1,1,0,1,0,0,0,1,1,1,1,0,1,0,0,1,0,1,0,0,0,0,1] [1,3,4,20,22,24,25,26] (λ(C:F×F×F×F×F×F×F×F)=>(λo q r G H K L M=>[(0,77,h a1 2),(1,78,o),(2,79,e a4.2),(3,80,q),(4,81,r),(5,82,h x 0),(6,83,h x 0),(7,84,h x 4),(8,85,a2),(9,86,e S.2),(10,87,Ge a2 (mr S.2) 1 0),(11,88,e bg),(12,89,vb bj),(13,90,vb bj),(14,91,h x 0),(15,92,h x 0),(16,93,h x 5),(17,94,a5),(18,95,e S.2),(19,96,Ge a5 (mr S.2) 1 0),(20,97,G),(21,98,h a1 2),(22,99,H),(23,100,e a4.2),(24,101,K),(25,102,L),(26,103,M),(27,104,vb cc),(28,105,vb cc)]) C.1 C.2.1 C.2.2.1 C.2.2.2.1 C.2.2.2.2.1 C.2.2.2.2.2.1 C.2.2.2.2.2.2.1 C.2.2.2.2.2.2.2) [(1,h a1 0),(3,h x 0),(7,e a4.2),(8,a8),(9,e S.2)] [] (λ(s:Nat->Bool)(C:F×F×F×F×F×F×F×F)=>(λo q r G H K L M=>[bif s 0 then Y o a.aX else aW,bif s 1 then pt q bb else aW,bif s 2 then Y r bb else aW,bif s 3 then Y G c0 else aW,bif s 4 then Y H a.aX else aW,bif s 5 then pt K bq else aW,bif s 6 then Y L bq else aW,bif s 7 then Y M c2 else aW,bx 32 a1 a,bc 113 x [U,W,X,Z,a2,a5,n_,a6],Y U a.aS,Y W a.cZ,Y X a.aX,Y Z a.cA,own 3 a2 Q.1,own 28 a5 Q.2.1,own 95 a6 a4.1,own 3 a8 S.1]) C.1 C.2.1 C.2.2.1 C.2.2.2.1 C.2.2.2.2.1 C.2.2.2.2.2.1 C.2.2.2.2.2.2.1 C.2.2.2.2.2.2.2) (λC=>by kernel_rfl) ?_ ⟨λ_=>oY gn ju,?_,λ_=>jd gn,?_,?_,λ_=>jd gn,λ_=>C8 gn,λ_=>oY gn Bq,?_,λ_=>jd gn,?_,?_,?_,λ_=>jd gn,λ_=>jd<|gy T rfl,λ_=>C8<|gy T rfl,λ_=>oY (gy T rfl) vU,?_,λ_=>jd<|gy T rfl,?_,?_,λ_=>oY (gy T rfl) ju,?_,λ_=>jd<|gy T rfl,?_,?_,?_,?_,λ_=>Z1 gn T rfl,trivial⟩ ?_
    ·have j:=((((((((j.drew).aW).aW).aW).aW).aW).aW).aW).aW
     exact⟨(undef,undef,undef,undef,undef,undef,undef,undef),eT.none,J9 b,zt,j⟩
    ·rintro s R w P i a3⟨⟨o,q,r,G,H,K,L,M⟩,g,v,_,j⟩
     dsimp only at g j
     obtain⟨D,rfl⟩:=g.o1 0 i
     have j:=j.bZ 0 P
     refine em 8 j b jz sA λC j=>?_
     have j:=j.nw 0
     exact y (C,q,r,G,H,K,L,M) 1 g v j
    ·rintro s R w P i a3⟨⟨o,q,r,G,H,K,L,M⟩,g,v,_,j⟩
     dsimp only at g j
     obtain⟨D,rfl⟩:=g.o2 1 2 i
     have j:=(j.dF 0<|i.1 rfl).bZ 1 P
     refine By 0 j xp b9 λC j=>?_
     have j:=((j.pl 19 [1,0,3,4,5,6,7,8,9,10,11,12,13,14,15,16,17,18]).cL 0 (s 1) (i.1 rfl) aW).cL 1 aA rfl aW
     exact y (o,C,r,G,H,K,L,M) 3 g v j
    ·rintro s R w P i a3⟨⟨o,q,r,G,H,K,L,M⟩,g,v,_,j⟩
     dsimp only at g j
     obtain⟨D,rfl⟩:=g.o1 3 i
     have j:=(j.dF 1<|i.1 rfl).bZ 2 P
     refine t 1 bb j lh λC j=>?_
     have j:=((j.pl 19 [1,2,0,4,5,6,7,8,9,10,11,12,13,14,15,16,17,18]).cL 1 (s 3) (i.1 rfl) aW).cL 2 aA rfl aW
     exact y (o,q,C,G,H,K,L,M) 4 g v j
    ·rintro s R w P i a3⟨⟨o,q,r,G,H,K,L,M⟩,g,v,_,j⟩
     dsimp only at g j
     obtain⟨D,rfl⟩:=g.o1 7 i
     refine d9 9 a2 j fV ?_
     exact y (o,q,r,G,H,K,L,M) 8 g v j
    ·rintro s R w P i a3⟨⟨o,q,r,G,H,K,L,M⟩,g,v,_,j⟩
     dsimp only at g j
     obtain⟨D,rfl⟩:=g.o2 8 9 i
     refine ep 14 j b b eA bh ?_
     exact y (o,q,r,G,H,K,L,M) 10 g v j
    ·rintro s R w P i a3⟨⟨o,q,r,G,H,K,L,M⟩,g,v,_,j⟩
     dsimp only at g j
     obtain⟨D,rfl⟩:=g.o1 10 i
     refine p8 14 j bh n ?_
     exact y (o,q,r,G,H,K,L,M) 11 g v j
    ·rintro s R w P i a3⟨⟨o,q,r,G,H,K,L,M⟩,g,v,_,j⟩
     dsimp only at g j
     obtain⟨D,rfl⟩:=g.o2 4 11 i
     have j:=j.dF 2<|i.1 rfl
     refine IN Xd (lC N (g:=bg) (i0:=2) j b ca) λw j=>?_
     have j:=j.cL 2 (s 4) (i.1 rfl) aW
     exact y (o,q,r,G,H,K,L,M) 12 g v j
    ·rintro s R w P i a3⟨⟨o,q,r,G,H,K,L,M⟩,g,v,_,j⟩
     dsimp only at g j
     obtain⟨D,rfl⟩:=g.o2 16 13 i
     refine d9 9 a5 j vC ?_
     exact y (o,q,r,G,H,K,L,M) 17 g v j
    ·rintro s R w P i a3⟨⟨o,q,r,G,H,K,L,M⟩,g,v,_,j⟩
     dsimp only at g j
     obtain⟨D,rfl⟩:=(ac (g.at 13 rfl<|i.2.2.1 rfl)<|ac (g.at 17 rfl<|i.1 rfl)<|ac (g.at 18 rfl<|i.2.1 rfl) az).v8
     refine ep 15 j b b Ad cb ?_
     exact y (o,q,r,G,H,K,L,M) 19 g v j
    ·rintro s R w P i a3⟨⟨o,q,r,G,H,K,L,M⟩,g,v,_,j⟩
     dsimp only at g j
     obtain⟨D,rfl⟩:=g.o2 19 13 i
     have j:=j.bZ 3 P
     refine mt (hg:=cg T) 15 j cb xm λC j=>?_
     have j:=j.nw 3
     exact y (o,q,r,C,H,K,L,M) 20 g v j
    ·rintro s R w P i a3⟨⟨o,q,r,G,H,K,L,M⟩,g,v,_,j⟩
     dsimp only at g j
     obtain⟨D,rfl⟩:=g.o2 21 13 i
     have j:=j.bZ 4 P
     refine em 8 j b jz sA λC j=>?_
     have j:=j.nw 4
     exact y (o,q,r,G,C,K,L,M) 22 g v j
    ·rintro s R w P i a3⟨⟨o,q,r,G,H,K,L,M⟩,g,v,_,j⟩
     dsimp only at g j
     obtain⟨D,rfl⟩:=(ac (g.at 13 rfl<|i.2.2.1 rfl)<|ac (g.at 22 rfl<|i.1 rfl)<|ac (g.at 23 rfl<|i.2.1 rfl) az).v8
     have j:=(j.dF 4<|i.1 rfl).bZ 5 P
     refine By 4 j xp c1 λC j=>?_
     have j:=((j.pl 19 [1,2,3,4,5,0,7,8,9,10,11,12,13,14,15,16,17,18]).cL 4 (s 22) (i.1 rfl) aW).cL 5 aA rfl aW
     exact y (o,q,r,G,H,C,L,M) 24 g v j
    ·rintro s R w P i a3⟨⟨o,q,r,G,H,K,L,M⟩,g,v,_,j⟩
     dsimp only at g j
     obtain⟨D,rfl⟩:=g.o2 24 13 i
     have j:=(j.dF 5<|i.1 rfl).bZ 6 P
     refine t 5 bq j lh λC j=>?_
     have j:=((j.pl 19 [1,2,3,4,5,6,0,8,9,10,11,12,13,14,15,16,17,18]).cL 5 (s 24) (i.1 rfl) aW).cL 6 aA rfl aW
     exact y (o,q,r,G,H,K,C,M) 25 g v j
    ·rintro s R w P i a3⟨⟨o,q,r,G,H,K,L,M⟩,g,v,_,j⟩
     dsimp only at g j
     obtain⟨D,rfl⟩:=g.o2 25 13 i
     have j:=(j.dF 6<|i.1 rfl).bZ 7 P
     refine d7 Ts (ig N (i0:=6) j b c3) λC w j=>?_
     have j:=((j.pl 19 [1,2,3,4,5,6,7,0,9,10,11,12,13,14,15,16,17,18]).cL 6 (s 25) (i.1 rfl) aW).cL 7 aA rfl aW
     exact y (o,q,r,G,H,K,L,C) 26 g v j
    ·rintro s R w P i a3⟨⟨o,q,r,G,H,K,L,M⟩,g,v,_,j⟩
     dsimp only at g j
     obtain⟨D,rfl⟩:=(ac (g.at 13 rfl<|i.2.2.2.1 rfl)<|ac (g.at 20 rfl<|i.1 rfl)<|ac (g.at 26 rfl<|i.2.1 rfl) az).v8
     have j:=(j.dF 3<|i.1 rfl).dF 7<|i.2.1 rfl
     refine IN (eP Tryz.func55) (CM N (i0:=3) (i1:=7) j b b c4) λw j=>?_
     have j:=(j.cL 3 (s 20) (i.1 rfl) aW).cL 7 (s 26) (i.2.1 rfl) aW
     exact y (o,q,r,G,H,K,L,M) 27 g v j
    rintro s R w a7⟨⟨o,q,r,G,H,K,L,M⟩,g,v,_,j⟩
    simp only[List.getD_cons_zero,List.getD_cons_succ,a7 1 I,a7 3 I,a7 4 I,a7 20 I,a7 22 I,a7 24 I,a7 25 I,a7 26 I,aN]at j
    obtain⟨D,rfl⟩:=(ac (g.at 28 rfl<|tL a7 28) v).v8
    obtain rfl:=f A
    exact⟨rfl,j.sp 18 (f0 8 10 [])⟩
   rintro _ w⟨D,rfl,j⟩
   refine bE ?_
   obtain⟨g,A,k⟩:=bd k
   refine dz (λ(g:aG Int)R w=>∃bk:F,SH E V [(1,h a1 0),(3,h x 0),(7,e a4.2),(8,bk),(9,e S.2)] [bx 32 a1 a,bc 113 x [U,W,X,Z,a2,a5,n_,a6],Y U a.aS,Y W a.cZ,Y X a.aX,Y Z a.cA,own 3 a2 Q.1,own 28 a5 Q.2.1,own 95 a6 a4.1,own 3 bk g] R w) g ?_ ?_
   ·refine u A (λA=>?_) λA=>?_
    rotate_left
    ·refine dl ?_
     obtain rfl:=f A
     exact⟨rfl,a8,j.sp 10 (f0 0 10 [])⟩
    refine c ?_
    have j:=j.sc Int S.2
    refine js ([S.2]:aG Int) j [e S.2] eA L1 (λ_ _=>j4) λg w j=>?_
    have j:=j.freeze 0
    obtain⟨g,g,A⟩:=bd A
    refine j0 11 0 j xn g λg w j=>?_
    refine xe g<|J ?_
    obtain rfl:=f A
    exact⟨rfl,g,j.sp 12 (f0 2 10 [])⟩
   rintro _ w⟨bk,D,rfl,j⟩
   refine cP<|bE<|b_<|d ?_
   refine J ?_
   obtain rfl:=f k
   exact⟨rfl,bk,j.sp 10 (f0 0 10 [])⟩
  rintro S _ w k⟨g,D,rfl,j⟩
  refine c ?_
  refine p b xw<|d9 1 a6 j HL<|mv g ?_
  have j:=j.freeze 9
  refine js ([S.1]:aG (aG Int)) j [g] Jh Zk (λg g g=>⟨(g.sat 9 _ b).1,zt⟩) λg w j=>?_
  have j:=j.freeze 0
  obtain⟨g,g,k⟩:=bd k
  refine j0 9 0 j Zl g λg w j=>?_
  refine wr b<|p b xw<|q5 2 g j b b (jX 9 j) HL λw j=>?_
  refine J<|cP<|bE<|b_<|d ?_
  refine J ?_
  obtain rfl:=f k
  exact⟨rfl,g,j.sp 11 [1,2,9,3,4,5,6,7,8]⟩
 rintro a4 _ w k⟨g,D,rfl,j⟩
 refine c ?_
 have j:=((((((((j.freeze 7).freeze 8).freeze 2).dup 2 rfl).dup 9 rfl).dup 9 rfl).dup 9 rfl).dup 9 rfl).pull 6
 obtain⟨i,i,k⟩:=bd k
 refine d7 (eP Tryz.func57) (tR N j i) ?_
 rintro _ w⟨i,rfl,j⟩
 refine c ?_
 obtain rfl:=f k
 exact bH ⟨x,U,W,X,Z,a2,a5,i,g,b,j.pk 11 (0::f0 5 6 [1,4])⟩
def wy(o:B E w V)(j:l6 N a g p2 p3=O res):c_ 241 [e a,e g,e p2,e p3] w<|aF E V res:=by
 unfold l6 at j;refine cI Tryz.func241 b b<|c ?_;refine W_ 0 (bK<|p2 -(bK<|g - 1)) (bK<|a -(bK<|p3 - 1)) zt b b b b<|c ?_;exact f j▸bH ⟨rfl,o.drop 0⟩
def sN{a g:z}(j:B E w V)(d:eo V i0 l a)(h1:eo V i1 r g)(o:jr N a g=O res):c_ 217 [l,r] w<|aF E V res:=by
 unfold jr at o;refine cI Tryz.func217 b b ?_;have j:=(j.dup (i0+0) d).dup (i1+1) h1;refine IT<|eh 1 l j b λd w j=>?_;refine eh 1 r j b λk w j=>?_;refine jU 0<|i4 ?_;have j:=j.drew;refine v_ (λw=>B E w<|[bx 62 k g,bx 62 d a]++V) m [0,0,0,0,0,0,0,0,2,1,1,1,1,1,1,1,1,2,0,0] [0,1,2,3,4,5,6,7,9,10,11,12,13,14,15,16,8,17,18,19] (j.pk 4 [0,1])<|ge b b<|p b iI<|cX b<|BY 1 j b dV n<|cX b<|p b j7<|cX b<|BY 1 j b eQ n ?_;refine cX b<|p b iI<|cX b<|BY 0 j b dV n<|cX b<|p b j7<|cX b<|BY 0 j b eQ n<|dp<|ek (h d 1) b (λw=>p b iv dT)<|si (e a.Y0) b (λw j=>BY 1 j b dL n dT)<|ek (h d 3) b (λw=>p b lO dT)<|si (e a.Y1) b (λw j=>BY 1 j b fS n dT)<|ek (h k 1) b (λw=>p b iv dT)<|si (e g.Y0) b (λw j=>BY 0 j b dL n dT)<|ek (h k 3) b (λw=>p b lO dT)<|si (e g.Y1) b (λw j=>BY 0 j b fS n dT)<|io b b ?_;refine i o λd d o=>IN YH (wy N (a:=a.X0) (g:=a.X1) (p2:=g.X0) (p3:=g.X1) j d) λw j=>gj (j.pk 4 [0,1])<|io b b<|i o λd d o=>IN YH (wy N (a:=a.Y0) (g:=a.Y1) (p2:=g.Y0) (p3:=g.Y1) j d) λw j=>gj (j.pk 4 [0,1])<|c ?_;exact f o▸bH ⟨rfl,j.drop 4⟩
def xE{a:aG z}{g:aG z}(j:B E w V)(h:eo V i0 l a)(h1:eo V i1 r g)(o:jT N a g=O res):c_ 158 [l,r] w<|aF E V res:=by
 unfold jT at o;refine cI Tryz.func158 b b ?_;have j:=(j.dup (i0+0) h).dup (i1+1) h1;refine c ?_;refine jb m (jv 8 2000000) (f0 0 8 []) ?_;have j:=j.drew;refine c ?_;refine i o λh k o=>By 1 j iO k λk j=>cX b<|t 0 h j gG λh j=>d ?_;refine i o λh k o=>By 2 j iO k λk j=>cX b<|t 0 h j gG λh j=>oy b<|i o λh h o=>IN YI (sN N (i0:=2) (i1:=0) j b b h) λw j=>qY b<|c ?_;refine m0 E V (λ(k:Int×Int)=>[Y l a,Y r g]) (λk=>[(5,e k.1)]) (λk=>[(0,l),(1,r),(6,e k.2)]) o ?_ ?_ ?_;exact j.sp 6 [5,4];rintro k p _ w⟨n,rfl,j⟩o;refine c ?_;refine IS 0 a j oH<|c ?_;refine u o (λo=>?_) λo=>?_;refine c ?_;refine m0 E V (λ(h:Int×Int)=>[Y l a,Y r g]) (λh=>[(0,l),(1,r),(5,e h.1),(6,e k.2)]) (λh=>[(7,e h.2)]) o ?_ ?_ ?_;exact j.sp 2 [0,1];rintro h p _ w⟨n,rfl,j⟩o;refine c ?_;refine IS 1 g j oH<|c ?_;refine u o (λo=>?_) λo=>?_;refine hG<|dt<|jb m (jv 12 2000000001) (f0 0 12 []) ?_;have j:=j.drew;refine ek (e h.1) b (λw=>i8 (e h.1) dT)<|c ?_;refine i o λp q o=>By 0 j iO q λq j=>cX b<|t 0 p j gG λp j=>d ?_;refine i o λp q o=>By 3 j iO q λaz j=>cX b<|t 0 p j gG λp j=>oy b<|i o λp p o=>IN YI (sN N (i0:=2) (i1:=0) j b b p) λw j=>qY b<|d ?_;refine dp<|k7<|cP<|bE<|b_<|d ?_;exact J<|f o▸⟨rfl,j.sp 6 [4,5]⟩;exact fk<|f o▸⟨rfl,j.sp 2 [0,1]⟩;rintro h _ w o⟨n,rfl,j⟩;refine cP<|bE<|b_<|d ?_;exact J<|f o▸⟨rfl,j.sp 2 [0,1]⟩;exact fk<|f o▸⟨rfl,j.sp 2 [0,1]⟩;rintro k _ w o⟨n,rfl,j⟩;refine c ?_;exact f o▸bH ⟨rfl,j.drop 2⟩
end Go.Gk
namespace Go.Gk
open Go IntKind Go.Proofs
variable (N:Nat){E w:aT}{b0 b1 i0 i1 i2:Nat}{g p2 p3:Int}{l M P H L x C K Q r S X W R D A s T G:F}{V:aG HP}
def Ay(E:aT)(V:aG HP)(res:dP×Bool)(v:F)(w:aT):Prop:=∃a:F,v = .tuple #[a,vb res.2]/\B E w ([Y a res.1]++V)
def tv{a:aG z}{g:aG z}{res:dP×Bool}(j:B E w V)(k:eo V i0 l a)(h1:eo V i1 r g)(o:jL N a g p2=O res):c_ 159 [l,r,e p2] w<|Ay E V res:=by
 unfold jL at o;refine cI Tryz.func159 b b ?_;have j:=(j.dup (i0+0) k).dup (i1+1) h1;refine IT<|f_ j Ra.z λx w j=>?_;refine mj aK<|hO<|lw (⟨0,0⟩:dP) trivial rfl j [] rfl Zx rfl (λG K H=>by have y:=Ea G;exact cC.nil y) λk j=>?_;refine f_ j Ra.z λq w j=>?_;refine fv 0 j 1 b tN λw j=>?_;refine c ?_;refine m0 E V (λ(v:dP×Bool×Int)=>[Y l a,Y r g,k3 64 x 2,bx 64 q v.1]) (λv=>[(6,h x 0),(8,h q 0),(9,vb v.2.1)]) (λv=>[(0,l),(1,r),(2,e p2),(10,e v.2.2)]) o ?_ ?_ ?_;exact j.sp 5 [4,3,2,0];rintro v p _ w⟨D,rfl,j⟩o;refine c ?_;refine IS 0 a j oH<|c ?_;refine u o (λo=>?_) λo=>?_;refine c ?_;refine m0 E V (λ(k:dP×Bool×Int)=>[Y l a,Y r g,k3 64 x 2,bx 64 q k.1]) (λk=>[(0,l),(1,r),(2,e p2),(6,h x 0),(8,h q 0),(9,vb k.2.1),(10,e v.2.2)]) (λk=>[(11,e k.2.2)]) o ?_ ?_ ?_;exact j.sp 4 [0,1,2,3];rintro k p _ w⟨D,rfl,j⟩o;refine c ?_;refine IS 1 g j oH<|c ?_;refine u o (λo=>?_) λo=>?_;refine hG<|dt<|cF<|k6 m ?_;have j:=j.drew;refine k5<|d ?_;refine i o λA p o=>By 0 j iO p λp j=>a_<|fq 0 j b iI dV λp j=>a_<|eY A.X0 0 j n<|d ?_;refine i o λC p o=>By 3 j iO p λp j=>a_<|fq 0 j b iI dV λp j=>a_<|eY C.X0 0 j n<|d ?_;refine i o λs p o=>By 4 j iO p λp j=>a_<|fq 0 j b iv dL λp j=>a_<|eY s.Y0 0 j n<|d ?_;refine i o λt p o=>By 7 j iO p λbc j=>a_<|fq 0 j b iv dL λp j=>a_<|eY t.Y0 0 j n<|d ?_;refine fp<|bE<|cF<|cF<|i o λF p o=>dz (λ(F:Bool)=>SH E V [(0,l),(1,r),(2,e p2),(6,h x 0),(8,h q 0),(9,vb k.2.1),(10,e v.2.2),(11,e k.2.2),(12,e (cV A.X0 (bK (C.X0 - p2)))),(13,e (cV s.Y0 (bK (t.Y0 - p2)))),(86,vb F)] [Y l a,Y r g,k3 64 x 2,bx 64 q k.1]) F ?_ ?_;refine k6 m ?_;have j:=j.drew;refine k5<|d ?_;refine i p λF I p=>By 8 j iO I λI j=>a_<|fq 0 j b j7 eQ λI j=>a_<|eY F.X1 0 j n<|d ?_;refine i p λF az p=>By 11 j iO az λI j=>a_<|fq 0 j b j7 eQ λbk j=>a_<|eY F.X1 0 j n<|d ?_;refine dU p (λF p=>?_) λF p=>?_;refine c ?_;exact f p▸⟨rfl,j.sp 16 (f0 12 4 [])⟩;refine d ?_;refine i p λF I p=>By 12 j iO I λI j=>a_<|fq 0 j b lO fS λI j=>a_<|eY F.Y1 0 j n<|d ?_;refine i p λF I p=>By 15 j iO I λI j=>a_<|fq 0 j b lO fS λI j=>a_<|eY F.Y1 0 j n<|c ?_;exact f p▸⟨rfl,j.sp 20 (f0 16 4 [])⟩;rintro _ w⟨D,rfl,j⟩;refine bE<|u o (λo=>?_) λo=>?_;refine fk<|zo<|bE<|b_<|d ?_;exact J<|f o▸⟨rfl,j.sp 4 [0,1,2,3]⟩;refine p_<|d ?_;refine dq (e (cV s.Y0 (bK (t.Y0 - p2)))) rfl rfl eL<|g7 aA (!k.2.1) (h q 1) rfl rfl rfl (cW m7)<|g7 aA (!k.2.1) (e k.1.Y) rfl rfl rfl (bO 3 rfl j (by exact z_ (h q 1)) rfl fN n)<|dq (vb<|(cV s.Y0 (bK (t.Y0 - p2)))<k.1.Y) rfl rfl (hB .lss)<|d ?_;refine dq (e (cV s.Y0 (bK (t.Y0 - p2)))) rfl rfl eL<|g7 aA ((!k.2.1)||kE ((cV s.Y0 (bK (t.Y0 - p2)))<k.1.Y)) (h q 1) rfl rfl rfl (cW m7)<|g7 aA ((!k.2.1)||kE ((cV s.Y0 (bK (t.Y0 - p2)))<k.1.Y)) (e k.1.Y) rfl rfl rfl (bO 3 rfl j (by exact z_ (h q 1)) rfl fN n)<|dq (vb<|(cV s.Y0 (bK (t.Y0 - p2)))==k.1.Y) rfl rfl (hB .eql)<|dq (vb<|(cV s.Y0 (bK (t.Y0 - p2)))==k.1.Y) rfl rfl eL<|dv (e (cV A.X0 (bK (C.X0 - p2)))) rfl rfl eL<|dv (h q 0) rfl rfl (cW o9)<|dv (e k.1.X) rfl rfl (bO 3 rfl j (by exact z_ (h q 0)) rfl gN n)<|sg ?_;refine cJ<|i o λF p o=>dz (λ(F:dP×Bool)=>SH E V [(0,l),(1,r),(2,e p2),(6,h x 0),(8,h q 0),(9,vb F.2),(10,e v.2.2),(11,e k.2.2)] [Y l a,Y r g,k3 64 x 2,bx 64 q F.1]) F ?_ ?_;refine u p (λp=>?_) λp=>?_;refine c ?_;have j:=(j.sc Int (cV A.X0 (bK (C.X0 - p2)))).sc Int (cV s.Y0 (bK (t.Y0 - p2)));refine lw (⟨(cV A.X0 (bK (C.X0 - p2))),(cV s.Y0 (bK (t.Y0 - p2)))⟩:dP) trivial rfl j [(0,e (cV A.X0 (bK (C.X0 - p2)))),(1,e (cV s.Y0 (bK (t.Y0 - p2))))] rfl Zx rfl (λG K H=>by have y:=Ea G;exact cC.cons (f:=λ(q:dP)s=>{q with X:=s}) y Kb (H.sat 1 _ rfl).1 λ_ y=>cC.cons (f:=λ(q:dP)s=>{q with Y:=s}) y Kc (H.sat 0 _ rfl).1 λ_ y=>cC.nil y) λq j=>?_;refine Nx 6 j b b b 0 b tN λw j=>?_;exact mj aA<|J<|f p▸⟨rfl,j.sp 7 [3,4,5,6]⟩;exact dl<|f p▸⟨rfl,j.sp 4 [0,1,2,3]⟩;rintro _ w⟨D,rfl,j⟩;refine cP<|bE<|b_<|d ?_;exact J<|f o▸⟨rfl,j.sp 4 [0,1,2,3]⟩;exact fk<|f o▸⟨rfl,j.sp 4 [0,1,2,3]⟩;rintro k _ w o⟨D,rfl,j⟩;refine cP<|bE<|b_<|d ?_;exact J<|f o▸⟨rfl,j.sp 4 [0,1,2,3]⟩;exact fk<|f o▸⟨rfl,j.sp 4 [0,1,2,3]⟩;rintro v _ w o⟨D,rfl,j⟩;refine bE<|IT<|eX 3 j b tN λk j=>xh v.2.1<|fv 3 j 0 b tN λw j=>?_;refine c ?_;obtain rfl:=f o;exact E7 3 j tN λk j=>⟨k,b,j.pk 6 [0]⟩
def BQ{a:aG z}{g:aG z}{res:y6}(j:B E w V)(h:eo V i0 l a)(h1:eo V i1 r g)(s:kP N a g=O res):c_ 96 [l,r] w<|Fh E V res:=by
 unfold kP at s;refine cI Tryz.func96 b b ?_;have j:=(j.dup (i0+0) h).dup (i1+1) h1;refine IT<|f_ j Vu.z λh w j=>?_;refine c ?_;refine i s λt h s=>IN (eP Tryz.func158) (xE N (i0:=2) (i1:=1) j b b h) λw j=>c ?_;refine i s λk h s=>d7 YJ (tv N (p2:=t) (i0:=2) (i1:=1) j b b h) ?_;rintro _ w⟨h,rfl,j⟩;refine d ?_;refine f_ j Ra.z λh w j=>?_;refine fv 0 j 1 b tN λw j=>?_;refine c ?_;refine p b o9<|BY 0 j b gN n<|p b m7<|BY 0 j b fN n<|p b o9<|BY 0 j b gN n<|d ?_;refine p b m7<|BY 0 j b fN n<|d ?_;have j:=(((j.sc Int k.1.X).sc Int k.1.Y).sc Int<|bK<|k.1.X+1).sc Int<|bK<|k.1.Y+1;refine lw (⟨k.1.X,k.1.Y,bK<|k.1.X+1,bK<|k.1.Y+1⟩:z) trivial rfl j [(0,e k.1.X),(1,e k.1.Y),(2,e<|bK<|k.1.X+1),(3,e<|bK<|k.1.Y+1)] rfl L2 rfl (λu A q=>by have h:=yc u;exact cC.cons (f:=λ(m:z)o=>{m with X0:=o}) h tY (q.sat 3 _ rfl).1 λ_ h=>cC.cons (f:=λ(m:z)o=>{m with Y0:=o}) h vx (q.sat 2 _ rfl).1 λ_ h=>cC.cons (f:=λ(m:z)o=>{m with X1:=o}) h su (q.sat 1 _ rfl).1 λ_ h=>cC.cons (f:=λ(m:z)o=>{m with Y1:=o}) h tZ (q.sat 0 _ rfl).1 λ_ h=>cC.nil h) λv j=>?_;refine js ([(⟨k.1.X,k.1.Y,bK<|k.1.X+1,bK<|k.1.Y+1⟩:z)]:aG z) j [v] iO rp (λ_ _=>j4) λv w j=>gV t ?_;have j:=j.freeze 0;refine i s λv x s=>d7 YJ (tv N (p2:=t) (i0:=9) (i1:=0) j b b x) ?_;rintro _ w⟨x,rfl,j⟩;refine d ?_;refine f_ j Ra.z λx w j=>?_;refine fv 0 j 1 b tN λw j=>?_;refine c ?_;refine eX 8 j b tN λx j=>eX 1 j b tN λy j=>?_;have j:=j.sc Int<|bK<|t - 1;refine lw (⟨0,0,bK<|t - 1,k.1,v.1⟩:y6) trivial rfl j [(2,e<|bK<|t - 1),(3,x),(4,y)] rfl YA rfl (λu A q=>by have h:=XX u;exact cC.cons (f:=λ(m:y6)o=>{m with iY:=o}) h Pm (q.sat 0 _ rfl).1 λ_ h=>cC.cons (f:=λ(m:y6)o=>{m with dC:=o}) h Pn (q.sat 2 _ rfl).1 λ_ h=>cC.cons (f:=λ(m:y6)o=>{m with To:=o}) h Po (q.sat 1 _ rfl).1 λ_ h=>cC.nil h) λh j=>?_;refine fv 14 j 0 b MH λw j=>?_;refine cJ<|dw ?_;obtain rfl:=f s;exact ON 14 j MH λh j=>j.pk 18 [0]
def uu(E:aT)(V:aG HP)(b0:Nat)(M P:F)(H L:F)(x C:F)(K Q:F)(res:Bool)(v:F)(w:aT):Prop:=v= vb res/\B E w ([bc 113 b0 [M,P,H,L,x,C,K,Q]]++V)
def uv(E:aT)(V:aG HP)(b0:Nat)(M P:F)(H L:F)(x C:F)(K Q:F)(r:Bool)(U:Nat->F)(w:aT):Prop:=j3 q 72 Tryz.f48 (uu E V b0 M P H L x C K Q r) .ret U w
def zG{s:aG Int}{y:aG (aG z)}{g p2:bL}{res:Bool}(j:B E w (bc 113 b0 [M,P,H,L,x,C,K,Q]::Y x s::Y C y::V))(h1:eo V i1 r g)(h2:eo V i2 G p2)(o:jM N s y g p2 p3=O res):c_ 48 [h b0 0,r,G,e p3] w<|uu E V b0 M P H L x C K Q res:=by
 unfold jM at o;refine cI Tryz.func48 b b ?_;have j:=(j.dup (i1+3) h1).dup (i2+4) h2;refine IT<|eh 1 r j b λk w j=>?_;refine eh 1 G j b λl w j=>?_;refine c ?_;refine pr E V (λ(q:Int)=>[bc 113 b0 [M,P,H,L,x,C,K,Q],Y x s,Y C y,bx 108 k g,bx 108 l p2]) (λ_=>[(0,h b0 0)]) (λq=>[(3,e p3),(5,h k 0),(6,h l 0),(9,e q)]) (uv E V b0 M P H L x C K Q) o ?_ ?_ ?_ ?_;exact j.sp 7 [4,5,6,1,0];rintro q a _ w⟨A,rfl,j⟩o;refine c ?_;refine p b uT<|em 3 j b Bf fV λv j=>IS 0 g.fK j oI<|c ?_;refine u o (λo=>?_) λo=>?_;refine c ?_;refine pr E V (λ(v:Int)=>[bc 113 b0 [M,P,H,L,x,C,K,Q],Y x s,Y C y,bx 108 k g,bx 108 l p2]) (λ_=>[(0,h b0 0),(3,e p3),(5,h k 0),(6,h l 0),(9,e q)]) (λv=>[(10,e v)]) (uv E V b0 M P H L x C K Q) o ?_ ?_ ?_ ?_;exact j.sp 6 [1,2,3,4,5];rintro v a _ w⟨A,rfl,j⟩o;refine c ?_;refine p b uT<|em 4 j b Bf fV λa j=>IS 0 p2.fK j oI<|c ?_;refine u o (λo=>?_) λo=>?_;refine hG<|dt<|cF<|k6 m ?_;have j:=j.drew;refine k5<|p b uT<|a_<|em 4 j b Bf fV λa j=>d ?_;refine i o λa D o=>By 0 j eA D λD j=>a_<|eY a 0 j n<|a_<|p b uT<|a_<|em 7 j b Bf fV λa j=>d ?_;refine i o λa D o=>By 0 j eA D λD j=>a_<|eY a 0 j n<|d ?_;refine fp<|bE<|cF<|i o λD a o=>dz (λ(D:Bool)=>SH E V [(0,h b0 0),(3,e p3),(5,h k 0),(6,h l 0),(9,e q),(10,e v),(71,vb D)] [bc 113 b0 [M,P,H,L,x,C,K,Q],Y x s,Y C y,bx 108 k g,bx 108 l p2]) D ?_ ?_;refine jb m (jv 35 102000000000000000000000000000000) (f0 0 30 [32,30,31,33,34]) ?_;have j:=j.drew;refine c ?_;refine p b Bq<|cX b<|d9 5 x j fV<|d ?_;refine i a λk l a=>By 6 j eA l λl j=>cX b<|eY k 0 j n<|d ?_;refine p b Bq<|cX b<|d9 6 x j fV<|d ?_;refine i a λl s a=>By 7 j eA s λs j=>cX b<|eY l 0 j n<|cX b<|ic k l<|cX b<|xh (k==l)<|dp<|dU a (λk a=>?_) λk a=>?_;refine c ?_;refine p b vU<|cX b<|d9 7 C j vC<|d ?_;refine i a λl s a=>By 9 j Ad s λs j=>cX b<|t 0 l j xm λl j=>d ?_;refine p b vU<|cX b<|d9 9 C j vC<|d ?_;refine i a λl az a=>By 11 j Ad az λs j=>cX b<|t 0 l j xm λl j=>dp<|ek (e p3) b (λw=>i8 (e p3) dT)<|io b b<|i a λl l a=>d7 (eP Tryz.func96) (BQ N (i0:=2) (i1:=0) j b b l) λl w j=>qY b<|P1 (f:=λ(l:y6)=>l.iY) 0 (cg k) b j b b b NM Kd n<|c ?_;exact f a▸⟨rfl,j.sp 17 (f0 12 5 [])⟩;refine c ?_;refine ek undef b (λw=>kR k dT)<|io b b<|d ?_;refine qY b<|c ?_;exact f a▸⟨rfl,j.sp 12 (f0 7 5 [])⟩;rintro _ w⟨A,rfl,j⟩;refine bE<|u o (λo=>?_) λo=>?_;refine c ?_;exact f o▸⟨rfl,bH ⟨rfl,j.pk 5 [0]⟩⟩;refine dl<|cP<|bE<|b_<|d ?_;exact J<|f o▸⟨rfl,j.sp 5 [0,1,2,3,4]⟩;exact fk<|f o▸⟨rfl,j.sp 6 [1,2,3,4,5]⟩;intro l k w o a;exact qg<|dx<|f o▸⟨rfl,a⟩;rintro v _ w o⟨A,rfl,j⟩;refine cP<|bE<|b_<|d ?_;exact J<|f o▸⟨rfl,j.sp 5 [0,1,2,3,4]⟩;exact fk<|f o▸⟨rfl,j.sp 6 [1,2,3,4,5]⟩;intro l k w o a;exact dx<|f o▸a;rintro q _ w o⟨A,rfl,j⟩;refine c ?_;exact f o▸bH ⟨rfl,j.pk 5 [0]⟩
def u6(E:aT)(V:aG HP)(res:cU)(v:F)(w:aT):Prop:=v= str res/\B E w V
def u7(E:aT)(V:aG HP)(r:cU)(U:Nat->F)(w:aT):Prop:=j3 q 42 Tryz.f97 (u6 E V r) .ret U w
def pw{a:bV}{g:bX}{res:cU}(j:B E w V)(k:eo V i0 l a)(h1:eo V i1 r g)(o:gY N a g=O res):c_ 97 [l,r] w<|u6 E V res:=by
 unfold gY at o;refine cI Tryz.func97 b b ?_;have j:=(j.dup (i0+0) k).dup (i1+1) h1;refine IT<|eh 1 l j b λn w j=>?_;refine eh 1 r j b λq w j=>?_;refine c ?_;refine pr E V (λ(k:Int)=>[bx 26 n a,bx 39 q g]) (λ_=>[]) (λk=>[(2,h n 0),(3,h q 0),(5,e k)]) (u7 E V) o ?_ ?_ ?_ ?_;exact j.sp 4 [1,0];rintro k x _ w⟨v,rfl,j⟩o;refine c ?_;refine p b rG<|em 0 j b gz Dc λs j=>IS 0 a.cD j NG<|c ?_;refine u o (λo=>?_) λo=>?_;refine c ?_;refine pr E V (λ(s:Int)=>[bx 26 n a,bx 39 q g]) (λ_=>[(2,h n 0),(3,h q 0),(5,e k)]) (λs=>[(6,e s)]) (u7 E V) o ?_ ?_ ?_ ?_;exact j.sp 3 [1,2];rintro s x _ w⟨v,rfl,j⟩o;refine c ?_;refine p b rG<|em 0 j b gz Dc λn j=>gV k<|i o λn q o=>By 0 j GL q λq j=>fq 0 j b uS oq λq j=>t 0 n.aZ j uB λq j=>IS 0 n.aZ j uC<|c ?_;refine u o (λo=>?_) λo=>?_;refine hG<|dt<|cF<|k6 m ?_;have j:=j.drew;refine k5<|p b rG<|a_<|em 4 j b gz Dc λn j=>d ?_;refine i o λn q o=>By 0 j GL q λaz j=>a_<|fq 0 j b uS oq λq j=>a_<|t 0 n.aZ j uB λn j=>d ?_;refine i o λn q o=>By 0 j th q λq j=>a_<|t 0 n j fF λq j=>a_<|eX 11 j b fF λq j=>a_<|FT 1 0 n g zt j MC<|fp<|bE<|u o (λo=>?_) λo=>?_;refine IT<|p b rG<|em 11 j b gz Dc λn j=>gV k<|i o λn q o=>By 0 j GL q λq j=>fq 0 j b FJ x9 λq j=>eY n.Name 0 j mO<|c ?_;exact f o▸⟨rfl,bH ⟨rfl,j.drop 16⟩⟩;refine dl<|cP<|bE<|b_<|d ?_;exact J<|f o▸⟨rfl,j.sp 13 [11,12]⟩;exact fk<|f o▸⟨rfl,j.sp 6 [4,5]⟩;intro x q w o n;exact qg<|dx<|f o▸⟨rfl,n⟩;rintro s _ w o⟨v,rfl,j⟩;refine cP<|bE<|b_<|d ?_;exact J<|f o▸⟨rfl,j.sp 2 [0,1]⟩;exact fk<|f o▸⟨rfl,j.sp 3 [1,2]⟩;intro x q w o n;exact dx<|f o▸n;rintro k _ w o⟨v,rfl,j⟩;refine c ?_;exact f o▸bH ⟨rfl,j.drop 2⟩
def uw(E:aT)(V:aG HP)(r:Bool)(U:Nat->F)(w:aT):Prop:=j3 q 45 Tryz.f49 (aO E V r) .ret U w
def zH{a:bV}{g:aG bX}{p2:aG bX}{res:Bool}(j:B E w V)(k:eo V i0 l a)(h1:eo V i1 r g)(h2:eo V i2 G p2)(o:jN N a g p2=O res):c_ 49 [l,r,G] w<|aO E V res:=by
 unfold jN at o;refine cI Tryz.func49 b b ?_;have j:=((j.dup (i0+0) k).dup (i1+1) h1).dup (i2+2) h2;refine IT<|eh 2 l j b λn w j=>?_;refine mj aK<|i4<|jb m (jv 6 20000) (f0 0 6 []) ?_;have j:=j.drew;refine ge b b<|eX 0 j b tg λk j=>d ?_;refine i o λk p o=>By 3 j th p λp j=>cX b<|t 0 k j fF λk j=>oy b<|i o λk p o=>IN Zy (pw N (i0:=2) (i1:=0) j b b p) λw j=>qY b<|c ?_;refine pr E V (λ(p:Int)=>[Y r g,Y G p2,bx 26 n a]) (λ_=>[(2,G),(3,h n 0),(7,str k)]) (λp=>[(1,r),(8,e p)]) (uw E V) o ?_ ?_ ?_ ?_;exact j.sp 7 [5,4,3];rintro p x _ w⟨q,rfl,j⟩o;refine c ?_;refine IS 0 g j uC<|c ?_;refine u o (λo=>?_) λo=>?_;refine hG<|dt<|cF<|jb m (jv 8 1200000) [0,1,2,3,4,6,5,7] ?_;have j:=j.drew;refine ge b b<|eX 2 j b tg λs j=>d ?_;refine i o λs v o=>By 1 j th v λv j=>cX b<|t 0 s j fF λaz j=>dp<|ek (str k) b (λw=>i8 (str k) dT)<|io b b<|i o λs s o=>IN Zy (pw N (i0:=2) (i1:=0) j b b s) λw j=>qY b<|c ?_;refine u o (λo=>?_) λo=>?_;refine c ?_;exact f o▸⟨rfl,bH ⟨rfl,j.drop 6⟩⟩;refine dl<|cP<|bE<|b_<|d ?_;exact J<|f o▸⟨rfl,j.sp 6 [3,4,5]⟩;exact fk<|f o▸⟨rfl,j.sp 3 [0,1,2]⟩;intro y v w o s;exact dx<|f o▸s;rintro p _ w o⟨q,rfl,j⟩;refine c ?_;refine pr E V (λ(p:Int)=>[Y G p2,bx 26 n a]) (λ_=>[(7,str k)]) (λp=>[(2,G),(3,h n 0),(9,e p)]) (uw E V) o ?_ ?_ ?_ ?_;exact j.sp 3 [1,2];rintro p x _ w⟨q,rfl,j⟩o;refine c ?_;refine IS 0 p2 j uC<|c ?_;refine u o (λo=>?_) λo=>?_;refine hG<|dt<|cF<|jb m (jv 8 1200000) [0,1,2,3,4,6,5,7] ?_;have j:=j.drew;refine ge b b<|eX 1 j b tg λn j=>d ?_;refine i o λn x o=>By 1 j th x λx j=>cX b<|t 0 n j fF λn j=>dp<|ek (str k) b (λw=>i8 (str k) dT)<|io b b<|i o λk k o=>IN Zy (pw N (i0:=2) (i1:=0) j b b k) λw j=>qY b<|c ?_;refine u o (λo=>?_) λo=>?_;refine c ?_;exact f o▸⟨rfl,bH ⟨rfl,j.drop 5⟩⟩;refine dl<|cP<|bE<|b_<|d ?_;exact J<|f o▸⟨rfl,j.sp 5 [3,4]⟩;exact fk<|f o▸⟨rfl,j.sp 2 [0,1]⟩;intro y v w o s;exact dx<|f o▸s;rintro p _ w o⟨q,rfl,j⟩;refine c ?_;exact f o▸bH ⟨rfl,j.drop 2⟩
def rS{a:aG bX}{res:bX}(j:B E w V)(g:eo V i0 l a)(o:iU N a=O res):c_ 50 [l] w<|Df E V res:=by
 unfold iU at o;refine cI Tryz.func50 b b ?_;have j:=j.dup (i0+0) g;refine IT<|f_ j Kg.z λn w j=>?_;refine hO<|mv l<|i o λg k o=>By 1 j th k λk j=>t 0 g j fF λg j=>f_ j Kg.z λp w j=>?_;refine fv 0 j 1 b fF λw j=>?_;refine c ?_;refine m0 E V (λ(k:bX×Int)=>[Y l a,k3 39 n 2,bx 39 p k.1]) (λ_=>[(2,h n 0),(3,h p 0)]) (λk=>[(0,l),(4,e k.2)]) o ?_ ?_ ?_;exact j.sp 5 [4,3,0];rintro k g _ w⟨r,rfl,j⟩o;refine c ?_;refine IS 0 a j uC<|c ?_;refine u o (λo=>?_) λo=>?_;refine hG<|dt<|cF<|jb m [0,0,0,0,0,2] (f0 0 6 []) ?_;have j:=j.drew;refine c ?_;refine i o λg q o=>By 0 j th q λq j=>cX b<|t 0 g j fF λg j=>cX b<|eX 4 j b fF λg j=>oy b<|i o λg g o=>IN Xe (mC N (i0:=1) (i1:=0) j b b g) λw j=>gj zt<|k7<|bE<|i o λq g o=>dz (λ(q:bX)=>SH E V [(0,l),(2,h n 0),(3,h p 0),(4,e k.2)] [Y l a,k3 39 n 2,bx 39 p q]) q ?_ ?_;refine u g (λg=>?_) λg=>?_;refine c ?_;refine i g λn p g=>By 3 j th p λp j=>t 0 n j fF λaz j=>Nx 7 j b b b 0 b fF λw j=>?_;exact J<|f g▸⟨rfl,j.sp 8 [5,6,7]⟩;exact dl<|f g▸⟨rfl,j.sp 6 [3,4,5]⟩;rintro _ w⟨r,rfl,j⟩;refine cP<|bE<|b_<|d ?_;exact J<|f o▸⟨rfl,j.sp 3 [0,1,2]⟩;exact fk<|f o▸⟨rfl,j.sp 3 [0,1,2]⟩;rintro k _ w o⟨r,rfl,j⟩;refine bE<|IT<|eX 2 j b fF λg j=>fv 2 j 0 b fF λw j=>?_;refine cJ<|dw ?_;obtain rfl:=f o;exact ON 2 j fF λg j=>j.pk 5 [0]
def Az(E:aT)(V:aG HP)(b1:Nat)(S X:F)(W R:F)(D A:F)(s T:F)(res:aG k)(v:F)(w:aT):Prop:=B E w<|[own 41 v res,bc 113 b1 [S,X,W,R,D,A,s,T]]++V
def tw{a:bV}{aa:aG Int}{A_:aG (aG z)}{U_:aG bL}{res:aG k}(j:B E w (bc 113 b1 [S,X,W,R,D,A,s,T]::Y D aa::Y A A_::Y s U_::V))(g:eo V i0 l a)(q:gJ N a aa A_ U_ p2=O res):c_ 21 [l,h b1 0,e p2] w<|Az E V b1 S X W R D A s T res:=by
 unfold gJ at q;refine cI Tryz.func21 b b ?_;have j:=j.dup (i0+4) g;refine IT<|eh 0 l j b λaz w j=>?_;refine c ?_;refine ol E V (λ(a0:aG k×Int)(g:F)=>[bc 113 b1 [S,X,W,R,D,A,s,T],Y D aa,Y A A_,Y s U_,bx 26 az a,own 41 g a0.1]) (λ_ g=>[(1,h b1 0),(7,g)]) (λa0 _=>[(2,e p2),(3,h az 0),(8,e a0.2)]) q ?_ ?_ ?_;exact⟨n_,(j.cO k 41).sp 7 [3,4,5,6,1,0]⟩;rintro a0 n _ w⟨bg,H,rfl,j⟩q;refine c ?_;refine p b re<|d9 0 s j xt<|IS 3 U_ j Vg<|c ?_;refine u q (λq=>?_) λq=>?_;refine c ?_;refine ol E V (λ(ay:aG k×Int)(g:F)=>[bc 113 b1 [S,X,W,R,D,A,s,T],Y D aa,Y A A_,Y s U_,bx 26 az a,own 41 g ay.1]) (λ_ g=>[(1,h b1 0),(2,e p2),(3,h az 0),(7,g),(8,e a0.2)]) (λay _=>[(9,e ay.2)]) q ?_ ?_ ?_;exact⟨bg,j.sp 6 (f0 0 6 [])⟩;rintro ay n _ w⟨a1,H,rfl,j⟩q;refine c ?_;refine p b re<|d9 0 s j xt<|IS 3 U_ j Vg<|c ?_;refine u q (λq=>?_) λq=>?_;refine hG<|dt<|cF ?_;obtain⟨a2,Z,q⟩:=bd q;refine i q λa3 bo q=>q_ E V m [1,1,1,0,1,0,0,1,1,1,0,1,0,0,0,0,0,0] [5,6,12,13,14,15,16,17] (λ(x:F×F×F×F×Nat×Nat)=>(λK L M P C G=>[(0,33,h b1 0),(1,34,h b1 0),(2,35,h b1 6),(3,36,s),(4,37,e a0.2),(5,38,K),(6,39,L),(7,40,h b1 0),(8,41,h b1 0),(9,42,h b1 6),(10,43,s),(11,44,e ay.2),(12,45,M),(13,46,P),(14,10,h C 0),(15,11,h G 0)]) x.1 x.2.1 x.2.2.1 x.2.2.2.1 x.2.2.2.2.1 x.2.2.2.2.2) [(1,h b1 0),(2,e p2),(3,h az 0),(7,a1),(8,e a0.2),(9,e ay.2)] [] (λ(o:Nat->Bool)(x:F×F×F×F×Nat×Nat)=>(λK L M P C G=>[bif o 0 then pt K a2 else aW,bif o 1 then Y L a2 else aW,bif o 2 then pt M a3 else aW,bif o 3 then Y P a3 else aW,bif o 6 then bx 108 C a2 else(bif o 4 then k3 108 C 3 else aW),bif o 7 then bx 108 G a3 else(bif o 5 then k3 108 G 3 else aW),bc 113 b1 [S,X,W,R,D,A,s,T],Y D aa,Y A A_,Y s U_,bx 26 az a,own 41 a1 ay.1]) x.1 x.2.1 x.2.2.1 x.2.2.2.1 x.2.2.2.2.1 x.2.2.2.2.2) (λx=>by kernel_rfl) ?_ ⟨λ_=>jd gn,λ_=>C8 gn,λ_=>oY gn re,?_,λ_=>jd gn,?_,?_,λ_=>jd gn,λ_=>C8 gn,λ_=>oY gn re,?_,λ_=>jd gn,?_,?_,?_,?_,?_,?_,trivial⟩ ?_;exact⟨(undef,undef,undef,undef,0,0),eT.none,J9 b,zt,((((((j.drew).aW).aW).aW).aW).aW).aW⟩;rintro o U w r n Q⟨⟨K,L,M,P,C,G⟩,g,v,_,j⟩;obtain⟨H,rfl⟩:=g.o1 2 n;exact d9 6 s j xt<|y (K,L,M,P,C,G) 3 g v j;rintro o U w r n Q⟨⟨K,L,M,P,C,G⟩,g,v,_,j⟩;obtain⟨H,rfl⟩:=g.o2 3 4 n;have j:=j.bZ 0 r;refine By 9 j EN Z λZ j=>?_;exact y (Z,L,M,P,C,G) 5 g v (j.nw 0);rintro o U w r n Q⟨⟨K,L,M,P,C,G⟩,g,v,_,j⟩;obtain⟨H,rfl⟩:=g.o1 5 n;have j:=(j.dF 0<|n.1 rfl).bZ 1 r;refine t 0 a2 j De λZ j=>?_;exact y (K,Z,M,P,C,G) 6 g v (((j.pl 13 [1,0,3,4,5,6,7,8,9,10,11,12]).cL 0 (o 5) (n.1 rfl) aW).cL 1 aA rfl aW);rintro o U w r n Q⟨⟨K,L,M,P,C,G⟩,g,v,_,j⟩;obtain⟨H,rfl⟩:=g.o1 9 n;exact d9 6 s j xt<|y (K,L,M,P,C,G) 10 g v j;rintro o U w r n Q⟨⟨K,L,M,P,C,G⟩,g,v,_,j⟩;obtain⟨H,rfl⟩:=g.o2 10 11 n;have j:=j.bZ 2 r;refine By 9 j EN bo λZ j=>?_;exact y (K,L,Z,P,C,G) 12 g v (j.nw 2);rintro o U w r n Q⟨⟨K,L,M,P,C,G⟩,g,v,_,j⟩;obtain⟨H,rfl⟩:=g.o1 12 n;have j:=(j.dF 2<|n.1 rfl).bZ 3 r;refine t 2 a3 j De λbs j=>?_;exact y (K,L,M,bs,C,G) 13 g v (((j.pl 13 [1,2,3,0,5,6,7,8,9,10,11,12]).cL 2 (o 12) (n.1 rfl) aW).cL 3 aA rfl aW);rintro o U w r n Q⟨⟨K,L,M,P,C,G⟩,g,v,_,j⟩;obtain⟨H,rfl⟩:=Tj U;have j:=(j.bZ 4<|nh Q r 16).bZ 4 r;refine f_ j Pv.z λZ w j=>?_;exact y (K,L,M,P,Z,G) 14 g v ((j.nw 4).fO 4 (o 16) (nh Q r 16)<|bx 108 Z a2);rintro o U w r n Q⟨⟨K,L,M,P,C,G⟩,g,v,_,j⟩;obtain⟨H,rfl⟩:=Tj U;have j:=(j.bZ 5<|nh Q r 17).bZ 5 r;refine f_ j Pv.z λZ w j=>?_;exact y (K,L,M,P,C,Z) 15 g v ((j.nw 5).fO 5 (o 17) (nh Q r 17)<|bx 108 Z a3);rintro o U w r n Q⟨⟨K,L,M,P,C,G⟩,g,v,_,j⟩;obtain⟨H,rfl⟩:=g.o2 14 6 n;have j:=((j.dF 1<|n.2.1 rfl).bZ 4 r).dF 4<|n.1 rfl;refine fv 4 j 1 b De λw j=>?_;exact qr (K,L,M,P,C,G) g v ((j.cL 1 (o 6) (n.2.1 rfl) aW).cL 4 aA rfl (bif o 14 then k3 108 C 3 else aW));rintro o U w r n Q⟨⟨K,L,M,P,C,G⟩,g,v,_,j⟩;obtain⟨H,rfl⟩:=g.o2 15 13 n;have j:=((j.dF 3<|n.2.1 rfl).bZ 5 r).dF 5<|n.1 rfl;refine fv 5 j 3 b De λw j=>?_;exact qr (K,L,M,P,C,G) g v ((j.cL 3 (o 13) (n.2.1 rfl) aW).cL 5 aA rfl (bif o 15 then k3 108 G 3 else aW));rintro o U w ax⟨⟨K,L,M,P,C,G⟩,g,v,_,j⟩;simp only[List.getD_cons_zero,List.getD_cons_succ,ax 5 I,ax 6 I,ax 12 I,ax 13 I,ax 16 I,ax 17 I,aN]at j;obtain⟨H,rfl⟩:=(ac (g.at 14 rfl<|tL ax 14)<|ac (g.at 15 rfl<|tL ax 15) v).v8;refine bE<|cF<|cF<|i q λL K q=>dz (λ(L:Bool)=>SH E V [(1,h b1 0),(2,e p2),(3,h az 0),(7,a1),(8,e a0.2),(9,e ay.2),(10,h C 0),(11,h G 0),(72,vb L)] [bc 113 b1 [S,X,W,R,D,A,s,T],Y D aa,Y A A_,Y s U_,bx 26 az a,own 41 a1 ay.1,bx 108 C a2,bx 108 G a3]) L ?_ ?_;refine b_<|p b q9<|em 4 j b oD uB λL j=>IS 0 a2.aZ j uC<|d ?_;refine dU K (λL K=>?_) λL K=>?_;refine d ?_;refine nt (b:=aA) (v:=vb aA) zt b b b<|d ?_;exact nt (b:=aA) (v:=vb aA) zt b b b<|J<|f K▸⟨rfl,j.sp 13 (f0 7 6 [5,6])⟩;refine p b q9<|em 6 j b oD uB λL j=>IS 0 a3.aZ j uC<|d ?_;refine dU K (λL K=>?_) λL K=>?_;refine d ?_;exact nt (b:=aA) (v:=vb aA) zt b b b<|J<|f K▸⟨rfl,j.sp 14 (f0 8 6 [6,7])⟩;refine d ?_;refine eX 6 j b De λL j=>eX 8 j b De λL j=>d ?_;have j:=((j.dup 12 rfl).dup 12 rfl).pull 12;refine i K λL L K=>IN (eP Tryz.func48) (zG N (p3:=p2) (i1:=1) (i2:=0) j b b L) λw j=>d ?_;refine dU K (λL K=>?_) λL K=>?_;refine d ?_;exact J<|f K▸⟨rfl,j.sp 17 (0::f0 12 5 [9,10])⟩;refine eX 15 j b tg λL j=>p b q9<|em 10 j b oD uB λL j=>p b q9<|em 12 j b oD uB λL j=>?_;refine i K λL L K=>IN (eP Tryz.func49) (zH N (i0:=2) (i1:=1) (i2:=0) j b b b L) λw j=>d ?_;exact J<|f K▸⟨rfl,j.sp 20 (3::f0 15 5 [12,13])⟩;rintro _ w⟨H,rfl,j⟩;refine bE<|u q (λq=>?_) λq=>?_;refine fk<|zo<|bE<|b_<|d ?_;exact J<|f q▸⟨rfl,a1,j.sp 8 (f0 0 6 [])⟩;refine hG ?_;obtain⟨a5,bw,q⟩:=bd q;refine i q λa6 bz q=>q_ E V m [1,0,0,1,0,0,0,0,0] [1,2,4,5,6,7,8] (λ(x:F×F×F×F×F×Nat)=>(λZ M av P aw L=>[(0,73,h C 2),(1,74,Z),(2,75,M),(3,76,h G 2),(4,77,av),(5,78,P),(6,79,aw),(7,12,h L 0)]) x.1 x.2.1 x.2.2.1 x.2.2.2.1 x.2.2.2.2.1 x.2.2.2.2.2) [(1,h b1 0),(2,e p2),(3,h az 0),(7,a1),(8,e a0.2),(9,e ay.2),(10,h C 0),(11,h G 0)] [] (λ(o:Nat->Bool)(x:F×F×F×F×F×Nat)=>(λZ M av P aw L=>[bif o 0 then Y Z a2.aZ else aW,bif o 1 then Y M a5 else aW,bif o 2 then Y av a3.aZ else aW,bif o 3 then Y P a6 else aW,bif o 4 then Y aw (⟨a5,a6,aK⟩:k)else aW,bif o 6 then bx 41 L (⟨a5,a6,aK⟩:k)else(bif o 5 then k3 41 L 5 else aW),bc 113 b1 [S,X,W,R,D,A,s,T],Y D aa,Y A A_,Y s U_,bx 26 az a,own 41 a1 ay.1,bx 108 C a2,bx 108 G a3]) x.1 x.2.1 x.2.2.1 x.2.2.2.1 x.2.2.2.2.1 x.2.2.2.2.2) (λx=>by kernel_rfl) ?_ ⟨λ_=>oY gn q9,?_,?_,λ_=>oY gn q9,?_,?_,?_,?_,?_,trivial⟩ ?_;exact⟨(undef,undef,undef,undef,undef,0),eT.none,J9 b,zt,((((((j.drew).aW).aW).aW).aW).aW).aW⟩;rintro o U w r n Q⟨⟨Z,M,av,P,aw,L⟩,g,v,_,j⟩;obtain⟨H,rfl⟩:=g.o1 0 n;have j:=j.bZ 0 r;refine em 12 j b oD uB λb0 j=>?_;exact y (b0,M,av,P,aw,L) 1 g v (j.nw 0);rintro o U w r n Q⟨⟨Z,M,av,P,aw,L⟩,g,v,_,j⟩;obtain⟨H,rfl⟩:=g.o1 1 n;have j:=(j.dF 0<|n.1 rfl).bZ 1 r;refine d7 aci (rS N (i0:=0) j b bw) λC w j=>?_;exact y (Z,C,av,P,aw,L) 2 g v (((j.pl 15 [1,0,3,4,5,6,7,8,9,10,11,12,13,14]).cL 0 (o 1) (n.1 rfl) aW).cL 1 aA rfl aW);rintro o U w r n Q⟨⟨Z,M,av,P,aw,L⟩,g,v,_,j⟩;obtain⟨H,rfl⟩:=g.o1 3 n;have j:=j.bZ 2 r;refine em 13 j b oD uB λC j=>?_;exact y (Z,M,C,P,aw,L) 4 g v (j.nw 2);rintro o U w r n Q⟨⟨Z,M,av,P,aw,L⟩,g,v,_,j⟩;obtain⟨H,rfl⟩:=g.o1 4 n;have j:=(j.dF 2<|n.1 rfl).bZ 3 r;refine d7 aci (rS N (i0:=2) j b bz) λC w j=>?_;exact y (Z,M,av,C,aw,L) 5 g v (((j.pl 15 [1,2,3,0,5,6,7,8,9,10,11,12,13,14]).cL 2 (o 4) (n.1 rfl) aW).cL 3 aA rfl aW);rintro o U w r n Q⟨⟨Z,M,av,P,aw,L⟩,g,v,_,j⟩;obtain⟨H,rfl⟩:=g.o2 2 5 n;have j:=((j.dF 1<|n.1 rfl).dF 3<|n.2.1 rfl).bZ 4 r;refine lw (⟨a5,a6,aK⟩:k) trivial rfl j [(0,M),(1,P)] rfl Vk rfl (λG C ab=>by have C:=HJ G;exact cC.cons (f:=λ(x:k)G=>{x with A:=G}) C t7 (ab.sat 1 _ rfl).1 λ_ C=>cC.cons (f:=λ(x:k)G=>{x with B:=G}) C t8 (ab.sat 3 _ rfl).1 λ_ C=>cC.nil C) λx j=>?_;exact y (Z,M,av,P,x,L) 6 g v ((((j.pl 15 [1,2,3,4,0,6,7,8,9,10,11,12,13,14]).cL 1 (o 2) (n.1 rfl) aW).cL 3 (o 5) (n.2.1 rfl) aW).cL 4 aA rfl aW);rintro o U w r n Q⟨⟨Z,M,av,P,aw,L⟩,g,v,_,j⟩;obtain⟨H,rfl⟩:=Tj U;have j:=(j.bZ 5<|nh Q r 8).bZ 5 r;refine f_ j Q9.z λbk w j=>?_;exact y (Z,M,av,P,aw,bk) 7 g v ((j.nw 5).fO 5 (o 8) (nh Q r 8)<|bx 41 bk (⟨a5,a6,aK⟩:k));rintro o U w r n Q⟨⟨Z,M,av,P,aw,L⟩,g,v,_,j⟩;obtain⟨H,rfl⟩:=g.o2 7 6 n;have j:=((j.dF 4<|n.2.1 rfl).bZ 5 r).dF 5<|n.1 rfl;refine fv 5 j 4 b yh λw j=>?_;exact qr (Z,M,av,P,aw,L) g v ((j.cL 4 (o 6) (n.2.1 rfl) aW).cL 5 aA rfl (bif o 7 then k3 41 L 5 else aW));rintro o U w ax⟨⟨Z,M,av,P,aw,L⟩,g,v,_,j⟩;simp only[List.getD_cons_zero,List.getD_cons_succ,ax 1 I,ax 2 I,ax 4 I,ax 5 I,ax 6 I,ax 8 I,aN]at j;obtain⟨H,rfl⟩:=(ac (g.at 7 rfl<|tL ax 7) v).v8;refine bE<|cF<|IT<|p b tO<|em 5 j b nM fF λg j=>p b rI<|em 6 j b l9 fF λg j=>?_;refine i q λg g q=>IN Xe (mC N (i0:=1) (i1:=0) j b b g) λw j=>cJ<|i q λg K q=>dz (λ(g:k)=>SH E V [(1,h b1 0),(2,e p2),(3,h az 0),(7,a1),(8,e a0.2),(9,e ay.2),(12,h L 0)] [bc 113 b1 [S,X,W,R,D,A,s,T],Y D aa,Y A A_,Y s U_,bx 26 az a,own 41 a1 ay.1,bx 41 L g]) g ?_ ?_;refine u K (λK=>?_) λK=>?_;refine b_<|p b tO<|em 7 j b nM fF λg j=>p b rI<|em 8 j b l9 fF λg j=>p b rI<|wn 9 j b 1 b t7 fF λw j=>?_;refine p b tO<|wn 9 j b 0 b t8 fF λw j=>?_;exact J<|f K▸⟨rfl,j.sp 18 (f0 10 6 [9])⟩;exact dl<|f K▸⟨rfl,j.sp 16 (f0 8 6 [7])⟩;rintro _ w⟨H,rfl,j⟩;refine c ?_;refine eX 6 j b yh λg j=>?_;have j:=j.freeze 6;refine i q λg g q=>d7 Xf (nk N (i0:=6) (i1:=0) j b b g) λg w j=>xe g<|J<|cP<|bE<|b_<|d ?_;exact J<|f q▸⟨rfl,g,j.sp 9 [2,3,4,5,6,0]⟩;exact fk<|f q▸⟨rfl,a1,j.sp 6 (f0 0 6 [])⟩;rintro ay _ w q⟨g,H,rfl,j⟩;refine cP<|bE<|b_<|d ?_;exact J<|f q▸⟨rfl,g,j.sp 6 (f0 0 6 [])⟩;exact fk<|f q▸⟨rfl,bg,j.sp 6 (f0 0 6 [])⟩;rintro a0 _ w q⟨cv,H,rfl,j⟩;refine c ?_;obtain rfl:=f q;exact bH<|j.pk 6 [5,0]
def zI{a:aG bD}{g:bV}{p2:ir}{res:aG k×Int}(j:B E w V)(h:eo V i0 l a)(h1:eo V i1 r g)(h2:eo V i2 G p2)(o:fQ N a g p2 p3=O res):c_ 8 [l,r,G,e p3] w<|sC E V res:=by
 unfold fQ at o;refine cI Tryz.func8 b b ?_;have j:=((j.dup (i0+0) h).dup (i1+1) h1).dup (i2+2) h2;refine IT<|eh 1 r j b λh w j=>?_;have j:=j.fw (i:=0) rfl;refine eh 1 G j b λh w j=>?_;have j:=j.fw (i:=0) rfl;refine c ?_;refine t 1 g j tg λh j=>t 1 p2 j pD λh j=>?_;refine i o λh h o=>IN Zt (pT N (i0:=6) (i1:=1) (i2:=0) j b b b h) λw j=>c ?_;refine u o (λo=>?_) λo=>?_;refine c ?_;exact f o▸kD ⟨n_,b,(j.qL k).pk 8 [0]⟩;refine c ?_;refine i o λh h o=>IN ab9 (tt N (a:=p3) (g:=0) (p2:=100000) j h) λw j=>c ?_;refine u o (λo=>?_) λo=>?_;refine c ?_;exact f o▸kD ⟨n_,b,(j.qL k).pk 8 [0]⟩;refine hG<|jb m (jv 10 221201) [0,1,3,2,4,5,6,7,8,9] ?_;have j:=j.drew;refine rR g 3 b j tg λh h h j=>ge b b<|t 4 p2 j pD λh j=>dp<|ek (e p3) b (λw=>i8 (e p3) dT)<|io b b<|i o λh h o=>d7 acg (tu N (i0:=0) j b h) ?_;rintro _ w⟨h,h,h,h,az,h,h,h,h,rfl,j⟩;refine gj (⟨zt,j.gE 10⟩)<|io b b ?_;have j:=((((j.freeze 7).dup 7 rfl).dup 7 rfl).dup 7 rfl).pull 3;refine i o λh h o=>d7 acj (tw N (p2:=p3) (i0:=11) j b h) λh w j=>gj (⟨zt,j.gE 12⟩)<|io b b ?_;have j:=j.freeze 0;refine i o λh h o=>d7 abV (sL N (i0:=0) j b h) ?_;rintro _ w⟨h,rfl,j⟩;refine gj (⟨zt,j.gE 13⟩)<|ge b b<|d ?_;refine dp ?_;have j:=j.pl 22 [0,1,2,3,4,5,6,7,8,9,10,11,12,14,15,16,17,18,19,20,21];exact k7<|bE<|dw<|f o▸kD ⟨h,b,j.pk 21 [0]⟩
def AA{res:aG k}(j:B E w V)(h:km N g=O res):c_ 58 [n_,e g] w<|qH E V res:=by
 unfold km at h;refine cI Tryz.func58 b b<|c ?_;refine u h (λh=>?_) λh=>?_;cases h;refine c ?_;refine LU b b Cz<|d ?_;refine AB (m:=0) zt b b Cz<|d ?_;refine hO<|d ?_;refine cJ<|i h λl a h=>dz (λ(l:aG k)n w=>∃m:F,SH E V [(0,m)] [own 41 m l] n w) l ?_ ?_;refine u a (λa=>?_) λa=>?_;refine c ?_;refine LU b b Cz<|WI k zt b b Bp (.inr ⟨rfl,b⟩) b b<|d ?_;refine i a λl l a=>WF (bK<|g -(bK<|((0:Nat):Int) -((0:Nat):Int))) zt b j b b Pw FI ad5 l λl w j=>?_;refine d ?_;exact AB (m:=0) zt b b Cz<|i a λl l a=>HH 0 b j b b Bp (.inr ⟨rfl,b⟩) l λl j=>xe l<|J<|f a▸⟨rfl,l,j.sp 1 [0]⟩;exact dl<|f a▸⟨rfl,n_,(j.cO k 41).sp 1 [0]⟩;rintro _ w⟨m,a,rfl,j⟩;refine c ?_;obtain rfl:=f h;exact bH<|j.pk 1 [0]
def CN{a:aG (aG k)}{res:aG k}(j:B E w V)(g:eo V i0 l a)(o:mY N a=O res):c_ 23 [l] w<|qH E V res:=by
 unfold mY at o;refine cI Tryz.func23 b b ?_;have j:=j.dup (i0+0) g;refine c ?_;refine IS 0 a j YK<|gV 0<|cJ<|s_ E V (λ(g:Int)=>[Y l a]) (λg=>[(0,l),(3,e g)]) (λh _=>[(9,l),(10,e (Z a)),(11,e h)]) o ?_ ?_ ?_;exact j.sp 1 [0];rintro q h g r _ w p⟨h,rfl,j⟩o;refine cF<|k4<|i o λm n o=>By 0 j Vv n λn j=>t 0 m j ack λn j=>c ?_;refine IS 0 m j Cz<|c ?_;refine u o (λo=>?_) λo=>?_;cases o;refine dl<|cP<|bE<|b_<|d ?_;exact J<|f o▸⟨rfl,j.sp 3 [2]⟩;rintro g _ w o⟨h,rfl,j⟩;refine c ?_;refine i o λm m o=>d7 (eP Tryz.func58) (AA N (g:=g) j m) λn w j=>c ?_;refine IS 1 a j YK<|gV 0<|cJ<|r_ E V (λ(g:aG k)(m:F)=>[Y l a,own 41 m g]) (λ_ m=>[(6,m)]) (λm _ _=>[(25,l),(26,e (Z a)),(27,e m)]) o ?_ ?_ ?_;exact⟨n,j.sp 2 [1,0]⟩;rintro q m g r _ w p⟨m,h,rfl,j⟩o;refine cF<|k4<|i o λm n o=>By 0 j Vv n λn j=>t 0 m j ack λaz j=>c ?_;refine i o λm m o=>j0 3 0 j Pw m λm w j=>?_;refine xe m<|J<|cP<|bE<|b_<|d ?_;exact J<|f o▸⟨rfl,m,j.sp 4 [2,3]⟩;rintro g _ w o⟨g,h,rfl,j⟩;refine c ?_;obtain rfl:=f o;exact bH<|j.pk 2 [1]
end Go.Gk
