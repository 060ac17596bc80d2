/-
  Printed texts: Go functions as plain functions, and that they are. No statement of the seed is proved here.
-/
import Derived.Test.YtibjlncmnefhcaaGreatDoorG1
import Derived.Test.YtibjlncmnefhcaaGreatDoorA2
set_option linter.defProp false
set_option linter.unusedVariables false
set_option linter.unusedSimpArgs false
set_option linter.unusedSectionVars false
set_option maxRecDepth 100000
set_option maxHeartbeats 40000000
open Bool renaming true→aA,false→aK
open List renaming length→Z
open Option renaming bind→D,some→O
namespace Go.Gk
open Go IntKind Go.Proofs
variable (N:Nat){E w:aT}{i0 i1 i2:Nat}{a g p2 res:Int}{l r v2:F}{V:aG HP}
def Dp{a:aG bD}{g:bV}(j:B E w V)(k:eo V i0 l a)(h1:eo V i1 r g)(o:lV N a g=O res):c_ 28 [l,r] w<|aF E V res:=by
 unfold lV at o;refine cI Tryz.func28 b b ?_;have j:=(j.dup (i0+0) k).dup (i1+1) h1;refine IT<|eh 1 l j b λs w j=>?_;have j:=j.fw (i:=0) rfl;refine eh 1 r j b λv w j=>?_;have j:=j.fw (i:=0) rfl;refine c ?_;refine t 1 a j Zh λk j=>?_;refine i o λaz k o=>IN (eP Tryz.func65) (CA N (i0:=0) j b k) λw j=>c ?_;refine u o (λo=>?_) λo=>?_;refine c ?_;exact f o▸bH ⟨rfl,j.drop 5⟩;refine hG<|IT<|t 2 a j Zh λk j=>fq 2 j b FH pP λk j=>t 0 g.gH j Q2 λk j=>?_;refine i o λk k o=>IN (eP Tryz.func66) (CB N (i0:=2) (i1:=0) j rfl rfl ⟨67,[],rfl,Zi,λw G P K z I j D F=>by obtain rfl:=j.CZ (γ:=cU) D;exact fE (uX N (a:=K) j F) λ_ _ C=>C⟩ k) λw j=>c ?_;refine u o (λo=>?_) λo=>?_;refine c ?_;exact f o▸bH ⟨rfl,j.drop 8⟩;refine hG<|IT<|fq 4 j b rG gz λk j=>t 0 g.cD j Dc λk j=>IS 0 g.cD j NG<|c ?_;refine u o (λo=>?_) λo=>?_;refine c ?_;exact f o▸bH ⟨rfl,j.drop 10⟩;refine p_<|zr (κ:=bX) (ν:=Bool) j λx w j=>c ?_;refine fq 7 j b rG gz λk j=>t 0 g.cD j Dc λy j=>IS 0 g.cD j NG<|gV 0<|cJ<|md E V (λ(A:aG (bX×Bool))=>[pt (h s 0) a,pt (h v 0) g,mp x A,Y y g.cD]) (λ_=>[]) (λk _=>[(2,h s 0),(3,h v 0),(7,x),(29,y),(30,e (Z g.cD)),(31,e k)]) (λz=>j3 q 71 Tryz.f28 (aF E V z) .ret) o ?_ ?_ ?_ ?_;exact j.sp 13 [10,9,2,0];rintro n k A n _ w n⟨H,rfl,j⟩o;refine c ?_;refine i o λn L o=>By 3 j GL L λL j=>t 0 n j L0 λL j=>f_ j U6.z λbc w j=>?_;refine jU (k:Int)<|fv 0 j 1 b L0 λw j=>?_;refine i4<|IT<|p b FJ<|BY 0 j b x9 mO<|i o λL L o=>IN Zi (uX N (a:=n.Name) j L) λw j=>c ?_;refine u o (λo=>?_) λo=>?_;refine c ?_;exact f o▸⟨rfl,bH ⟨rfl,j.drop 7⟩⟩;refine hG<|IT<|p b uS<|em 0 j b oq uB λL j=>IS 0 n.aZ j uC<|c ?_;refine u o (λo=>?_) λo=>?_;refine c ?_;exact f o▸⟨rfl,bH ⟨rfl,j.drop 8⟩⟩;refine hG<|IT<|p b uS<|em 1 j b oq uB λL j=>yl [h s 0,h v 0]<|mv x ?_;have j:=j.pull 7;refine i o λL M o=>IN (eP Tryz.func68) (Ah N (i0:=0) j rfl ⟨69,[h s 0,h v 0],rfl,(eP Tryz.func69),λw G P K z I j D F=>by exact fE (Ag N (i0:=I) (i1:=Z G+5) (i2:=Z G+6) j D Fy Fy F) λ_ _ C=>C⟩ M) λw j=>c ?_;refine u o (λo=>?_) λo=>?_;refine c ?_;exact f o▸⟨rfl,bH ⟨rfl,j.drop 10⟩⟩;refine hG<|IT<|p b U7<|em 3 j b Pk aaM λC j=>IS 0 n.y5 j U5<|c ?_;refine u o (λo=>?_) λo=>?_;refine IT<|c ?_;exact f o▸⟨rfl,bH ⟨rfl,j.drop 11⟩⟩;refine hG<|i o λC n o=>dz (λ(C:Bool)=>SH E V [(2,h s 0),(3,h v 0),(7,x),(29,y),(30,e (Z g.cD)),(31,e k),(69,vb C)] [pt (h s 0) a,pt (h v 0) g,mp x L.2,Y y g.cD]) C ?_ ?_;refine k6 m ?_;have j:=j.drew;refine k5<|gV (k:Int)<|a_<|ic ((k:Int)) 0<|a_<|xh (kE<|(k:Int)>0)<|dU n (λk n=>?_) λk n=>?_;refine a_<|p b FJ<|a_<|BY 4 j b x9 mO<|a_<|fq 8 j b rG gz λbk j=>a_<|t 0 g.cD j Dc λs j=>d ?_;refine i n λs v n=>By 0 j GL v λv j=>a_<|fq 0 j b FJ x9 λv j=>a_<|eY s.Name 0 j mO<|c ?_;exact f n▸⟨rfl,j.sp 15 [11,12,5,14]⟩;refine a_<|kR k<|a_<|kR k<|a_<|kR k<|a_<|kR k<|a_<|kR k<|a_<|kR k<|a_<|kR k<|a_<|kR k<|a_<|kR k ?_;exact a_<|kR k<|a_<|NB k (vb aK)<|fp<|f n▸⟨rfl,j.sp 11 [7,8,1,10]⟩;rintro _ w⟨H,rfl,j⟩;refine bE<|u o (λo=>?_) λo=>?_;refine c ?_;exact f o▸⟨rfl,bH ⟨rfl,j.drop 4⟩⟩;refine dl<|cP<|bE<|b_<|d ?_;exact J<|f o▸⟨rfl,j.sp 4 [0,1,2,3]⟩;intro z k w o k;exact dx<|f o▸k;rintro A _ w o⟨H,rfl,j⟩;refine c ?_;exact f o▸bH ⟨rfl,j.drop 4⟩
def Jj{res:Bool}(o:B E w V)(j:A8 N a g p2=O res):c_ 234 [e a,e g,e p2] w<|aO E V res:=by
 unfold A8 at j;refine cI Tryz.func234 b b<|IT<|mj aK<|hO<|sg ?_;exact cJ<|dw<|f j▸bH ⟨rfl,o.drop 0⟩
def qJ{res:Bool}(o:B E w V)(j:pH N a=O res):c_ 198 [e a] w<|aO E V res:=by
 unfold pH at j;refine cI Tryz.func198 b b<|c ?_;refine i j λd d j=>IN (eP Tryz.func234) (Jj N (a:=a) (g:=(-1000000)) (p2:=1000000) o d) λw o=>c ?_;exact f j▸bH ⟨rfl,o.drop 0⟩
def Co{a:z}{res:Bool}(j:B E w V)(c:eo V i0 l a)(e:sd N a=O res):c_ 187 [l] w<|aO E V res:=by
 unfold sd at e;refine cI Tryz.func187 b b ?_;have j:=j.dup (i0+0) c;refine IT<|eh 0 l j b λc w j=>?_;refine mj aK<|i4<|i e λg c e=>dz (λ(g:Bool)=>SH E V [(2,vb g)] []) g ?_ ?_;refine b_<|p b iI<|BY 0 j b dV n<|i c λg h c=>IN MD (qJ N (a:=a.X0) j h) λw j=>xh g<|dU c (λg c=>?_) λg c=>?_;refine p b iv<|BY 0 j b dL n<|i c λg g c=>IN MD (qJ N (a:=a.Y0) j g) λw j=>d ?_;refine dU c (λg c=>?_) λg c=>?_;refine p b j7<|BY 0 j b eQ n<|i c λg g c=>IN MD (qJ N (a:=a.X1) j g) λw j=>d ?_;refine dU c (λg c=>?_) λg c=>?_;refine p b lO<|BY 0 j b fS n<|i c λg g c=>IN MD (qJ N (a:=a.Y1) j g) λw j=>d ?_;exact J<|f c▸⟨rfl,j.sp 2 []⟩;refine d ?_;exact J<|f c▸⟨rfl,j.sp 2 []⟩;refine d ?_;exact nt (b:=aK) (v:=vb aK) zt b b b<|mj aK<|J<|f c▸⟨rfl,j.sp 2 []⟩;refine d ?_;refine nt (b:=aK) (v:=vb aK) zt b b b<|d ?_;exact nt (b:=aK) (v:=vb aK) zt b b b<|mj aK<|J<|f c▸⟨rfl,j.sp 2 []⟩;rintro _ w⟨c,rfl,j⟩;exact bE<|dw<|f e▸bH ⟨rfl,j.drop 0⟩
def ES{a:aG z}(j:B E w V)(g:eo V i0 l a)(o:oT N a=O res):c_ 126 [l] w<|aF E V res:=by
 unfold oT at o;refine cI Tryz.func126 b b ?_;have j:=j.dup (i0+0) g;refine c ?_;refine IS 0 a j oH<|c ?_;refine u o (λo=>?_) λo=>?_;refine c ?_;exact f o▸bH ⟨rfl,j.drop 1⟩;refine c ?_;refine IS 0 a j oH<|gV 0<|cJ<|md E V (λ(m:Unit)=>[Y l a]) (λ_=>[]) (λg _=>[(8,l),(9,e (Z a)),(10,e g)]) (λr=>j3 q 30 Tryz.f126 (aF E V r) .ret) o ?_ ?_ ?_ ?_;exact j.sp 1 [0];rintro k g m g _ w g⟨s,rfl,j⟩o;refine cF<|k4<|i o λg k o=>By 0 j iO k λk j=>t 0 g j gG λk j=>f_ j rp.z λk w j=>?_;refine fv 0 j 1 b gG λw j=>?_;refine i4<|IT<|eX 0 j b gG λv j=>?_;refine i o λv v o=>IN X6 (Co N (i0:=0) j b v) λw j=>c ?_;refine u o (λo=>?_) λo=>?_;refine c ?_;exact f o▸⟨rfl,bH ⟨rfl,j.drop 5⟩⟩;refine p_<|p b j7<|BY 1 j b eQ n<|p b iI<|BY 1 j b dV n<|d ?_;refine g7 aA (g.X1<=g.X0) (h k 3) rfl rfl rfl (cW lO)<|g7 aA (g.X1<=g.X0) (e g.Y1) rfl rfl rfl (bO 1 rfl j (by exact z_ (h k 3)) rfl fS n)<|g7 aA (g.X1<=g.X0) (h k 1) rfl rfl rfl (cW iv)<|g7 aA (g.X1<=g.X0) (e g.Y0) rfl rfl rfl (bO 1 rfl j (by exact z_ (h k 1)) rfl dL n)<|sg ?_;refine cJ<|u o (λo=>?_) λo=>?_;refine c ?_;exact f o▸⟨rfl,bH ⟨rfl,j.drop 5⟩⟩;refine dl<|cP<|bE<|b_<|d ?_;exact J<|f o▸⟨rfl,j.sp 5 [4]⟩;intro r g w o g;exact dx<|f o▸g;rintro m _ w o⟨s,rfl,j⟩;refine c ?_;exact f o▸bH ⟨rfl,j.drop 1⟩
def Dq{a:aG z}{res:aG z}(j:B E w V)(d:eo V i0 l a)(o:lW N a=O res):
    c_ 188 [l] w<|iD E V res:=by
 unfold lW at o
 refine cI Tryz.func188 b b ?_
 have j:=j.dup (i0+0) d
 refine c ?_
 refine as9 (i:=0) zt b j b b b oH<|cJ<|K1 (b:=W2 l) b (λd=>?_)<|λd=>?_
 ·have e:=j.ac5 (i:=0) rfl d
  rw[e]at o
  replace o:O ([]:aG z)=_:=o
  refine c ?_
  obtain rfl:=f o
  have j:=j.cO z 62
  exact bH<|j.pk 2 [0]
 refine p_<|js ([]:aG z) j [] iO rp (λd d d=>zt) λd w j=>mv l ?_
 obtain⟨d,d,o⟩:=bd o
 refine j0 0 1 j Kh d λd w j=>?_
 refine c ?_
 obtain rfl:=f o
 exact bH<|j.pk 2 [0]
def GW{a g:z}(j:B E w V)(d:eo V i0 l a)(h1:eo V i1 r g)(o:mR N a g=O res):c_ 190 [l,r] w<|aF E V res:=by
 unfold mR at o;refine cI Tryz.func190 b b ?_;have j:=(j.dup (i0+0) d).dup (i1+1) h1;refine IT<|eh 1 l j b λd w j=>?_;refine eh 1 r j b λd w j=>?_;refine jU 0<|hO<|p b iv<|BY 1 j b dL n<|p b iv<|BY 0 j b dL n<|c ?_;exact f o▸bH ⟨rfl,j.drop 4⟩
def CC{a:aG Int}{res:aG Int}(j:B E w (own 3 l a::V))(o:j5 N a=O res):c_ 192 [l] w<|rJ E V res:=by
 unfold j5 at o;refine cI Tryz.func192 b b<|c ?_;refine lc (i:=0) (l:=a) zt b j b b oI<|c ?_;refine u o (λo=>?_) λo=>?_;refine c ?_;obtain rfl:=f o;exact bH<|j.pk 1 [0];refine c ?_;refine pr E V (λ(g:Int)=>[own 3 l a]) (λ_=>[(0,l)]) (λg=>[(3,e g)]) (λv=>j3 q 61 Tryz.f192 (rJ E V v) .ret) o ?_ ?_ ?_ ?_;exact j.sp 1 [0];rintro g k _ w⟨r,rfl,j⟩o;refine c ?_;refine lc (i:=0) (l:=a) zt b j b b oI<|c ?_;refine u o (λo=>?_) λo=>?_;refine hG<|dt<|cF<|k6 m ?_;have j:=j.drew;refine k5<|d ?_;refine i o λh h o=>ep 0 j b b eA h<|a_<|p8 0 j h n<|d ?_;refine i o λh h o=>ep 0 j b b eA h<|a_<|p8 0 j h n<|c ?_;refine u o (λo=>?_) λo=>?_;refine c ?_;refine i o λh s o=>O6 0 g b j b b eA s<|c ?_;refine m0 E V (λ(h:aG Int×Int×Int)=>[own 3 l h.1]) (λh=>[(0,l),(3,e h.2.1)]) (λh=>[(4,vw l (mr g) 1),(5,e h.2.2)]) o ?_ ?_ ?_;exact j.sp 1 [0];rintro h k _ w⟨r,rfl,j⟩o;refine c ?_;refine at0 (i:=0) (l:=h.1) zt b j b b oI<|c ?_;refine u o (λo=>?_) λo=>?_;refine hG<|dt<|cF<|k6 m ?_;have j:=j.drew;refine k5<|d ?_;refine i o λk k o=>O7 0 g b j b b b eA (QZ s) (nI k).1 (nI k).2<|a_<|sb (f:=(λp=>p)) 0 j (qM 0 j (nI k).2 0) (eB (nI k).2).2.1 Fd.self n<|d ?_;refine i o λaz k o=>O7 0 g b j b b b eA (QZ s) (nI k).1 (nI k).2<|a_<|sb (f:=(λp=>p)) 0 j (qM 0 j (nI k).2 0) (eB (nI k).2).2.1 Fd.self n<|d ?_;refine fp<|bE<|i o λt k o=>dz (λ(t:aG Int×Int)=>SH E V [(0,l),(3,e t.2),(4,vw l (mr g) 1),(5,e h.2.2)] [own 3 l t.1]) t ?_ ?_;refine u k (λk=>?_) λk=>?_;refine c ?_;refine i k λx t k=>O7 0 g b j b b b eA (QZ s) (nI t).1 (nI t).2<|sb (f:=(λp=>p)) 0 j (qM 0 j (nI t).2 0) (eB (nI t).2).2.1 Fd.self n<|i k λp p k=>ep 0 j b b eA p ?_;have j:=j.sc Int x;refine pz 1 0 j p n λw j=>?_;refine cJ<|b_<|d ?_;exact J<|f k▸⟨rfl,j.sp 2 [1]⟩;exact dl<|f k▸⟨rfl,j.sp 1 [0]⟩;rintro _ w⟨r,rfl,j⟩;refine cP<|bE<|b_<|d ?_;exact J<|f o▸⟨rfl,j.sp 1 [0]⟩;exact fk<|f o▸⟨rfl,j.sp 1 [0]⟩;rintro h _ w o⟨r,rfl,j⟩;refine c ?_;refine i o λk k o=>O6 0 h.2.1 b j b b eA k<|WY 0 zt j b b xn Zj (UQ k) λw j=>c ?_;refine i o λh h o=>HH 0 b j b b eA (.inr ⟨rfl,b⟩) h λh j=>c ?_;obtain rfl:=f o;exact⟨rfl,bH<|j.pk 1 [0]⟩;refine dl<|cP<|bE<|b_<|d ?_;exact J<|f o▸⟨rfl,j.sp 1 [0]⟩;exact fk<|f o▸⟨rfl,j.sp 1 [0]⟩;intro v h w o h;exact dx<|f o▸h;rintro g _ w o⟨r,rfl,j⟩;refine c ?_;obtain rfl:=f o;exact bH<|j.pk 1 [0]
def GX{a:z}{g:aG Int}{res:Bool}(j:B E w V)(d:eo V i0 l a)(h1:eF V i1 r g)(h2:eF V i2 v2 p2)(o:uK N a g p2=O res):c_ 194 [l,r,v2] w<|aO E V res:=by
 unfold uK at o;refine cI Tryz.func194 b b ?_;have j:=((j.dup (i0+0) d).xS (i:=i1+1) h1).xS (i:=i2+2) h2;refine IT<|eh 2 l j b λd w j=>?_;refine mj aK<|i4<|k6 m ?_;have j:=j.drew;refine k5<|p b lO<|a_<|BY 0 j b fS n<|a_<|t 2 g j fV λd j=>a_<|eY p2 2 j n<|a_<|i o λd e o=>By 0 j eA e λe j=>a_<|eY d 0 j n<|c ?_;exact f o▸bH ⟨rfl,j.drop 6⟩
def zz{a:aG z}{g:z->aP Bool}(o:B E w V)(k:eo V i0 l a)(h1:R3 q E V r g (λ(h:Bool)=>Value.bool h))(j:qO N a g=O res):c_ 202 [l,r] w<|aF E V res:=by
 unfold qO at j;refine cI Tryz.func202 b b ?_;have o:=o.dup (i0+0) k;refine c ?_;refine IS 0 a o oH<|gV 0<|cJ<|md E V (λ(k:Unit)=>[Y l a]) (λ_=>[]) (λm _=>[(0,l),(1,r),(7,e (Z a)),(8,e m)]) (λh=>j3 q 19 Tryz.f202 (aF E V h) .ret) j ?_ ?_ ?_ ?_;exact o.sp 1 [0];rintro n m k m _ w m⟨m,rfl,o⟩j;refine c ?_;refine i j λn p j=>By 0 o iO p λp o=>t 0 n o gG λn o=>?_;refine i j λn n j=>AC 0 o h1 3 n λw o=>cJ<|u j (λj=>?_) λj=>?_;refine c ?_;exact f j▸⟨rfl,bH ⟨rfl,o.drop 3⟩⟩;refine dl<|cP<|bE<|b_<|d ?_;exact J<|f j▸⟨rfl,o.sp 3 [2]⟩;intro h h w j h;exact dx<|f j▸h;rintro k _ w j⟨m,rfl,o⟩;refine c ?_;exact f j▸bH ⟨rfl,o.drop 1⟩
def rN(E:aT)(V:aG HP)(l:F)(a:aG z)(res:Int)(v:F)(w:aT):Prop:=v= e res/\B E w ([own 62 l a]++V)
def xy{a:aG z}{g:z->aP Bool}(o:B E w (own 62 l a::V))(h1:R3 q E V r g (λ(h:Bool)=>Value.bool h))(j:oC N a g=O res):c_ 202 [l,r] w<|rN E V l a res:=by
 unfold oC at j;refine cI Tryz.func202 b b<|c ?_;refine lc (i:=0) (l:=a) zt b o b b oH<|gV 0<|cJ<|md E V (λ(k:Unit)=>[own 62 l a]) (λ_=>[(0,l)]) (λm _=>[(1,r),(7,e (Z a)),(8,e m)]) (λh=>j3 q 19 Tryz.f202 (rN E V l a h) .ret) j ?_ ?_ ?_ ?_;exact o.sp 1 [0];rintro n m k m _ w m⟨n,rfl,o⟩j;refine c ?_;refine i j λm m j=>ep 0 o b b iO m<|mt 0 o m gG λm o=>?_;refine i j λm m j=>AC 0 o h1 2 m λw o=>cJ<|u j (λj=>?_) λj=>?_;refine c ?_;exact f j▸⟨rfl,bH ⟨rfl,o.pk 2 [1]⟩⟩;refine dl<|cP<|bE<|b_<|d ?_;exact J<|f j▸⟨rfl,o.sp 2 [1]⟩;intro h h w j h;exact dx<|f j▸h;rintro k _ w j⟨n,rfl,o⟩;refine c ?_;exact f j▸bH ⟨rfl,o.pk 1 [0]⟩
def yR{a:aG z}{g:z->aP Bool}{res:aG z}(j:B E w (own 62 l a::V))(h1:R3 q E V r g (λ(h:Bool)=>Value.bool h))(o:kH N a g=O res):c_ 193 [l,r] w<|iD E V res:=by
 unfold kH at o;refine cI Tryz.func193 b b<|c ?_;have j:=j.pull 0;refine i o λh h o=>IN X8 (xy N j (h1.lift 1 b) h) λw j=>c ?_;refine u o (λo=>?_) λo=>?_;refine c ?_;obtain rfl:=f o;exact bH<|j.pk 2 [0];refine c ?_;refine m0 E V (λ(h:aG z×Int×Int)=>[own 62 l h.1]) (λh=>[(0,l),(5,e h.2.1)]) (λh=>[(1,r),(6,e h.2.2)]) o ?_ ?_ ?_;exact j.sp 2 [0];rintro h k _ w⟨n,rfl,j⟩o;refine c ?_;refine lc (i:=0) (l:=h.1) zt b j b b oH<|c ?_;refine u o (λo=>?_) λo=>?_;refine c ?_;refine i o λk k o=>ep 0 j b b iO k<|mt 0 j k gG λk j=>?_;refine f_ j rp.z λk w j=>?_;refine fv 0 j 1 b gG λw j=>?_;refine hO<|mv r<|eX 0 j b gG λk j=>?_;refine i o λk k o=>AC 0 j h1 4 k λw j=>d ?_;refine cJ<|i o λm k o=>dz (λ(m:aG z×Int)=>SH E V [(0,l),(1,r),(5,e m.2),(6,e h.2.2)] [own 62 l m.1]) m ?_ ?_;refine u k (λk=>?_) λk=>?_;refine c ?_;refine eX 1 j b gG λm j=>?_;refine i k λm m k=>ep 4 j b b iO m<|pz 4 0 j m gG λw j=>?_;refine cJ<|b_<|d ?_;exact J<|f k▸⟨rfl,j.sp 5 [4]⟩;exact dl<|f k▸⟨rfl,j.sp 4 [3]⟩;rintro _ w⟨n,rfl,j⟩;refine cP<|bE<|b_<|d ?_;exact J<|f o▸⟨rfl,j.sp 1 [0]⟩;exact fk<|f o▸⟨rfl,j.sp 1 [0]⟩;rintro h _ w o⟨n,rfl,j⟩;refine c ?_;refine i o λk k o=>O6 0 h.2.1 b j b b iO k<|WY 0 zt j b b Kh ado (UQ k) λw j=>c ?_;refine i o λh h o=>HH 0 b j b b iO (.inr ⟨rfl,b⟩) h λaz j=>c ?_;obtain rfl:=f o;exact bH<|j.pk 1 [0]
def CD{a g:z}(j:B E w V)(d:eo V i0 l a)(h1:eo V i1 r g)(o:j6 N a g=O res):c_ 232 [l,r] w<|aF E V res:=by
 unfold j6 at o;refine cI Tryz.func232 b b ?_;have j:=(j.dup (i0+0) d).dup (i1+1) h1;refine IT<|eh 1 l j b λd w j=>?_;refine eh 1 r j b λd w j=>?_;refine jU 0<|hO<|p b iI<|BY 1 j b dV n<|p b iI<|BY 0 j b dV n<|c ?_;exact f o▸bH ⟨rfl,j.drop 4⟩
def GY(E:aT)(V:aG HP)(l:F)(res:aG Int×aG z)(v:F)(w:aT):Prop:=B E w<|[own 3 v res.1,own 62 l res.2]++V
def FN{a:aG z}{res:aG Int×aG z}(j:B E w (own 62 l a::V))(k:mg N a=O res):c_ 196 [l] w<|GY E V l res:=by
 unfold mg at k;refine cI Tryz.func196 b b<|c ?_;obtain⟨s,o,k⟩:=bd k;have j:=j.pull 0;refine IN X7 (El Tryz.lay189 z gG.Tc gG.sz (eP Tryz.func232) (λj q g r=>CD N j q g r) j o) λw j=>c ?_;refine lc (i:=0) (l:=s) zt b j b b oH<|gV 0<|cJ ?_;have j:=j.cO Int 3;refine r_ E V (λ(o:aG Int)(q:F)=>[own 62 l s,own 3 q o]) (λ_ q=>[(0,l),(3,q)]) (λv _ _=>[(9,l),(10,e (Z s)),(11,e v)]) k ?_ ?_ ?_;exact⟨n_,j.sp 3 [1,0]⟩;rintro q v o q _ w q⟨t,x,rfl,j⟩k;refine cF<|k4<|i k λr q k=>ep 0 j b b iO q<|mt 0 j q gG λq j=>?_;refine f_ j rp.z λy w j=>?_;refine fv 0 j 1 b gG λw j=>?_;refine hO<|mv t<|lc (i:=3) (l:=o) zt b j b b oI<|tb (Z o:Int) 1<|jU (bK<|(Z o:Int) - 1)<|i4<|i k λq g k=>dz (λ(q:Bool)=>SH E V [(0,l),(3,t),(5,h y 0),(6,e<|bK<|(Z o:Int) - 1),(9,l),(10,e (Z s)),(11,e v),(28,vb q)] [own 62 l s,own 3 t o,bx 62 y r]) q ?_ ?_;refine k6 m ?_;have j:=j.drew;refine k5<|gV (bK<|(Z o:Int) - 1)<|a_<|ic (bK<|(Z o:Int) - 1) 0<|a_<|xh (kE<|bK ((Z o:Int) - 1)>=0)<|dU g (λq g=>?_) λq g=>?_;refine a_<|p b iI<|a_<|BY 0 j b dV n<|d ?_;refine i g λy y g=>ep 3 j b b eA y<|a_<|p8 (hg:=cg q) 3 j y n<|c ?_;exact f g▸⟨rfl,j.sp 4 [2,3,0]⟩;refine a_<|kR q<|a_<|kR q<|a_<|kR q<|a_<|kR q<|a_<|kR q<|a_<|kR q<|a_<|kR q<|a_<|NB q (vb aK)<|fp ?_;exact f g▸⟨rfl,j.sp 4 [2,3,0]⟩;rintro _ w⟨x,rfl,j⟩;refine bE<|i k λy g k=>dz (λ(y:aG Int)A w=>∃q:F,SH E V [(0,l),(3,q),(9,l),(10,e (Z s)),(11,e v)] [own 62 l s,own 3 q y] A w) y ?_ ?_;refine u g (λg=>?_) λg=>?_;refine jb m (jv 11 20000000000) (f0 0 11 []) ?_;have j:=j.drew;refine c ?_;refine i g λv s g=>ep 1 j b b eA s<|cX b<|p8 1 j s n<|cX b<|p b j7<|cX b<|BY 2 j b eQ n<|d ?_;refine i g λs s g=>ep 1 j b b eA s<|oy b ?_;have j:=j.sc Int (cV v r.X1);refine pz 2 0 j s n λw j=>?_;exact gj zt<|k7<|f g▸⟨rfl,t,j.sp 4 [1,2]⟩;refine b_<|mv t<|p b iI<|BY 2 j b dV n<|p b j7<|BY 2 j b eQ n ?_;have j:=(j.sc Int r.X0).sc Int r.X1;refine js ([r.X0,r.X1]:aG Int) j [e r.X0,e r.X1] eA L1 (λr r r=>⟨(r.sat 1 _ b).1,⟨(r.sat 0 _ b).1,zt⟩⟩) λr w j=>?_;have j:=j.freeze 0;refine i g λr r g=>j0 4 0 j xn r λr w j=>?_;exact xe r<|J<|f g▸⟨rfl,r,j.sp 6 [3,4]⟩;rintro _ w⟨q,x,rfl,j⟩;refine cP<|bE<|b_<|d ?_;exact J<|f k▸⟨rfl,q,j.sp 2 [0,1]⟩;rintro o _ w k⟨g,x,rfl,j⟩;refine c ?_;obtain rfl:=f k;exact bH<|j.pk 2 [1,0]
def ET{a:aG Int}{g:aG Int}{res:Bool}(j:B E w V)(h:eo V i0 l a)(h1:eo V i1 r g)(o:sf N a g=O res):c_ 231 [l,r] w<|aO E V res:=by
 unfold sf at o;refine cI Tryz.func231 b b ?_;have j:=(j.dup (i0+0) h).dup (i1+1) h1;refine c ?_;refine IS 1 a j oI<|mv r<|IS 0 g j oI<|c ?_;refine u o (λo=>?_) λo=>?_;refine c ?_;exact f o▸bH ⟨rfl,j.drop 2⟩;refine c ?_;refine IS 1 a j oI<|gV 0<|cJ<|md E V (λ(h:Unit)=>[Y l a,Y r g]) (λ_=>[]) (λk _=>[(0,l),(1,r),(12,e (Z a)),(13,e k)]) (λp=>j3 q 26 Tryz.f231 (aO E V p) .ret) o ?_ ?_ ?_ ?_;exact j.sp 2 [1,0];rintro s k h k _ w k⟨k,rfl,j⟩o;refine c ?_;refine k6 m ?_;have j:=j.drew;refine k5<|d ?_;refine i o λs t o=>By 0 j eA t λt j=>a_<|eY s 0 j n<|d ?_;refine i o λs t o=>By 2 j eA t λt j=>a_<|eY s 0 j n<|c ?_;refine u o (λo=>?_) λo=>?_;refine c ?_;exact f o▸⟨rfl,bH ⟨rfl,j.drop 4⟩⟩;refine dl<|cP<|bE<|b_<|d ?_;exact J<|f o▸⟨rfl,j.sp 4 [2,3]⟩;intro p p w o p;exact dx<|f o▸p;rintro h _ w o⟨k,rfl,j⟩;refine c ?_;exact f o▸bH ⟨rfl,j.drop 2⟩
def zd{a:aG aB}{g:aB}{res:aG aB}(o:B E w (own 263 l a::V))(h1:eo V i1 r g)(j:lI N a g=O res):c_ 195 [l,r] w<|sB E V res:=by
 unfold lI at j;refine cI Tryz.func195 b b ?_;have o:=o.dup (i1+1) h1;refine IT<|eh 0 r o b λq w o=>?_;refine c ?_;refine p b qZ<|em 0 o b fI fV λk o=>IS 0 g.Xs o oI<|d ?_;refine g7 aA ((Z g.Xs:Int)==0) (h q 1) rfl rfl rfl (cW tE)<|g7 aA ((Z g.Xs:Int)==0) (e g.Y1) rfl rfl rfl (bO 1 rfl o (by exact z_ (h q 1)) rfl iu n)<|g7 aA ((Z g.Xs:Int)==0) (h q 0) rfl rfl rfl (cW xo)<|g7 aA ((Z g.Xs:Int)==0) (e g.Y0) rfl rfl rfl (bO 1 rfl o (by exact z_ (h q 0)) rfl jY n)<|sg ?_;refine cJ<|u j (λj=>?_) λj=>?_;refine c ?_;obtain rfl:=f j;exact bH<|o.pk 4 [3];refine c ?_;refine lc (i:=3) (l:=a) zt b o b b wZ<|d ?_;refine i4<|i j λs k j=>dz (λ(s:Bool)=>SH E V [(0,l),(3,h q 0),(5,e<|bK<|(Z a:Int) - 1),(42,vb s)] [own 263 l a,bx 263 q g]) s ?_ ?_;refine jb m (jv 22 200000000000000000000) (f0 0 22 []) ?_;have o:=o.drew;refine ge b b<|gV (bK<|(Z a:Int) - 1)<|cX b<|ic (bK<|(Z a:Int) - 1) 0<|cX b<|xh (kE<|bK ((Z a:Int) - 1)>=0)<|dp<|dU k (λs k=>?_) λs k=>?_;refine c ?_;refine i k λt q k=>ep 3 o b b qo q<|cX b<|pe (α:=aB) (qM 3 o q 0) tE<|cX b<|sb 3 o (qM 3 o q 1) (eB q).2.1 iu n<|cX b<|p b xo<|cX b<|BY 1 o b jY n<|cX b<|G_ (a:=t.Y1) (b:=g.Y0) (cg s) b b b b<|cX b<|NB s (vb<|t.Y1==g.Y0)<|cX b<|xh (t.Y1==g.Y0)<|dp<|dU k (λs k=>?_) λs k=>?_;refine c ?_;refine i k λq q k=>ep 3 o b b qo q<|cX b<|pe (α:=aB) (qM 3 o q 0) qZ<|cX b<|ww (i:=3) (cg s) b o b (qM 3 o q 2) b (eB q).2.1 fI fV λq o=>?_;refine cX b<|p b qZ<|cX b<|em 2 o b fI fV λq o=>oy b<|i k λq q k=>IN (eP Tryz.func231) (ET N (i0:=1) (i1:=0) o b b q) λw o=>qY b<|c ?_;exact f k▸⟨rfl,o.sp 6 [5,3]⟩;refine ge b b<|d ?_;refine oy b<|d ?_;refine qY b<|c ?_;exact f k▸⟨rfl,o.sp 4 [3,1]⟩;refine ge b b<|d ?_;exact oy b<|QM<|qY b<|nt (b:=aK) (v:=vb aK) zt b b b<|dp<|k7<|f k▸⟨rfl,o.sp 4 [3,1]⟩;rintro _ w⟨k,rfl,o⟩;refine bE<|u j (λj=>?_) λj=>?_;refine c ?_;refine p b tE<|BY 1 o b iu n<|i j λk k j=>ep 0 o b b qo k<|pe (α:=aB) (qM 0 o k 0) tE ?_;have o:=o.sc Int g.Y1;refine La (i:=1) (j:=0) trivial o rfl rfl (qM 1 o k 1) rfl (eB k).2.1 rfl wJ I n λw o=>?_;refine c ?_;obtain rfl:=f j;exact bH<|o.pk 3 [1];refine p_<|mv l<|eX 1 o b GM λk o=>js ([g]:aG aB) o [k] qo Pp (λ_ _=>j4) λk w o=>?_;have o:=o.freeze 0;refine i j λk k j=>j0 2 0 o aaZ k λaz w o=>?_;refine c ?_;obtain rfl:=f j;exact bH<|o.pk 4 [2]
def rO{a:aG z}{res:aG aB}(j:B E w V)(g:eo V i0 l a)(o:j8 N a=O res):c_ 128 [l] w<|sB E V res:=by
 unfold j8 at o;refine cI Tryz.func128 b b ?_;have j:=j.dup (i0+0) g;refine c ?_;refine i o λg g o=>d7 (eP Tryz.func188) (Dq N (i0:=0) j b g) λr w j=>c ?_;obtain⟨y,g,o⟩:=bd o;have j:=j.pull 0;refine IN X7 (El Tryz.lay189 z gG.Tc gG.sz (eP Tryz.func190) (λj D q M=>GW N j D q M) j g) λw j=>hO<|Br j aaR λk w j=>?_;refine c ?_;refine lc (i:=1) (l:=y) zt b j b b oH<|gV 0<|cJ<|r_ E V (λ(s:aG Int)(g:F)=>[own 62 r y,bc 95 k [g],own 3 g s]) (λ_ _=>[(0,r),(3,h k 0)]) (λaz _ _=>[(14,r),(15,e (Z y)),(16,e az)]) o ?_ ?_ ?_;exact⟨n_,(j.cO Int 3).sp 5 [2,1,0]⟩;rintro g az s g _ w g⟨x,G,rfl,j⟩o;refine cF<|k4<|i o λg v o=>ep 0 j b b iO v<|mt 0 j v gG λv j=>?_;refine f_ j rp.z λv w j=>?_;refine fv 0 j 1 b gG λw j=>?_;refine cJ<|b_<|d9 3 x j fV<|p b iv<|BY 0 j b dL n<|p b lO<|BY 0 j b fS n ?_;have j:=(j.sc Int g.Y0).sc Int g.Y1;refine js ([g.Y0,g.Y1]:aG Int) j [e g.Y0,e g.Y1] eA L1 (λK Q A=>⟨(A.sat 1 _ b).1,⟨(A.sat 0 _ b).1,zt⟩⟩) λg w j=>?_;have j:=j.freeze 0;refine i o λg g o=>j0 7 0 j xn g λg w j=>?_;refine q5 6 g j b b (jX 7 j) fV λw j=>?_;refine J<|cP<|bE<|b_<|d ?_;exact J<|f o▸⟨rfl,g,j.sp 8 [5,6,7]⟩;rintro s _ w o⟨g,G,rfl,j⟩;refine bE<|IT<|d9 1 g j fV ?_;obtain⟨s,s,o⟩:=bd o;have j:=j.pull 2;refine IN (eP Tryz.func191) (VG Tryz.lay191 j s) λw j=>hO<|d9 2 g j fV ?_;have j:=j.pull 0;refine i o λs g o=>d7 (eP Tryz.func192) (CC N j g) λg w j=>q5 3 g j b b (jX 0 j) fV λw j=>?_;refine c ?_;refine f_ j L1.z λbk w j=>?_;have j:=j.sc Int 0;refine fv 1 j 0 b n λw j=>?_;refine cJ ?_;have j:=((((j.freeze 2).UN (i:=5) (x:=s) rfl<|λK Q A=>uI (A.sat 2 _ rfl).1).fw (i:=5) rfl).cO aB 263).cO z 62;refine i o λg P o=>zq (λ(g:aG aB×aG z×Int×Int)v w=>∃(x C:F)(H:Nat),SH E V [(0,r),(3,h k 0),(6,x),(7,C),(8,e g.2.2.1),(9,h H 0)] [own 62 r y,pt (h k 0) s,own 263 x g.1,own 62 C g.2.1,bx 3 H g.2.2.2] v w) (λ(g:aG aB×aG z×Int×Int)v w=>∃L:F,SH E V [(6,L)] [own 62 r y,pt (h k 0) s,own 263 L g.1] v w) (λ(I:Empty)_ _=>I.elim) P ?_ ?_ ?_ ?_;exact⟨n_,n_,bk,j.sp 9 [6,7,1,0,3]⟩;rintro g R _ w⟨C,v,H,G,rfl,j⟩o;refine cF<|IT<|BY (f:=(λx=>x)) 4 j b Fd.self n<|d ?_;refine t 1 s j fV λv j=>IS 0 s j oI<|c ?_;refine u o (λo=>?_) λo=>?_;refine c ?_;have j:=j.fw (i:=5) rfl;refine yl [h k 0,h H 0] ?_;have j:=j.pull 4;refine i o λv P o=>d7 (eP Tryz.func193) (yR N j ⟨194,[h k 0,h H 0],rfl,(eP Tryz.func194),λw v S S I S j D M=>by exact fE (GX N (i0:=S) (i1:=Z v+2) (i2:=Z v+5) j D Fy Fy M) λ_ _ v=>v⟩ P) λP w j=>xe P<|i4<|ol E V (λ(D:aG z×Int)(M:F)=>[own 62 r y,pt (h k 0) s,own 263 C g.1,pt (h H 0) g.2.2.2,own 62 M D.1]) (λD M=>[(0,r),(3,h k 0),(6,C),(7,M),(8,e D.2),(9,h H 0)]) (λ_ _=>[]) o ?_ ?_ ?_;exact⟨P,j.sp 7 [2,3,4,6,0]⟩;rintro D R _ w⟨M,G,rfl,j⟩o;refine cF<|cF<|i o λP q o=>dz (λ(P:Bool)=>SH E V [(0,r),(3,h k 0),(6,C),(7,M),(8,e D.2),(9,h H 0),(57,vb P)] [own 62 r y,pt (h k 0) s,own 263 C g.1,own 62 M D.1,pt (h H 0) g.2.2.2]) P ?_ ?_;refine k6 m ?_;have j:=j.drew;refine k5<|d ?_;refine lc (i:=0) (l:=y) zt b j b b oH<|d ?_;refine dU q (λk q=>?_) λk q=>?_;refine d ?_;refine i q λk k q=>ep 0 j b b iO k<|a_<|pe (α:=z) (qM 0 j k 0) iv<|a_<|sb 0 j (qM 0 j k 1) (eB k).2.1 dL n<|a_<|t 1 s j fV λk j=>?_;refine a_<|eY g.2.2.2 4 j n<|a_<|i q λk r q=>By 0 j eA r λr j=>a_<|eY k 0 j n<|c ?_;exact f q▸⟨rfl,j.sp 7 [2,3,4,6,5]⟩;refine c ?_;exact f q▸⟨rfl,j.sp 5 [0,1,2,4,3]⟩;rintro _ w⟨G,rfl,j⟩;refine bE<|u o (λo=>?_) λo=>?_;refine rx<|dt<|c ?_;refine i o λq k o=>ep 0 j b b iO k<|mt 0 j k gG λk j=>?_;refine js ([q]:aG z) j [k] iO rp (λ_ _=>j4) λk w j=>?_;have j:=j.freeze 0;refine i o λk k o=>j0 5 0 j Kh k λk w j=>?_;refine d ?_;exact J<|cP<|f o▸⟨rfl,k,j.sp 7 [2,3,4,6,5]⟩;exact fk<|f o▸⟨rfl,M,j.sp 5 [0,1,2,4,3]⟩;rintro D _ w o⟨r,G,rfl,j⟩;refine bE<|jb m (jv 15 20201111111111) (f0 0 15 []) ?_;have j:=j.drew;refine ek C b (λw=>i8 C dT)<|rR s 1 b j fV λk k k j=>uH g.2.2.2 5 b j n λk cv j=>?_;refine i o λk q o=>um 2 b j eA q λq j=>uH k 0 b j n λq q j=>rR s 6 b j fV λq q q j=>uH g.2.2.2 10 b j n λq q j=>ek (e<|bK<|g.2.2.2+1) b (λw=>tb g.2.2.2 1 dT)<|i o λq s o=>um 2 b j eA s λs j=>uH q 0 b j n λs s j=>ge b b<|mv r<|oy b ?_;have j:=j.pull 14;refine i o λs y o=>d7 (eP Tryz.func196) (FN N j y) λy w j=>gj (⟨⟨⟨⟨⟨⟨zt,j.gE 10⟩,j.gE 9⟩,j.gE 7⟩,j.gE 5⟩,j.gE 4⟩,j.gE 2⟩)<|ge b b ?_;have j:=((j.sc Int k).sc Int q).freeze 2;refine lw (⟨k,q,s.1⟩:aB) trivial rfl j [(0,e k),(1,e q),(2,y)] rfl X9 rfl (λK Q A=>by have v:=GI K;exact cC.cons (f:=λ(x:aB)k=>{x with Y0:=k}) v Cj (A.sat 1 _ rfl).1 λ_ v=>cC.cons (f:=λ(x:aB)k=>{x with Y1:=k}) v wJ (A.sat 0 _ rfl).1 λ_ v=>cC.cons (f:=λ(x:aB)k=>{x with Xs:=k}) v Ck (A.sat 2 _ rfl).1 λ_ v=>cC.nil v) λk j=>?_;refine oy b ?_;have j:=j.pull 17;refine i o λk k o=>d7 Ya (zd N (i1:=0) j b k) λk w j=>gj (⟨⟨⟨⟨⟨⟨zt,j.gE 14⟩,j.gE 13⟩,j.gE 11⟩,j.gE 9⟩,j.gE 8⟩,j.gE 6⟩)<|c ?_;have j:=j.pl 21 [0,1,2,3,4,5,7,10,12,15,16,17,18,19,20];refine c ?_;refine eY g.2.2.2 13 j n<|cJ<|b_<|f_ j L1.z λq w j=>?_;have j:=j.sc Int g.2.2.2;refine fv 1 j 0 b n λw j=>?_;refine cJ<|b_<|BY (f:=(λx=>x)) 1 j b Fd.self n<|d ?_;have j:=j.sc Int<|bK<|g.2.2.2+1;refine Nx 2 j b b b 0 b n λw j=>?_;exact J<|f o▸⟨rfl,k,r,q,j.sp 18 [13,14,3,8,2]⟩;exact fk<|f o▸⟨rfl,C,j.sp 6 [1,2,3]⟩;intro I _ _ _ _;exact I.elim;rintro g _ w rfl⟨L,G,rfl,j⟩;rw[Fo.OX]at o;refine c ?_;obtain rfl:=f o;exact bH<|j.pk 3 [2]
def tQ{a:aG aB}{res:aG z}(j:B E w V)(g:eo V i0 l a)(o:mh N a=O res):c_ 129 [l] w<|iD E V res:=by
 unfold mh at o;refine cI Tryz.func129 b b ?_;have j:=j.dup (i0+0) g;refine c ?_;refine IS 0 a j wZ<|gV 0<|cJ<|r_ E V (λ(C:aG z)(g:F)=>[Y l a,own 62 g C]) (λ_ g=>[(3,g)]) (λk _ _=>[(7,l),(8,e (Z a)),(9,e k)]) o ?_ ?_ ?_;exact⟨n_,(j.cO z 62).sp 2 [1,0]⟩;rintro g k C g _ w g⟨v,A,rfl,j⟩o;refine cF<|k4<|i o λg q o=>By 0 j qo q λaz j=>t 0 g j GM λq j=>f_ j Pp.z λr w j=>?_;refine fv 0 j 1 b GM λw j=>?_;refine c ?_;refine ol E V (λ(s:aG z×Int)(q:F)=>[bx 263 r g,Y l a,own 62 q s.1]) (λ_ q=>[(3,q),(7,l),(8,e (Z a)),(9,e k)]) (λs _=>[(5,h r 0),(6,e s.2)]) o ?_ ?_ ?_;exact⟨v,j.sp 5 [0,3,4]⟩;rintro s k _ w⟨D,A,rfl,j⟩o;refine c ?_;refine p b qZ<|em 0 j b fI fV λk j=>IS 0 g.Xs j oI<|c ?_;refine u o (λo=>?_) λo=>?_;refine hG<|dt<|jb m (jv 20 2200000000000000001) (f0 0 20 []) ?_;have j:=j.drew;refine ek D b (λw=>i8 D dT)<|ge b b<|p b qZ<|cX b<|em 1 j b fI fV λk j=>d ?_;refine i o λv k o=>By 0 j eA k λk j=>cX b<|eY v 0 j n<|cX b<|p b xo<|cX b<|BY 3 j b jY n<|cX b<|p b qZ<|cX b<|em 3 j b fI fV λk j=>d ?_;refine i o λx k o=>By 0 j eA k λk j=>cX b<|eY x 0 j n<|cX b<|p b tE<|cX b<|BY 5 j b iu n<|cX b ?_;have j:=(((j.sc Int v).sc Int g.Y0).sc Int x).sc Int g.Y1;refine lw (⟨v,g.Y0,x,g.Y1⟩:z) trivial rfl j [(0,e v),(1,e g.Y0),(2,e x),(3,e g.Y1)] rfl L2 rfl (λq k y=>by have k:=yc q;exact cC.cons (f:=λ(q:z)r=>{q with X0:=r}) k tY (y.sat 3 _ rfl).1 λ_ k=>cC.cons (f:=λ(q:z)r=>{q with Y0:=r}) k vx (y.sat 2 _ rfl).1 λ_ k=>cC.cons (f:=λ(q:z)r=>{q with X1:=r}) k su (y.sat 1 _ rfl).1 λ_ k=>cC.cons (f:=λ(q:z)r=>{q with Y1:=r}) k tZ (y.sat 0 _ rfl).1 λ_ k=>cC.nil k) λk j=>?_;refine oy b<|js ([(⟨v,g.Y0,x,g.Y1⟩:z)]:aG z) j [k] iO rp (λ_ _=>j4) λg w j=>QL b ?_;have j:=j.freeze 0;refine i o λg g o=>j0 13 0 j Kh g λg w j=>?_;refine qY b<|xe g<|dp<|k7<|cP<|bE<|b_<|d ?_;exact J<|f o▸⟨rfl,g,j.sp 14 [11,12,13]⟩;exact fk<|f o▸⟨rfl,D,j.sp 4 [1,2,3]⟩;rintro s _ w o⟨g,A,rfl,j⟩;refine cP<|bE<|b_<|d ?_;exact J<|f o▸⟨rfl,g,j.sp 3 [1,2]⟩;rintro C _ w o⟨g,A,rfl,j⟩;refine c ?_;obtain rfl:=f o;exact bH<|j.pk 2 [1]
def Ds{a:aG z}{g:aG z}{res:Bool}(j:B E w V)(h:eo V i0 l a)(h1:eo V i1 r g)(o:nZ N a g=O res):c_ 127 [l,r] w<|aO E V res:=by
 unfold nZ at o;refine cI Tryz.func127 b b ?_;have j:=(j.dup (i0+0) h).dup (i1+1) h1;refine c ?_;refine IS 1 a j oH<|mv r<|IS 0 g j oH<|c ?_;refine u o (λo=>?_) λo=>?_;refine c ?_;exact f o▸bH ⟨rfl,j.drop 2⟩;refine c ?_;refine IS 1 a j oH<|gV 0<|cJ<|md E V (λ(h:Unit)=>[Y l a,Y r g]) (λ_=>[]) (λk _=>[(0,l),(1,r),(12,e (Z a)),(13,e k)]) (λp=>j3 q 26 Tryz.f127 (aO E V p) .ret) o ?_ ?_ ?_ ?_;exact j.sp 2 [1,0];rintro n k h k _ w k⟨s,rfl,j⟩o;refine c ?_;refine k6 m ?_;have j:=j.drew;refine k5<|d ?_;refine i o λk n o=>By 0 j iO n λn j=>a_<|t 0 k j gG λn j=>d ?_;refine i o λn v o=>By 3 j iO v λv j=>a_<|t 0 n j gG λv j=>a_<|HF 2 0 k n b j b b b b Yb b<|fp<|bE<|u o (λo=>?_) λo=>?_;refine c ?_;exact f o▸⟨rfl,bH ⟨rfl,j.drop 6⟩⟩;refine dl<|cP<|bE<|b_<|d ?_;exact J<|f o▸⟨rfl,j.sp 6 [4,5]⟩;intro p k w o k;exact dx<|f o▸k;rintro h _ w o⟨s,rfl,j⟩;refine c ?_;exact f o▸bH ⟨rfl,j.drop 2⟩
def wm{a:aG z}(j:B E w V)(g:eo V i0 l a)(o:lX N a=O res):c_ 71 [l] w<|aF E V res:=by
 unfold lX at o;refine cI Tryz.func71 b b ?_;have j:=j.dup (i0+0) g;refine c ?_;refine i o λg g o=>IN (eP Tryz.func126) (ES N (i0:=0) j b g) λw j=>c ?_;refine u o (λo=>?_) λo=>?_;refine c ?_;exact f o▸bH ⟨rfl,j.drop 1⟩;refine c ?_;refine pr E V (λ(R:Int)=>[Y l a]) (λ_=>[(0,l)]) (λR=>[(4,e R)]) (λT=>j3 q 52 Tryz.f71 (aF E V T) .ret) o ?_ ?_ ?_ ?_;exact j.sp 1 [0];rintro R g _ w⟨Q,rfl,j⟩o;refine c ?_;refine IS 0 a j oH<|c ?_;refine u o (λo=>?_) λo=>?_;refine hG<|dt<|cF ?_;obtain⟨K,S,o⟩:=bd o;refine i o λL U o=>q_ E V m [1,1,1,0,0,1,1,0,0,0,0,0,0] [3,4,7,8,9,10,11,12] (λ(s:F×F×F×F×Nat×Nat)=>(λx A C D k r=>[(0,18,l),(1,19,e R),(2,20,e<|bK<|R - 1),(3,21,x),(4,22,A),(5,23,l),(6,24,e R),(7,25,C),(8,26,D),(9,5,h k 0),(10,6,h r 0)]) s.1 s.2.1 s.2.2.1 s.2.2.2.1 s.2.2.2.2.1 s.2.2.2.2.2) [(0,l),(4,e R)] [] (λ(g:Nat->Bool)(s:F×F×F×F×Nat×Nat)=>(λx A C D k r=>[bif g 0 then pt x K else aW,bif g 1 then Y A K else aW,bif g 2 then pt C L else aW,bif g 3 then Y D L else aW,bif g 6 then bx 62 k K else(bif g 4 then k3 62 k 4 else aW),bif g 7 then bx 62 r L else(bif g 5 then k3 62 r 4 else aW),Y l a]) s.1 s.2.1 s.2.2.1 s.2.2.2.1 s.2.2.2.2.1 s.2.2.2.2.2) (λs=>by kernel_rfl) ?_ ⟨λ_=>jd gn,λ_=>jd gn,λ_=>W7 gn rfl,?_,?_,λ_=>jd gn,λ_=>jd gn,?_,?_,?_,?_,?_,?_,trivial⟩ ?_;exact⟨(undef,undef,undef,undef,0,0),eT.none,J9 b,zt,((((((j.drew).aW).aW).aW).aW).aW).aW⟩;rintro g M w G v P⟨⟨x,A,C,D,k,r⟩,s,H,_,j⟩;obtain⟨Q,rfl⟩:=s.o2 0 2 v;have j:=j.bZ 0 G;refine By 6 j iO S λaz j=>?_;exact y (az,A,C,D,k,r) 3 s H (j.nw 0);rintro g M w G v P⟨⟨x,A,C,D,k,r⟩,s,H,_,j⟩;obtain⟨Q,rfl⟩:=s.o1 3 v;have j:=(j.dF 0<|v.1 rfl).bZ 1 G;refine t 0 K j gG λS j=>?_;exact y (x,S,C,D,k,r) 4 s H (((j.pl 8 [1,0,3,4,5,6,7]).cL 0 (g 3) (v.1 rfl) aW).cL 1 aA rfl aW);rintro g M w G v P⟨⟨x,A,C,D,k,r⟩,s,H,_,j⟩;obtain⟨Q,rfl⟩:=s.o2 5 6 v;have j:=j.bZ 2 G;refine By 6 j iO U λS j=>?_;exact y (x,A,S,D,k,r) 7 s H (j.nw 2);rintro g M w G v P⟨⟨x,A,C,D,k,r⟩,s,H,_,j⟩;obtain⟨Q,rfl⟩:=s.o1 7 v;have j:=(j.dF 2<|v.1 rfl).bZ 3 G;refine t 2 L j gG λS j=>?_;exact y (x,A,C,S,k,r) 8 s H (((j.pl 8 [1,2,3,0,5,6,7]).cL 2 (g 7) (v.1 rfl) aW).cL 3 aA rfl aW);rintro g M w G v P⟨⟨x,A,C,D,k,r⟩,s,H,_,j⟩;obtain⟨Q,rfl⟩:=Tj M;have j:=(j.bZ 4<|nh P G 11).bZ 4 G;refine f_ j rp.z λS w j=>?_;exact y (x,A,C,D,S,r) 9 s H ((j.nw 4).fO 4 (g 11) (nh P G 11)<|bx 62 S K);rintro g M w G v P⟨⟨x,A,C,D,k,r⟩,s,H,_,j⟩;obtain⟨Q,rfl⟩:=Tj M;have j:=(j.bZ 5<|nh P G 12).bZ 5 G;refine f_ j rp.z λS w j=>?_;exact y (x,A,C,D,k,S) 10 s H ((j.nw 5).fO 5 (g 12) (nh P G 12)<|bx 62 S L);rintro g M w G v P⟨⟨x,A,C,D,k,r⟩,s,H,_,j⟩;obtain⟨Q,rfl⟩:=s.o2 9 4 v;have j:=((j.dF 1<|v.2.1 rfl).bZ 4 G).dF 4<|v.1 rfl;refine fv 4 j 1 b gG λw j=>?_;exact qr (x,A,C,D,k,r) s H ((j.cL 1 (g 4) (v.2.1 rfl) aW).cL 4 aA rfl (bif g 9 then k3 62 k 4 else aW));rintro g M w G v P⟨⟨x,A,C,D,k,r⟩,s,H,_,j⟩;obtain⟨Q,rfl⟩:=s.o2 10 8 v;have j:=((j.dF 3<|v.2.1 rfl).bZ 5 G).dF 5<|v.1 rfl;refine fv 5 j 3 b gG λw j=>?_;exact qr (x,A,C,D,k,r) s H ((j.cL 3 (g 8) (v.2.1 rfl) aW).cL 5 aA rfl (bif g 10 then k3 62 r 4 else aW));rintro g M w g⟨⟨x,A,C,D,k,r⟩,s,H,_,j⟩;simp only[List.getD_cons_zero,List.getD_cons_succ,g 3 I,g 4 I,g 7 I,g 8 I,g 11 I,g 12 I,aN]at j;obtain⟨Q,rfl⟩:=(ac (s.at 9 rfl<|tL g 9)<|ac (s.at 10 rfl<|tL g 10) H).v8;refine bE<|IT<|p b iv<|BY 5 j b dL n<|p b iv<|BY 4 j b dL n<|d ?_;refine g7 aA (L.Y0<K.Y0) (h r 1) rfl rfl rfl (cW iv)<|g7 aA (L.Y0<K.Y0) (e L.Y0) rfl rfl rfl (bO 5 rfl j (by exact z_ (h r 1)) rfl dL n)<|g7 aA (L.Y0<K.Y0) (h k 1) rfl rfl rfl (cW iv)<|g7 aA (L.Y0<K.Y0) (e K.Y0) rfl rfl rfl (bO 4 rfl j (by exact z_ (h k 1)) rfl dL n)<|dq (vb<|L.Y0==K.Y0) rfl rfl (hB .eql)<|dq (vb<|L.Y0==K.Y0) rfl rfl eL<|dv (h r 0) rfl rfl (cW iI)<|dv (e L.X0) rfl rfl (bO 5 rfl j (by exact z_ (h r 0)) rfl dV n)<|dv (h k 0) rfl rfl (cW iI) ?_;refine dv (e K.X0) rfl rfl (bO 4 rfl j (by exact z_ (h k 0)) rfl dV n)<|sg ?_;refine cJ<|u o (λo=>?_) λo=>?_;refine c ?_;exact f o▸⟨rfl,bH ⟨rfl,j.drop 7⟩⟩;refine dl<|cP<|bE<|b_<|d ?_;exact J<|f o▸⟨rfl,j.sp 7 [6]⟩;exact fk<|f o▸⟨rfl,j.sp 1 [0]⟩;intro T M w o g;exact dx<|f o▸g;rintro R _ w o⟨Q,rfl,j⟩;refine c ?_;refine i o λg g o=>d7 Pq (rO N (i0:=0) j b g) λg w j=>?_;have j:=j.freeze 0;refine i o λg g o=>d7 U8 (tQ N (i0:=0) j b g) λbc w j=>mv l ?_;have j:=j.freeze 0;refine i o λg g o=>IN (eP Tryz.func127) (Ds N (i0:=0) (i1:=2) j b b g) λw j=>c ?_;refine u o (λo=>?_) λo=>?_;refine c ?_;exact f o▸bH ⟨rfl,j.drop 3⟩;refine c ?_;exact f o▸bH ⟨rfl,j.drop 3⟩
def sE{res:Bool}(o:B E w V)(j:kB N a g p2=O res):c_ 131 [e a,e g,e p2] w<|aO E V res:=by
 unfold kB at j;refine cI Tryz.func131 b b<|IT<|mj aK<|hO<|sg ?_;exact cJ<|dw<|f j▸bH ⟨rfl,o.drop 0⟩
def Aj{a:dP}{res:Bool}(j:B E w V)(c:eo V i0 l a)(e:mF N a=O res):c_ 132 [l] w<|aO E V res:=by
 unfold mF at e;refine cI Tryz.func132 b b ?_;have j:=j.dup (i0+0) c;refine IT<|eh 0 l j b λc w j=>?_;refine mj aK<|i4<|i e λg c e=>dz (λ(g:Bool)=>SH E V [(2,vb g)] []) g ?_ ?_;refine b_<|p b o9<|BY 0 j b gN n<|i c λg h c=>IN MD (qJ N (a:=a.X) j h) λw j=>xh g<|dU c (λg c=>?_) λg c=>?_;refine p b m7<|BY 0 j b fN n<|i c λg g c=>IN MD (qJ N (a:=a.Y) j g) λw j=>d ?_;exact J<|f c▸⟨rfl,j.sp 2 []⟩;refine d ?_;exact J<|f c▸⟨rfl,j.sp 2 []⟩;rintro _ w⟨c,rfl,j⟩;exact bE<|dw<|f e▸bH ⟨rfl,j.drop 0⟩
end Go.Gk
namespace Go.Gk
open Go IntKind Go.Proofs
variable (N:Nat){E w:aT}{b1 i0 i1:Nat}{a g p2 p3 res:Int}{l r s k:F}{V:aG HP}
def lr{a:cM}{res:z}(j:B E w V)(g:eo V i0 l a)(o:jh N a=O res):c_ 75 [l] w<|uV E V res:=by
 unfold jh at o;refine cI Tryz.func75 b b ?_;have j:=j.dup (i0+0) g;refine IT<|eh 0 l j b λg w j=>?_;refine f_ j rp.z λg w j=>?_;refine i4<|k6 m ?_;have j:=j.drew;refine k5<|p b Eb<|a_<|p b o9<|a_<|BY (f:=(λg=>g.At.X)) 1 j b (Fd.comp (f:=λ(g:cM)=>g.At) (λ(g:dP)=>g.X) xK gN) n<|a_<|p b vR<|a_<|BY 1 j b qF n<|a_<|BA a.gK 2<|d ?_;refine p b Eb<|a_<|p b m7<|a_<|BY (f:=(λg=>g.At.Y)) 1 j b (Fd.comp (f:=λ(g:cM)=>g.At) (λ(g:dP)=>g.Y) xK fN) n<|a_<|p b vR<|a_<|BY 1 j b qF n<|a_<|BA a.gK 2<|c ?_;refine p b vR<|BY 1 j b qF n<|d ?_;refine p b vR<|BY 1 j b qF n<|d ?_;have j:=((j.sc Int<|bK<|a.At.X -(bK<|Int.tdiv a.gK 2)).sc Int<|bK<|a.At.Y -(bK<|Int.tdiv a.gK 2)).sc Int<|bK<|bK (a.At.X -(bK<|Int.tdiv a.gK 2))+a.gK;have j:=j.sc Int<|bK<|bK (a.At.Y -(bK<|Int.tdiv a.gK 2))+a.gK;refine lw (⟨bK<|a.At.X -(bK<|Int.tdiv a.gK 2),bK<|a.At.Y -(bK<|Int.tdiv a.gK 2),bK<|bK (a.At.X -(bK<|Int.tdiv a.gK 2))+a.gK,bK<|bK (a.At.Y -(bK<|Int.tdiv a.gK 2))+a.gK⟩:z) trivial rfl j [(0,e<|bK<|a.At.X -(bK<|Int.tdiv a.gK 2)),(1,e<|bK<|a.At.Y -(bK<|Int.tdiv a.gK 2)),(2,e<|bK<|bK (a.At.X -(bK<|Int.tdiv a.gK 2))+a.gK),(3,e<|bK<|bK (a.At.Y -(bK<|Int.tdiv a.gK 2))+a.gK)] rfl L2 rfl (λi h k=>by have h:=yc i;exact cC.cons (f:=λ(g:z)i=>{g with X0:=i}) h tY (k.sat 3 _ rfl).1 λ_ h=>cC.cons (f:=λ(g:z)i=>{g with Y0:=i}) h vx (k.sat 2 _ rfl).1 λ_ h=>cC.cons (f:=λ(g:z)i=>{g with X1:=i}) h su (k.sat 1 _ rfl).1 λ_ h=>cC.cons (f:=λ(g:z)i=>{g with Y1:=i}) h tZ (k.sat 0 _ rfl).1 λ_ h=>cC.nil h) λg j=>?_;refine fv 5 j 0 b gG λw j=>?_;refine cJ<|dw ?_;obtain rfl:=f o;exact ON 5 j gG λg j=>j.pk 9 [0]
def EW{a:aG aB}{res:z}(j:B E w V)(g:eo V i0 l a)(T:sj N a=O res):
    c_ 233 [l] w<|uV E V res:=by
 unfold sj at T
 refine cI Tryz.func233 b b ?_
 have j:=j.dup (i0+0) g
 refine IT<|f_ j rp.z λbf w j=>?_
 refine i4 ?_
 obtain⟨bh,bm,T⟩:=bd T
 obtain⟨X,bn,T⟩:=bd T
 obtain⟨U,bo,T⟩:=bd T
 obtain⟨bj,bp,T⟩:=bd T
 obtain⟨bc,bq,T⟩:=bd T
 obtain⟨W,br,T⟩:=bd T
 refine q_ E V m [1,0,0,0,0,0,1,0,0,0,1,0,0,0,0,0,1,1,0,1,0,0,0,0,0,0] [1,2,3,4,7,8,11,12,13,14,20,21,23,24,25] (λ(r:F×F×F×F×F×F×F×F×F×F×F×F×F×Nat)=>(λu v x A C D G H K L M P Q q=>[(0,6,l),(1,7,u),(2,8,v),(3,9,x),(4,10,A),(5,11,e X),(6,12,l),(7,13,C),(8,14,D),(9,15,e U.Y0),(10,16,l),(11,17,G),(12,18,H),(13,19,K),(14,20,L),(15,21,e bc),(16,22,l),(17,23,l),(18,24,e (Z a)),(19,25,e<|bK<|(Z a:Int) - 1),(20,26,M),(21,27,P),(22,28,e W.Y1),(23,29,Q),(24,3,h q 0)]) r.1 r.2.1 r.2.2.1 r.2.2.2.1 r.2.2.2.2.1 r.2.2.2.2.2.1 r.2.2.2.2.2.2.1 r.2.2.2.2.2.2.2.1 r.2.2.2.2.2.2.2.2.1 r.2.2.2.2.2.2.2.2.2.1 r.2.2.2.2.2.2.2.2.2.2.1 r.2.2.2.2.2.2.2.2.2.2.2.1 r.2.2.2.2.2.2.2.2.2.2.2.2.1 r.2.2.2.2.2.2.2.2.2.2.2.2.2) [(0,l),(2,h bf 0)] [] (λ(k:Nat->Bool)(r:F×F×F×F×F×F×F×F×F×F×F×F×F×Nat)=>(λu v x A C D G H K L M P Q q=>[bif k 0 then pt u bh else aW,bif k 1 then pt v bh.Xs else aW,bif k 2 then Y x bh.Xs else aW,bif k 3 then pt A X else aW,bif k 4 then pt C U else aW,bif k 5 then pt D U.Y0 else aW,bif k 6 then pt G bj else aW,bif k 7 then pt H bj.Xs else aW,bif k 8 then Y K bj.Xs else aW,bif k 9 then pt L bc else aW,bif k 10 then pt M W else aW,bif k 11 then pt P W.Y1 else aW,bif k 12 then Y Q (⟨X,U.Y0,bc,W.Y1⟩:z)else aW,bif k 14 then bx 62 q (⟨X,U.Y0,bc,W.Y1⟩:z)else(bif k 13 then k3 62 q 4 else aW),k3 62 bf 4,Y l a]) r.1 r.2.1 r.2.2.1 r.2.2.2.1 r.2.2.2.2.1 r.2.2.2.2.2.1 r.2.2.2.2.2.2.1 r.2.2.2.2.2.2.2.1 r.2.2.2.2.2.2.2.2.1 r.2.2.2.2.2.2.2.2.2.1 r.2.2.2.2.2.2.2.2.2.2.1 r.2.2.2.2.2.2.2.2.2.2.2.1 r.2.2.2.2.2.2.2.2.2.2.2.2.1 r.2.2.2.2.2.2.2.2.2.2.2.2.2) (λr=>by kernel_rfl) ?_ ⟨λ_=>jd gn,?_,?_,?_,?_,?_,λ_=>jd gn,?_,?_,?_,λ_=>jd gn,?_,?_,?_,?_,?_,λ_=>jd gn,λ_=>jd gn,?_,λ_=>W7 gn rfl,?_,?_,?_,?_,?_,?_,trivial⟩ ?_
 ·have j:=((((((((((((j.drew).aW).aW).aW).aW).aW).aW).aW).aW).aW).aW).aW).aW
  have j:=(j.aW).aW
  exact⟨(undef,undef,undef,undef,undef,undef,undef,undef,undef,undef,undef,undef,undef,0),eT.none,J9 b,zt,j⟩
 ·rintro k S w p i s⟨⟨u,v,x,A,C,D,G,H,K,L,M,P,Q,q⟩,g,o,_,j⟩
  dsimp only at g j
  obtain⟨R,rfl⟩:=g.o1 0 i
  have j:=j.bZ 0 p
  refine By 15 j qo bm λbt j=>?_
  have j:=j.nw 0
  exact y (bt,v,x,A,C,D,G,H,K,L,M,P,Q,q) 1 g o j
 ·rintro k S w p i s⟨⟨u,v,x,A,C,D,G,H,K,L,M,P,Q,q⟩,g,o,_,j⟩
  dsimp only at g j
  obtain⟨R,rfl⟩:=g.o1 1 i
  have j:=(j.dF 0<|i.1 rfl).bZ 1 p
  refine fq 0 j b qZ fI λbu j=>?_
  have j:=((j.pl 17 [1,0,3,4,5,6,7,8,9,10,11,12,13,14,15,16]).cL 0 (k 1) (i.1 rfl) aW).cL 1 aA rfl aW
  exact y (u,bu,x,A,C,D,G,H,K,L,M,P,Q,q) 2 g o j
 ·rintro k S w p i s⟨⟨u,v,x,A,C,D,G,H,K,L,M,P,Q,q⟩,g,o,_,j⟩
  dsimp only at g j
  obtain⟨R,rfl⟩:=g.o1 2 i
  have j:=(j.dF 1<|i.1 rfl).bZ 2 p
  refine t 1 bh.Xs j fV λbw j=>?_
  have j:=((j.pl 17 [1,2,0,4,5,6,7,8,9,10,11,12,13,14,15,16]).cL 1 (k 2) (i.1 rfl) aW).cL 2 aA rfl aW
  exact y (u,v,bw,A,C,D,G,H,K,L,M,P,Q,q) 3 g o j
 ·rintro k S w p i s⟨⟨u,v,x,A,C,D,G,H,K,L,M,P,Q,q⟩,g,o,_,j⟩
  dsimp only at g j
  obtain⟨R,rfl⟩:=g.o1 3 i
  have j:=(j.dF 2<|i.1 rfl).bZ 3 p
  refine By 2 j eA bn λbz j=>?_
  have j:=((j.pl 17 [1,2,3,0,5,6,7,8,9,10,11,12,13,14,15,16]).cL 2 (k 3) (i.1 rfl) aW).cL 3 aA rfl aW
  exact y (u,v,x,bz,C,D,G,H,K,L,M,P,Q,q) 4 g o j
 ·rintro k S w p i s⟨⟨u,v,x,A,C,D,G,H,K,L,M,P,Q,q⟩,g,o,_,j⟩
  dsimp only at g j
  obtain⟨R,rfl⟩:=g.o1 4 i
  have j:=j.dF 3<|i.1 rfl
  refine eY X 3 j n ?_
  have j:=j.cL 3 (k 4) (i.1 rfl) aW
  exact y (u,v,x,A,C,D,G,H,K,L,M,P,Q,q) 5 g o j
 ·rintro k S w p i s⟨⟨u,v,x,A,C,D,G,H,K,L,M,P,Q,q⟩,g,o,_,j⟩
  dsimp only at g j
  obtain⟨R,rfl⟩:=g.o1 6 i
  have j:=j.bZ 4 p
  refine By 15 j qo bo λb0 j=>?_
  have j:=j.nw 4
  exact y (u,v,x,A,b0,D,G,H,K,L,M,P,Q,q) 7 g o j
 ·rintro k S w p i s⟨⟨u,v,x,A,C,D,G,H,K,L,M,P,Q,q⟩,g,o,_,j⟩
  dsimp only at g j
  obtain⟨R,rfl⟩:=g.o1 7 i
  have j:=(j.dF 4<|i.1 rfl).bZ 5 p
  refine fq 4 j b xo jY λb2 j=>?_
  have j:=((j.pl 17 [1,2,3,4,5,0,7,8,9,10,11,12,13,14,15,16]).cL 4 (k 7) (i.1 rfl) aW).cL 5 aA rfl aW
  exact y (u,v,x,A,C,b2,G,H,K,L,M,P,Q,q) 8 g o j
 ·rintro k S w p i s⟨⟨u,v,x,A,C,D,G,H,K,L,M,P,Q,q⟩,g,o,_,j⟩
  dsimp only at g j
  obtain⟨R,rfl⟩:=g.o1 8 i
  have j:=j.dF 5<|i.1 rfl
  refine eY U.Y0 5 j n ?_
  have j:=j.cL 5 (k 8) (i.1 rfl) aW
  exact y (u,v,x,A,C,D,G,H,K,L,M,P,Q,q) 9 g o j
 ·rintro k S w p i s⟨⟨u,v,x,A,C,D,G,H,K,L,M,P,Q,q⟩,g,o,_,j⟩
  dsimp only at g j
  obtain⟨R,rfl⟩:=g.o1 10 i
  have j:=j.bZ 6 p
  refine By 15 j qo bp λb3 j=>?_
  have j:=j.nw 6
  exact y (u,v,x,A,C,D,b3,H,K,L,M,P,Q,q) 11 g o j
 ·rintro k S w p i s⟨⟨u,v,x,A,C,D,G,H,K,L,M,P,Q,q⟩,g,o,_,j⟩
  dsimp only at g j
  obtain⟨R,rfl⟩:=g.o1 11 i
  have j:=(j.dF 6<|i.1 rfl).bZ 7 p
  refine fq 6 j b qZ fI λb4 j=>?_
  have j:=((j.pl 17 [1,2,3,4,5,6,7,0,9,10,11,12,13,14,15,16]).cL 6 (k 11) (i.1 rfl) aW).cL 7 aA rfl aW
  exact y (u,v,x,A,C,D,G,b4,K,L,M,P,Q,q) 12 g o j
 ·rintro k S w p i s⟨⟨u,v,x,A,C,D,G,H,K,L,M,P,Q,q⟩,g,o,_,j⟩
  dsimp only at g j
  obtain⟨R,rfl⟩:=g.o1 12 i
  have j:=(j.dF 7<|i.1 rfl).bZ 8 p
  refine t 7 bj.Xs j fV λb5 j=>?_
  have j:=((j.pl 17 [1,2,3,4,5,6,7,8,0,10,11,12,13,14,15,16]).cL 7 (k 12) (i.1 rfl) aW).cL 8 aA rfl aW
  exact y (u,v,x,A,C,D,G,H,b5,L,M,P,Q,q) 13 g o j
 ·rintro k S w p i s⟨⟨u,v,x,A,C,D,G,H,K,L,M,P,Q,q⟩,g,o,_,j⟩
  dsimp only at g j
  obtain⟨R,rfl⟩:=g.o1 13 i
  have j:=(j.dF 8<|i.1 rfl).bZ 9 p
  refine By 8 j eA bq λb6 j=>?_
  have j:=((j.pl 17 [1,2,3,4,5,6,7,8,9,0,11,12,13,14,15,16]).cL 8 (k 13) (i.1 rfl) aW).cL 9 aA rfl aW
  exact y (u,v,x,A,C,D,G,H,K,b6,M,P,Q,q) 14 g o j
 ·rintro k S w p i s⟨⟨u,v,x,A,C,D,G,H,K,L,M,P,Q,q⟩,g,o,_,j⟩
  dsimp only at g j
  obtain⟨R,rfl⟩:=g.o1 14 i
  have j:=j.dF 9<|i.1 rfl
  refine eY bc 9 j n ?_
  have j:=j.cL 9 (k 14) (i.1 rfl) aW
  exact y (u,v,x,A,C,D,G,H,K,L,M,P,Q,q) 15 g o j
 ·rintro k S w p i s⟨⟨u,v,x,A,C,D,G,H,K,L,M,P,Q,q⟩,g,o,_,j⟩
  dsimp only at g j
  obtain⟨R,rfl⟩:=g.o1 17 i
  refine IS 15 a j wZ ?_
  exact y (u,v,x,A,C,D,G,H,K,L,M,P,Q,q) 18 g o j
 ·rintro k S w p i s⟨⟨u,v,x,A,C,D,G,H,K,L,M,P,Q,q⟩,g,o,_,j⟩
  dsimp only at g j
  obtain⟨R,rfl⟩:=g.o2 16 19 i
  have j:=j.bZ 10 p
  refine By 15 j qo br λb7 j=>?_
  have j:=j.nw 10
  exact y (u,v,x,A,C,D,G,H,K,L,b7,P,Q,q) 20 g o j
 ·rintro k S w p i s⟨⟨u,v,x,A,C,D,G,H,K,L,M,P,Q,q⟩,g,o,_,j⟩
  dsimp only at g j
  obtain⟨R,rfl⟩:=g.o1 20 i
  have j:=(j.dF 10<|i.1 rfl).bZ 11 p
  refine fq 10 j b tE iu λb8 j=>?_
  have j:=((j.pl 17 [1,2,3,4,5,6,7,8,9,10,11,0,13,14,15,16]).cL 10 (k 20) (i.1 rfl) aW).cL 11 aA rfl aW
  exact y (u,v,x,A,C,D,G,H,K,L,M,b8,Q,q) 21 g o j
 ·rintro k S w p i s⟨⟨u,v,x,A,C,D,G,H,K,L,M,P,Q,q⟩,g,o,_,j⟩
  dsimp only at g j
  obtain⟨R,rfl⟩:=g.o1 21 i
  have j:=j.dF 11<|i.1 rfl
  refine eY W.Y1 11 j n ?_
  have j:=j.cL 11 (k 21) (i.1 rfl) aW
  exact y (u,v,x,A,C,D,G,H,K,L,M,P,Q,q) 22 g o j
 ·rintro k S w p i s⟨⟨u,v,x,A,C,D,G,H,K,L,M,P,Q,q⟩,g,o,_,j⟩
  dsimp only at g j
  obtain⟨R,rfl⟩:=(ac (g.at 5 rfl<|i.1 rfl)<|ac (g.at 9 rfl<|i.2.1 rfl)<|ac (g.at 15 rfl<|i.2.2.1 rfl)<|ac (g.at 22 rfl<|i.2.2.2.1 rfl) az).v8
  have j:=((((j.bZ 12 p).sc Int X).sc Int U.Y0).sc Int bc).sc Int W.Y1
  refine lw (⟨X,U.Y0,bc,W.Y1⟩:z) trivial rfl j [(0,e X),(1,e U.Y0),(2,e bc),(3,e W.Y1)] rfl L2 rfl (λab hs ad=>by have aa:=yc ab;exact cC.cons (f:=λ(r:z)ab=>{r with X0:=ab}) aa tY (ad.sat 3 _ rfl).1 λ_ aa=>cC.cons (f:=λ(r:z)ab=>{r with Y0:=ab}) aa vx (ad.sat 2 _ rfl).1 λ_ aa=>cC.cons (f:=λ(r:z)ab=>{r with X1:=ab}) aa su (ad.sat 1 _ rfl).1 λ_ aa=>cC.cons (f:=λ(r:z)ab=>{r with Y1:=ab}) aa tZ (ad.sat 0 _ rfl).1 λ_ aa=>cC.nil aa) λb9 j=>?_
  have j:=(j.pl 21 [5,6,7,8,9,10,11,12,13,14,15,16,0,18,19,20]).cL 12 aA rfl aW
  exact y (u,v,x,A,C,D,G,H,K,L,M,P,b9,q) 23 g o j
 ·rintro k S w p i s⟨⟨u,v,x,A,C,D,G,H,K,L,M,P,Q,q⟩,g,o,_,j⟩
  dsimp only at g j
  obtain⟨R,rfl⟩:=Tj S
  have j:=(j.bZ 13<|nh s p 25).bZ 13 p
  refine f_ j rp.z λbl w j=>?_
  have j:=(j.nw 13).fO 13 (k 25) (nh s p 25)<|bx 62 bl (⟨X,U.Y0,bc,W.Y1⟩:z)
  exact y (u,v,x,A,C,D,G,H,K,L,M,P,Q,bl) 24 g o j
 ·rintro k S w p i s⟨⟨u,v,x,A,C,D,G,H,K,L,M,P,Q,q⟩,g,o,_,j⟩
  dsimp only at g j
  obtain⟨R,rfl⟩:=g.o2 24 23 i
  have j:=((j.dF 12<|i.2.1 rfl).bZ 13 p).dF 13<|i.1 rfl
  refine fv 13 j 12 b gG λw j=>?_
  have j:=(j.cL 12 (k 23) (i.2.1 rfl) aW).cL 13 aA rfl (bif k 24 then k3 62 q 4 else aW)
  exact qr (u,v,x,A,C,D,G,H,K,L,M,P,Q,q) g o j
 rintro k S w U⟨⟨u,v,x,A,C,D,G,H,K,L,M,P,Q,q⟩,g,o,_,j⟩
 simp only[List.getD_cons_zero,List.getD_cons_succ,U 1 I,U 2 I,U 3 I,U 4 I,U 7 I,U 8 I,U 11 I,U 12 I,U 13 I,U 14 I,U 20 I,U 21 I,U 23 I,U 25 I,aN]at j
 obtain⟨R,rfl⟩:=(ac (g.at 24 rfl<|tL U 24) o).v8
 refine c ?_
 refine IS 15 a j wZ<|gV 0<|cJ<|s_ E V (λ(u:z)=>[k3 62 bf 4,bx 62 q u,Y l a]) (λ_=>[(2,h bf 0),(3,h q 0)]) (λbk _=>[(30,l),(31,e (Z a)),(32,e bk)]) T ?_ ?_ ?_
 ·exact j.sp 16 [14,13,15]
 ·rintro v bk u v _ w v⟨R,rfl,j⟩T
  refine cF<|k4 ?_
  obtain⟨H,v,T⟩:=bd T
  refine By 2 j qo v λM j=>t 0 H j GM λP j=>f_ j Pp.z λL w j=>?_
  refine fv 0 j 1 b GM λw j=>?_
  refine cJ ?_
  obtain⟨G,Q,T⟩:=bd T
  obtain⟨K,W,T⟩:=bd T
  refine q_ E V m [1,0,1,0,0,0,0,1,0,1,0,1,0,0,1,0,0,0,1,0,1,0] [3,4,10,12,15,19,21] (λ(r:F×F×F×F×F)=>(λD v x A C=>[(0,36,h q 0),(1,37,e u.X0),(2,38,h L 2),(3,39,D),(4,40,v),(5,41,e G),(6,42,e (bT G u.X0)),(7,43,h q 2),(8,44,e u.X1),(9,45,h L 2),(10,46,x),(11,47,h L 2),(12,48,A),(13,49,e (Z H.Xs)),(14,50,e<|bK<|(Z H.Xs:Int) - 1),(15,51,C),(16,52,e K),(17,53,e (cV u.X1 K)),(18,54,h q 0),(20,55,h q 2)]) r.1 r.2.1 r.2.2.1 r.2.2.2.1 r.2.2.2.2) [(2,h bf 0),(3,h q 0),(5,h L 0),(30,l),(31,e (Z a)),(32,e bk)] [] (λ(k:Nat->Bool)(r:F×F×F×F×F)=>(λD v x A C=>[bif k 0 then Y D H.Xs else aW,bif k 1 then pt v G else aW,bif k 2 then Y x H.Xs else aW,bif k 3 then Y A H.Xs else aW,bif k 4 then pt C K else aW,bx 263 L H,Y P H,pt M H,k3 62 bf 4,bif k 6 then bx 62 q {{u with X0:=(bT G u.X0)}with X1:=(cV u.X1 K)}else(bif k 5 then bx 62 q {u with X0:=(bT G u.X0)}else bx 62 q u),Y l a]) r.1 r.2.1 r.2.2.1 r.2.2.2.1 r.2.2.2.2) (λr=>by kernel_rfl) ?_ ⟨λ_=>oY gn iI,?_,λ_=>oY gn qZ,?_,?_,?_,?_,λ_=>oY gn j7,?_,λ_=>oY gn qZ,?_,λ_=>oY gn qZ,?_,?_,λ_=>W7 gn rfl,?_,?_,?_,λ_=>oY gn iI,?_,λ_=>oY gn j7,?_,trivial⟩ ?_
  ·have j:=(((((j.drew).aW).aW).aW).aW).aW
   exact⟨(undef,undef,undef,undef,undef),eT.none,J9 b,zt,j⟩
  ·rintro k S w p i s⟨⟨D,v,x,A,C⟩,g,o,_,j⟩
   obtain⟨R,rfl⟩:=g.o1 0 i
   have j:=(j.bZ 9<|nh s p 21).bZ 9<|nh s p 19
   refine BY 9 j b dV n ?_
   have j:=(j.fO 9 (k 19) (nh s p 19)<|bx 62 q {u with X0:=(bT G u.X0)}).fO 9 (k 21) (nh s p 21)<|bx 62 q {{u with X0:=(bT G u.X0)}with X1:=(cV u.X1 K)}
   exact y (D,v,x,A,C) 1 g o j
  ·rintro k S w p i s⟨⟨D,v,x,A,C⟩,g,o,_,j⟩
   obtain⟨R,rfl⟩:=g.o1 2 i
   have j:=j.bZ 0 p
   refine em 5 j b fI fV λcg j=>?_
   have j:=j.nw 0
   exact y (cg,v,x,A,C) 3 g o j
  ·rintro k S w p i s⟨⟨D,v,x,A,C⟩,g,o,_,j⟩
   obtain⟨R,rfl⟩:=g.o1 3 i
   have j:=(j.dF 0<|i.1 rfl).bZ 1 p
   refine By 0 j eA Q λr j=>?_
   have j:=((j.pl 12 [1,0,3,4,5,6,7,8,9,10,11]).cL 0 (k 3) (i.1 rfl) aW).cL 1 aA rfl aW
   exact y (D,r,x,A,C) 4 g o j
  ·rintro k S w p i s⟨⟨D,v,x,A,C⟩,g,o,_,j⟩
   obtain⟨R,rfl⟩:=g.o1 4 i
   have j:=j.dF 1<|i.1 rfl
   refine eY G 1 j n ?_
   have j:=j.cL 1 (k 4) (i.1 rfl) aW
   exact y (D,v,x,A,C) 5 g o j
  ·rintro k S w p i s⟨⟨D,v,x,A,C⟩,g,o,_,j⟩
   obtain⟨R,rfl⟩:=g.o2 1 5 i
   refine d ?_
   exact y (D,v,x,A,C) 6 g o j
  ·rintro k S w p i s⟨⟨D,v,x,A,C⟩,g,o,_,j⟩
   obtain⟨R,rfl⟩:=g.o1 7 i
   have j:=(j.bZ 9<|nh s p 21).bZ 9<|nh s p 19
   refine BY 9 j b eQ n ?_
   have j:=(j.fO 9 (k 19) (nh s p 19)<|bx 62 q {u with X0:=(bT G u.X0)}).fO 9 (k 21) (nh s p 21)<|bx 62 q {{u with X0:=(bT G u.X0)}with X1:=(cV u.X1 K)}
   exact y (D,v,x,A,C) 8 g o j
  ·rintro k S w p i s⟨⟨D,v,x,A,C⟩,g,o,_,j⟩
   obtain⟨R,rfl⟩:=g.o1 9 i
   have j:=j.bZ 2 p
   refine em 5 j b fI fV λr j=>?_
   have j:=j.nw 2
   exact y (D,v,r,A,C) 10 g o j
  ·rintro k S w p i s⟨⟨D,v,x,A,C⟩,g,o,_,j⟩
   obtain⟨R,rfl⟩:=g.o1 11 i
   have j:=j.bZ 3 p
   refine em 5 j b fI fV λr j=>?_
   have j:=j.nw 3
   exact y (D,v,x,r,C) 12 g o j
  ·rintro k S w p i s⟨⟨D,v,x,A,C⟩,g,o,_,j⟩
   obtain⟨R,rfl⟩:=g.o1 12 i
   have j:=j.dF 3<|i.1 rfl
   refine IS 3 H.Xs j oI ?_
   have j:=j.cL 3 (k 12) (i.1 rfl) aW
   exact y (D,v,x,A,C) 13 g o j
  ·rintro k S w p i s⟨⟨D,v,x,A,C⟩,g,o,_,j⟩
   obtain⟨R,rfl⟩:=g.o2 10 14 i
   have j:=(j.dF 2<|i.1 rfl).bZ 4 p
   refine By 2 j eA W λcl j=>?_
   have j:=((j.pl 12 [1,2,3,4,0,6,7,8,9,10,11]).cL 2 (k 10) (i.1 rfl) aW).cL 4 aA rfl aW
   exact y (D,v,x,A,cl) 15 g o j
  ·rintro k S w p i s⟨⟨D,v,x,A,C⟩,g,o,_,j⟩
   obtain⟨R,rfl⟩:=g.o1 15 i
   have j:=j.dF 4<|i.1 rfl
   refine eY K 4 j n ?_
   have j:=j.cL 4 (k 15) (i.1 rfl) aW
   exact y (D,v,x,A,C) 16 g o j
  ·rintro k S w p i s⟨⟨D,v,x,A,C⟩,g,o,_,j⟩
   obtain⟨R,rfl⟩:=g.o2 8 16 i
   refine d ?_
   exact y (D,v,x,A,C) 17 g o j
  ·rintro k S w p i s⟨⟨D,v,x,A,C⟩,g,o,_,j⟩
   obtain⟨R,rfl⟩:=g.o2 18 6 i
   have j:=((j.bZ 9<|nh s p 21).bZ 9 p).sc Int (bT G u.X0)
   refine wn 10 j b 0 b tY n λw j=>?_
   have j:=((j.pl 12 [1,2,3,4,5,6,7,8,9,10,11]).cL 9 aA rfl<|bx 62 q u).fO 9 (k 21) (nh s p 21)<|bx 62 q {{u with X0:=(bT G u.X0)}with X1:=(cV u.X1 K)}
   exact qr (D,v,x,A,C) g o j
  ·rintro k S w p i s⟨⟨D,v,x,A,C⟩,g,o,_,j⟩
   obtain⟨R,rfl⟩:=g.o2 19 17 i
   have j:=((j.bZ 9 p).dF 9<|i.2.2.1 rfl).sc Int (cV u.X1 K)
   refine wn 10 j b 0 b su n λw j=>?_
   have j:=(j.pl 12 [1,2,3,4,5,6,7,8,9,10,11]).cL 9 aA rfl (bif k 19 then bx 62 q {u with X0:=(bT G u.X0)}else bx 62 q u)
   exact qr (D,v,x,A,C) g o j
  rintro k S w U⟨⟨D,v,x,A,C⟩,g,o,_,j⟩
  simp only[List.getD_cons_zero,List.getD_cons_succ,U 3 I,U 4 I,U 10 I,U 12 I,U 15 I,U 21 I,aN]at j
  obtain⟨R,rfl⟩:=o.v8
  refine cP<|bE<|b_<|d ?_
  refine J ?_
  obtain rfl:=f T
  exact⟨rfl,j.sp 11 [8,9,10]⟩
 rintro u _ w T⟨R,rfl,j⟩
 refine bE<|IT<|eX 1 j b gG λg j=>fv 1 j 0 b gG λw j=>?_
 refine cJ<|dw ?_
 obtain rfl:=f T
 exact ON 1 j gG λg j=>j.pk 5 [0]
def GZ{a:aG aB}{res:Bool}(j:B E w V)(c:eo V i0 l a)(e:rC N a=O res):c_ 197 [l] w<|aO E V res:=by
 unfold rC at e;refine cI Tryz.func197 b b ?_;have j:=j.dup (i0+0) c;refine IT<|mj aK<|i4<|i e λg c e=>dz (λ(g:Bool)=>SH E V [(2,vb g)] []) g ?_ ?_;refine b_<|mv l<|IS 0 a j wZ<|d ?_;refine dU c (λg c=>?_) λg c=>?_;refine d ?_;exact J<|f c▸⟨rfl,j.sp 1 []⟩;refine d ?_;refine i c λg g c=>d7 (eP Tryz.func233) (EW N (i0:=0) j b g) λg w j=>?_;refine i c λg g c=>IN X6 (Co N (i0:=0) j b g) λw j=>d ?_;exact J<|f c▸⟨rfl,j.sp 2 []⟩;rintro _ w⟨c,rfl,j⟩;exact bE<|dw<|f e▸bH ⟨rfl,j.drop 0⟩
def Jk(E:aT)(V:aG HP)(res:z×Int)(v:F)(w:aT):Prop:=∃a:F,v = .tuple #[a,e res.2]/\B E w ([Y a res.1]++V)
def HT{a:cM}{res:z×Int}(j:B E w V)(e:eo V i0 l a)(o:qD N a=O res):c_ 130 [l] w<|Jk E V res:=by
 unfold qD at o;refine cI Tryz.func130 b b ?_;have j:=j.dup (i0+0) e;refine IT<|eh 0 l j b λk w j=>?_;refine f_ j rp.z λm w j=>?_;refine jU 0<|i4<|cF<|i o λg e o=>dz (λ(g:Bool)=>SH E V [(1,h k 0),(2,h m 0),(14,vb g)] [bx 121 k a,k3 62 m 4]) g ?_ ?_;refine b_<|p b vR<|BY 1 j b qF n<|i e λg g e=>IN Sj (sE N (a:=a.gK) (g:=1) (p2:=10000) j g) λw j=>d ?_;refine dU e (λg e=>?_) λg e=>?_;refine d ?_;exact J<|f e▸⟨rfl,j.sp 3 [1,0]⟩;refine p b Eb<|em 1 j b xK tN λg j=>?_;refine i e λg g e=>IN Yc (Aj N (i0:=0) j b g) λw j=>d ?_;exact J<|f e▸⟨rfl,j.sp 4 [2,1]⟩;rintro _ w⟨e,rfl,j⟩;refine bE<|u o (λo=>?_) λo=>?_;refine IT<|lw (⟨0,0,0,0⟩:z) trivial rfl j [] rfl L2 rfl (λe r q=>by have g:=yc e;exact cC.nil g) λk j=>?_;refine fv 2 j 0 b gG λw j=>?_;refine c ?_;obtain rfl:=f o;exact E7 2 j gG λk j=>⟨k,b,j.pk 4 [0]⟩;refine p_<|eX 0 j b lh λk j=>?_;refine i o λk m o=>d7 Tq (lr N (i0:=0) j b m) λaz w j=>f_ j rp.z λm w j=>?_;refine fv 0 j 1 b gG λw j=>?_;refine i4<|IT<|eX 0 j b gG λm j=>js ([k]:aG z) j [m] iO rp (λ_ _=>j4) λk w j=>?_;have j:=j.freeze 0;refine i o λk k o=>d7 Pq (rO N (i0:=0) j b k) λk w j=>?_;have j:=j.freeze 0;refine i o λk k o=>IN (eP Tryz.func197) (GZ N (i0:=0) j b k) λw j=>c ?_;refine u o (λo=>?_) λo=>?_;refine IT<|lw (⟨0,0,0,0⟩:z) trivial rfl j [] rfl L2 rfl (λe r q=>by have g:=yc e;exact cC.nil g) λe j=>?_;refine fv 8 j 0 b gG λw j=>?_;refine c ?_;obtain rfl:=f o;exact E7 8 j gG λe j=>⟨e,b,j.pk 10 [0]⟩;refine p_<|eX 3 j b gG λe j=>fv 8 j 0 b gG λw j=>?_;refine c ?_;obtain rfl:=f o;exact E7 8 j gG λe j=>⟨e,b,j.pk 10 [0]⟩
def Dt{a:ir}(j:B E w V)(g:eo V i0 l a)(o:n0 N a=O res):c_ 72 [l] w<|aF E V res:=by
 unfold n0 at o;refine cI Tryz.func72 b b ?_;have j:=j.dup (i0+0) g;refine IT<|eh 0 l j b λg w j=>?_;refine c ?_;refine p b ju<|em 0 j b jz sA λg j=>IS 0 a.aX j Dd<|c ?_;refine u o (λo=>?_) λo=>?_;refine c ?_;exact f o▸bH ⟨rfl,j.drop 3⟩;refine p_<|p b rH<|em 1 j b lf vC λg j=>IS 0 a.aS j ye<|c ?_;refine p b ju<|em 2 j b jz sA λh j=>IS 0 a.aX j Dd<|gV 0<|cJ<|md E V (λ(v:Unit)=>[Y h a.aX]) (λ_=>[]) (λm _=>[(3,e (Z a.aS)),(16,h),(17,e (Z a.aX)),(18,e m)]) (λx=>j3 q 47 Tryz.f72 (aF E V x) .ret) o ?_ ?_ ?_ ?_;exact j.sp 5 [0];rintro g m v g _ w g⟨s,rfl,j⟩o;refine cF<|k4<|i o λk g o=>By 0 j xp g λg j=>t 0 k j lh λg j=>f_ j Ki.z λaz w j=>?_;refine fv 0 j 1 b lh λw j=>?_;refine i4<|IT<|eX 0 j b lh λg j=>?_;refine i o λg g o=>d7 (eP Tryz.func130) (HT N (i0:=0) j b g) ?_;rintro _ w⟨g,rfl,j⟩;refine d ?_;refine f_ j rp.z λg w j=>?_;refine fv 0 j 1 b gG λw j=>?_;refine c ?_;refine u o (λo=>?_) λo=>?_;refine c ?_;exact f o▸⟨rfl,bH ⟨rfl,j.drop 7⟩⟩;refine hG<|i o λr g o=>dz (λ(r:Bool)=>SH E V [(3,e (Z a.aS)),(16,h),(17,e (Z a.aX)),(18,e m),(45,vb r)] [Y h a.aX]) r ?_ ?_;refine b_<|p b tF<|BY 3 j b nK n<|d ?_;refine i g λh h g=>IN Sj (sE N (a:=k.dC) (g:=0) (p2:=bK<|(Z a.aS:Int) - 1) j h) λw j=>d ?_;refine dU g (λh g=>?_) λh g=>?_;refine d ?_;exact J<|f g▸⟨rfl,j.sp 7 [6]⟩;refine p b vS<|BY 3 j b qG n<|p b tF<|BY 3 j b nK n<|d ?_;refine i g λh h g=>IN Sj (sE N (a:=k.To) (g:=k.dC) (p2:=bK<|(Z a.aS:Int) - 1) j h) λw j=>d ?_;exact J<|f g▸⟨rfl,j.sp 7 [6]⟩;rintro _ w⟨s,rfl,j⟩;refine bE<|u o (λo=>?_) λo=>?_;refine c ?_;exact f o▸⟨rfl,bH ⟨rfl,j.drop 1⟩⟩;refine dl<|cP<|bE<|b_<|d ?_;exact J<|f o▸⟨rfl,j.sp 1 [0]⟩;intro x g w o g;exact dx<|f o▸g;rintro v _ w o⟨s,rfl,j⟩;refine c ?_;exact f o▸bH ⟨rfl,j.drop 1⟩
def tH{a:dD}{res:bX}(j:B E w V)(c:eo V i0 l a)(o:pI N a=O res):c_ 81 [l] w<|Df E V res:=by
 unfold pI at o;refine cI Tryz.func81 b b ?_;have j:=j.dup (i0+0) c;refine IT<|eh 0 l j b λc w j=>?_;refine f_ j Kg.z λc w j=>?_;refine hO<|p b yf<|BY 1 j b o4 mO<|p b Bn<|BY 1 j b sw mO ?_;have j:=(j.sc cU a.Part).sc cU a.bX;refine lw (⟨a.Part,a.bX⟩:bX) trivial rfl j [(0,str a.Part),(1,str a.bX)] rfl Tr rfl (λd c g=>by have c:=GH d;exact cC.cons (f:=λ(d:bX)e=>{d with Part:=e}) c z5 (g.sat 1 _ rfl).1 λ_ c=>cC.cons (f:=λ(d:bX)e=>{d with bX:=e}) c z6 (g.sat 0 _ rfl).1 λ_ c=>cC.nil c) λc j=>?_;refine fv 3 j 0 b fF λw j=>?_;refine cJ<|dw ?_;obtain rfl:=f o;exact ON 3 j fF λc j=>j.pk 7 [0]
def Du{a:ir}(j:B E w V)(g:eo V i0 l a)(k:n7 N a=O res):c_ 73 [l] w<|aF E V res:=by
 unfold n7 at k;refine cI Tryz.func73 b b ?_;have j:=j.dup (i0+0) g;refine IT<|eh 0 l j b λr w j=>?_;have j:=j.fw (i:=0) rfl;refine c ?_;refine fq 0 j b qP mu λg j=>t 0 a.cA j Cy λg j=>IS 0 a.cA j Jg<|c ?_;refine u k (λk=>?_) λk=>?_;refine c ?_;exact f k▸bH ⟨rfl,j.drop 4⟩;refine hG<|IT<|fq 2 j b qP mu λg j=>t 0 a.cA j Cy λs j=>IS 0 a.cA j Jg<|gV 0<|cJ<|md E V (λ(A:Unit)=>[pt (h r 0) a,Y s a.cA]) (λ_=>[]) (λo _=>[(1,h r 0),(10,s),(11,e (Z a.cA)),(12,e o)]) (λC=>j3 q 60 Tryz.f73 (aF E V C) .ret) k ?_ ?_ ?_ ?_;exact j.sp 6 [4,0];rintro g o A g _ w g⟨x,rfl,j⟩k;refine c ?_;refine i k λv g k=>By 1 j Bm g λg j=>t 0 v j vm λg j=>f_ j Kj.z λy w j=>?_;refine jU (o:Int)<|fv 0 j 1 b vm λw j=>?_;refine cJ<|dt<|cF<|i k λz g k=>dz (λ(z:Bool)=>SH E V [(1,h r 0),(3,e o),(4,h y 0),(10,s),(11,e (Z a.cA)),(12,e o),(17,vb z)] [pt (h r 0) a,bx 66 y v,Y s a.cA]) z ?_ ?_;refine b_<|p b yf<|BY 0 j b o4 mO<|i g λz z g=>IN Zi (uX N (a:=v.Part) j z) λw j=>d ?_;refine dU g (λz g=>?_) λz g=>?_;refine d ?_;exact J<|f g▸⟨rfl,j.sp 5 [3,0,4]⟩;refine p b Bn<|BY 0 j b sw mO<|i g λbc z g=>IN Si (rf N (a:=v.bX) j z) λw j=>d ?_;exact J<|f g▸⟨rfl,j.sp 5 [3,0,4]⟩;rintro _ w⟨x,rfl,j⟩;refine bE<|u k (λk=>?_) λk=>?_;refine c ?_;exact f k▸⟨rfl,bH ⟨rfl,j.drop 3⟩⟩;refine cF<|i k λz g k=>dz (λ(z:Bool)=>SH E V [(1,h r 0),(3,e o),(4,h y 0),(10,s),(11,e (Z a.cA)),(12,e o),(28,vb z)] [pt (h r 0) a,bx 66 y v,Y s a.cA]) z ?_ ?_;refine b_<|p b HK<|BY 1 j b xL n<|fq 0 j b rH lf λy j=>t 0 a.aS j vC λy j=>IS 0 a.aS j ye<|d ?_;refine i g λy y g=>IN Sj (sE N (a:=v.cR) (g:=0) (p2:=bK<|(Z a.aS:Int) - 1) j y) λw j=>d ?_;refine dU g (λv g=>?_) λv g=>?_;refine d ?_;exact J<|f g▸⟨rfl,j.sp 5 [2,3,4]⟩;refine p b wM<|em 3 j b nL tN λv j=>?_;refine i g λbk v g=>IN Yc (Aj N (i0:=0) j b v) λw j=>d ?_;exact J<|f g▸⟨rfl,j.sp 6 [3,4,5]⟩;rintro _ w⟨x,rfl,j⟩;refine bE<|u k (λk=>?_) λk=>?_;refine c ?_;exact f k▸⟨rfl,bH ⟨rfl,j.drop 3⟩⟩;refine cF<|i k λv g k=>dz (λ(v:Bool)=>SH E V [(1,h r 0),(10,s),(11,e (Z a.cA)),(12,e o),(43,vb v)] [pt (h r 0) a,Y s a.cA]) v ?_ ?_;refine jb m [0,0,0,0,2,1,1,1,1,1,1,2,2,0,0,0] ([0,1,2,3]++f0 5 6 (4::f0 11 5 [])) ?_;have j:=j.drew;refine ge b b<|gV (o:Int)<|cX b<|ic ((o:Int)) 0<|cX b<|xh (kE<|(o:Int)>0)<|dp<|dU g (λr g=>?_) λr g=>?_;refine ge b b<|eX 1 j b vm λs j=>dp<|wI (hg:=cg r) 1 b j b qP mu λs j=>rR (hg:=cg r) a.cA 0 b j Cy λs s s j=>ek (e o) b (λw=>i8 (e o) dT)<|ek (e<|bK<|(o:Int) - 1) b (λw=>tb (hg:=cg r) (o:Int) 1 dT)<|i g λo s g=>um (hg:=cg r) 1 b j Bm s λs j=>rR (hg:=cg r) o 0 b j vm λo o o j=>io b b<|i g λbs az g=>d7 W8 (tH N (i0:=6) j b az) λo w j=>gj (⟨⟨zt,j.gE 4⟩,j.gE 1⟩)<|io b b<|i g λo o g=>d7 W8 (tH N (i0:=2) j b o) λo w j=>gj (⟨⟨zt,j.gE 5⟩,j.gE 2⟩)<|io b b ?_;refine i g λo o g=>IN Q3 (iq N (i0:=1) (i1:=0) j b b o) λw j=>gj (⟨⟨zt,j.gE 5⟩,j.gE 2⟩)<|ge b b<|d ?_;refine dp ?_;have j:=j.pl 12 [0,1,3,4,6,7,8,9,10,11];exact k7<|f g▸⟨rfl,j.sp 10 [7,9]⟩;refine c ?_;refine ek undef b (λw=>kR r dT)<|ek undef b (λw=>kR r dT)<|ek undef b (λw=>kR r dT)<|ek undef b (λw=>kR r dT)<|ek undef b (λw=>kR r dT)<|ek undef b (λw=>kR r dT)<|io b b<|d ?_;refine QL b<|d ?_;refine QL b<|d ?_;refine qY b<|c ?_;exact f g▸⟨rfl,j.sp 3 [0,2]⟩;rintro _ w⟨x,rfl,j⟩;refine bE<|u k (λk=>?_) λk=>?_;refine c ?_;exact f k▸⟨rfl,bH ⟨rfl,j.drop 2⟩⟩;refine dl<|cP<|cP<|bE<|b_<|d ?_;exact J<|f k▸⟨rfl,j.sp 2 [0,1]⟩;intro C g w k g;exact dx<|f k▸g;rintro A _ w k⟨x,rfl,j⟩;refine c ?_;exact f k▸bH ⟨rfl,j.drop 2⟩
def Ak(o:B E w V)(j:mG N a g p2 p3=O res):c_ 133 [e a,e g,e p2,e p3] w<|aF E V res:=by
 unfold mG at j;refine cI Tryz.func133 b b<|c ?_;refine W_ 0 (bK<|bK (p2 - g)+1) (bK<|bK (a - p3)+1) zt b b b b<|c ?_;exact f j▸bH ⟨rfl,o.drop 0⟩
def xz{a g:z}(j:B E w V)(d:eo V i0 l a)(h1:eo V i1 r g)(o:oU N a g=O res):c_ 74 [l,r] w<|aF E V res:=by
 unfold oU at o;refine cI Tryz.func74 b b ?_;have j:=(j.dup (i0+0) d).dup (i1+1) h1;refine IT<|eh 1 l j b λd w j=>?_;refine eh 1 r j b λk w j=>?_;refine jU 0<|i4 ?_;have j:=j.drew;refine v_ (λw=>B E w<|[bx 62 k g,bx 62 d a]++V) m [0,0,0,0,0,0,0,0,2,1,1,1,1,1,1,1,1,2,0,0] [0,1,2,3,4,5,6,7,9,10,11,12,13,14,15,16,8,17,18,19] (j.pk 4 [0,1])<|ge b b<|p b iI<|cX b<|BY 1 j b dV n<|cX b<|p b j7<|cX b<|BY 1 j b eQ n ?_;refine cX b<|p b iI<|cX b<|BY 0 j b dV n<|cX b<|p b j7<|cX b<|BY 0 j b eQ n<|dp<|ek (h d 1) b (λw=>p b iv dT)<|si (e a.Y0) b (λw j=>BY 1 j b dL n dT)<|ek (h d 3) b (λw=>p b lO dT)<|si (e a.Y1) b (λw j=>BY 1 j b fS n dT)<|ek (h k 1) b (λw=>p b iv dT)<|si (e g.Y0) b (λw j=>BY 0 j b dL n dT)<|ek (h k 3) b (λw=>p b lO dT)<|si (e g.Y1) b (λw j=>BY 0 j b fS n dT)<|io b b ?_;refine i o λd d o=>IN Yd (Ak N (a:=a.X0) (g:=a.X1) (p2:=g.X0) (p3:=g.X1) j d) λw j=>gj (j.pk 4 [0,1])<|io b b<|i o λd d o=>IN Yd (Ak N (a:=a.Y0) (g:=a.Y1) (p2:=g.Y0) (p3:=g.Y1) j d) λw j=>gj (j.pk 4 [0,1])<|c ?_;exact f o▸bH ⟨rfl,j.drop 4⟩
def uZ{a:cM}{res:Bool}(j:B E w V)(i:eo V i0 l a)(c:oV N a g=O res):c_ 134 [l,e g] w<|aO E V res:=by
 unfold oV at c;refine cI Tryz.func134 b b ?_;have j:=j.dup (i0+0) i;refine IT<|eh 0 l j b λi w j=>?_;refine mj aK<|hO<|p b tF<|BY 0 j b nK n<|d ?_;refine dq (e g) rfl rfl eL<|g7 aA (a.dC<=g) (h i 4) rfl rfl rfl (cW vS)<|g7 aA (a.dC<=g) (e a.To) rfl rfl rfl (bO 0 rfl j (by exact z_ (h i 4)) rfl qG n)<|sg ?_;exact cJ<|dw<|f c▸bH ⟨rfl,j.drop 2⟩
def Ks(E:aT)(V:aG HP)(res:aG Int×Int)(v:F)(w:aT):Prop:=∃a:F,v = .tuple #[a,e res.2]/\B E w ([Y a res.1]++V)
def Cp{a:aG aB}{res:aG Int×Int}(j:B E w V)(h:eo V i0 l a)(o:sm N a g p2=O res):c_ 235 [l,e g,e p2] w<|Ks E V res:=by
 unfold sm at o;refine cI Tryz.func235 b b ?_;have j:=j.dup (i0+0) h;refine c ?_;refine IS 0 a j wZ<|c ?_;refine u o (λo=>?_) λo=>?_;refine c ?_;exact f o▸kD ⟨n_,b,(j.qL Int).pk 2 [0]⟩;refine c ?_;refine i o λh k o=>By 0 j qo k λk j=>fq 0 j b xo jY λk j=>eY h.Y0 0 j n<|c ?_;refine u o (λo=>?_) λo=>?_;refine cF<|k6 m ?_;have j:=j.drew;refine k5<|d ?_;refine i o λh k o=>By 2 j qo k λk j=>a_<|fq 0 j b xo jY λk j=>a_<|eY h.Y0 0 j n<|c ?_;exact f o▸kD ⟨n_,b,(j.qL Int).pk 6 [0]⟩;refine dl<|cP<|bE<|cF<|k6 m ?_;have j:=j.drew;refine k5<|mv l<|a_<|i o λh k o=>By 2 j qo k λk j=>a_<|fq 0 j b qZ fI λk j=>a_<|t 0 h.Xs j fV λh j=>d ?_;refine i o λk p o=>By 5 j qo p λp j=>a_<|fq 0 j b tE iu λp j=>a_<|eY k.Y1 0 j n<|c ?_;exact f o▸kD ⟨h,b,j.pk 8 [2]⟩
def L6{a:aG Int}{g:aG Int}{p2:Bool->Bool->aP Bool}{res:aG Int}(j:B E w V)(h:eo V i0 l a)(h1:eo V i1 r g)(h2:Nj q E V k p2 (λ(G:Bool)=>Value.bool G))(p:xX N a g p2=O res):c_ 236 [l,r,k] w<|rJ E V res:=by
 unfold xX at p;refine cI Tryz.func236 b b ?_;have j:=(j.dup (i0+0) h).dup (i1+1) h1;refine c ?_;refine i p λh t p=>zq (λ(o:aG Int×aG Int×aG Int×Bool×Bool×Bool)C w=>∃az h s:F,SH E V [(0,az),(1,h),(2,k),(7,s),(8,vb o.2.2.2.1),(9,vb o.2.2.2.2.1),(10,vb o.2.2.2.2.2)] [Y az o.1,Y h o.2.1,own 3 s o.2.2.1] C w) (λ(o:aG Int×aG Int×aG Int×Bool×Bool×Bool)C w=>∃I:F,SH E V [(7,I)] [own 3 I o.2.2.1] C w) (λ(G:Empty)_ _=>G.elim) t ?_ ?_ ?_ ?_;exact⟨l,r,n_,(j.cO Int 3).sp 3 [2,1,0]⟩;rintro o h _ w⟨v,s,t,A,rfl,j⟩p;refine cF<|cF<|i p λx h p=>dz (λ(x:Bool)=>SH E V [(0,v),(1,s),(2,k),(7,t),(8,vb o.2.2.2.1),(9,vb o.2.2.2.2.1),(10,vb o.2.2.2.2.2),(20,vb x)] [Y v o.1,Y s o.2.1,own 3 t o.2.2.1]) x ?_ ?_;refine b_<|mv v<|IS 0 o.1 j oI<|d ?_;refine dU h (λx h=>?_) λx h=>?_;refine d ?_;exact J<|f h▸⟨rfl,j.sp 3 [0,1,2]⟩;refine d ?_;refine IS 1 o.2.1 j oI<|d ?_;exact J<|f h▸⟨rfl,j.sp 3 [0,1,2]⟩;rintro _ w⟨A,rfl,j⟩;refine bE<|u p (λp=>?_) λp=>?_;refine rx<|k4<|jU 0<|i4<|cF<|i p λx h p=>dz (λ(x:Bool)=>SH E V [(0,v),(1,s),(2,k),(7,t),(8,vb o.2.2.2.1),(9,vb o.2.2.2.2.1),(10,vb o.2.2.2.2.2),(37,vb x)] [Y v o.1,Y s o.2.1,own 3 t o.2.2.1]) x ?_ ?_;refine k6 m ?_;have j:=j.drew;refine k5<|mv s<|a_<|IS 1 o.2.1 j oI<|d ?_;refine dU h (λx h=>?_) λx h=>?_;refine c ?_;exact f h▸⟨rfl,j.sp 3 [0,1,2]⟩;refine d ?_;refine IS 0 o.1 j oI<|d ?_;refine dU h (λx h=>?_) λx h=>?_;refine d ?_;refine i h λx y h=>By 0 j eA y λy j=>a_<|eY x 0 j n<|d ?_;refine i h λx y h=>By 2 j eA y λbx j=>a_<|eY x 0 j n<|c ?_;exact f h▸⟨rfl,j.sp 5 [2,3,4]⟩;refine c ?_;exact f h▸⟨rfl,j.sp 3 [0,1,2]⟩;rintro _ w⟨A,rfl,j⟩;refine bE<|i p λy h p=>dz (λ(y:Int)=>SH E V [(0,v),(1,s),(2,k),(7,t),(8,vb o.2.2.2.1),(9,vb o.2.2.2.2.1),(10,vb o.2.2.2.2.2),(11,e y)] [Y v o.1,Y s o.2.1,own 3 t o.2.2.1]) y ?_ ?_;refine u h (λh=>?_) λh=>?_;refine b_<|mv v<|i h λx z h=>By 0 j eA z λz j=>eY x 0 j n<|jU x<|J ?_;exact f h▸⟨rfl,j.sp 4 [1,2,3]⟩;refine b_<|mv s<|i h λx bc h=>By 1 j eA bc λz j=>eY x 0 j n<|jU x<|J ?_;exact f h▸⟨rfl,j.sp 4 [1,2,3]⟩;rintro _ w⟨A,rfl,j⟩;refine bE<|cF<|cF<|i p λx h p=>dz (λ(x:Bool)=>SH E V [(0,v),(1,s),(2,k),(7,t),(8,vb o.2.2.2.1),(9,vb o.2.2.2.2.1),(10,vb o.2.2.2.2.2),(11,e y),(53,vb x)] [Y v o.1,Y s o.2.1,own 3 t o.2.2.1]) x ?_ ?_;refine b_<|mv v<|IS 0 o.1 j oI<|d ?_;refine dU h (λx h=>?_) λx h=>?_;refine d ?_;refine i h λx z h=>By 0 j eA z λb1 j=>eY x 0 j n<|d ?_;exact J<|f h▸⟨rfl,j.sp 4 [1,2,3]⟩;refine d ?_;exact J<|f h▸⟨rfl,j.sp 3 [0,1,2]⟩;rintro _ w⟨A,rfl,j⟩;refine bE<|i p λx h p=>dz (λ(x:aG Int×Bool)C w=>∃z:F,SH E V [(0,z),(1,s),(2,k),(7,t),(8,vb x.2),(9,vb o.2.2.2.2.1),(10,vb o.2.2.2.2.2),(11,e y)] [Y s o.2.1,own 3 t o.2.2.1,Y z x.1] C w) x ?_ ?_;refine u h (λh=>?_) λh=>?_;refine b_<|mv v<|i h λD D h=>rs (hh:= .inr ⟨rfl,b⟩) 0 j eA D λD j=>d ?_;exact J<|f h▸⟨rfl,D,j.sp 4 [2,3,0]⟩;exact dl<|f h▸⟨rfl,v,j.sp 3 [1,2,0]⟩;rintro _ w⟨z,A,rfl,j⟩;refine bE<|cF<|cF<|i p λv h p=>dz (λ(v:Bool)=>SH E V [(0,z),(1,s),(2,k),(7,t),(8,vb x.2),(9,vb o.2.2.2.2.1),(10,vb o.2.2.2.2.2),(11,e y),(67,vb v)] [Y z x.1,Y s o.2.1,own 3 t o.2.2.1]) v ?_ ?_;refine b_<|mv s<|IS 0 o.2.1 j oI<|d ?_;refine dU h (λv h=>?_) λv h=>?_;refine d ?_;refine i h λbk v h=>By 0 j eA v λv j=>eY bk 0 j n<|d ?_;exact J<|f h▸⟨rfl,j.sp 4 [3,1,2]⟩;refine d ?_;exact J<|f h▸⟨rfl,j.sp 3 [2,0,1]⟩;rintro _ w⟨A,rfl,j⟩;refine bE<|i p λv h p=>dz (λ(v:aG Int×Bool)C w=>∃D:F,SH E V [(0,z),(1,D),(2,k),(7,t),(8,vb x.2),(9,vb v.2),(10,vb o.2.2.2.2.2),(11,e y)] [Y z x.1,own 3 t o.2.2.1,Y D v.1] C w) v ?_ ?_;refine u h (λh=>?_) λh=>?_;refine b_<|mv s<|i h λH H h=>rs (hh:= .inr ⟨rfl,b⟩) 1 j eA H λH j=>d ?_;exact J<|f h▸⟨rfl,H,j.sp 4 [1,3,0]⟩;exact dl<|f h▸⟨rfl,s,j.sp 3 [0,2,1]⟩;rintro _ w⟨D,A,rfl,j⟩;refine c ?_;have j:=(j.sc Bool x.2).sc Bool v.2;refine i p λs H p=>v4 1 0 j h2 5 H λw j=>c ?_;refine as3 (a:=s) (b:=o.2.2.2.2.2) zt b b b J8<|cJ<|i p λs h p=>dz (λ(s:aG Int×Bool)C w=>∃H:F,SH E V [(0,z),(1,D),(2,k),(7,H),(8,vb x.2),(9,vb v.2),(10,vb s.2)] [Y z x.1,Y D v.1,own 3 H s.1] C w) s ?_ ?_;refine u h (λh=>?_) λh=>?_;refine c ?_;have j:=j.sc Int y;refine js ([y]:aG Int) j [e y] eA L1 (λ_ _=>j4) λs w j=>?_;have j:=j.freeze 0;refine i h λs s h=>j0 5 0 j xn s λs w j=>?_;refine d ?_;exact J<|f h▸⟨rfl,s,j.sp 7 [4,6,5]⟩;exact dl<|f h▸⟨rfl,t,j.sp 5 [2,4,3]⟩;rintro _ w⟨H,A,rfl,j⟩;exact cP<|f p▸⟨rfl,z,D,H,j.sp 3 [0,1,2]⟩;exact fk<|f p▸⟨rfl,t,j.sp 3 [2]⟩;intro G _ _ _ _;exact G.elim;rintro o _ w rfl⟨I,A,rfl,j⟩;rw[Fo.OX]at p;refine c ?_;obtain rfl:=f p;exact bH<|j.pk 1 [0]
def Kt{a:aG aB}{g:aG aB}{p2:Bool->Bool->aP Bool}{res:aG aB}(j:B E w V)(h:eo V i0 l a)(h1:eo V i1 r g)(h2:Nj q E V k p2 (λ(D:Bool)=>Value.bool D))(o:wc N a g p2=O res):c_ 199 [l,r,k] w<|sB E V res:=by
 unfold wc at o;refine cI Tryz.func199 b b ?_;have j:=(j.dup (i0+0) h).dup (i1+1) h1;refine c ?_;refine IS 1 a j wZ<|mv r<|IS 0 g j wZ<|c ?_;refine u o (λo=>?_) λo=>?_;refine c ?_;obtain rfl:=f o;exact bH<|(j.cO aB 263).pk 3 [0];refine c ?_;refine js ([a,g]:aG (aG aB)) j [l,r] Va Vb (λI L y=>⟨(y.sat 1 _ b).1,⟨(y.sat 0 _ b).1,zt⟩⟩) λv w j=>lc (i:=0) (l:=([a,g]:aG (aG aB))) zt b j b b aa5<|gV 0<|cJ<|s_ E V (λ(s:Int×Int)=>[Y l a,Y r g,own 100 v ([a,g]:aG (aG aB))]) (λs=>[(0,l),(1,r),(2,k),(7,n_),(8,e s.1),(9,e s.2)]) (λx _=>[(25,v),(26,e ((Z ([a,g]:aG (aG aB)):Nat):Int)),(27,e x)]) o ?_ ?_ ?_;exact j.sp 3 [2,1,0];rintro h x s h _ w h⟨t,rfl,j⟩o;refine c ?_;refine i o λz h o=>ep 2 j b b Va h<|mt 2 j h Ye λA j=>?_;refine c ?_;refine IS 0 z j wZ<|d ?_;refine cJ<|i o λp h o=>dz (λ(p:Int×Int)=>SH E V [(0,l),(1,r),(2,k),(7,n_),(8,e p.1),(9,e p.2),(25,v),(26,e ((Z ([a,g]:aG (aG aB)):Nat):Int)),(27,e x)] [Y l a,Y r g,own 100 v ([a,g]:aG (aG aB))]) p ?_ ?_;refine u h (λh=>?_) λh=>?_;refine cF<|cF<|i h λaz p h=>dz (λ(az:Bool)=>SH E V [(0,l),(1,r),(2,k),(7,n_),(8,e s.1),(9,e s.2),(11,A),(25,v),(26,e ((Z ([a,g]:aG (aG aB)):Nat):Int)),(27,e x),(41,vb az)] [Y l a,Y r g,Y A z,own 100 v ([a,g]:aG (aG aB))]) az ?_ ?_;refine b_<|d ?_;refine dU p (λC p=>?_) λC p=>?_;refine d ?_;exact J<|f p▸⟨rfl,j.sp 4 [1,2,0,3]⟩;refine d ?_;refine IS 1 a j wZ<|d ?_;exact J<|f p▸⟨rfl,j.sp 4 [1,2,0,3]⟩;rintro _ w⟨t,rfl,j⟩;refine bE<|i h λC p h=>dz (λ(C:Int×Int)=>SH E V [(0,l),(1,r),(2,k),(7,n_),(8,e C.1),(9,e C.2),(11,A),(25,v),(26,e ((Z ([a,g]:aG (aG aB)):Nat):Int)),(27,e x)] [Y l a,Y r g,Y A z,own 100 v ([a,g]:aG (aG aB))]) C ?_ ?_;refine u p (λp=>?_) λp=>?_;refine k6 m ?_;have j:=j.drew;refine k5<|mv A<|a_<|i p λv x p=>By 2 j qo x λx j=>a_<|fq 0 j b xo jY λx j=>a_<|eY v.Y0 0 j n<|d ?_;refine IS 4 z j wZ<|d ?_;refine i p λv bk p=>By 4 j qo bk λx j=>a_<|fq 0 j b tE iu λx j=>a_<|eY v.Y1 0 j n<|c ?_;exact f p▸⟨rfl,j.sp 8 [4,5,6,7]⟩;exact dl<|f p▸⟨rfl,j.sp 4 [0,1,2,3]⟩;rintro _ w⟨t,rfl,j⟩;refine bE<|k6 m ?_;have j:=j.drew;refine k5<|d ?_;refine i h λp v h=>By 2 j qo v λv j=>a_<|fq 0 j b xo jY λv j=>a_<|eY p.Y0 0 j n<|d ?_;refine IS 4 z j wZ<|d ?_;refine i h λp v h=>By 4 j qo v λv j=>a_<|fq 0 j b tE iu λv j=>a_<|eY p.Y1 0 j n<|c ?_;exact f h▸⟨rfl,j.sp 8 [4,5,7]⟩;exact dl<|f h▸⟨rfl,j.sp 4 [1,2,3]⟩;rintro _ w⟨t,rfl,j⟩;refine cP<|bE<|b_<|d ?_;exact J<|f o▸⟨rfl,j.sp 3 [0,1,2]⟩;rintro s _ w o⟨t,rfl,j⟩;refine bE<|cF<|i o λp C o=>zq (λ(p:aG aB×aG aB×aG aB×Int)v w=>∃x z A:F,SH E V [(0,x),(1,z),(2,k),(7,A),(8,e p.2.2.2),(9,e s.2)] [Y x p.1,Y z p.2.1,own 263 A p.2.2.1] v w) (λ(p:aG aB×aG aB×aG aB×Int)v w=>∃G:F,SH E V [(7,G)] [own 263 G p.2.2.1] v w) (λ(D:Empty)_ _=>D.elim) C ?_ ?_ ?_ ?_;exact⟨l,r,n_,(j.cO aB 263).sp 4 [1,2,0]⟩;rintro p K _ w⟨C,z,v,t,rfl,j⟩o;refine c ?_;refine u o (λo=>?_) λo=>?_;refine rx<|dt<|cF<|ol E V (λ(x:aG aB)(A:F)=>[Y z p.2.1,own 263 v p.2.2.1,Y A x]) (λ_ A=>[(0,A),(1,z),(2,k),(7,v),(8,e p.2.2.2),(9,e s.2)]) (λ_ _=>[]) o ?_ ?_ ?_;exact⟨C,j.sp 3 [1,2,0]⟩;rintro x K _ w⟨A,t,rfl,j⟩o;refine cF<|cF<|i o λC h o=>dz (λ(C:Bool)=>SH E V [(0,A),(1,z),(2,k),(7,v),(8,e p.2.2.2),(9,e s.2),(82,vb C)] [Y A x,Y z p.2.1,own 263 v p.2.2.1]) C ?_ ?_;refine b_<|mv A<|IS 2 x j wZ<|d ?_;refine dU h (λC h=>?_) λC h=>?_;refine d ?_;refine i h λC bs h=>By 2 j qo bs λH j=>fq 0 j b tE iu λH j=>eY C.Y1 0 j n<|d ?_;exact J<|f h▸⟨rfl,j.sp 5 [4,2,3]⟩;refine d ?_;exact J<|f h▸⟨rfl,j.sp 3 [2,0,1]⟩;rintro _ w⟨t,rfl,j⟩;refine bE<|u o (λo=>?_) λo=>?_;exact rx<|dt<|b_<|mv A<|i o λC C o=>rs (hh:= .inr ⟨rfl,b⟩) 0 j qo C λC j=>xe C<|J<|cP<|f o▸⟨rfl,C,j.sp 4 [2,3,0]⟩;exact fk<|f o▸⟨rfl,A,j.sp 3 [1,2,0]⟩;rintro x _ w o⟨A,t,rfl,j⟩;refine bE<|cF<|ol E V (λ(C:aG aB)(H:F)=>[Y A x,own 263 v p.2.2.1,Y H C]) (λ_ H=>[(0,A),(1,H),(2,k),(7,v),(8,e p.2.2.2),(9,e s.2)]) (λ_ _=>[]) o ?_ ?_ ?_;exact⟨z,j.sp 3 [2,1,0]⟩;rintro C K _ w⟨z,t,rfl,j⟩o;refine cF<|cF<|i o λH h o=>dz (λ(H:Bool)=>SH E V [(0,A),(1,z),(2,k),(7,v),(8,e p.2.2.2),(9,e s.2),(95,vb H)] [Y A x,Y z C,own 263 v p.2.2.1]) H ?_ ?_;refine b_<|mv z<|IS 2 C j wZ<|d ?_;refine dU h (λx h=>?_) λx h=>?_;refine d ?_;refine i h λx H h=>By 2 j qo H λH j=>fq 0 j b tE iu λH j=>eY x.Y1 0 j n<|d ?_;exact J<|f h▸⟨rfl,j.sp 5 [2,4,3]⟩;refine d ?_;exact J<|f h▸⟨rfl,j.sp 3 [0,2,1]⟩;rintro _ w⟨t,rfl,j⟩;refine bE<|u o (λo=>?_) λo=>?_;exact rx<|dt<|b_<|mv z<|i o λh bx o=>rs (hh:= .inr ⟨rfl,b⟩) 1 j qo bx λbc j=>xe bc<|J<|cP<|f o▸⟨rfl,bc,j.sp 4 [1,3,0]⟩;exact fk<|f o▸⟨rfl,z,j.sp 3 [0,2,1]⟩;rintro C _ w o⟨C,t,rfl,j⟩;refine c ?_;refine i o λh x o=>d7 Yf (Cp N (g:=p.2.2.2) (p2:=s.2) (i0:=0) j b x) ?_;rintro _ w⟨x,rfl,j⟩;refine c ?_;refine i o λx b1 o=>d7 Yf (Cp N (g:=p.2.2.2) (p2:=s.2) (i0:=3) j b b1) ?_;rintro _ w⟨s,rfl,j⟩;refine c ?_;refine i o λs z o=>d7 (eP Tryz.func236) (L6 N (i0:=1) (i1:=0) j b b (h2.lift 5 b) z) λz w j=>?_;have j:=((j.sc Int p.2.2.2).sc Int (bT x.2 h.2)).freeze 2;refine lw (⟨p.2.2.2,(bT x.2 h.2),s⟩:aB) trivial rfl j [(0,e p.2.2.2),(1,e (bT x.2 h.2)),(2,z)] rfl X9 rfl (λI L y=>by have h:=GI I;exact cC.cons (f:=λ(s:aB)x=>{s with Y0:=x}) h Cj (y.sat 1 _ rfl).1 λ_ h=>cC.cons (f:=λ(s:aB)x=>{s with Y1:=x}) h wJ (y.sat 0 _ rfl).1 λ_ h=>cC.cons (f:=λ(s:aB)x=>{s with Xs:=x}) h Ck (y.sat 2 _ rfl).1 λ_ h=>cC.nil h) λcv j=>?_;have j:=j.pull 7;refine i o λh h o=>d7 Ya (zd N (i1:=0) j b h) λh w j=>xe h<|cJ<|b_<|d ?_;exact J<|cP<|f o▸⟨rfl,A,C,h,j.sp 10 [7,9,0]⟩;exact fk<|f o▸⟨rfl,v,j.sp 3 [2]⟩;intro D _ _ _ _;exact D.elim;rintro p _ w rfl⟨G,t,rfl,j⟩;rw[Fo.OX]at o;refine c ?_;obtain rfl:=f o;exact bH<|j.pk 1 [0]
def Dv{a g res:Bool}(o:B E w V)(j:uL N a g=O res):c_ 200 [vb a,vb g] w<|aO E V res:=by
 unfold uL at j;refine cI Tryz.func200 b b<|IT<|mj aK<|hO<|sg ?_;exact cJ<|dw<|f j▸bH ⟨rfl,o.drop 0⟩
def G0{a:aG aB}{g:aG aB}{res:aG aB}(o:B E w V)(e:eo V i0 l a)(h1:eo V i1 r g)(d:oW N a g=O res):c_ 135 [l,r] w<|sB E V res:=by
 unfold oW at d;refine cI Tryz.func135 b b ?_;have o:=(o.dup (i0+0) e).dup (i1+1) h1;refine c ?_;refine i d λe e d=>d7 (eP Tryz.func199) (Kt N (i0:=1) (i1:=0) o rfl rfl ⟨200,[],rfl,(eP Tryz.func200),λw h h h m n h h h o h j k=>by obtain rfl:=o.CZ (γ:=Bool) h;obtain rfl:=o.CZ (γ:=Bool) j;exact fE (Dv N (a:=m) (g:=n) o k) λ_ _ h=>h⟩ e) λe w o=>c ?_;obtain rfl:=f d;exact bH<|o.pk 3 [0]
def G1{a:aG aB}(j:B E w V)(g:eo V i0 l a)(o:rD N a=O res):c_ 136 [l] w<|aF E V res:=by
 unfold rD at o;refine cI Tryz.func136 b b ?_;have j:=j.dup (i0+0) g;refine c ?_;refine IS 0 a j wZ<|gV 0<|cJ<|s_ E V (λ(g:Int)=>[Y l a]) (λg=>[(3,e g)]) (λh _=>[(6,l),(7,e (Z a)),(8,e h)]) o ?_ ?_ ?_;exact j.sp 1 [0];rintro k h g h _ w h⟨k,rfl,j⟩o;refine cF<|k4<|i o λh m o=>By 0 j qo m λm j=>t 0 h j GM λm j=>f_ j Pp.z λm w j=>?_;refine fv 0 j 1 b GM λw j=>?_;refine c ?_;refine p b qZ<|em 0 j b fI fV λm j=>IS 0 h.Xs j oI<|BA (Z h.Xs:Int) 2<|d ?_;refine J<|cP<|bE<|b_<|d ?_;exact J<|f o▸⟨rfl,j.sp 5 [4]⟩;rintro g _ w o⟨k,rfl,j⟩;refine c ?_;exact f o▸bH ⟨rfl,j.drop 1⟩
def Dw(E:aT)(V:aG HP)(b1:Nat)(res:Int×aG Int)(v:F)(w:aT):Prop:=∃a:F,v= e res.1/\B E w ([bc 95 b1 [a],own 3 a res.2]++V)
def qQ{g:aG Int}{res:Int×aG Int}(j:B E w (bc 95 b1 [s]::own 3 s g::V))(o:ij N a g=O res):c_ 201 [e a,h b1 0] w<|Dw E V b1 res:=by
 unfold ij at o;refine cI Tryz.func201 b b<|c ?_;refine m0 E V (λ(g:Int×aG Int)=>[bc 95 b1 [s],own 3 s g.2]) (λg=>[(0,e g.1),(1,h b1 0)]) (λ_=>[]) o ?_ ?_ ?_;exact j.sp 2 [0,1];rintro g k _ w⟨l,rfl,j⟩o;refine cF<|IT<|d9 0 s j fV<|gV g.1<|i o λk k o=>ep 1 j b b eA k<|p8 1 j k n<|c ?_;refine u o (λo=>?_) λo=>?_;refine rx<|dt<|cF<|jb m (jv 11 20000000000) (f0 0 11 []) ?_;have j:=j.drew;refine ge b b<|d9 0 s j fV<|d ?_;refine d9 0 s j fV<|cX b<|d9 0 s j fV<|d ?_;refine i o λk k o=>ep 1 j b b eA k<|cX b<|p8 1 j k n<|cX b<|i o λp k o=>ep 1 j b b eA k<|cX b<|p8 1 j k n<|cX b<|i o λk k o=>ep 1 j b b eA k<|oy b ?_;have j:=j.sc Int p;refine pz 2 0 j k n λw j=>?_;refine gj zt<|k7<|bE<|b_<|d9 1 s j fV<|gV g.1<|i o λp k o=>ep 2 j b b eA k<|p8 2 j k n<|jU p<|J<|cP ?_;exact f o▸⟨rfl,j.sp 3 [1,2]⟩;exact fk<|f o▸⟨rfl,j.sp 2 [0,1]⟩;rintro g _ w o⟨l,rfl,j⟩;refine c ?_;exact f o▸bH ⟨s,b,j.pk 2 [0,1]⟩
end Go.Gk
