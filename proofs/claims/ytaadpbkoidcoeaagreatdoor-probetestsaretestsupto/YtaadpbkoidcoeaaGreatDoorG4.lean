/-
  Printed texts: Go functions as plain functions, and that they are. No statement of the seed is proved here.
-/
import Derived.Test.YtaadpbkoidcoeaaGreatDoorG1
import Derived.Test.YtaadpbkoidcoeaaGreatDoorG2
import Derived.Test.YtaadpbkoidcoeaaGreatDoorG3
import Derived.Test.YtaadpbkoidcoeaaGreatDoorA2
set_option linter.unusedVariables false
set_option linter.unusedSimpArgs false
set_option linter.unusedSectionVars false
set_option maxRecDepth 100000
set_option maxHeartbeats 40000000
namespace Go.Gk
open Go IntKind Go.Proofs
variable (N:Nat){E w:aW}{b0 i0 i1:Nat}{p0 p1 p2:Int}{v0 e_ i_ j_ g_ a_ d_ k_ b_ f_ p_ o_ l_ v1:aV}{V:aL HP}
def zw(E:aW)(V:aL HP)(res:aL (aL aB))(v:aV)(w:aW):Prop:=Holds E w<|[own 96 v res]++V
theorem yk{p0:aL aB}{res:aL (aL aB)}(o:Holds E w V)(h0:fC V i0 v0 p0)(hb:lL N p0=some res):
    c_ 103 [v0] w<|zw E V res:=by
 unfold lL at hb
 refine enter Tryz.func103 zr zr ?_
 have o:=o.dup (i0+0) h0
 refine w_<|dN n_<|IN<|mv v0 ?_
 obtain⟨ao,c3,hb⟩:=bd hb
 refine V2 P0 (nW N (i0:=0) o zr c3) λah w o=>dN ah<|IN<|mv ah<|WB (i:=0) (l:=ao) zt zr o zr zr rZ ?_
 obtain⟨cf,c4,hb⟩:=bd hb
 refine Xq (ao.length:Int) o ze QJ c4 λbb w o=>?_
 refine Xz zr o Ry zr λae w o=>?_
 refine W0 0 bb o zr zr (km 1 o) gm λw o=>?_
 refine IT<|w_<|VY 0 bb o gm<|WB (i:=1) (l:=cf) zt zr o zr zr pd<|aO 0<|AS<|WU E V (λ(b2:aL Int)=>[rd v0 p0,own 56 ah ao,bc 91 ae [bb],own 3 bb b2]) (λ_=>[(0,v0),(3,ah),(4,vp ae 0)]) (λa4 _=>[(32,vi cf.length),(33,vi a4)]) hb ?_ ?_ ?_
 ·exact o.sp 4 [3,2,0,1]
 ·rintro hm a4 b2 s' _ w hk⟨O,rfl,o⟩hb
  refine IS<|VW<|aO (a4:Int)<|aJ (a4:Int)<|AS<|BY<|VY 2 bb o gm<|aO (a4:Int)<|aO (a4:Int) ?_
  obtain⟨dr,ch,hb⟩:=bd hb
  refine VX 3 o zr zr fH ch ?_
  have o:=o.sc Int (a4:Int)
  refine WQ 4 0 o ch cV λw o=>?_
  refine By<|bI<|aD<|BY<|Wa hk hm<|aO ((a4+1:Nat):Int)<|By ?_
  obtain rfl:=oi hb
  exact⟨rfl,o.sp 5 [1,2,3,4]⟩
 rintro b2 _ w hb⟨O,rfl,o⟩
 refine aD<|w_<|Xc [vp ae 0]<|dN (.func (.func 136) #[] #[vp ae 0])<|IN<|aJ 0<|aJ 0<|IT<|w_ ?_
 refine mv v0<|VP 0 p0 o xh<|aO 0<|AS<|WT E V (λ(ai:aL Int×Int×Int)(cj:aV)=>[rd v0 p0,own 56 ah ao,bc 91 ae [cj],own 3 cj ai.1]) (λ_ _=>[(3,ah),(6,(.func (.func 136) #[] #[vp ae 0]))]) (λay ai _=>[(0,v0),(4,vp ae 0),(7,vi ai.2.1),(8,vi ai.2.2),(42,v0),(43,vi p0.length),(44,vi ay)]) hb ?_ ?_ ?_
 ·exact⟨bb,o.sp 4 [0,1,2,3]⟩
 ·rintro hm ay ai s' _ w hk⟨bk,O,rfl,o⟩hb
  refine IS<|VW<|aO (ay:Int) ?_
  obtain⟨au,c5,hb⟩:=bd hb
  refine VO 0 o qx c5 λds o=>VS 0 au o zf λdt o=>V9 o GO.z λdu w o=>?_
  refine aJ (ay:Int)<|V5 0 o 1 zr zf λw o=>?_
  refine IN<|AT zr mf<|Wh 0 o zr eC gm λdv o=>VP 0 au.Xs o pd<|XF (au.Xs.length:Int) 2 zr zr zr zr<|aJ (cE<|Int.tdiv (au.Xs.length:Int) 2)<|IT<|IS ?_
  obtain⟨b3,hj,hb⟩:=bd hb
  refine VR (λ(b3:Bool)=>SH E V [(0,v0),(3,ah),(4,vp ae 0),(6,(.func (.func 136) #[] #[vp ae 0])),(7,vi ai.2.1),(8,vi ai.2.2),(11,vi<|cE<|Int.tdiv (au.Xs.length:Int) 2),(42,v0),(43,vi p0.length),(44,vi ay),(65,vb b3)] [rd v0 p0,own 56 ah ao,bc 91 ae [bk],own 3 bk ai.1]) b3 ?_ ?_
  ·refine WD mixed ?_
   have o:=o.drew
   refine WC<|aO (ay:Int)<|AI<|ic ((ay:Int)) 0<|AI<|fY (jP<|(ay:Int)>0)<|fx hj (λaq hj=>?_) λaq hj=>?_
   rotate_left
   ·refine AI<|bH aq<|AI<|bH aq<|AI<|bH aq<|AI<|bH aq<|AI ?_
    refine bH aq<|AI<|bH aq<|AI<|bH aq<|AI<|bH aq<|AI<|bH aq ?_
    refine AI<|fw aq (vb false)<|Wt ?_
    obtain rfl:=oi hj
    exact⟨rfl,o.sp 8 [4,5,6,7]⟩
   refine AI<|VK v0 (cg aq)<|AI<|VK (vi ay) (cg aq)<|AI<|OF (ay:Int) 1<|AI ?_
   obtain⟨b4,c6,hj⟩:=bd hj
   refine VO 4 o qx c6 λdw o=>AI<|Wo 0 o zr nO fJ λdx o=>AI<|Wd b4.Y1 0 o cV<|AI<|AT zr qT<|AI<|VL 3 o zr gM cV ?_
   refine AI<|Ws b4.Y1 au.Y0 (cg aq)<|AI<|fw aq (vb<|b4.Y1==au.Y0)<|Wt ?_
   obtain rfl:=oi hj
   exact⟨rfl,o.sp 10 [6,7,8,9]⟩
  rintro _ w⟨O,rfl,o⟩
  refine aD ?_
  obtain⟨b5,hj,hb⟩:=bd hb
  refine VR (λ(b5:aL Int)U w=>∃bl:aV,SH E V [(0,v0),(3,ah),(4,vp ae 0),(6,(.func (.func 136) #[] #[vp ae 0])),(7,vi ai.2.1),(11,vi<|cE<|Int.tdiv (au.Xs.length:Int) 2),(42,v0),(43,vi p0.length),(44,vi ay)] [rd v0 p0,own 56 ah ao,bc 91 ae [bl],own 3 bl b5] U w) b5 ?_ ?_
  ·refine dM hj (λhj=>?_) λhj=>?_
   rotate_left
   ·refine Wc ?_
    obtain rfl:=oi hj
    exact⟨rfl,bk,o.sp 4 [0,1,2,3]⟩
   refine w_<|aO ai.2.2<|aO ai.2.1<|aJ ai.2.2<|aJ ai.2.1<|AS<|Xt E V (λ(ag:aL Int×Int×Int)(ck:aV)=>[rd v0 p0,own 56 ah ao,bc 91 ae [ck],own 3 ck ag.1]) (λ_ _=>[(0,v0),(3,ah),(4,vp ae 0),(6,(.func (.func 136) #[] #[vp ae 0])),(7,vi ai.2.1),(11,vi<|cE<|Int.tdiv (au.Xs.length:Int) 2),(42,v0),(43,vi p0.length),(44,vi ay)]) (λag _=>[(12,vi ag.2.1),(13,vi ag.2.2)]) hj ?_ ?_ ?_
   ·exact⟨bk,o.sp 4 [0,1,2,3]⟩
   ·rintro ag fl _ w⟨bm,O,rfl,o⟩hb
    refine IS<|w_<|aO ag.2.1<|aO ai.2.1<|ic ag.2.1 ai.2.1<|fY (jP<|ag.2.1<ai.2.1)<|Wb (vi ag.2.2) zr zr tR<|Wb (vi ai.2.1) zr zr tR<|Wb (vi<|cE<|Int.tdiv (au.Xs.length:Int) 2) zr zr tR ?_
    refine Wb (vi<|cE<|ai.2.1+ cE (Int.tdiv (au.Xs.length:Int) 2)) zr zr (Vp .add)<|Wb (vb<|jP<|ag.2.2< cE (ai.2.1+ cE (Int.tdiv (au.Xs.length:Int) 2))) zr zr (u9 .lss)<|Wl (b:=jP<|ag.2.1<ai.2.1) (v:=vb<|jP (ag.2.1<ai.2.1)&&jP (ag.2.2< cE (ai.2.1+ cE (Int.tdiv (au.Xs.length:Int) 2)))) zt zr zr (kc true)<|AS<|dM hb (λhb=>?_) λhb=>?_
    rotate_left
    ·refine Wp ?_
     obtain rfl:=oi hb
     exact⟨rfl,bm,o.sp 4 [0,1,2,3]⟩
    refine WL<|WM<|IS<|IS ?_
    obtain⟨b6,hj,hb⟩:=bd hb
    refine VR (λ(b6:Bool)=>SH E V [(0,v0),(3,ah),(4,vp ae 0),(6,(.func (.func 136) #[] #[vp ae 0])),(7,vi ai.2.1),(11,vi<|cE<|Int.tdiv (au.Xs.length:Int) 2),(12,vi ag.2.1),(13,vi ag.2.2),(42,v0),(43,vi p0.length),(44,vi ay),(101,vb b6)] [rd v0 p0,own 56 ah ao,bc 91 ae [bm],own 3 bm ag.1]) b6 ?_ ?_
    ·refine WD mixed ?_
     have o:=o.drew
     refine WC<|mv ah<|AI<|aO ag.2.1<|AI ?_
     obtain⟨cm,bn,hj⟩:=bd hj
     refine VX 1 o zr zr mD bn<|AI<|WY (α:=aK) (sS 1 o bn 0) kJ<|AI<|WZ 1 zt o (sS 1 o bn 0) (eQ bn).2.1 fX cV<|AI<|mv ah<|AI<|aO ag.2.2 ?_
     refine AI ?_
     obtain⟨cn,bo,hj⟩:=bd hj
     refine VX 1 o zr zr mD bo<|AI<|WY (α:=aK) (sS 1 o bo 0) mE<|AI<|WZ 1 zt o (sS 1 o bo 2) (eQ bo).2.1 iC cV<|AI<|ic cm.X0 cn.X1<|AI<|fY (jP<|cm.X0<cn.X1) ?_
     refine fx hj (λal hj=>?_) λal hj=>?_
     rotate_left
     ·refine AI<|bH al<|AI<|bH al<|AI<|bH al<|AI<|bH al<|AI ?_
      refine bH al<|AI<|bH al<|AI<|bH al<|AI<|bH al<|AI<|bH al ?_
      refine AI<|bH al<|AI<|bH al<|AI<|fw al (vb false)<|Wt ?_
      obtain rfl:=oi hj
      exact⟨rfl,o.sp 4 [0,1,2,3]⟩
     refine AI<|VK ah (cg al)<|AI<|VK (vi ag.2.2) (cg al)<|AI ?_
     obtain⟨cp,bp,hj⟩:=bd hj
     refine VX 1 o zr zr mD bp<|AI<|WY (α:=aK) (sS 1 o bp 0) kJ<|AI<|WZ 1 (cg al) o (sS 1 o bp 0) (eQ bp).2.1 fX cV<|AI<|VK ah (cg al)<|AI<|VK (vi ag.2.1) (cg al) ?_
     refine AI ?_
     obtain⟨cq,bq,hj⟩:=bd hj
     refine VX 1 o zr zr mD bq<|AI<|WY (α:=aK) (sS 1 o bq 0) mE<|AI<|WZ 1 (cg al) o (sS 1 o bq 2) (eQ bq).2.1 iC cV<|AI<|Ws cp.X0 cq.X1 (cg al)<|AI<|fw al (vb<|cp.X0<cq.X1) ?_
     refine Wt ?_
     obtain rfl:=oi hj
     exact⟨rfl,o.sp 4 [0,1,2,3]⟩
    rintro _ w⟨O,rfl,o⟩
    refine aD ?_
    obtain⟨br,hj,hb⟩:=bd hb
    refine VR (λ(br:aL Int)U w=>∃bf:aV,SH E V [(0,v0),(3,ah),(4,vp ae 0),(6,(.func (.func 136) #[] #[vp ae 0])),(7,vi ai.2.1),(11,vi<|cE<|Int.tdiv (au.Xs.length:Int) 2),(12,vi ag.2.1),(13,vi ag.2.2),(42,v0),(43,vi p0.length),(44,vi ay)] [rd v0 p0,own 56 ah ao,bc 91 ae [bf],own 3 bf br] U w) br ?_ ?_
    ·refine dM hj (λhj=>?_) λhj=>?_
     rotate_left
     ·refine Wc ?_
      obtain rfl:=oi hj
      exact⟨rfl,bm,o.sp 4 [0,1,2,3]⟩
     refine w_<|mv (.func (.func 136) #[] #[vp ae 0])<|aO ag.2.1 ?_
     have o:=(o.pull 3).pull 3
     obtain⟨a8,c7,hj⟩:=bd hj
     refine W4 [vp ae 0] Mh [vi ag.2.1]<|eA (l9 N (p0:=ag.2.1) o c7) ?_
     rintro _ w⟨dz,rfl,o⟩
     refine mv (.func (.func 136) #[] #[vp ae 0])<|aO ag.2.2 ?_
     have o:=(o.pull 1).pull 1
     obtain⟨a9,c8,hj⟩:=bd hj
     refine W4 [vp ae 0] Mh [vi ag.2.2]<|eA (l9 N (p0:=ag.2.2) o c8) ?_
     rintro _ w⟨cr,rfl,o⟩
     refine aJ a8.1<|aJ a9.1<|AS<|BY<|VY 0 cr o gm<|aO a8.1<|aO a9.1<|W8 a8.1 a9.1<|aO a8.1 ?_
     refine aO a9.1<|Xb a8.1 a9.1 ?_
     obtain⟨d0,ct,hj⟩:=bd hj
     refine VX 1 o zr zr fH ct ?_
     have o:=o.sc Int (aN a9.1 a8.1)
     refine WQ 2 0 o ct cV λw o=>?_
     refine By ?_
     obtain rfl:=oi hj
     exact⟨rfl,cr,o.sp 9 [5,6,1,2]⟩
    rintro _ w⟨bf,O,rfl,o⟩
    refine aD<|IS<|WD mixed ?_
    have o:=o.drew
    refine WC<|mv ah<|AI<|aO ag.2.1<|AI ?_
    obtain⟨c9,bt,hb⟩:=bd hb
    refine VX 1 o zr zr mD bt<|AI<|WY (α:=aK) (sS 1 o bt 0) mE<|AI<|WZ 1 zt o (sS 1 o bt 2) (eQ bt).2.1 iC cV<|AI<|mv ah<|AI<|aO ag.2.2 ?_
    refine AI ?_
    obtain⟨da,bu,hb⟩:=bd hb
    refine VX 1 o zr zr mD bu<|AI<|WY (α:=aK) (sS 1 o bu 0) mE<|AI<|WZ 1 zt o (sS 1 o bu 2) (eQ bu).2.1 iC cV<|AI<|ic c9.X1 da.X1<|Wt<|aD ?_
    obtain⟨bw,hj,hb⟩:=bd hb
    refine VR (λ(bw:Int×Int)=>SH E V [(0,v0),(3,ah),(4,vp ae 0),(6,(.func (.func 136) #[] #[vp ae 0])),(7,vi ai.2.1),(11,vi<|cE<|Int.tdiv (au.Xs.length:Int) 2),(12,vi bw.1),(13,vi bw.2),(42,v0),(43,vi p0.length),(44,vi ay)] [rd v0 p0,own 56 ah ao,bc 91 ae [bf],own 3 bf br]) bw ?_ ?_
    ·refine dM hj (λhj=>?_) λhj=>?_
     ·refine BY<|aO ag.2.1<|OF ag.2.1 1<|aJ (cE<|ag.2.1+1)<|By ?_
      obtain rfl:=oi hj
      exact⟨rfl,o.sp 4 [0,1,2,3]⟩
     refine BY<|aO ag.2.2<|OF ag.2.2 1<|aJ (cE<|ag.2.2+1)<|By ?_
     obtain rfl:=oi hj
     exact⟨rfl,o.sp 4 [0,1,2,3]⟩
    rintro _ w⟨O,rfl,o⟩
    refine bI ?_
    obtain rfl:=oi hb
    exact⟨rfl,bf,o.sp 4 [0,1,2,3]⟩
   rintro ag _ w hj⟨db,O,rfl,o⟩
   obtain rfl:=oi hj
   exact⟨rfl,db,o.sp 4 [0,1,2,3]⟩
  rintro _ w⟨bl,O,rfl,o⟩
  refine aD<|BY<|aO ai.2.1<|aO ai.2.1<|aO (cE<|Int.tdiv (au.Xs.length:Int) 2)<|OF ai.2.1 (cE<|Int.tdiv (au.Xs.length:Int) 2)<|aJ ai.2.1<|aJ (cE<|ai.2.1+ cE (Int.tdiv (au.Xs.length:Int) 2))<|By ?_
  refine bI<|aD<|BY<|Wa hk hm<|aO ((ay+1:Nat):Int)<|By ?_
  obtain rfl:=oi hb
  exact⟨rfl,bl,o.sp 4 [0,1,2,3]⟩
 rintro ai _ w hb⟨dc,O,rfl,o⟩
 refine aD<|w_<|Xh (κ:=Int) (ν:=Int) o λa3 w o=>dN a3<|IN<|dN n_<|IT<|w_<|mv ah ?_
 refine WB (i:=2) (l:=ao) zt zr o zr zr rZ<|aO 0<|AS ?_
 obtain⟨an,hN,hb⟩:=bd hb
 refine XC (λ(a2:Nat)(an:aL Int×aL (Int×Int)×aL (aL aK))U w=>∃(cu cv:aV)(us939:aL RV),SH E V [(6,(.func (.func 136) #[] #[vp ae 0])),(16,a3),(17,cv),(137,ah),(138,vi ao.length),(139,vi a2)] [bc 91 ae [cu],own 3 cu an.1,mp a3 an.2.1,own 56 ah ao,own 28 cv us939,kf (XS 56 aK) us939 an.2.2 none] U w) (λ(an:aL Int×aL (Int×Int)×aL (aL aK))U w=>∃(b7 bg:aV)(us942:aL RV),SH E V [(17,bg)] [bc 91 ae [b7],own 3 b7 an.1,mp a3 an.2.1,own 56 ah ao,own 28 bg us942,kf (XS 56 aK) us942 an.2.2 none] U w) hN ?_ ?_ ?_ ?_
 ·have o:=(o.ET<|XS 56 aK).dQ RV 28
  exact⟨dc,n_,([]:aL RV),o.sp 7 [5,6,2,4,0,1]⟩
 ·rintro hm an _ w⟨de,df,us987,O,rfl,o⟩
  refine w_<|ic ((ao.length:Int)) ((ao.length:Int))<|IT<|Xn QN<|Wp ?_
  exact⟨rfl,de,df,us987,o.sp 6 (fR 0 6 [])⟩
 ·rintro hm a2 an s' _ w hk⟨d3,b8,us945,O,rfl,o⟩hb
  refine w_<|ic ((a2:Int)) ((ao.length:Int))<|IT<|Xm (QM hk)<|We<|VW<|aO (a2:Int) ?_
  obtain⟨a7,cw,hb⟩:=bd hb
  refine VX 3 o zr zr mD cw<|Wx 3 o cw gH λd4 o=>?_
  refine V9 o px.z λbz w o=>?_
  refine aJ (a2:Int)<|V5 0 o 1 zr gH λw o=>?_
  refine IN<|mv (.func (.func 136) #[] #[vp ae 0])<|aO (a2:Int) ?_
  have o:=(o.pull 3).pull 3
  obtain⟨a1,dg,hb⟩:=bd hb
  refine W4 [vp ae 0] Mh [vi a2]<|eA (l9 N (p0:=(a2:Int)) o dg) ?_
  rintro _ w⟨bh,rfl,o⟩
  refine aJ a1.1<|IN<|mv a3<|aO a1.1<|XD 6 a1.1 zr o zr zr zr AY<|mv (.tuple #[vi<|dE an.2.1 a1.1 (0:Int),vb<|iD an.2.1 a1.1])<|V6 (vi<|dE an.2.1 a1.1 (0:Int))<|V6 (vb<|iD an.2.1 a1.1)<|aJ (dE an.2.1 a1.1 (0:Int)) ?_
  refine bV (iD an.2.1 a1.1)<|IT<|w_<|fY (iD an.2.1 a1.1)<|Wr (iD an.2.1 a1.1)<|AS ?_
  obtain⟨ad,hj,hb⟩:=bd hb
  refine VR (λ(ad:aL (Int×Int)×aL (aL aK)×Int)U w=>∃(az:aV)(us956:aL RV),SH E V [(6,(.func (.func 136) #[] #[vp ae 0])),(16,a3),(17,az),(19,vp bz 0),(21,vi ad.2.2),(137,ah),(138,vi ao.length),(139,vi a2)] [bc 91 ae [bh],own 3 bh a1.2,mp a3 ad.1,bx 56 bz a7,own 56 ah ao,own 28 az us956,kf (XS 56 aK) us956 ad.2.1 none] U w) ad ?_ ?_
  ·refine dM hj (λhj=>?_) λhj=>?_
   rotate_left
   ·refine Wc ?_
    obtain rfl:=oi hj
    exact⟨rfl,b8,us945,o.sp 10 [0,1,6,2,7,8,9]⟩
   refine w_<|mv b8<|XA 8 9 an.2.2 zr o zr zr zr GN<|aJ (an.2.2.length:Int)<|IN<|mv a3<|aO a1.1<|aO (an.2.2.length:Int) ?_
   have o:=o.sc Int (an.2.2.length:Int)
   refine Xi 7 0 a1.1 o zr zr zr zr AY λw o=>AS<|BY<|mv b8 ?_
   have o:=(o.dQ aK 56).Jh (i:=0) rfl
   refine Wv ([rv<|.slice none 0 0]:aL RV) o [n_] H9 RZ (λ_ _=>jn) λd5 w o=>?_
   obtain⟨d6,dh,hj⟩:=bd hj
   have o:=o.freeze 0
   refine Yk 12 0 13 2 zt zr o zr zr zr zr zr zr TU dh λcx w o=>?_
   refine dN cx<|By ?_
   obtain rfl:=oi hj
   exact⟨rfl,cx,us945++[rv<|.slice none 0 0],o.sp 14 [4,5,10,6,11,12,13]⟩
  rintro _ w⟨az,us956,O,rfl,o⟩
  refine aD ?_
  obtain⟨d7,b0,hb⟩:=bd hb
  obtain⟨ba,di,hb⟩:=bd hb
  obtain⟨d8,b9,hb⟩:=bd hb
  refine W1 E V mixed [1,1,1,1,0,0,0,0,0,0,0] [6,7,8,10] (λ(x:aV×aV×aV)=>(λax av ak=>[(0,163,az),(1,164,vi ad.2.2),(2,165,az),(3,166,vi ad.2.2),(4,167,z9 az (jQ ad.2.2) 1 0),(5,168,(us956.getD (jQ ad.2.2) F4).v),(6,169,ax),(7,170,av),(8,171,ak),(9,172,z9 az (jQ ad.2.2) 1 0)]) x.1 x.2.1 x.2.2) [(6,(.func (.func 136) #[] #[vp ae 0])),(16,a3),(17,az),(19,vp bz 0),(21,vi ad.2.2),(137,ah),(138,vi ao.length),(139,vi a2)] [] (λ(D:Nat->Bool)(x:aV×aV×aV)=>(λax av ak=>[bif D 0 then rd ax a7 else bD,bif D 2 then rd av ([a7]:aL aK)else(bif D 1 then own 56 av ([a7]:aL aK)else bD),bif D 3 then bD else(bif D 2 then own 56 ak ba else bD),bc 91 ae [bh],own 3 bh a1.2,mp a3 ad.1,bx 56 bz a7,own 56 ah ao,bif D 3 then own 28 az (us956.set (jQ ad.2.2)<|rv ak)else own 28 az us956,bif D 3 then kf (XS 56 aK) (us956.set (jQ ad.2.2)<|rv ak) (ad.2.1.set (jQ ad.2.2) ba) none else(bif D 2 then kf (XS 56 aK) us956 ad.2.1 (some<|jQ ad.2.2)else kf (XS 56 aK) us956 ad.2.1 none)]) x.1 x.2.1 x.2.2) (λx=>by kernel_rfl) ?_ ⟨λ_=>ka gn,λ_=>ka gn,λ_=>ka gn,λ_=>ka gn,?_,?_,?_,?_,?_,?_,?_,trivial⟩ ?_
  ·have o:=(((o.drew).bD).bD).bD
   exact⟨(undef,undef,undef),dY.none,GJ zr,zt,o⟩
  ·rintro D U w hD aw aj⟨⟨ax,av,ak⟩,hv,ha,_,o⟩
   obtain⟨O,rfl⟩:=hv.o2 2 3 aw
   have o:=((o.bY 8<|nh aj hD 10).bY 9<|nh aj hD 10).bY 9<|nf<|λh=>ft hD<|(aj 5 _ rfl<|(aj 8 _ rfl h).1 rfl).1 rfl
   have hl974:=o.iT 9 rfl
   have hr975:=lr F4 hl974 b0
   refine VX 8 o zr zr H9 hr975 ?_
   have o:=(o.fV 8 (D 10) (nh aj hD 10)<|own 28 az<|us956.set (jQ ad.2.2)<|rv ak).fV 9 (D 8) (nf<|λh=>ft hD<|(aj 5 _ rfl<|(aj 8 _ rfl h).1 rfl).1 rfl)<|kf (XS 56 aK) us956 ad.2.1<|some<|jQ ad.2.2
   have o:=o.fV 9 (D 10) (nh aj hD 10)<|kf (XS 56 aK) (us956.set (jQ ad.2.2)<|rv ak) (ad.2.1.set (jQ ad.2.2) ba) none
   exact VQ (ax,av,ak) 4 hv ha o
  ·rintro D U w hD aw aj⟨⟨ax,av,ak⟩,hv,ha,_,o⟩
   obtain⟨O,rfl⟩:=hv.o1 4 aw
   have o:=((o.bY 8<|nh aj hD 10).bY 9<|nh aj hD 10).bY 9<|nh aj hD 8
   have hl976:=o.iT 9 rfl
   have hr977:=lr F4 hl976 b0
   refine XZ 8 9 ad.2.2 (D3 56 aK) F4 zr o zr (sS 8 o hr977 0) zr zr b0 Ag ?_
   have o:=(o.fV 8 (D 10) (nh aj hD 10)<|own 28 az<|us956.set (jQ ad.2.2)<|rv ak).fV 9 (D 8) (nh aj hD 8)<|kf (XS 56 aK) us956 ad.2.1<|some<|jQ ad.2.2
   have o:=o.fV 9 (D 10) (nh aj hD 10)<|kf (XS 56 aK) (us956.set (jQ ad.2.2)<|rv ak) (ad.2.1.set (jQ ad.2.2) ba) none
   exact VQ (ax,av,ak) 5 hv ha o
  ·rintro D U w hD aw aj⟨⟨ax,av,ak⟩,hv,ha,_,o⟩
   obtain⟨O,rfl⟩:=ha.sV
   have o:=o.bY 0 hD
   refine V1 6 o zr gH λdj o=>?_
   have o:=o.nw 0
   exact VQ (dj,av,ak) 6 hv ha o
  ·rintro D U w hD aw aj⟨⟨ax,av,ak⟩,hv,ha,_,o⟩
   obtain⟨O,rfl⟩:=hv.o1 6 aw
   have o:=((o.eB 0<|aw.1 rfl).bY 1<|nh aj hD 8).bY 1 hD
   refine Wv ([a7]:aL aK) o [ax] mD px (λ_ _=>jn) λcy w o=>?_
   have o:=(((o.pl 11 [1,0,3,4,5,6,7,8,9,10] rfl).dF 0 (D 6) (aw.1 rfl) bD).dF 1 true rfl bD).fV 1 (D 8) (nh aj hD 8)<|rd cy ([a7]:aL aK)
   exact VQ (ax,cy,ak) 7 hv ha o
  ·rintro D U w hD aw aj⟨⟨ax,av,ak⟩,hv,ha,_,o⟩
   obtain⟨O,rfl⟩:=hv.o2 5 7 aw
   have o:=(((((((o.bY 1 hD).eB 1<|aw.2.1 rfl).bY 2<|nh aj hD 10).bY 2 hD).bY 8<|nh aj hD 10).bY 9<|nh aj hD 10).bY 9 hD).EU (j:=9) (jj:=ad.2.2) (D3 56 aK) F4 rfl b0
   have o:=o.freeze 2
   refine WI 0 2 o Kw di λca w o=>?_
   dsimp only[List.cons_append,List.nil_append,List.set_cons_zero,List.set_cons_succ]at o
   have o:=((((o.pl 11 [1,2,0,4,5,6,7,8,9,10] rfl).dF 1 true rfl (bif D 7 then own 56 av ([a7]:aL aK)else bD)).dF 2 true rfl bD).fV 2 (D 10) (nh aj hD 10) bD).fV 8 (D 10) (nh aj hD 10)<|own 28 az<|us956.set (jQ ad.2.2)<|rv ca
   have o:=(o.dF 9 true rfl<|kf (XS 56 aK) us956 ad.2.1 none).fV 9 (D 10) (nh aj hD 10)<|kf (XS 56 aK) (us956.set (jQ ad.2.2)<|rv ca) (ad.2.1.set (jQ ad.2.2) ba) none
   exact VQ (ax,av,ca) 8 hv ha o
  ·rintro D U w hD aw aj⟨⟨ax,av,ak⟩,hv,ha,_,o⟩
   obtain⟨O,rfl⟩:=hv.o2 0 1 aw
   have o:=((o.bY 8<|nh aj hD 10).bY 9<|nh aj hD 10).eB 9<|aw.2.2.2.2.2.2.2.2.2.2.1 rfl
   have hl981:=o.iT 9 rfl
   have hr982:=lr F4 hl981 b9
   refine VX 8 o zr zr H9 hr982 ?_
   have o:=((o.fV 8 (D 10) (nh aj hD 10)<|own 28 az<|us956.set (jQ ad.2.2)<|rv ak).dF 9 (D 8) (aw.2.2.2.2.2.2.2.2.2.2.1 rfl)<|kf (XS 56 aK) us956 ad.2.1 none).fV 9 (D 10) (nh aj hD 10)<|kf (XS 56 aK) (us956.set (jQ ad.2.2)<|rv ak) (ad.2.1.set (jQ ad.2.2) ba) none
   exact VQ (ax,av,ak) 9 hv ha o
  ·rintro D U w hD aw aj⟨⟨ax,av,ak⟩,hv,ha,_,o⟩
   obtain⟨O,rfl⟩:=hv.o2 9 8 aw
   have o:=((((o.bY 2 hD).eB 2<|aw.2.1 rfl).bY 8 hD).bY 9 hD).eB 9<|aw.2.1 rfl
   have hl983:=o.iT 9 rfl
   have hr984:=lr F4 hl983 b9
   refine XY 8 9 2 ad.2.2 (D3 56 aK) F4 o zr zr (sS 8 o hr984 0) zr zr zr b9 Ag λw o=>?_
   have o:=((o.dF 2 true rfl (bif D 8 then own 56 ak ba else bD)).dF 8 true rfl<|own 28 az us956).dF 9 true rfl (bif D 8 then kf (XS 56 aK) us956 ad.2.1 (some<|jQ ad.2.2)else kf (XS 56 aK) us956 ad.2.1 none)
   exact WV (ax,av,ak) hv ha o
  rintro D U w bj⟨⟨ax,av,ak⟩,hv,ha,_,o⟩
  simp only[List.getD_cons_zero,List.getD_cons_succ,bj 6 (by decide),bj 8 (by decide),bj 10 (by decide),bj 10 (by decide),bj 10 (by decide),aQ]at o
  obtain⟨O,rfl⟩:=ha.sV
  refine bI<|aD<|BY<|Wa hk hm<|aO ((a2+1:Nat):Int)<|By ?_
  obtain rfl:=oi hb
  exact⟨rfl,bh,az,us956.set (jQ ad.2.2)<|rv ak,o.sp 10 [3,4,5,7,8,9]⟩
 rintro _ w⟨b7,bg,us942,O,rfl,o⟩
 refine aD<|w_<|dN n_<|IT<|w_<|mv bg<|XA 4 5 an.2.2 zr o zr zr zr GN<|aO 0<|AS ?_
 have o:=o.EV (X:=XS 56 aK) (b:=5) (j:=4) rfl (λM h u x cs=>(O0 56) M h u x cs) rfl rfl (by decide)
 refine WT E V (λ(cb:aL (aL aB))(cc:aV)=>[own 28 bg an.2.2,own 96 cc cb]) (λ_ cc=>[(23,cc)]) (λcd _ _=>[(174,bg),(175,vi an.2.2.length),(176,vi cd)]) hb ?_ ?_ ?_
 ·have o:=o.dQ (aL aB) 96
  exact⟨n_,o.sp 7 [5,0]⟩
 ·rintro hm cd cb s' _ w hk⟨dk,O,rfl,o⟩hb
  refine IS<|VW ?_
  obtain⟨d9,cz,hb⟩:=bd hb
  refine VX 0 o zr zr H9 cz<|Wx 0 o cz Ag λc0 o=>?_
  refine dN c0<|AS<|BY<|mv dk<|mv c0 ?_
  obtain⟨dm,dn,hb⟩:=bd hb
  refine V2 Mc (mK N (i0:=0) o zr dn) λdp w o=>?_
  have o:=o.freeze 0
  refine Wv ([dm]:aL (aL aB)) o [dp] Mf P3 (λ_ _=>jn) λea w o=>?_
  have o:=o.freeze 0
  obtain⟨eb,dq,hb⟩:=bd hb
  refine WI 4 0 o RY dq λc1 w o=>?_
  refine dN c1<|By<|bI<|aD<|BY<|Wa hk hm<|aO ((cd+1:Nat):Int)<|By ?_
  obtain rfl:=oi hb
  exact⟨rfl,c1,o.sp 5 [3,4]⟩
 rintro cb _ w hb⟨c2,O,rfl,o⟩
 refine aD<|w_<|mv c2<|dN c2<|AS<|VN ?_
 obtain rfl:=oi hb
 exact bT<|o.pk 2 [1]
def vT(E:aW)(V:aL HP)(b0:Nat)(e_ i_:aV)(a_ d_:aV)(f_ p_:aV)(o_ l_:aV)(j_ g_:aV)(res:Bool×aL (aL aB)×aL aI)(v:aV)(w:aW):Prop:=∃X_ Y_:aV,v= vb res.1/\Holds E w ([bc 94 b0 [e_,i_,a_,d_,X_,Y_,f_,p_,o_,l_,j_,g_],own 96 X_ res.2.1,own 98 Y_ res.2.2]++V)
theorem uP{A_:aL (aL aK)}{m_:aL cL}{S_:aL (aL aB)}{h_:aL aI}{res:Bool×aL (aL aB)×aL aI}(j:Holds E w (bc 94 b0 [e_,i_,a_,d_,k_,b_,f_,p_,o_,l_,j_,g_]::rd e_ A_::rd a_ m_::own 96 k_ S_::own 98 b_ h_::V))(o:jU N A_ m_ S_ h_=some res):c_ 69 [vp b0 0] w<|vT E V b0 e_ i_ a_ d_ f_ p_ o_ l_ j_ g_ res:=by
 unfold jU at o;refine enter Tryz.func69 zr zr<|w_<|bV false<|IN<|bV true<|IT<|w_<|mv (vp b0 0)<|Wg zt zr zr<|AT zr qz<|AT zr Af<|VY 0 e_ j Kv<|VP 1 A_ j GN<|aO 0<|AS<|XK E V (λ(aa:aL (aL aB)×aL aI×Bool)(a8 a9:aV)=>[bc 94 b0 [e_,i_,a_,d_,a8,a9,f_,p_,o_,l_,j_,g_],own 96 a8 aa.1,own 98 a9 aa.2.1,rd e_ A_,rd a_ m_]) (λaa _ _=>[(0,vp b0 0),(3,vb aa.2.2)]) (λad _ _ _=>[(16,e_),(17,vi A_.length),(18,vi ad)]) o ?_ ?_ ?_;exact⟨k_,b_,j.sp 5 [0,3,4,1,2]⟩;rintro hm ad aa s' _ w hk⟨ag,ah,O,rfl,j⟩o;refine IS<|VW<|aO (ad:Int)<|q_ o λax bm o=>VO 3 j H9 bm λcc j=>VS 0 ax j Ag λai j=>aJ (ad:Int)<|dN ai<|IN<|dN n_<|IT<|w_<|mv (vp b0 0) ?_;refine Wg zt zr zr<|AT zr qz<|AT zr py<|VY 2 a_ j Ah<|VP 6 m_ j Co<|aO 0<|AS<|WT E V (λ(ay:aL aK)(az:aV)=>[bc 94 b0 [e_,i_,a_,d_,ag,ah,f_,p_,o_,l_,j_,g_],rd e_ A_,rd a_ m_,own 96 ag aa.1,own 98 ah aa.2.1,rd ai ax,own 56 az ay]) (λ_ az=>[(0,vp b0 0),(3,vb aa.2.2),(4,vi ad),(5,ai),(6,az),(16,e_),(17,vi A_.length),(18,vi ad)]) (λar _ _=>[(27,a_),(28,vi m_.length),(29,vi ar)]) o ?_ ?_ ?_;exact⟨n_,(j.dQ aK 56).sp 8 [3,6,7,4,5,1,0]⟩;rintro hm ar ay s' _ w hk⟨ba,O,rfl,j⟩o;refine IS<|VW<|q_ o λbn bo o=>VO 2 j Fe bo λcd j=>VS 0 bn j na λcf j=>V9 j Ej.z λch w j=>?_;refine V5 0 j 1 zr na λw j=>?_;refine IN<|V1 0 j zr na λcj j=>aO (ad:Int)<|q_ o λck bp o=>VM Me (oS N (p1:=(ad:Int)) (i0:=0) j zr bp) λw j=>AS<|q_ o λa0 hj o=>VR (λ(a0:aL aK)U w=>∃au:aV,SH E V [(0,vp b0 0),(3,vb aa.2.2),(4,vi ad),(5,ai),(6,au),(16,e_),(17,vi A_.length),(18,vi ad),(27,a_),(28,vi m_.length),(29,vi ar)] [bc 94 b0 [e_,i_,a_,d_,ag,ah,f_,p_,o_,l_,j_,g_],rd e_ A_,rd a_ m_,own 96 ag aa.1,own 98 ah aa.2.1,rd ai ax,own 56 au a0] U w) a0 ?_ ?_;refine dM hj (λhj=>?_) λhj=>?_;refine BY<|mv ba<|V1 1 j zr na λcm j=>?_;refine q_ hj λbq br hj=>V2 Ky (iP N (i0:=0) j zr br) λbt w j=>Wv ([bq]:aL aK) j [bt] mD px (λ_ _=>jn) λcn w j=>?_;have j:=j.freeze 0;refine q_ hj λcp bu hj=>WI 13 0 j Kw bu λbb w j=>?_;exact dN bb<|By<|oi hj▸⟨rfl,bb,j.sp 14 (fR 7 7 [])⟩;exact Wc<|oi hj▸⟨rfl,ba,j.sp 11 (fR 4 7 [])⟩;rintro _ w⟨au,O,rfl,j⟩;exact bI<|aD<|BY<|Wa hk hm<|aO ((ar+1:Nat):Int)<|By<|oi o▸⟨rfl,au,j.sp 7 (fR 0 7 [])⟩;rintro ay _ w o⟨bw,O,rfl,j⟩;refine aD<|w_<|mv ai<|q_ o λcq bx o=>V2 Mc (mK N (i0:=5) j zr bx) λcr w j=>mv bw ?_;have j:=j.freeze 7;refine q_ o λct bz o=>V2 Mc (mK N (i0:=7) j zr bz) λcu w j=>?_;have j:=(j.freeze 1).freeze 0;refine q_ o λcv b2 o=>V2 (gr Tryz.func101) (zu N (i0:=1) (i1:=0) j zr zr b2) λav w j=>dN av<|IT<|q_ o λaj hj o=>VR (λ(aj:Bool×aL aB)U w=>∃ak:aV,SH E V [(0,vp b0 0),(3,vb aj.1),(4,vi ad),(9,ak),(16,e_),(17,vi A_.length),(18,vi ad)] [bc 94 b0 [e_,i_,a_,d_,ag,ah,f_,p_,o_,l_,j_,g_],rd e_ A_,rd a_ m_,own 96 ag aa.1,own 98 ah aa.2.1,rd ak aj.2] U w) aj ?_ ?_;refine BY<|fY aa.2.2<|fY aa.2.2<|fx hj (λaf hj=>?_) λaf hj=>?_;refine VK av (cg af) ?_;have j:=j.freeze 0;refine q_ hj λa1 b3 hj=>VM (gr Tryz.func102) (zv N (i0:=0) j zr b3) λw j=>Ws a1 2000 (cg af)<|fw af (vb<|a1<=2000)<|bV (jP<|a1<=2000)<|By ?_;exact oi hj▸⟨rfl,av,j.sp 10 [3,4,5,6,7,0]⟩;exact bH af<|bH af<|bH af<|fw af (vb false)<|bV false<|By<|oi hj▸⟨rfl,av,(j.freeze 0).sp 10 [3,4,5,6,7,0]⟩;rintro _ w⟨ak,O,rfl,j⟩;refine aD<|w_<|mv (vp b0 0)<|mv (vp b0 0)<|Wg zt zr zr<|AT zr Mg<|VY 0 ag j RX<|mv ak<|Wv ([aj.2]:aL (aL aB)) j [ak] Mf P3 (λM hs g=>⟨(g.sat 5 _ zr).1,zt⟩) λcw w j=>?_;have j:=j.freeze 0;refine q_ o λb4 b5 o=>WI 4 0 j RY b5 λao w j=>?_;refine Wg zt zr zr<|AT zr Mg<|W0 1 ao j zr zr (km 4 j) RX λw j=>?_;refine IN<|mv ak<|q_ o λa2 b6 o=>V2 (gr Tryz.func103) (yk N (i0:=6) j zr b6) λbf w j=>WB (i:=0) (l:=a2) zt zr j zr zr RP<|aO 0<|AS<|WT E V (λ(a3:aL aI)(bg:aV)=>[bc 94 b0 [e_,i_,a_,d_,ao,bg,f_,p_,o_,l_,j_,g_],own 98 bg a3,rd e_ A_,rd a_ m_,own 96 ao b4,own 96 bf a2]) (λ_ _=>[(0,vp b0 0),(3,vb aj.1),(16,e_),(17,vi A_.length),(18,vi ad)]) (λa4 _ _=>[(4,vi ad),(64,bf),(65,vi a2.length),(66,vi a4)]) o ?_ ?_ ?_;exact⟨ah,j.sp 8 [2,6,3,4,5,0]⟩;rintro hm a4 a3 s' _ w hk⟨a5,O,rfl,j⟩o;refine IS<|VW<|q_ o λbh bj o=>VX 5 j zr zr Mf bj<|Wx 5 j bj RQ λaq j=>?_;refine dN aq<|AS ?_;have j:=j.drew;refine Xf (λw=>Holds E w<|[bc 94 b0 [e_,i_,a_,d_,ao,a5,f_,p_,o_,l_,j_,g_]]++V) mixed [1,1,1,1,1,1,1,0,2,0,2,2,0,0,2] [0,1,2,3,4,5,6,7,8,9,10,11,12,13,14] (j.pk 7 [1])<|V8 (vp b0 0) zr (λw=>VK (vp b0 0) zt V0)<|V8 (vp b0 0) zr (λw=>VK (vp b0 0) zt V0)<|V8 (vp b0 0) zr (λw=>Wg zt zr zr V0)<|V8 (vp b0 5) zr (λw=>AT zr ng V0)<|WW a5 zr (λw j=>VY 0 a5 j xl V0)<|V8 (vi ad) zr (λw=>VK (vi ad) zt V0)<|V8 aq zr (λw=>VK aq zt V0)<|VU zr zr ?_;refine mv aq<|rW zr<|q_ o λbk b7 o=>V2 P0 (nW N (i0:=0) j zr b7) λb8 w j=>Wj (j.pk 8 [2])<|VU zr zr ?_;have j:=(j.sc Int (ad:Int)).freeze 1;refine WN (⟨(ad:Int),bh,bk⟩:aI) trivial rfl j [(0,vi ad),(1,aq),(2,b8)] rfl TV rfl (λM hs g=>by have h:=Ck M;exact cI.cons (f:=λ(x:aI)y=>{x with dI:=y}) h y7 (g.sat 0 _ rfl).1 λ_ h=>cI.cons (f:=λ(x:aI)y=>{x with Set:=y}) h y8 (g.sat 2 _ rfl).1 λ_ h=>cI.cons (f:=λ(x:aI)y=>{x with iU:=y}) h y9 (g.sat 1 _ rfl).1 λ_ h=>cI.nil h) λb9 j=>?_;refine rW zr<|Wv ([(⟨(ad:Int),bh,bk⟩:aI)]:aL aI) j [b9] Fi Mi (λ_ _=>jn) λcx w j=>Wj (j.pk 11 [5])<|Wq zr zr ?_;have j:=j.freeze 0;refine q_ o λcy ca o=>WI 6 0 j TW ca λbl w j=>?_;refine Wj (j.pk 11 [5])<|VU zr zr<|Wg zt zr zr<|bF zr<|AT zr ng<|VZ<|Yr zr zr<|W0 5 bl j zr zr (km 6 j) xl λw j=>?_;exact Wj zt<|Wi<|bI<|aD<|BY<|Wa hk hm<|aO ((a4+1:Nat):Int)<|By<|oi o▸⟨rfl,bl,j.sp 11 (fR 5 6 [])⟩;rintro a3 _ w o⟨cb,O,rfl,j⟩;exact bI<|aD<|BY<|Wa hk hm<|aO ((ad+1:Nat):Int)<|By<|oi o▸⟨rfl,ao,cb,j.sp 6 [0,4,1,2,3]⟩;rintro aa _ w o⟨a6,aw,O,rfl,j⟩;refine aD<|IS<|q_ o λa7 hj o=>VR (λ(a7:Bool)=>SH E V [(0,vp b0 0),(2,vb a7)] [bc 94 b0 [e_,i_,a_,d_,a6,aw,f_,p_,o_,l_,j_,g_],rd e_ A_,rd a_ m_,own 96 a6 aa.1,own 98 aw aa.2.1]) a7 ?_ ?_;refine BY<|fY aa.2.2<|fY aa.2.2<|fx hj (λae hj=>?_) λae hj=>?_;refine VK (vp b0 0) (cg ae)<|Wg (cg ae) zr zr<|AT zr ng<|VY 0 aw j xl<|WB (i:=2) (l:=aa.2.1) (cg ae) zr j zr zr DC<|Ws (aa.2.1.length:Int) 2000 (cg ae)<|fw ae (vb<|jP<|(aa.2.1.length:Int)<=2000)<|bV (jP<|(aa.2.1.length:Int)<=2000)<|By ?_;exact oi hj▸⟨rfl,j.sp 5 [0,3,4,1,2]⟩;exact bH ae<|bH ae<|bH ae<|bH ae<|bH ae<|bH ae<|fw ae (vb false)<|bV false<|By<|oi hj▸⟨rfl,j.sp 5 [0,3,4,1,2]⟩;rintro _ w⟨O,rfl,j⟩;exact aD<|VN<|oi o▸bT ⟨a6,aw,zr,j.pk 5 [0,3,4]⟩
theorem Aq{p0 p1:aK}{res:Bool}(j:Holds E w V)(h0:fC V i0 v0 p0)(h1:fC V i1 v1 p1)(hb:sG N p0 p1=some res):c_ 106 [v0,v1] w<|bE E V res:=by
 unfold sG at hb;refine enter Tryz.func106 zr zr ?_;have j:=(j.dup (i0+0) h0).dup (i1+1) h1;refine w_<|V7 1 v0 j zr λo w j=>?_;refine V7 1 v1 j zr λaa w j=>?_;refine bV false<|IN<|AT zr kJ<|VL 1 j zr fX cV<|AT zr mE<|VL 0 j zr iC cV<|ic p0.X0 p1.X1<|fY (jP<|p0.X0<p1.X1)<|Wk true (p0.X0<p1.X1) (vp aa 0) zr zr zr (eF kJ) ?_;refine Wk true (p0.X0<p1.X1) (vi p1.X0) rfl rfl rfl (cA 0 rfl j (by exact z_ (vp aa 0)) rfl fX cV)<|Wk true (p0.X0<p1.X1) (vp o 2) rfl rfl rfl (eF mE)<|Wk true (p0.X0<p1.X1) (vi p0.X1) rfl rfl rfl (cA 1 rfl j (by exact z_ (vp o 2)) rfl iC cV)<|Wb (vb<|p1.X0<p0.X1) rfl rfl (u9 .lss)<|Wl (b:=jP<|p0.X0<p1.X1) (v:=vb<|jP (p0.X0<p1.X1)&&jP (p1.X0<p0.X1)) trivial rfl rfl (kc true)<|bV (jP (p0.X0<p1.X1)&&jP (p1.X0<p0.X1))<|IN<|AT rfl lD<|VL 1 j rfl gu cV ?_;refine AT rfl rF<|VL 0 j rfl kZ cV<|ic p0.Y0 p1.Y1<|fY (jP<|p0.Y0<p1.Y1)<|Wk true (p0.Y0<p1.Y1) (vp aa 1) rfl rfl rfl (eF lD)<|Wk true (p0.Y0<p1.Y1) (vi p1.Y0) rfl rfl rfl (cA 0 rfl j (by exact z_ (vp aa 1)) rfl gu cV)<|Wk true (p0.Y0<p1.Y1) (vp o 3) rfl rfl rfl (eF rF)<|Wk true (p0.Y0<p1.Y1) (vi p0.Y1) rfl rfl rfl (cA 1 rfl j (by exact z_ (vp o 3)) rfl kZ cV)<|Wb (vb<|p1.Y0<p0.Y1) rfl rfl (u9 .lss) ?_;refine Wl (b:=jP<|p0.Y0<p1.Y1) (v:=vb<|jP (p0.Y0<p1.Y1)&&jP (p1.Y0<p0.Y1)) trivial rfl rfl (kc true)<|bV (jP (p0.Y0<p1.Y1)&&jP (p1.Y0<p0.Y1))<|IN<|fY (jP (p0.X0<p1.X1)&&jP (p1.X0<p0.X1))<|fY (jP (p0.X0<p1.X1)&&jP (p1.X0<p0.X1))<|Wk true (jP (p0.X0<p1.X1)&&jP (p1.X0<p0.X1)) (vp o 3) rfl rfl rfl (eF rF)<|Wk true (jP (p0.X0<p1.X1)&&jP (p1.X0<p0.X1)) (vi p0.Y1) rfl rfl rfl (cA 1 rfl j (by exact z_ (vp o 3)) rfl kZ cV)<|Wk true (jP (p0.X0<p1.X1)&&jP (p1.X0<p0.X1)) (vp aa 1) rfl rfl rfl (eF lD)<|Wk true (jP (p0.X0<p1.X1)&&jP (p1.X0<p0.X1)) (vi p1.Y0) rfl rfl rfl (cA 0 rfl j (by exact z_ (vp aa 1)) rfl gu cV) ?_;refine Wb (vb<|p0.Y1==p1.Y0) rfl rfl (u9 .eql)<|Wb (vb<|p0.Y1==p1.Y0) rfl rfl tR<|Wy (vp aa 3) rfl rfl (eF rF)<|Wy (vi p1.Y1) rfl rfl (cA 0 rfl j (by exact z_ (vp aa 3)) rfl kZ cV)<|Wy (vp o 1) rfl rfl (eF lD)<|Wy (vi p0.Y0) rfl rfl (cA 1 rfl j (by exact z_ (vp o 1)) rfl gu cV)<|Wy (vb<|p1.Y1==p0.Y0) rfl rfl (u9 .eql)<|Wb (vb<|(p0.Y1==p1.Y0)||(p1.Y1==p0.Y0)) rfl rfl Q2<|Wl (b:=jP (p0.X0<p1.X1)&&jP (p1.X0<p0.X1)) (v:=vb<|(jP (p0.X0<p1.X1)&&jP (p1.X0<p0.X1))&&((p0.Y1==p1.Y0)||(p1.Y1==p0.Y0))) trivial rfl rfl (kc true) ?_;refine fY ((jP (p0.X0<p1.X1)&&jP (p1.X0<p0.X1))&&((p0.Y1==p1.Y0)||(p1.Y1==p0.Y0)))<|Wb (vb<|jP (p0.Y0<p1.Y1)&&jP (p1.Y0<p0.Y1)) rfl rfl tR<|Wb (vb<|jP (p0.Y0<p1.Y1)&&jP (p1.Y0<p0.Y1)) rfl rfl tR<|Wy (vp o 2) rfl rfl (eF mE)<|Wy (vi p0.X1) rfl rfl (cA 1 rfl j (by exact z_ (vp o 2)) rfl iC cV)<|Wy (vp aa 0) rfl rfl (eF kJ)<|Wy (vi p1.X0) rfl rfl (cA 0 rfl j (by exact z_ (vp aa 0)) rfl fX cV)<|Wy (vb<|p0.X1==p1.X0) rfl rfl (u9 .eql)<|Wy (vb<|p0.X1==p1.X0) rfl rfl tR ?_;refine Wy (vp aa 2) rfl rfl (eF mE)<|Wy (vi p1.X1) rfl rfl (cA 0 rfl j (by exact z_ (vp aa 2)) rfl iC cV)<|Wy (vp o 0) rfl rfl (eF kJ)<|Wy (vi p0.X0) rfl rfl (cA 1 rfl j (by exact z_ (vp o 0)) rfl fX cV)<|Wy (vb<|p1.X1==p0.X0) rfl rfl (u9 .eql)<|Wy (vb<|(p0.X1==p1.X0)||(p1.X1==p0.X0)) rfl rfl Q2<|Wb (vb<|(jP (p0.Y0<p1.Y1)&&jP (p1.Y0<p0.Y1))&&((p0.X1==p1.X0)||(p1.X1==p0.X0))) rfl rfl TB<|Wl (b:=(jP (p0.X0<p1.X1)&&jP (p1.X0<p0.X1))&&((p0.Y1==p1.Y0)||(p1.Y1==p0.Y0))) (v:=vb<|((jP (p0.X0<p1.X1)&&jP (p1.X0<p0.X1))&&((p0.Y1==p1.Y0)||(p1.Y1==p0.Y0)))||((jP (p0.Y0<p1.Y1)&&jP (p1.Y0<p0.Y1))&&((p0.X1==p1.X0)||(p1.X1==p0.X0)))) trivial rfl rfl (sU true)<|bV (((jP (p0.X0<p1.X1)&&jP (p1.X0<p0.X1))&&((p0.Y1==p1.Y0)||(p1.Y1==p0.Y0)))||((jP (p0.Y0<p1.Y1)&&jP (p1.Y0<p0.Y1))&&((p0.X1==p1.X0)||(p1.X1==p0.X0)))) ?_;exact AS<|VN<|oi hb▸bT ⟨rfl,j.drop 4⟩
theorem sN{p0:aK}{p1:cL}{res:Bool}(j:Holds E w V)(h0:fC V i0 v0 p0)(h1:fI V i1 v1 p1)(o:j9 N p0 p1=some res):c_ 105 [v0,v1] w<|bE E V res:=by
 unfold j9 at o;refine enter Tryz.func105 zr zr ?_;have j:=(j.dup (i0+0) h0).rm (i:=i1+1) h1;refine w_<|V7 1 v0 j zr λae w j=>?_;have j:=j.fM (i:=0) rfl;refine bV false<|IT<|WA mixed [1,0,2,2,0] [0,1,2,3,4] ?_;have j:=j.drew;refine W6 p0 0 zr j gH λaf a33 ag j=>VU zr zr<|VS 3 p1 j na λah j=>rW zr<|q_ o λai aa o=>V2 Ky (iP N (i0:=0) j zr aa) λaj w j=>Wj (⟨zt,j.kP 2⟩)<|Wq zr zr<|q_ o λab ad o=>VM (gr Tryz.func106) (Aq N (i0:=3) (i1:=0) j zr zr ad) λw j=>Wj (⟨zt,j.kP 2⟩)<|VU zr zr<|bV ab<|VZ ?_;have j:=j.pl 7 [0,1,3,4,5,6] rfl;exact Wi<|aD<|VN<|oi o▸bT ⟨rfl,j.drop 6⟩
theorem mh{p0:aL aK}{p1:aK->aU Bool}{res:Bool}(j:Holds E w V)(h0:fC V i0 v0 p0)(h1:Jb aX E V v1 p1 (λ(r:Bool)=>Value.bool r))(o:gJ N p0 p1=some res):c_ 104 [v0,v1] w<|bE E V res:=by
 unfold gJ at o;refine enter Tryz.func104 zr zr ?_;have j:=j.dup (i0+0) h0;refine w_<|bV false<|IN<|mv v0<|mv v1<|q_ o λaa ab o=>VM Pc (sM N (i0:=0) j zr (h1.lift 1 zr) ab) λw j=>ic aa 0<|bV (jP<|aa>=0)<|AS<|VN ?_;exact oi o▸bT ⟨rfl,j.drop 1⟩
def vU(E:aW)(V:aL HP)(b0:Nat)(e_ i_:aV)(a_ d_:aV)(k_ b_:aV)(p_ o_:aV)(l_ j_ g_:aV)(res:aL (aL Int))(v:aV)(w:aW):Prop:=∃Z_:aV,v = .tuple #[]/\Holds E w ([bc 94 b0 [e_,i_,a_,d_,k_,b_,Z_,p_,o_,l_,j_,g_],own 91 Z_ res]++V)
theorem uQ{m_:aL cL}{h_:aL aI}{x_:aL (aL Int)}{res:aL (aL Int)}(j:Holds E w (bc 94 b0 [e_,i_,a_,d_,k_,b_,f_,p_,o_,l_,j_,g_]::rd a_ m_::rd b_ h_::own 91 f_ x_::V))(hb:jV N m_ h_ x_=some res):c_ 70 [vp b0 0] w<|vU E V b0 e_ i_ a_ d_ k_ b_ p_ o_ l_ j_ g_ res:=by
 unfold jV at hb;refine enter Tryz.func70 zr zr<|w_<|mv (vp b0 0)<|Wg zt zr zr<|AT zr qz<|AT zr py<|VY 0 a_ j Ah<|VP 1 m_ j Co<|aO 0<|AS<|WT E V (λ(ai:aL (aL Int))(aw:aV)=>[bc 94 b0 [e_,i_,a_,d_,k_,b_,aw,p_,o_,l_,j_,g_],own 91 aw ai,rd a_ m_,rd b_ h_]) (λ_ _=>[(0,vp b0 0)]) (λaj _ _=>[(11,a_),(12,vi m_.length),(13,vi aj)]) hb ?_ ?_ ?_;exact⟨f_,j.sp 4 [0,3,1,2]⟩;rintro hm aj ai s' _ w hk⟨ag,O,rfl,j⟩hb;refine IS<|VW<|q_ hb λah a2 hb=>VO 2 j Fe a2 λba j=>VS 0 ah j na λbb j=>V9 j Ej.z λaf w j=>?_;refine V5 0 j 1 zr na λw j=>?_;refine IN<|dN n_<|IT<|w_<|mv (vp b0 0)<|Wg zt zr zr<|AT zr ng<|VY 3 b_ j xl<|VP 6 h_ j DC<|aO 0<|AS ?_;have j:=j.fM (i:=0) rfl;refine WT E V (λ(ak:aL Int)(ar:aV)=>[bc 94 b0 [e_,i_,a_,d_,k_,b_,ag,p_,o_,l_,j_,g_],rd a_ m_,rd b_ h_,own 91 ag ai,pt (vp af 0) ah,own 3 ar ak]) (λ_ ar=>[(0,vp b0 0),(4,ar),(11,a_),(12,vi m_.length),(13,vi aj)]) (λab _ _=>[(3,vp af 0),(20,b_),(21,vi h_.length),(22,vi ab)]) hb ?_ ?_ ?_;exact⟨n_,(j.dQ Int 3).sp 8 [4,6,7,5,1,0]⟩;rintro hm ab ak s' _ w hk⟨al,O,rfl,j⟩hb;refine IS<|VW<|aO (ab:Int)<|q_ hb λax a3 hb=>VO 2 j Fi a3 λbf j=>VS 0 ax j GR λbg j=>V9 j Mi.z λbh w j=>?_;refine aJ (ab:Int)<|V5 0 j 1 zr GR λw j=>?_;refine IT<|q_ hb λau o hb=>VR (λ(au:Bool)=>SH E V [(0,vp b0 0),(3,vp af 0),(4,al),(5,vi ab),(11,a_),(12,vi m_.length),(13,vi aj),(20,b_),(21,vi h_.length),(22,vi ab),(40,vb au)] [bc 94 b0 [e_,i_,a_,d_,k_,b_,ag,p_,o_,l_,j_,g_],rd a_ m_,rd b_ h_,own 91 ag ai,pt (vp af 0) ah,own 3 al ak]) au ?_ ?_;refine BY<|Wo 7 j zr BH wK λbj j=>Wd ah.jo 0 j BJ<|fY ah.jo<|fx o (λad o=>?_) λad o=>?_;refine VS 8 ah j na λbk j=>AT zr Ai<|VL 2 j zr jg cV<|q_ o λay a4 o=>VM Me (oS N (p1:=ax.dI) (i0:=0) j zr a4) λw j=>fw ad (vb ay)<|fY ay<|fx o (λae o=>?_) λae o=>?_;refine AT zr Aj<|Wh 2 j zr jh Ag λbl j=>Xc (hg:=cg ae) [vp af 0] ?_;refine q_ o λa5 a6 o=>VM Ph (mh N (i0:=0) j rfl ⟨105,[vp af 0],rfl,(gr Tryz.func105),λw Γl v y0 r i j hi hr=>by exact eA (sN N (i0:=i) (i1:=Γl.length+10) j hi x4 hr) λ_ _ h=>h⟩ a6) λw j=>fw ae (vb a5)<|By ?_;exact oi o▸⟨rfl,j.sp 12 (fR 6 6 [])⟩;exact bH ae<|bH ae<|bH ae<|bH ae<|fw ae (vb false)<|By<|oi o▸⟨rfl,j.sp 11 (fR 5 6 [])⟩;refine bH ad<|bH ad<|bH ad<|bH ad<|fw ad (vb false)<|fY false<|kH<|kH<|kH<|kH<|Wl (b:=false) (v:=vb false) zt zr zr zr<|By ?_;exact oi o▸⟨rfl,j.sp 10 (fR 4 6 [])⟩;rintro _ w⟨O,rfl,j⟩;refine aD<|q_ hb λav o hb=>VR (λ(av:aL Int)U w=>∃an:aV,SH E V [(0,vp b0 0),(3,vp af 0),(4,an),(11,a_),(12,vi m_.length),(13,vi aj),(20,b_),(21,vi h_.length),(22,vi ab)] [bc 94 b0 [e_,i_,a_,d_,k_,b_,ag,p_,o_,l_,j_,g_],rd a_ m_,rd b_ h_,own 91 ag ai,pt (vp af 0) ah,own 3 an av] U w) av ?_ ?_;refine dM o (λo=>?_) λo=>?_;refine BY<|mv al<|aO (ab:Int) ?_;have j:=j.sc Int (ab:Int);refine Wv ([(ab:Int)]:aL Int) j [vi ab] fH Kx (λ_ _=>jn) λbm w j=>?_;have j:=j.freeze 0;refine q_ o λbn a7 o=>WI 7 0 j ze a7 λaz w j=>?_;exact dN az<|By<|oi o▸⟨rfl,az,j.sp 8 (fR 2 6 [])⟩;exact Wc<|oi o▸⟨rfl,al,j.sp 6 (fR 0 6 [])⟩;rintro _ w⟨an,O,rfl,j⟩;exact bI<|aD<|BY<|Wa hk hm<|aO ((ab+1:Nat):Int)<|By<|oi hb▸⟨rfl,an,j.sp 6 (fR 0 6 [])⟩;rintro ak _ w hb⟨a0,O,rfl,j⟩;refine aD<|BY<|mv (vp b0 0)<|mv (vp b0 0)<|Wg zt zr zr<|AT zr Fj<|VY 0 ag j Og<|mv a0 ?_;have j:=j.freeze 5;refine Wv ([ak]:aL (aL Int)) j [a0] Ie R3 (λM hs g=>⟨(g.sat 5 _ zr).1,zt⟩) λbo w j=>?_;have j:=j.freeze 0;refine q_ hb λbp a8 hb=>WI 4 0 j R4 a8 λa1 w j=>?_;refine Wg zt zr zr<|AT zr Fj<|W0 1 a1 j zr zr (km 4 j) Og λw j=>?_;exact By<|bI<|aD<|BY<|Wa hk hm<|aO ((aj+1:Nat):Int)<|By<|oi hb▸⟨rfl,a1,j.sp 7 [1,4,2,3]⟩;rintro ai _ w hb⟨a9,O,rfl,j⟩;obtain rfl:=oi hb;exact vd<|A8 ⟨a9,zr,j.pk 4 [0,1]⟩
def yl(E:aW)(V:aL HP)(res:aL Int)(v:aV)(w:aW):Prop:=∃(ub0:Nat)(Q_:aV),v=vp ub0 0/\Holds E w ([bc 124 ub0 [Q_],own 3 Q_ res]++V)
theorem nj{res:aL Int}(j:Holds E w V)(o:iN N p0=some res):c_ 28 [vi p0] w<|yl E V res:=by
 unfold iN at o;refine enter Tryz.func28 zr zr<|w_<|dN (.pointer none)<|IN<|aO p0<|q_ o λaf ah o=>Xq p0 j ze QJ ah λaa w j=>?_;refine Yf (zs:=[n_]) (cs:=[aa]) zt zr [(0,aa)] zr R5 ⟨km 0 j,zt⟩ zr<|Yl (cs:=[aa]) zt zr j zr (Gn.all (⟨km 0 j,zt⟩:Gn [aa])) λab w j=>?_;refine dN (vp ab 0)<|IT<|w_<|mv (vp ab 0)<|Wg zt zr zr<|AT zr qU<|VY 0 aa j gm<|WB (i:=1) (l:=af) zt zr j zr zr pd<|aO 0<|AS<|WU E V (λ(ae:aL Int)=>[bc 124 ab [aa],own 3 aa ae]) (λ_=>[(3,vp ab 0)]) (λad _=>[(13,vi af.length),(14,vi ad)]) o ?_ ?_ ?_;exact j.sp 2 [0,1];rintro hm ad ae s' _ w hk⟨O,rfl,j⟩o;refine IS<|VW<|aO (ad:Int)<|aJ (ad:Int)<|AS<|BY<|mv (vp ab 0)<|Wg zt zr zr<|AT zr qU<|VY 0 aa j gm<|aO (ad:Int)<|aO (ad:Int) ?_;refine q_ o λak ag o=>VX 1 j zr zr fH ag ?_;have j:=j.sc Int (ad:Int);refine WQ 2 0 j ag cV λw j=>?_;exact By<|bI<|aD<|BY<|Wa hk hm<|aO ((ad+1:Nat):Int)<|By<|oi o▸⟨rfl,j.sp 3 [1,2]⟩;rintro ae _ w o⟨O,rfl,j⟩;exact aD<|w_<|mv (vp ab 0)<|dN (vp ab 0)<|AS<|VN<|oi o▸bT ⟨ab,aa,zr,j.pk 2 [0,1]⟩
def xz(E:aW)(V:aL HP)(b0:Nat)(res:Int×aL Int)(v:aV)(w:aW):Prop:=∃Q_:aV,v= vi res.1/\Holds E w ([bc 124 b0 [Q_],own 3 Q_ res.2]++V)
theorem fy{A_:aL Int}{res:Int×aL Int}(j:Holds E w (bc 124 b0 [e_]::own 3 e_ A_::V))(o:dH N A_ p1=some res):c_ 29 [vp b0 0,vi p1] w<|xz E V b0 res:=by
 unfold dH at o;refine enter Tryz.func29 zr zr<|w_<|aJ 0<|IT<|WR E V (λ(aa:aL Int×Int)=>[bc 124 b0 [e_],own 3 e_ aa.1]) (λaa=>[(0,vp b0 0),(1,vi aa.2)]) (λ_=>[]) o ?_ ?_ ?_;exact j.sp 2 [0,1];rintro aa fl _ w⟨O,rfl,j⟩o;refine IS<|w_<|mv (vp b0 0)<|Wg zt zr zr<|AT zr qU<|VY 0 e_ j gm<|aO aa.2<|q_ o λah ab o=>VX 1 j zr zr fH ab<|W2 1 j ab cV<|aO aa.2<|ic ah aa.2<|AS<|dM o (λo=>?_) λo=>?_;refine WL<|WM<|IS<|WA mixed (ix 20 20000000000000000000) (fR 0 20 []) ?_;have j:=j.drew;refine VU zr zr<|mv (vp b0 0)<|bF zr<|Wg zt zr zr<|bF zr<|AT zr qU<|bF zr<|VY 0 e_ j gm<|bF zr<|aO aa.2<|bF zr<|mv (vp b0 0)<|bF zr<|Wg zt zr zr<|bF zr<|AT zr qU<|bF zr<|VY 0 e_ j gm ?_;refine bF zr<|mv (vp b0 0)<|bF zr<|Wg zt zr zr<|bF zr<|AT zr qU<|bF zr<|VY 0 e_ j gm<|bF zr<|aO aa.2<|bF zr ?_;refine q_ o λal ad o=>VX 1 j zr zr fH ad<|bF zr<|W2 1 j ad cV<|bF zr<|q_ o λai ae o=>VX 1 j zr zr fH ae<|bF zr<|W2 1 j ae cV<|bF zr<|q_ o λan af o=>VX 1 j zr zr fH af<|rW zr ?_;have j:=j.sc Int ai;refine WQ 2 0 j af cV λw j=>?_;refine Wj zt<|Wi<|aD<|BY<|mv (vp b0 0)<|Wg zt zr zr<|AT zr qU<|VY 1 e_ j gm<|aO aa.2<|q_ o λaj ag o=>VX 2 j zr zr fH ag<|W2 2 j ag cV<|aJ aj<|By<|bI ?_;exact oi o▸⟨rfl,j.sp 3 [1,2]⟩;exact Wp<|oi o▸⟨rfl,j.sp 2 [0,1]⟩;rintro aa _ w o⟨O,rfl,j⟩;exact aD<|w_<|aO aa.2<|aJ aa.2<|AS<|VN<|oi o▸bT ⟨e_,zr,j.pk 2 [0,1]⟩
def vV(E:aW)(V:aL HP)(b0:Nat)(res:aL Int)(v:aV)(w:aW):Prop:=∃Q_:aV,v = .tuple #[]/\Holds E w ([bc 124 b0 [Q_],own 3 Q_ res]++V)
theorem ma{A_:aL Int}{res:aL Int}(j:Holds E w (bc 124 b0 [e_]::own 3 e_ A_::V))(o:dS N A_ p1 p2=some res):c_ 30 [vp b0 0,vi p1,vi p2] w<|vV E V b0 res:=by
 unfold dS at o;refine enter Tryz.func30 zr zr<|w_<|mv (vp b0 0)<|aO p1 ?_;have j:=(j.pull 1).pull 1;refine q_ o λaa af o=>V2 GS (fy N (p1:=p1) j af) ?_;rintro _ w⟨ah,rfl,j⟩;refine mv (vp b0 0)<|aO p2 ?_;have j:=(j.pull 1).pull 1;refine q_ o λab ag o=>V2 GS (fy N (p1:=p2) j ag) ?_;rintro _ w⟨ad,rfl,j⟩;refine aJ aa.1<|aJ ab.1<|AS<|BY<|mv (vp b0 0)<|Wg zt zr zr<|AT zr qU<|VY 0 ad j gm<|aO aa.1<|aO ab.1<|W8 aa.1 ab.1<|aO aa.1<|aO ab.1<|Xb aa.1 ab.1 ?_;refine q_ o λai ae o=>VX 1 j zr zr fH ae ?_;have j:=j.sc Int (aN ab.1 aa.1);refine WQ 2 0 j ae cV λw j=>?_;refine By ?_;obtain rfl:=oi o;exact vd<|A8 ⟨ad,zr,j.pk 7 [1,2]⟩
def vW(E:aW)(V:aL HP)(b0:Nat)(res:aL (aL Int)×aL Int)(v:aV)(w:aW):Prop:=∃u0 Q_:aV,v=u0/\Holds E w ([own 91 u0 res.1,bc 124 b0 [Q_],own 3 Q_ res.2]++V)
theorem uR{A_:aL Int}{res:aL (aL Int)×aL Int}(o:Holds E w (bc 124 b0 [e_]::own 3 e_ A_::V))(hb:jW N A_=some res):
    c_ 107 [vp b0 0] w<|vW E V b0 res:=by
 unfold jW at hb
 refine enter Tryz.func107 zr zr<|w_<|dN n_<|IN<|dN n_<|IN<|Xh (κ:=Int) (ν:=Int) o λaq w o=>dN aq<|IT ?_
 refine w_<|mv (vp b0 0)<|Wg zt zr zr<|AT zr qU<|VY 1 e_ o gm<|WB (i:=2) (l:=A_) zt zr o zr zr pd<|aO 0<|AS ?_
 obtain⟨ao,hN,hb⟩:=bd hb
 refine XC (λ(ag:Nat)(ao:aL Int×aL (aL Int)×aL (Int×Int))U w=>∃(a3 a4:aV)(us110:aL RV),SH E V [(0,vp b0 0),(3,a4),(4,aq),(12,vi A_.length),(13,vi ag)] [bc 124 b0 [a3],own 3 a3 ao.1,mp aq ao.2.2,own 91 a4 us110,kf (XS 3 Int) us110 ao.2.1 none] U w) (λ(ao:aL Int×aL (aL Int)×aL (Int×Int))U w=>∃(ax av:aV)(us113:aL RV),SH E V [(0,vp b0 0),(3,av)] [bc 124 b0 [ax],own 3 ax ao.1,mp aq ao.2.2,own 91 av us113,kf (XS 3 Int) us113 ao.2.1 none] U w) hN ?_ ?_ ?_ ?_
 ·have o:=(o.ET<|XS 3 Int).dQ RV 91
  exact⟨e_,n_,([]:aL RV),o.sp 5 [3,4,2,0,1]⟩
 ·rintro hm ao _ w⟨ba,bb,us153,O,rfl,o⟩
  refine w_<|ic ((A_.length:Int)) ((A_.length:Int))<|IT<|Xn QN<|Wp ?_
  exact⟨rfl,ba,bb,us153,o.sp 5 [0,1,2,3,4]⟩
 ·rintro hm ag ao s' _ w hk⟨bj,a0,us116,O,rfl,o⟩hb
  refine w_<|ic ((ag:Int)) ((A_.length:Int))<|IT<|Xm (QM hk)<|We<|VW<|aO (ag:Int)<|aJ (ag:Int)<|IN ?_
  refine mv (vp b0 0)<|aO (ag:Int) ?_
  have o:=(o.pull 1).pull 1
  obtain⟨ab,bf,hb⟩:=bd hb
  refine V2 GS (fy N (p1:=(ag:Int)) o bf) ?_
  rintro _ w⟨aw,rfl,o⟩
  refine aJ ab.1<|IT<|w_<|aO ab.1<|aO (ag:Int)<|ic ab.1 ((ag:Int))<|AS ?_
  obtain⟨aa,hj,hb⟩:=bd hb
  refine VR (λ(aa:aL (aL Int)×aL (Int×Int))U w=>∃(an:aV)(us124:aL RV),SH E V [(0,vp b0 0),(3,an),(4,aq),(5,vi ag),(6,vi ab.1),(12,vi A_.length),(13,vi ag)] [bc 124 b0 [aw],own 3 aw ab.2,mp aq aa.2,own 91 an us124,kf (XS 3 Int) us124 aa.1 none] U w) aa ?_ ?_
  ·refine dM hj (λhj=>?_) λhj=>?_
   rotate_left
   ·refine Wc ?_
    obtain rfl:=oi hj
    exact⟨rfl,a0,us116,o.sp 7 [0,1,4,5,6]⟩
   refine w_<|mv aq<|aO (ag:Int)<|mv a0<|XA 5 6 ao.2.1 zr o zr zr zr Oh ?_
   have o:=o.sc Int (ao.2.1.length:Int)
   refine Xi 5 0 (ag:Int) o zr zr zr zr AY λw o=>AS<|BY<|mv a0 ?_
   have o:=(o.dQ Int 3).Jh (i:=0) rfl
   refine Wv ([rv<|.slice none 0 0]:aL RV) o [n_] Ie R3 (λ_ _=>jn) λbk w o=>?_
   obtain⟨bl,bg,hj⟩:=bd hj
   have o:=o.freeze 0
   refine Yk 9 0 10 2 zt zr o zr zr zr zr zr zr R4 bg λa7 w o=>?_
   refine dN a7<|By ?_
   obtain rfl:=oi hj
   exact⟨rfl,a7,us116++[rv<|.slice none 0 0],o.sp 11 [4,5,8,9,10]⟩
  rintro _ w⟨an,us124,O,rfl,o⟩
  refine aD ?_
  obtain⟨bm,ay,hb⟩:=bd hb
  obtain⟨au,bh,hb⟩:=bd hb
  obtain⟨bn,a1,hb⟩:=bd hb
  refine W1 E V mixed [1,1,1,0,1,1,1,0,0,0,1,0,0,0,0] [11,12,14] (λ(x:aV×aV)=>(λai af=>[(0,29,an),(1,30,aq),(2,31,vi ab.1),(3,32,vi<|dE aa.2 ab.1 (0:Int)),(4,33,an),(5,34,aq),(6,35,vi ab.1),(7,36,vi<|dE aa.2 ab.1 (0:Int)),(8,37,z9 an (jQ<|dE aa.2 ab.1 (0:Int)) 1 0),(9,38,(us124.getD (jQ<|dE aa.2 ab.1 (0:Int)) F4).v),(10,39,vi ag),(11,40,ai),(12,41,af),(13,42,z9 an (jQ<|dE aa.2 ab.1 (0:Int)) 1 0)]) x.1 x.2) [(0,vp b0 0),(3,an),(4,aq),(5,vi ag),(6,vi ab.1),(12,vi A_.length),(13,vi ag)] [] (λ(D:Nat->Bool)(x:aV×aV)=>(λai af=>[bif D 1 then rd ai ([(ag:Int)]:aL Int)else(bif D 0 then own 3 ai ([(ag:Int)]:aL Int)else bD),bif D 2 then bD else(bif D 1 then own 3 af au else bD),bc 124 b0 [aw],own 3 aw ab.2,mp aq aa.2,bif D 2 then own 91 an (us124.set (jQ<|dE aa.2 ab.1 (0:Int))<|rv af)else own 91 an us124,bif D 2 then kf (XS 3 Int) (us124.set (jQ<|dE aa.2 ab.1 (0:Int))<|rv af) (aa.1.set (jQ<|dE aa.2 ab.1 (0:Int)) au) none else(bif D 1 then kf (XS 3 Int) us124 aa.1 (some<|jQ<|dE aa.2 ab.1 (0:Int))else kf (XS 3 Int) us124 aa.1 none)]) x.1 x.2) (λx=>by kernel_rfl) ?_ ⟨λ_=>ka gn,λ_=>ka gn,λ_=>ka gn,?_,λ_=>ka gn,λ_=>ka gn,λ_=>ka gn,?_,?_,?_,λ_=>ka gn,?_,?_,?_,?_,trivial⟩ ?_
  ·have o:=((o.drew).bD).bD
   exact⟨(undef,undef),dY.none,GJ zr,zt,o⟩
  ·rintro D U w hD aj ae⟨⟨ai,af⟩,hv,ha,_,o⟩
   obtain⟨O,rfl⟩:=hv.o2 1 2 aj
   refine Xe 4 ab.1 zt o zr AY ?_
   exact VQ (ai,af) 3 hv ha o
  ·rintro D U w hD aj ae⟨⟨ai,af⟩,hv,ha,_,o⟩
   obtain⟨O,rfl⟩:=hv.o2 5 6 aj
   refine Xe 4 ab.1 zt o zr AY ?_
   exact VQ (ai,af) 7 hv ha o
  ·rintro D U w hD aj ae⟨⟨ai,af⟩,hv,ha,_,o⟩
   obtain⟨O,rfl⟩:=hv.o2 4 7 aj
   have o:=((o.bY 5<|nh ae hD 14).bY 6<|nh ae hD 14).bY 6<|nf<|λh=>ft hD<|(ae 9 _ rfl<|(ae 12 _ rfl h).1 rfl).1 rfl
   have hl141:=o.iT 6 rfl
   have hr142:=lr F4 hl141 ay
   refine VX 5 o zr zr Ie hr142 ?_
   have o:=(o.fV 5 (D 14) (nh ae hD 14)<|own 91 an<|us124.set (jQ<|dE aa.2 ab.1 (0:Int))<|rv af).fV 6 (D 12) (nf<|λh=>ft hD<|(ae 9 _ rfl<|(ae 12 _ rfl h).1 rfl).1 rfl)<|kf (XS 3 Int) us124 aa.1<|some<|jQ<|dE aa.2 ab.1 (0:Int)
   have o:=o.fV 6 (D 14) (nh ae hD 14)<|kf (XS 3 Int) (us124.set (jQ<|dE aa.2 ab.1 (0:Int))<|rv af) (aa.1.set (jQ<|dE aa.2 ab.1 (0:Int)) au) none
   exact VQ (ai,af) 8 hv ha o
  ·rintro D U w hD aj ae⟨⟨ai,af⟩,hv,ha,_,o⟩
   obtain⟨O,rfl⟩:=hv.o1 8 aj
   have o:=((o.bY 5<|nh ae hD 14).bY 6<|nh ae hD 14).bY 6<|nh ae hD 12
   have hl143:=o.iT 6 rfl
   have hr144:=lr F4 hl143 ay
   refine XZ 5 6 (dE aa.2 ab.1 (0:Int)) (D3 3 Int) F4 zr o zr (sS 5 o hr144 0) zr zr ay gm ?_
   have o:=(o.fV 5 (D 14) (nh ae hD 14)<|own 91 an<|us124.set (jQ<|dE aa.2 ab.1 (0:Int))<|rv af).fV 6 (D 12) (nh ae hD 12)<|kf (XS 3 Int) us124 aa.1<|some<|jQ<|dE aa.2 ab.1 (0:Int)
   have o:=o.fV 6 (D 14) (nh ae hD 14)<|kf (XS 3 Int) (us124.set (jQ<|dE aa.2 ab.1 (0:Int))<|rv af) (aa.1.set (jQ<|dE aa.2 ab.1 (0:Int)) au) none
   exact VQ (ai,af) 9 hv ha o
  ·rintro D U w hD aj ae⟨⟨ai,af⟩,hv,ha,_,o⟩
   obtain⟨O,rfl⟩:=hv.o1 10 aj
   have o:=((o.bY 0<|nh ae hD 12).bY 0 hD).sc Int (ag:Int)
   refine Wv ([(ag:Int)]:aL Int) o [vi ag] fH Kx (λ_ _=>jn) λa8 w o=>?_
   have o:=((o.pl 9 [0,3,4,5,6,7,8] rfl).dF 0 true rfl bD).fV 0 (D 12) (nh ae hD 12)<|rd a8 ([(ag:Int)]:aL Int)
   exact VQ (a8,af) 11 hv ha o
  ·rintro D U w hD aj ae⟨⟨ai,af⟩,hv,ha,_,o⟩
   obtain⟨O,rfl⟩:=hv.o2 9 11 aj
   have o:=(((((((o.bY 0 hD).eB 0<|aj.2.1 rfl).bY 1<|nh ae hD 14).bY 1 hD).bY 5<|nh ae hD 14).bY 6<|nh ae hD 14).bY 6 hD).EU (j:=6) (jj:=dE aa.2 ab.1 (0:Int)) (D3 3 Int) F4 rfl ay
   have o:=o.freeze 1
   refine WI 0 1 o ze bh λa2 w o=>?_
   dsimp only[List.cons_append,List.nil_append,List.set_cons_zero,List.set_cons_succ]at o
   have o:=((((o.pl 8 [1,0,3,4,5,6,7] rfl).dF 0 true rfl (bif D 11 then own 3 ai ([(ag:Int)]:aL Int)else bD)).dF 1 true rfl bD).fV 1 (D 14) (nh ae hD 14) bD).fV 5 (D 14) (nh ae hD 14)<|own 91 an<|us124.set (jQ<|dE aa.2 ab.1 (0:Int))<|rv a2
   have o:=(o.dF 6 true rfl<|kf (XS 3 Int) us124 aa.1 none).fV 6 (D 14) (nh ae hD 14)<|kf (XS 3 Int) (us124.set (jQ<|dE aa.2 ab.1 (0:Int))<|rv a2) (aa.1.set (jQ<|dE aa.2 ab.1 (0:Int)) au) none
   exact VQ (ai,a2) 12 hv ha o
  ·rintro D U w hD aj ae⟨⟨ai,af⟩,hv,ha,_,o⟩
   obtain⟨O,rfl⟩:=hv.o2 0 3 aj
   have o:=((o.bY 5<|nh ae hD 14).bY 6<|nh ae hD 14).eB 6<|aj.2.2.2.2.2.2.2.2.2.2.2.2.2.2.1 rfl
   have hl147:=o.iT 6 rfl
   have hr148:=lr F4 hl147 a1
   refine VX 5 o zr zr Ie hr148 ?_
   have o:=(o.fV 5 (D 14) (nh ae hD 14)<|own 91 an<|us124.set (jQ<|dE aa.2 ab.1 (0:Int))<|rv af).dF 6 (D 12) (aj.2.2.2.2.2.2.2.2.2.2.2.2.2.2.1 rfl)<|kf (XS 3 Int) us124 aa.1 none
   have o:=o.fV 6 (D 14) (nh ae hD 14)<|kf (XS 3 Int) (us124.set (jQ<|dE aa.2 ab.1 (0:Int))<|rv af) (aa.1.set (jQ<|dE aa.2 ab.1 (0:Int)) au) none
   exact VQ (ai,af) 13 hv ha o
  ·rintro D U w hD aj ae⟨⟨ai,af⟩,hv,ha,_,o⟩
   obtain⟨O,rfl⟩:=hv.o2 13 12 aj
   have o:=((((o.bY 1 hD).eB 1<|aj.2.1 rfl).bY 5 hD).bY 6 hD).eB 6<|aj.2.1 rfl
   have hl149:=o.iT 6 rfl
   have hr150:=lr F4 hl149 a1
   refine XY 5 6 1 (dE aa.2 ab.1 (0:Int)) (D3 3 Int) F4 o zr zr (sS 5 o hr150 0) zr zr zr a1 gm λw o=>?_
   have o:=((o.dF 1 true rfl (bif D 12 then own 3 af au else bD)).dF 5 true rfl<|own 91 an us124).dF 6 true rfl (bif D 12 then kf (XS 3 Int) us124 aa.1 (some<|jQ<|dE aa.2 ab.1 (0:Int))else kf (XS 3 Int) us124 aa.1 none)
   exact WV (ai,af) hv ha o
  rintro D U w az⟨⟨ai,af⟩,hv,ha,_,o⟩
  have o:=(((o.eB 0<|tK az 12).eB 1<|tK az 14).eB 5<|tK az 14).eB 6<|tK az 14
  obtain⟨O,rfl⟩:=ha.sV
  refine bI<|aD<|BY<|Wa hk hm<|aO ((ag+1:Nat):Int)<|By ?_
  obtain rfl:=oi hb
  exact⟨rfl,aw,an,us124.set (jQ<|dE aa.2 ab.1 (0:Int))<|rv af,o.sp 7 [2,3,4,5,6]⟩
 rintro _ w⟨ax,av,us113,O,rfl,o⟩
 refine aD<|w_<|mv av<|dN av<|AS<|VN ?_
 obtain rfl:=oi hb
 have o:=o.EV (X:=XS 3 Int) (b:=4) (j:=3) rfl (λM h u x cs=>(O0 3) M h u x cs) rfl rfl (by decide)
 exact bT ⟨av,ax,zr,o.pk 5 [3,0,1]⟩
theorem uS{p0:aK}{p1:eR}{res:Bool}(j:Holds E w V)(h0:fC V i0 v0 p0)(h1:fI V i1 v1 p1)(hb:ly N p0 p1=some res):c_ 159 [v0,v1] w<|bE E V res:=by
 unfold ly at hb;refine enter Tryz.func159 zr zr ?_;have j:=(j.dup (i0+0) h0).rm (i:=i1+1) h1;refine w_<|V7 1 v0 j zr λag w j=>?_;refine bV false<|IT<|q_ hb λaf o hb=>VR (λ(af:Bool)=>SH E V [(3,vb af)] []) af ?_ ?_;refine BY<|Wo 1 j zr sH kI λah j=>Wd p1.X 0 j cV<|AT zr kJ<|VL 1 j zr fX cV<|ic p1.X p0.X0<|fY (jP<|p1.X>=p0.X0)<|fx o (λaa o=>?_) λaa o=>?_;refine Wo 2 j zr sH kI λai j=>Wd p1.X 0 j cV<|AT zr mE<|VL 2 j zr iC cV<|Ws p1.X p0.X1 (cg aa)<|fw aa (vb<|p1.X<p0.X1)<|fY (jP<|p1.X<p0.X1)<|fx o (λab o=>?_) λab o=>?_;refine Wo 3 j zr qy jv λaj j=>Wd p1.Y 0 j cV<|AT zr lD<|VL 3 j zr gu cV<|Ws p1.Y p0.Y0 (cg ab)<|fw ab (vb<|p1.Y>=p0.Y0)<|fY (jP<|p1.Y>=p0.Y0)<|fx o (λad o=>?_) λad o=>?_;refine Wo 4 j zr qy jv λak j=>Wd p1.Y 0 j cV<|AT zr rF<|VL 4 j zr kZ cV<|Ws p1.Y p0.Y1 (cg ad)<|fw ad (vb<|p1.Y<p0.Y1)<|bV (jP<|p1.Y<p0.Y1)<|By ?_;exact oi o▸⟨rfl,j.sp 7 []⟩;exact bH ad<|bH ad<|bH ad<|bH ad<|bH ad<|fw ad (vb false)<|bV false<|By<|oi o▸⟨rfl,j.sp 6 []⟩;refine bH ab<|bH ab<|bH ab<|bH ab<|bH ab<|fw ab (vb false)<|fY false<|kH<|kH<|kH<|kH<|kH<|Wl (b:=false) (v:=vb false) zt zr zr zr<|bV false<|By ?_;exact oi o▸⟨rfl,j.sp 5 []⟩;refine bH aa<|bH aa<|bH aa<|bH aa<|bH aa<|fw aa (vb false)<|fY false<|kH<|kH<|kH<|kH<|kH<|Wl (b:=false) (v:=vb false) zt zr zr zr<|fY false<|kH<|kH<|kH<|kH ?_;exact kH<|Wl (b:=false) (v:=vb false) zt zr zr zr<|bV false<|By<|oi o▸⟨rfl,j.sp 4 []⟩;rintro _ w⟨O,rfl,j⟩;exact aD<|VN<|oi hb▸bT ⟨rfl,j.drop 0⟩
theorem rM{p0:aL aK}{p1:eR}{res:Bool}(j:Holds E w V)(h0:fC V i0 v0 p0)(h1:fC V i1 v1 p1)(o:kh N p0 p1=some res):c_ 138 [v0,v1] w<|bE E V res:=by
 unfold kh at o;refine enter Tryz.func138 zr zr ?_;have j:=(j.dup (i0+0) h0).dup (i1+1) h1;refine w_<|V7 0 v1 j zr λaa w j=>?_;have j:=j.fM (i:=0) rfl;refine bV false<|IN<|mv v0<|Xc [vp aa 0] ?_;refine q_ o λab ad o=>VM Ph (mh N (i0:=2) j rfl ⟨159,[vp aa 0],rfl,(gr Tryz.func159),λw Γl v y0 r i j hi hr=>by exact eA (uS N (i0:=i) (i1:=Γl.length+0) j hi x4 hr) λ_ _ h=>h⟩ ad) λw j=>bV ab<|AS<|VN ?_;exact oi o▸bT ⟨rfl,j.drop 3⟩
end Go.Gk
