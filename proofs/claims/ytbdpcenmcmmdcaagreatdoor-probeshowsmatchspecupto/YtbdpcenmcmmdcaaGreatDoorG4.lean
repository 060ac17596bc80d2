/-
  Printed texts: Go functions as plain functions, and that they are. No statement of the seed is proved here.
-/
import Derived.Test.YtbdpcenmcmmdcaaGreatDoorG1
import Derived.Test.YtbdpcenmcmmdcaaGreatDoorG2
import Derived.Test.YtbdpcenmcmmdcaaGreatDoorG3
import Derived.Test.YtbdpcenmcmmdcaaGreatDoorA2
set_option linter.unusedVariables false
set_option linter.unusedSimpArgs false
set_option linter.unusedSectionVars false
set_option maxRecDepth 100000
set_option maxHeartbeats 40000000
namespace Go.Gk
open Go IntKind Go.Proofs
variable (N:Nat){E w:World}{b0 b1 b1h b2 b3 b3h i0 i1 i2:Nat}{p0 p1 p2 res:Int}{v0 e_ f_ m_ l_ a_ d_ h_ b_ g_ i_ r_ o_ v1 V_ W_ X_ Y_ Z_ a0_ a1_ N_ a2_ a3_ a4_ a5_ v2 E_ T_:Value}{V:List HP}
def Ar(E:World)(V:List HP)(r:Option (List (List aH)×List aH×List bR×List cS×List (List aA)×List aF×List (List Int)×List cF×List Int×List Int×List Int×List dK)×Int)(U:Nat->Value)(w:World):Prop:=lx bK 63 Tryz.f10 (rj E V r) .ret U w
theorem Eg{p0:gQ}{p1:List Test}{res:Option (List (List aH)×List aH×List bR×List cS×List (List aA)×List aF×List (List Int)×List cF×List Int×List Int×List Int×List dK)×Int}(j:Holds E w V)(h0:V[i0]? =some (rd v0 p0))(h1:V[i1]? =some (rd v1 p1))(o:kz N p0 p1=some res):
    c_ 10 [v0,v1] w<|rj E V res:=by
 unfold kz at o
 refine enter Tryz.func10 zr zr ?_
 have j:=(j.dup (i0+0) h0).dup (i1+1) h1
 refine w_<|Tq 1 v0 j zr λak w j=>?_
 refine dG (.pointer none)<|aL 0<|OF<|Tz 0 j zr nn λcd j=>?_
 obtain⟨af,bt,o⟩:=bd o
 refine Td P3 (xz N (i0:=0) j zr bt) ?_
 rintro _ w hK49
 rcases a2:af.1 with _|ab
 ·replace o:=N8 a2 o
  obtain⟨rfl,j⟩:=KZ a2 hK49
  refine mv (.tuple #[(.pointer none),vi af.2])<|TN (.pointer none)<|TN (vi af.2)<|dG (.pointer none)<|aL af.2<|SU<|w_<|aX af.2<|ic af.2 0 ?_
  refine AI<|cY o (λo=>?_) λo=>?_
  ·refine w_<|aX af.2<|dG (.pointer none)<|aL af.2<|AI<|Tj ?_
   obtain rfl:=oi o
   exact lJ ⟨rfl,j.drop 4⟩
  refine Tb<|w_<|mv v1<|SY 2 p1 j Ed<|ic ((p1.length:Int)) 2000<|AI<|cY o (λo=>?_) λo=>?_
  ·refine w_<|dG (.pointer none)<|aL 2<|AI<|Tj ?_
   obtain rfl:=oi o
   exact lJ ⟨rfl,j.drop 4⟩
  refine Tb<|w_<|mv v1<|SY 2 p1 j Ed<|aX 0<|AI<|T5 E V (λ(bh:Unit)=>[rd v1 p1,bx 27 ak p0]) (λ_=>[(6,(.pointer none))]) (λag _=>[(1,v1),(2,vp ak 0),(21,v1),(22,vi p1.length),(23,vi ag)]) (Ar E V) o ?_ ?_ ?_ ?_
  ·exact j.sp 4 [2,1]
  ·rintro hm ag bh fl _ w hk⟨O,rfl,j⟩o
   refine IN<|Tp<|aX (ag:Int) ?_
   obtain⟨bj,bw,o⟩:=bd o
   refine SV 0 j ze bw λcf j=>Ta 0 bj j Ae λch j=>TG j MA.z λbk w j=>?_
   refine aL (ag:Int)<|TB 0 j 1 zr Ae λw j=>?_
   refine AI<|TF<|IN ?_
   obtain⟨a5,hj,o⟩:=bd o
   refine S8 (λ(a5:Bool)=>SH E V [(1,v1),(2,vp ak 0),(6,(.pointer none)),(8,vi ag),(9,vp bk 0),(21,v1),(22,vi p1.length),(23,vi ag),(28,vb a5)] [rd v1 p1,bx 27 ak p0,bx 52 bk bj]) a5 ?_ ?_
   ·refine IS<|Tz 4 j zr nn λcj j=>AT zr qC<|Ts 1 j zr kn oI λck j=>?_
    obtain⟨bl,bz,hj⟩:=bd hj
    refine SZ G4 (jd N (i0:=1) (i1:=0) j zr zr bz) λw j=>ic bl 0<|fp (decide<|bl<0)<|eD hj (λah hj=>?_) λah hj=>?_
    ·refine aW ah<|aW ah<|aW ah<|aW ah<|aW ah<|eB ah (vb true)<|bW true<|By ?_
     obtain rfl:=oi hj
     exact⟨rfl,j.sp 7 [5,6,2]⟩
    refine Tz (hg:=cg ah) 6 j zr nn λcm j=>AT (hg:=cg ah) zr rS<|Ts (hg:=cg ah) 3 j zr lG oI λcn j=>?_
    obtain⟨a6,b0,hj⟩:=bd hj
    refine SZ (hg:=cg ah) G4 (jd N (i0:=1) (i1:=0) j zr zr b0) λw j=>TO a6 0 (cg ah)<|eB ah (vb<|decide<|a6<0)<|bW (decide<|a6<0)<|By ?_
    obtain rfl:=oi hj
    exact⟨rfl,j.sp 9 [7,8,4]⟩
   rintro _ w⟨O,rfl,j⟩
   refine aC<|cY o (λo=>?_) λo=>?_
   ·refine w_<|dG (.pointer none)<|aL 9<|AI<|TE<|jM<|bE ?_
    obtain rfl:=oi o
    exact⟨rfl,lJ ⟨rfl,j.drop 3⟩⟩
   refine w_<|AT zr rS<|Ts 2 j zr lG oI λcp j=>AT zr qC<|Ts 3 j zr kn oI λcq j=>?_
   obtain⟨bm,b2,o⟩:=bd o
   refine SZ J7 (ik N (i0:=1) (i1:=0) j zr zr b2) λw j=>ic bm 0<|bW (decide<|bm<=0)<|AI<|cY o (λo=>?_) λo=>?_
   ·refine w_<|dG (.pointer none)<|aL 8<|AI<|TE<|jM<|bE ?_
    obtain rfl:=oi o
    exact⟨rfl,lJ ⟨rfl,j.drop 5⟩⟩
   refine IN ?_
   obtain⟨a7,hj,o⟩:=bd o
   refine S8 (λ(a7:Bool)=>SH E V [(1,v1),(2,vp ak 0),(6,(.pointer none)),(21,v1),(22,vi p1.length),(23,vi ag),(48,vb a7)] [rd v1 p1,bx 27 ak p0]) a7 ?_ ?_
   ·refine TK mixed [0,0,0,0,0,0,0,0,0,2,0,0,0] [0,1,2,3,4,5,6,7,8,9,10,11,12] ?_
    have j:=j.drew
    refine S5 zr zr<|aX (ag:Int)<|aR zr<|ic ((ag:Int)) 0<|aR zr<|fp (decide<|(ag:Int)>0)<|S7<|eD hj (λad hj=>?_) λad hj=>?_
    rotate_left
    ·refine S5 zr zr<|aW ad<|aR zr<|aW ad<|aR zr<|aW ad<|aR zr<|aW ad<|aR zr ?_
     refine aW ad<|aR zr<|aW ad<|mP zr<|aW ad<|pS zr<|aW ad<|aR zr<|eB ad (vb false) ?_
     refine aR zr<|bW false<|S7<|Tl ?_
     obtain rfl:=oi hj
     exact⟨rfl,j.sp 5 [2,3]⟩
    refine S5 zr zr<|Tz (hg:=cg ad) 4 j zr Ae λcr j=>aR zr<|SS v1 (cg ad)<|aR zr<|SS (vi ag) (cg ad)<|aR zr<|SX (hg:=cg ad) (ag:Int) 1<|aR zr ?_
    obtain⟨b3,b4,hj⟩:=bd hj
    refine SV (hg:=cg ad) 3 j ze b4 λct j=>aR zr<|Ta (hg:=cg ad) 0 b3 j Ae λcu j=>mP zr ?_
    obtain⟨a8,b5,hj⟩:=bd hj
    refine SZ (hg:=cg ad) P4 (qR N (i0:=2) (i1:=0) j zr zr b5) λw j=>pS zr<|TO a8 0 (cg ad)<|aR zr<|eB ad (vb<|decide<|a8<=0)<|aR zr<|bW (decide<|a8<=0)<|S7<|Tl ?_
    obtain rfl:=oi hj
    exact⟨rfl,j.sp 8 [5,6]⟩
   rintro _ w⟨O,rfl,j⟩
   refine aC<|cY o (λo=>?_) λo=>?_
   rotate_left
   ·refine Tr<|bH<|bH<|aC<|IS<|TI hk hm<|aX ((ag+1:Nat):Int)<|By ?_
    obtain rfl:=oi o
    exact⟨rfl,j.sp 2 [0,1]⟩
   refine w_<|dG (.pointer none)<|aL 8<|AI<|TE<|jM<|bE ?_
   obtain rfl:=oi o
   exact⟨rfl,lJ ⟨rfl,j.drop 2⟩⟩
  ·intro r U w o hK
   refine bE ?_
   obtain rfl:=oi o
   exact hK
  rintro bh _ w o⟨O,rfl,j⟩
  refine aC<|w_<|mv (.pointer none)<|dG (.pointer none)<|aL 0<|AI<|S4 ?_
  obtain rfl:=oi o
  exact lJ ⟨rfl,j.drop 2⟩
 replace o:=N9 a2 o
 obtain⟨al,an,ao,aq,ar,au,av,aw,ax,ay,az,a0,a1,rfl,j⟩:=K0 a2 hK49
 refine mv (.tuple #[vp al 0,vi af.2])<|TN (vp al 0)<|TN (vi af.2)<|dG (vp al 0)<|aL af.2<|SU<|w_<|aX af.2<|ic af.2 0 ?_
 refine AI<|cY o (λo=>?_) λo=>?_
 ·refine w_<|aX af.2<|dG (.pointer none)<|aL af.2<|AI<|Tj ?_
  obtain rfl:=oi o
  exact lJ ⟨rfl,j.drop 17⟩
 refine Tb<|w_<|mv v1<|SY 15 p1 j Ed<|ic ((p1.length:Int)) 2000<|AI<|cY o (λo=>?_) λo=>?_
 ·refine w_<|dG (.pointer none)<|aL 2<|AI<|Tj ?_
  obtain rfl:=oi o
  exact lJ ⟨rfl,j.drop 17⟩
 refine Tb<|w_<|mv v1<|SY 15 p1 j Ed<|aX 0<|AI<|T5 E V (λ(bn:Unit)=>[rd v1 p1,bx 27 ak p0,bc 72 al [an,ao,aq,ar,au,av,aw,ax,ay,az,a0,a1],rd an ab.1,rd ao ab.2.1,rd aq ab.2.2.1,rd ar ab.2.2.2.1,own 129 au ab.2.2.2.2.1,rd av ab.2.2.2.2.2.1,rd aw ab.2.2.2.2.2.2.1,own 124 ax ab.2.2.2.2.2.2.2.1,rd ay ab.2.2.2.2.2.2.2.2.1,rd az ab.2.2.2.2.2.2.2.2.2.1,own 3 a0 ab.2.2.2.2.2.2.2.2.2.2.1,own 75 a1 ab.2.2.2.2.2.2.2.2.2.2.2]) (λ_=>[(6,vp al 0)]) (λai _=>[(1,v1),(2,vp ak 0),(21,v1),(22,vi p1.length),(23,vi ai)]) (Ar E V) o ?_ ?_ ?_ ?_
 ·exact j.sp 17 [15,14,0,1,2,3,4,5,6,7,8,9,10,11,12]
 ·rintro hm ai bn fl _ w hk⟨O,rfl,j⟩o
  refine IN<|Tp<|aX (ai:Int) ?_
  obtain⟨bo,b6,o⟩:=bd o
  refine SV 0 j ze b6 λcv j=>Ta 0 bo j Ae λcw j=>TG j MA.z λbp w j=>?_
  refine aL (ai:Int)<|TB 0 j 1 zr Ae λw j=>?_
  refine AI<|TF<|IN ?_
  obtain⟨ba,hj,o⟩:=bd o
  refine S8 (λ(ba:Bool)=>SH E V [(1,v1),(2,vp ak 0),(6,vp al 0),(8,vi ai),(9,vp bp 0),(21,v1),(22,vi p1.length),(23,vi ai),(28,vb ba)] [rd v1 p1,bx 27 ak p0,bc 72 al [an,ao,aq,ar,au,av,aw,ax,ay,az,a0,a1],rd an ab.1,rd ao ab.2.1,rd aq ab.2.2.1,rd ar ab.2.2.2.1,own 129 au ab.2.2.2.2.1,rd av ab.2.2.2.2.2.1,rd aw ab.2.2.2.2.2.2.1,own 124 ax ab.2.2.2.2.2.2.2.1,rd ay ab.2.2.2.2.2.2.2.2.1,rd az ab.2.2.2.2.2.2.2.2.2.1,own 3 a0 ab.2.2.2.2.2.2.2.2.2.2.1,own 75 a1 ab.2.2.2.2.2.2.2.2.2.2.2,bx 52 bp bo]) ba ?_ ?_
  ·refine IS<|Tz 4 j zr nn λcx j=>AT zr qC<|Ts 1 j zr kn oI λcy j=>?_
   obtain⟨bq,b7,hj⟩:=bd hj
   refine SZ G4 (jd N (i0:=1) (i1:=0) j zr zr b7) λw j=>ic bq 0<|fp (decide<|bq<0)<|eD hj (λaj hj=>?_) λaj hj=>?_
   ·refine aW aj<|aW aj<|aW aj<|aW aj<|aW aj<|eB aj (vb true)<|bW true<|By ?_
    obtain rfl:=oi hj
    exact⟨rfl,j.sp 20 [5,6,7,8,9,10,11,12,13,14,15,16,17,18,19,2]⟩
   refine Tz (hg:=cg aj) 6 j zr nn λcz j=>AT (hg:=cg aj) zr rS<|Ts (hg:=cg aj) 3 j zr lG oI λc0 j=>?_
   obtain⟨bb,b8,hj⟩:=bd hj
   refine SZ (hg:=cg aj) G4 (jd N (i0:=1) (i1:=0) j zr zr b8) λw j=>TO bb 0 (cg aj)<|eB aj (vb<|decide<|bb<0)<|bW (decide<|bb<0)<|By ?_
   obtain rfl:=oi hj
   exact⟨rfl,j.sp 22 [7,8,9,10,11,12,13,14,15,16,17,18,19,20,21,4]⟩
  rintro _ w⟨O,rfl,j⟩
  refine aC<|cY o (λo=>?_) λo=>?_
  ·refine w_<|dG (.pointer none)<|aL 9<|AI<|TE<|jM<|bE ?_
   obtain rfl:=oi o
   exact⟨rfl,lJ ⟨rfl,j.drop 16⟩⟩
  refine w_<|AT zr rS<|Ts 15 j zr lG oI λc1 j=>AT zr qC<|Ts 16 j zr kn oI λc2 j=>?_
  obtain⟨br,b9,o⟩:=bd o
  refine SZ J7 (ik N (i0:=1) (i1:=0) j zr zr b9) λw j=>ic br 0<|bW (decide<|br<=0)<|AI<|cY o (λo=>?_) λo=>?_
  ·refine w_<|dG (.pointer none)<|aL 8<|AI<|TE<|jM<|bE ?_
   obtain rfl:=oi o
   exact⟨rfl,lJ ⟨rfl,j.drop 18⟩⟩
  refine IN ?_
  obtain⟨bf,hj,o⟩:=bd o
  refine S8 (λ(bf:Bool)=>SH E V [(1,v1),(2,vp ak 0),(6,vp al 0),(21,v1),(22,vi p1.length),(23,vi ai),(48,vb bf)] [rd v1 p1,bx 27 ak p0,bc 72 al [an,ao,aq,ar,au,av,aw,ax,ay,az,a0,a1],rd an ab.1,rd ao ab.2.1,rd aq ab.2.2.1,rd ar ab.2.2.2.1,own 129 au ab.2.2.2.2.1,rd av ab.2.2.2.2.2.1,rd aw ab.2.2.2.2.2.2.1,own 124 ax ab.2.2.2.2.2.2.2.1,rd ay ab.2.2.2.2.2.2.2.2.1,rd az ab.2.2.2.2.2.2.2.2.2.1,own 3 a0 ab.2.2.2.2.2.2.2.2.2.2.1,own 75 a1 ab.2.2.2.2.2.2.2.2.2.2.2]) bf ?_ ?_
  ·refine TK mixed [0,0,0,0,0,0,0,0,0,2,0,0,0] [0,1,2,3,4,5,6,7,8,9,10,11,12] ?_
   have j:=j.drew
   refine S5 zr zr<|aX (ai:Int)<|aR zr<|ic ((ai:Int)) 0<|aR zr<|fp (decide<|(ai:Int)>0)<|S7<|eD hj (λae hj=>?_) λae hj=>?_
   rotate_left
   ·refine S5 zr zr<|aW ae<|aR zr<|aW ae<|aR zr<|aW ae<|aR zr<|aW ae<|aR zr ?_
    refine aW ae<|aR zr<|aW ae<|mP zr<|aW ae<|pS zr<|aW ae<|aR zr<|eB ae (vb false) ?_
    refine aR zr<|bW false<|S7<|Tl ?_
    obtain rfl:=oi hj
    exact⟨rfl,j.sp 18 [2,3,4,5,6,7,8,9,10,11,12,13,14,15,16]⟩
   refine S5 zr zr<|Tz (hg:=cg ae) 17 j zr Ae λc3 j=>aR zr<|SS v1 (cg ae)<|aR zr<|SS (vi ai) (cg ae)<|aR zr<|SX (hg:=cg ae) (ai:Int) 1<|aR zr ?_
   obtain⟨ca,cb,hj⟩:=bd hj
   refine SV (hg:=cg ae) 3 j ze cb λc4 j=>aR zr<|Ta (hg:=cg ae) 0 ca j Ae λc5 j=>mP zr ?_
   obtain⟨bg,cc,hj⟩:=bd hj
   refine SZ (hg:=cg ae) P4 (qR N (i0:=2) (i1:=0) j zr zr cc) λw j=>pS zr<|TO bg 0 (cg ae)<|aR zr<|eB ae (vb<|decide<|bg<=0)<|aR zr<|bW (decide<|bg<=0)<|S7<|Tl ?_
   obtain rfl:=oi hj
   exact⟨rfl,j.sp 21 [5,6,7,8,9,10,11,12,13,14,15,16,17,18,19]⟩
  rintro _ w⟨O,rfl,j⟩
  refine aC<|cY o (λo=>?_) λo=>?_
  rotate_left
  ·refine Tr<|bH<|bH<|aC<|IS<|TI hk hm<|aX ((ai+1:Nat):Int)<|By ?_
   obtain rfl:=oi o
   exact⟨rfl,j.sp 15 [0,1,2,3,4,5,6,7,8,9,10,11,12,13,14]⟩
  refine w_<|dG (.pointer none)<|aL 8<|AI<|TE<|jM<|bE ?_
  obtain rfl:=oi o
  exact⟨rfl,lJ ⟨rfl,j.drop 15⟩⟩
 ·intro r U w o hK
  refine bE ?_
  obtain rfl:=oi o
  exact hK
 rintro bn _ w o⟨O,rfl,j⟩
 refine aC<|w_<|mv (vp al 0)<|dG (vp al 0)<|aL 0<|AI<|S4 ?_
 obtain rfl:=oi o
 exact lJ ⟨al,an,ao,aq,ar,au,av,aw,ax,ay,az,a0,a1,zr,j.pk 15 [2,3,4,5,6,7,8,9,10,11,12,13,14]⟩
theorem wC{res:Bool}(o:Holds E w V)(j:qt N p0 p1 p2=some res):c_ 23 [vi p0,vi p1,vi p2] w<|aV E V res:=by
 unfold qt at j;refine enter Tryz.func23 zr zr<|w_<|bW false<|OF<|aX p0<|aX p1<|ic p0 p1<|fp (decide<|p0>=p1)<|BY true (decide<|p0>=p1) (vi p0) zr zr zr cD ?_;refine BY true (decide<|p0>=p1) (vi p2) rfl rfl rfl cD<|BY true (decide<|p0>=p1) (vb<|decide<|p0<=p2) rfl rfl rfl (cZ .leq .i64 p0 p2 rfl (by exact z_ (vi p0)) (by exact z_ (vi p2)) rfl)<|Tw (b:=decide<|p0>=p1) (v:=vb<|decide (p0>=p1)&&decide (p0<=p2)) trivial rfl rfl (fA true)<|bW (decide (p0>=p1)&&decide (p0<=p2))<|AI<|S4 ?_;exact oi j▸bT ⟨rfl,o.drop 0⟩
def wQ(E:World)(V:List HP)(b1 b1h:Nat)(V_ W_:Value)(Z_ a0_:Value)(a1_ N_:Value)(a2_ a3_:Value)(a4_ a5_:Value)(X_ Y_:Value)(res:Bool)(v:Value)(w:World):Prop:=v= vb res/\Holds E w ([bc 39 b1 [vp b1h 0],bc 72 b1h [V_,W_,Z_,a0_,a1_,N_,a2_,a3_,a4_,a5_,X_,Y_]]++V)
theorem mE{U_:List aF}{res:Bool}(j:Holds E w (bc 39 b1 [vp b1h 0]::bc 72 b1h [V_,W_,Z_,a0_,a1_,N_,a2_,a3_,a4_,a5_,X_,Y_]::rd N_ U_::V))(o:iv N p0 U_=some res):c_ 22 [vi p0,vp b1 0] w<|wQ E V b1 b1h V_ W_ Z_ a0_ a1_ N_ a2_ a3_ a4_ a5_ X_ Y_ res:=by
 unfold iv at o;refine enter Tryz.func22 zr zr<|w_<|bW false<|OF<|aX p0<|S9 0 (vp b1h 0) j Oq<|Th zt zr zr<|AT zr xf<|S9 1 N_ j G1<|SY 2 U_ j J8<|SX (U_.length:Int) 1 ?_;exact q_ o λaa ab o=>SZ P5 (wC N (p0:=p0) (p1:=0) (p2:=wrap .i64<|(U_.length:Int) - 1) j ab) λw j=>bW aa<|AI<|S4<|oi o▸bT ⟨rfl,j.pk 3 [0,1]⟩
theorem xA{p0:List dX}{p1:dX}(j:Holds E w V)(h0:V[i0]? =some (rd v0 p0))(h1:V[i1]? =some (rd v1 p1))(o:qu N p0 p1=some res):c_ 52 [v0,v1] w<|aS E V res:=by
 unfold qu at o;refine enter Tryz.func52 zr zr ?_;have j:=(j.dup (i0+0) h0).dup (i1+1) h1;refine w_<|Tq 0 v1 j zr λab w j=>?_;refine aL 0<|SU<|w_<|mv v0<|SY 2 p0 j FE<|aX 0<|AI<|T5 E V (λ(ad:Unit)=>[rd v0 p0,bx 77 ab p1]) (λ_=>[]) (λaa _=>[(0,v0),(3,vp ab 0),(7,vi p0.length),(8,vi aa)]) (λr=>lx bK 19 Tryz.f52 (aS E V r) .ret) o ?_ ?_ ?_ ?_;exact j.sp 3 [2,0];rintro hm aa ad fl _ w hk⟨O,rfl,j⟩o;refine IN<|Tp<|aX (aa:Int)<|aL (aa:Int)<|SU<|TS mixed ?_;have j:=j.drew;refine TR<|Tz 1 j zr Ba λak j=>AS<|mv v0<|AS<|aX (aa:Int)<|AS<|q_ o λae ah o=>SV 1 j zf ah λal j=>AS<|Ta 0 ae j Ba λan j=>AS<|U1 2 0 p1 ae zt zr j zr zr zr zr NA zr<|TL<|aC<|cY o (λo=>?_) λo=>?_;exact w_<|aX (aa:Int)<|aL (aa:Int)<|AI<|TE<|bE<|oi o▸⟨rfl,bT ⟨rfl,j.drop 5⟩⟩;exact Tr<|bH<|aC<|IS<|TI hk hm<|aX ((aa+1:Nat):Int)<|By<|oi o▸⟨rfl,j.sp 5 [3,4]⟩;intro r U w o hK;exact bE<|oi o▸hK;rintro ad _ w o⟨O,rfl,j⟩;exact aC<|w_<|aL (-1)<|AI<|S4<|oi o▸bT ⟨rfl,j.drop 2⟩
theorem u5{p0:List dX}{p1:dX}{res:Bool}(j:Holds E w V)(h0:V[i0]? =some (rd v0 p0))(h1:V[i1]? =some (rd v1 p1))(o:ka N p0 p1=some res):c_ 24 [v0,v1] w<|aV E V res:=by
 unfold ka at o;refine enter Tryz.func24 zr zr ?_;have j:=(j.dup (i0+0) h0).dup (i1+1) h1;refine w_<|Tq 0 v1 j zr λad w j=>?_;refine bW false<|OF<|mv v0<|Tz 0 j zr Ba λae j=>?_;refine q_ o λaa ab o=>SZ (gF Tryz.func52) (xA N (i0:=3) (i1:=0) j zr zr ab) λw j=>ic aa 0<|bW (decide<|aa>=0)<|AI<|S4 ?_;exact oi o▸bT ⟨rfl,j.drop 4⟩
theorem sf{u_:List (List aH)}{A_:List aH}{k_:List bR}{p_:List cS}{v_:List (List aA)}{j_:List aF}{s_:List (List Int)}{t_:List cF}{C_:List Int}{D_:List Int}{y_:List Int}{x_:List dK}{p1:List dX}(o:Holds E w (bc 72 b0 [e_,f_,a_,d_,h_,b_,g_,i_,r_,o_,m_,l_]::rd e_ u_::rd f_ A_::rd a_ k_::rd d_ p_::rd h_ v_::rd b_ j_::rd g_ s_::rd i_ t_::rd r_ C_::rd o_ D_::rd m_ y_::rd l_ x_::V))(h1:V[i1]? =some (rd v1 p1))(hb:jO N u_ A_ k_ p_ v_ j_ s_ t_ C_ D_ y_ x_ p1=some res):c_ 11 [vp b0 0,v1] w<|lA E V b0 e_ f_ a_ d_ h_ b_ g_ i_ r_ o_ m_ l_ res:=by
 unfold jO at hb;refine enter Tryz.func11 zr zr ?_;have o:=o.dup (i1+13) h1;refine w_<|VA (v:=vp b0 0) zt zr o zr zr λae w o=>?_;refine aL 0<|SU<|w_<|mv v1<|SY 1 p1 o FE<|ic ((p1.length:Int)) 20<|AI<|cY hb (λhb=>?_) λhb=>?_;exact w_<|aL 2<|AI<|Tj<|oi hb▸bT ⟨rfl,o.pk 15 [2]⟩;refine TP<|Us [vp ae 0]<|dG (.func (.func 22) #[] #[vp ae 0])<|SU<|w_<|mv v1<|SY 1 p1 o FE<|aX 0<|AI<|T5 E V (λ(au:Unit)=>[bc 72 b0 [e_,f_,a_,d_,h_,b_,g_,i_,r_,o_,m_,l_],rd e_ u_,rd f_ A_,rd a_ k_,rd d_ p_,rd h_ v_,rd b_ j_,rd g_ s_,rd i_ t_,rd r_ C_,rd o_ D_,rd m_ y_,rd l_ x_,rd v1 p1,bc 39 ae [vp b0 0]]) (λ_=>[(0,vp b0 0)]) (λag _=>[(1,v1),(2,vp ae 0),(5,(.func (.func 22) #[] #[vp ae 0])),(13,v1),(14,vi p1.length),(15,vi ag)]) (λr=>lx bK 112 Tryz.f11 (lA E V b0 e_ f_ a_ d_ h_ b_ g_ i_ r_ o_ m_ l_ r) .ret) hb ?_ ?_ ?_ ?_;exact o.sp 15 [2,3,4,5,6,7,8,9,10,11,12,13,14,1,0];rintro hm ag au fl _ w hk⟨O,rfl,o⟩hb;refine IN<|Tp<|aX (ag:Int)<|q_ hb λj ay hb=>SV 13 o zf ay λbf o=>Ta 0 j o Ba λbg o=>TG o Ot.z λad w o=>?_;refine aL (ag:Int)<|TB 0 o 1 zr Ba λw o=>?_;refine SU<|IN<|q_ hb λal hj hb=>S8 (λ(al:Bool)=>SH E V [(0,vp b0 0),(1,v1),(2,vp ae 0),(5,(.func (.func 22) #[] #[vp ae 0])),(6,vi ag),(7,vp ad 0),(13,v1),(14,vi p1.length),(15,vi ag),(42,vb al)] [bc 72 b0 [e_,f_,a_,d_,h_,b_,g_,i_,r_,o_,m_,l_],rd e_ u_,rd f_ A_,rd a_ k_,rd d_ p_,rd h_ v_,rd b_ j_,rd g_ s_,rd i_ t_,rd r_ C_,rd o_ D_,rd m_ y_,rd l_ x_,rd v1 p1,bc 39 ae [vp b0 0],bx 77 ad j]) al ?_ ?_;refine IS<|AT rfl rT<|SW 0 o rfl lH qM<|fp j.Open<|BY true j.Open (vp ad 3) rfl rfl rfl (dB vT)<|BY true j.Open (vi j.A) rfl rfl rfl (bU 0 rfl o (by exact z_ (vp ad 3)) rfl oG cB)<|BY true j.Open (vb<|j.A != 0) rfl rfl rfl (cZ .neq .i64 j.A 0 rfl (by exact z_ (vi j.A)) (λ_=>rfl) rfl)<|BY true j.Open (vb<|j.A != 0) rfl rfl rfl (cD (hx:=λh=>by exact(cA h:cv (true&&(j.Open==true)) (vb<|j.A != 0)= vb (j.A != 0))))<|BY (true&&(j.Open==true)) (j.A != 0) (vp ad 4) rfl rfl rfl (dB vU) ?_;refine BY (true&&(j.Open==true)) (j.A != 0) (vi j.B) rfl rfl rfl (bU 0 rfl o (by exact z_ (vp ad 4)) rfl oH cB)<|BY (true&&(j.Open==true)) (j.A != 0) (vb<|j.B != 0) rfl rfl rfl (cZ .neq .i64 j.B 0 rfl (by exact z_ (vi j.B)) (λ_=>rfl) rfl)<|BY true j.Open (vb<|(j.A != 0)||(j.B != 0)) rfl rfl rfl (kh (j.A != 0) rfl (by exact z_ (vb<|j.A != 0)) (λh=>by exact nB (true&&(j.Open==true)) h))<|Tw (b:=j.Open) (v:=vb<|j.Open&&((j.A != 0)||(j.B != 0))) trivial rfl rfl (fA true)<|fp (j.Open&&((j.A != 0)||(j.B != 0)))<|eD hj (λah hj=>?_) λah hj=>?_;refine aW ah<|aW ah<|aW ah<|aW ah<|ri<|ri<|ri<|ri<|aW ah<|eB ah (vb true)<|By ?_;exact oi hj▸⟨rfl,o.sp 18 [3,4,5,6,7,8,9,10,11,12,13,14,15,16,17,0]⟩;refine AT (hg:=cg ah) zr rT<|SW (hg:=cg ah) 0 o zr lH qM<|Ty (hg:=cg ah) j.Open<|SS (vb<|!j.Open) (cg ah)<|eD hj (λai hj=>?_) λai hj=>?_;refine AT (hg:=cg ai) rfl qV<|Ts (hg:=cg ai) 0 o rfl kS qB λbh o=>TX (⟨false,0⟩:dK) (cg ai) rfl o [] rfl G3 rfl (λM hs g=>by have h:=BQ M;exact cV.nil h) λbj o=>?_;exact UD 1 0 j.dK (⟨false,0⟩:dK) (cg ai) zr o zr zr zr zr Nz zr<|eB ai (vb<|!(decide<|j.dK=(⟨false,0⟩:dK))) (hg:=cg ah)<|eB ah (vb<|!(decide<|j.dK=(⟨false,0⟩:dK)))<|By<|oi hj▸⟨rfl,o.sp 20 [5,6,7,8,9,10,11,12,13,14,15,16,17,18,19,2]⟩;exact aW ai<|aW ai<|aW ai<|aW ai<|eB ai (vb false) (hg:=cg ah)<|eB ah (vb false)<|By<|oi hj▸⟨rfl,o.sp 18 [3,4,5,6,7,8,9,10,11,12,13,14,15,16,17,0]⟩;rintro _ w⟨O,rfl,o⟩;refine aC<|cY hb (λhb=>?_) λhb=>?_;exact w_<|aL 3<|AI<|Tj<|jM<|bE<|oi hb▸⟨rfl,bT ⟨rfl,o.pk 16 [0]⟩⟩;refine Tb<|q_ hb λan hj hb=>S8 (λ(an:Bool)=>SH E V [(0,vp b0 0),(1,v1),(2,vp ae 0),(5,(.func (.func 22) #[] #[vp ae 0])),(6,vi ag),(7,vp ad 0),(8,vb an),(13,v1),(14,vi p1.length),(15,vi ag)] [bc 72 b0 [e_,f_,a_,d_,h_,b_,g_,i_,r_,o_,m_,l_],rd e_ u_,rd f_ A_,rd a_ k_,rd d_ p_,rd h_ v_,rd b_ j_,rd g_ s_,rd i_ t_,rd r_ C_,rd o_ D_,rd m_ y_,rd l_ x_,rd v1 p1,bc 39 ae [vp b0 0],bx 77 ad j]) an ?_ ?_;refine IS<|mv (.func (.func 22) #[] #[vp ae 0])<|AT zr vT<|SW 15 o zr oG cB ?_;have o:=((o.dup 6 rfl).pull 1).pull 16;refine q_ hj λaz a0 hj=>Uk [vp ae 0] Ou [vi j.A]<|hZ (mE N (p0:=j.A) o a0) ?_;rintro _ w⟨rfl,o⟩;refine fp az<|eD hj (λaj hj=>?_) λaj hj=>?_;refine SS (.func (.func 22) #[] #[vp ae 0]) (cg aj)<|AT (hg:=cg aj) zr vU<|SW (hg:=cg aj) 17 o zr oH cB ?_;have o:=((o.dup 8 rfl).pull 2).pull 2;refine q_ hj λav a1 hj=>Uk (hg:=cg aj) [vp ae 0] Ou [vi j.B]<|hZ (mE N (p0:=j.B) o a1) ?_;rintro _ w⟨rfl,o⟩;exact eB aj (vb av)<|bW av<|By<|oi hj▸⟨rfl,o.sp 20 [1,5,6,7,8,9,10,11,12,13,14,15,16,17,0,19]⟩;exact aW aj<|aW aj<|aW aj<|aW aj<|eB aj (vb false)<|bW false<|By<|oi hj▸⟨rfl,o.sp 18 [1,3,4,5,6,7,8,9,10,11,12,13,14,15,0,17]⟩;rintro _ w⟨O,rfl,o⟩;refine aC<|IN<|w_<|AT zr rT<|SW 15 o zr lH qM<|AI<|q_ hb λao hj hb=>S8 (λ(ao:Bool)=>SH E V [(0,vp b0 0),(1,v1),(2,vp ae 0),(5,(.func (.func 22) #[] #[vp ae 0])),(6,vi ag),(7,vp ad 0),(8,vb ao),(13,v1),(14,vi p1.length),(15,vi ag)] [bc 72 b0 [e_,f_,a_,d_,h_,b_,g_,i_,r_,o_,m_,l_],rd e_ u_,rd f_ A_,rd a_ k_,rd d_ p_,rd h_ v_,rd b_ j_,rd g_ s_,rd i_ t_,rd r_ C_,rd o_ D_,rd m_ y_,rd l_ x_,rd v1 p1,bc 39 ae [vp b0 0],bx 77 ad j]) ao ?_ ?_;refine cY hj (λhj=>?_) λhj=>?_;refine IS<|mv (.func (.func 22) #[] #[vp ae 0])<|AT zr qV<|AT zr pI<|SW (f:=(λx=>x.dK.Number)) 15 o zr (Fd.comp (f:=λ(x:dX)=>x.dK) (λ(x:dK)=>x.Number) kS k9) cB ?_;have o:=((o.dup 6 rfl).pull 1).pull 16;refine q_ hj λa2 a3 hj=>Uk [vp ae 0] Ou [vi j.dK.Number]<|hZ (mE N (p0:=j.dK.Number) o a3) ?_;rintro _ w⟨rfl,o⟩;exact bW a2<|By<|oi hj▸⟨rfl,o.sp 18 [1,3,4,5,6,7,8,9,10,11,12,13,14,15,0,17]⟩;exact Tr<|oi hj▸⟨rfl,o.sp 16 [0,1,2,3,4,5,6,7,8,9,10,11,12,13,14,15]⟩;rintro _ w⟨O,rfl,o⟩;refine aC<|IN<|w_<|AT rfl rT<|SW 15 o rfl lH qM<|fp j.Open<|BY true j.Open (vp ad 1) rfl rfl rfl (dB qV)<|BY true j.Open (vp ad 1) rfl rfl rfl (dB (hx:=λh=>by exact(cA h:cv (true&&(j.Open==true)) (vp ad 1)= vp ad 1)) vS)<|BY true j.Open (vb j.dK.bR) rfl rfl rfl (bU (f:=(λx=>x.dK.bR)) 15 rfl o (by exact z_ (vp ad 1)) rfl (Fd.comp (f:=λ(x:dX)=>x.dK) (λ(x:dK)=>x.bR) kS qx) qM) ?_;refine Tw (b:=j.Open) (v:=vb<|j.Open&&j.dK.bR) zt zr zr (fA true)<|AI<|q_ hb λak hj hb=>S8 (λ(ak:Bool)=>SH E V [(0,vp b0 0),(1,v1),(2,vp ae 0),(5,(.func (.func 22) #[] #[vp ae 0])),(6,vi ag),(7,vp ad 0),(8,vb ak),(13,v1),(14,vi p1.length),(15,vi ag)] [bc 72 b0 [e_,f_,a_,d_,h_,b_,g_,i_,r_,o_,m_,l_],rd e_ u_,rd f_ A_,rd a_ k_,rd d_ p_,rd h_ v_,rd b_ j_,rd g_ s_,rd i_ t_,rd r_ C_,rd o_ D_,rd m_ y_,rd l_ x_,rd v1 p1,bc 39 ae [vp b0 0],bx 77 ad j]) ak ?_ ?_;refine cY hj (λhj=>?_) λhj=>?_;refine q_ hj λaq hjj hj=>S8 (λ(aq:Bool)=>SH E V [(0,vp b0 0),(1,v1),(2,vp ae 0),(5,(.func (.func 22) #[] #[vp ae 0])),(6,vi ag),(7,vp ad 0),(8,vb aq),(13,v1),(14,vi p1.length),(15,vi ag)] [bc 72 b0 [e_,f_,a_,d_,h_,b_,g_,i_,r_,o_,m_,l_],rd e_ u_,rd f_ A_,rd a_ k_,rd d_ p_,rd h_ v_,rd b_ j_,rd g_ s_,rd i_ t_,rd r_ C_,rd o_ D_,rd m_ y_,rd l_ x_,rd v1 p1,bc 39 ae [vp b0 0],bx 77 ad j]) aq ?_ ?_;refine TK mixed [0,0,0,0,0,0,0,0,0,0,2,0,0,0,0,0,0,0,0,0,0,0,0,0,0] [0,1,2,3,4,5,6,7,8,9,10,11,12,13,14,15,16,17,18,19,20,21,22,23,24] ?_;have o:=o.drew;refine S5 zr zr<|AT zr qV<|aR zr<|AT zr pI<|aR zr<|SW (f:=(λx=>x.dK.Number)) 15 o zr (Fd.comp (f:=λ(x:dX)=>x.dK) (λ(x:dK)=>x.Number) kS k9) cB<|aR zr<|S9 14 (vp b0 0) o Oq<|aR zr<|Th zt zr zr<|aR zr<|AT zr qA<|aR zr<|AT zr gr<|aR zr<|S9 0 a_ o mR<|aR zr<|SY 3 k_ o uT ?_;refine aR zr<|SX (k_.length:Int) 1<|mP zr<|q_ hjj λa4 a5 hjj=>SZ P5 (wC N (p0:=j.dK.Number) (p1:=0) (p2:=wrap .i64<|(k_.length:Int) - 1) o a5) λw o=>pS zr<|fp a4<|S7<|eD hjj (λaf hjj=>?_) λaf hjj=>?_;refine S5 zr zr<|S9 (hg:=cg af) 14 (vp b0 0) o Oq<|aR zr<|Th (cg af) zr zr<|aR zr<|AT (hg:=cg af) zr qA<|aR zr<|AT (hg:=cg af) zr gr<|aR zr<|S9 (hg:=cg af) 0 a_ o mR<|aR zr<|AT (hg:=cg af) zr qV<|aR zr<|AT (hg:=cg af) zr pI<|aR zr<|SW (hg:=cg af) (f:=(λx=>x.dK.Number)) 15 o zr (Fd.comp (f:=λ(x:dX)=>x.dK) (λ(x:dK)=>x.Number) kS k9) cB<|aR zr ?_;refine q_ hjj λar a6 hjj=>SV (hg:=cg af) 3 o rQ a6 λbk o=>aR zr<|Tn (hg:=cg af) 0 o zr xg pT λbl o=>aR zr<|Te (hg:=cg af) ar.eN 0 o qM<|aR zr<|eB af (vb ar.eN)<|aR zr<|bW ar.eN<|S7<|Tl ?_;exact oi hjj▸⟨rfl,o.sp 18 [2,3,4,5,6,7,8,9,10,11,12,13,14,15,16,17]⟩;refine S5 zr zr<|aW af<|aR zr<|aW af<|aR zr<|aW af<|aR zr<|aW af<|aR zr<|aW af<|aR zr<|aW af<|aR zr<|aW af<|aR zr<|aW af<|aR zr<|aW af ?_;refine aR zr<|aW af<|aR zr<|aW af<|aR zr<|eB af (vb false)<|aR zr<|bW false<|S7<|Tl ?_;exact oi hjj▸⟨rfl,o.sp 16 [0,1,2,3,4,5,6,7,8,9,10,11,12,13,14,15]⟩;rintro _ w⟨O,rfl,o⟩;exact oi hj▸⟨rfl,o.sp 16 [0,1,2,3,4,5,6,7,8,9,10,11,12,13,14,15]⟩;exact Tr<|oi hj▸⟨rfl,o.sp 16 [0,1,2,3,4,5,6,7,8,9,10,11,12,13,14,15]⟩;rintro _ w⟨O,rfl,o⟩;refine aC<|Tp<|fp ak<|Ty ak<|bW (!ak)<|AI<|cY hb (λhb=>?_) λhb=>?_;exact w_<|aL 9<|AI<|TE<|jM<|bE<|oi hb▸⟨rfl,bT ⟨rfl,o.pk 16 [0]⟩⟩;refine w_<|AT rfl rT<|SW 15 o rfl lH qM<|Ty j.Open<|fp (!j.Open)<|BY true (!j.Open) (vp ad 4) rfl rfl rfl (dB vU)<|BY true (!j.Open) (vi j.B) rfl rfl rfl (bU 15 rfl o (by exact z_ (vp ad 4)) rfl oH cB)<|BY true (!j.Open) (vp ad 3) rfl rfl rfl (dB vT)<|BY true (!j.Open) (vi j.A) rfl rfl rfl (bU 15 rfl o (by exact z_ (vp ad 3)) rfl oG cB) ?_;refine BY true (!j.Open) (vb<|decide<|j.B<=j.A) rfl rfl rfl (cZ .leq .i64 j.B j.A rfl (by exact z_ (vi j.B)) (by exact z_ (vi j.A)) rfl)<|Tw (b:=(!j.Open)) (v:=vb<|(!j.Open)&&decide (j.B<=j.A)) trivial rfl rfl (fA true)<|bW ((!j.Open)&&decide (j.B<=j.A))<|AI<|cY hb (λhb=>?_) λhb=>?_;exact w_<|aL 8<|AI<|TE<|jM<|bE<|oi hb▸⟨rfl,bT ⟨rfl,o.pk 16 [0]⟩⟩;refine IN<|TK mixed [0,0,0,0,2,0] [0,1,2,3,4,5] ?_;have o:=o.drew;refine S5 zr zr<|mv v1<|aR zr<|aX (ag:Int)<|aR zr<|q_ hb λbm a7 hb=>Uh (hl:= .inr ⟨rfl,zr⟩) 13 o zf (.inl zr) a7 λbn o=>aR zr<|Tz 16 o zr Ba λbo o=>mP zr<|q_ hb λa8 a9 hb=>SZ (gF Tryz.func24) (u5 N (i0:=1) (i1:=0) o zr zr a9) λw o=>pS zr<|bW a8<|S7<|Tl<|aC<|cY hb (λhb=>?_) λhb=>?_;exact w_<|aL 7<|AI<|TE<|jM<|bE<|oi hb▸⟨rfl,bT ⟨rfl,o.pk 18 [2]⟩⟩;exact Tr<|bH<|bH<|aC<|IS<|TI hk hm<|aX ((ag+1:Nat):Int)<|By<|oi hb▸⟨rfl,o.sp 18 [2,3,4,5,6,7,8,9,10,11,12,13,14,15,16]⟩;intro r U w hb hK;exact bE<|oi hb▸hK;rintro au _ w hb⟨O,rfl,o⟩;exact aC<|w_<|aL 0<|AI<|S4<|oi hb▸bT ⟨rfl,o.pk 15 [0]⟩
theorem sg{p0:dK}(j:Holds E w V)(h0:V[i0]? =some (rd v0 p0))(h1:V[i1]? =some (pt v1 p1))(o:iX N p0 p1=some res):c_ 53 [v0,v1] w<|aS E V res:=by
 unfold iX at o;refine enter Tryz.func53 zr zr ?_;have j:=(j.dup (i0+0) h0).CJ (i:=i1+1) h1;refine w_<|Tq 1 v0 j zr λaa w j=>?_;refine aL 0<|SU<|w_<|AT zr vS<|SW 0 j zr qx qM<|AI<|cY o (λo=>?_) λo=>?_;refine w_<|Te p1 1 j cB<|AT zr pI<|SW 0 j zr k9 cB<|SX p1 p0.Number<|aL (wrap .i64<|p1+p0.Number)<|AI<|Tj ?_;exact oi o▸bT ⟨rfl,j.drop 3⟩;exact TP<|AT zr pI<|SW 0 j zr k9 cB<|aL p0.Number<|AI<|S4<|oi o▸bT ⟨rfl,j.drop 3⟩
def zo(E:World)(V:List HP)(b2:Nat)(E_:Value)(G_:List (Int×Bool))(b3 b3h:Nat)(res:List Int)(v:Value)(w:World):Prop:=∃a9_:Value,v = .tuple #[]/\Holds E w ([bc 105 b2 [E_],mp E_ G_,bc 106 b3 [vp b3h 0],bc 147 b3h [a9_],own 3 a9_ res]++V)
theorem si{G_:List (Int×Bool)}{a6_:List Int}{res:List Int}(j:Holds E w (bc 105 b2 [E_]::mp E_ G_::bc 106 b3 [vp b3h 0]::bc 147 b3h [T_]::own 3 T_ a6_::V))(hb:jP N p0 p1 G_ a6_=some res):c_ 55 [vi p0,vi p1,vp b2 0,vp b3 0] w<|zo E V b2 E_ G_ b3 b3h res:=by
 unfold jP at hb;refine enter Tryz.func55 zr zr<|IN<|q_ hb λae o hb=>S8 (λ(ae:Bool)=>SH E V [(0,vi p0),(1,vi p1),(2,vp b2 0),(3,vp b3 0),(15,vb ae)] [bc 105 b2 [E_],mp E_ G_,bc 106 b3 [vp b3h 0],bc 147 b3h [T_],own 3 T_ a6_]) ae ?_ ?_;refine IS<|S9 0 E_ j G5<|aX p0<|Uv 1 p0 zt j Jl<|Ty (fB G_ p0 (false:Bool))<|fp (!(fB G_ p0 (false:Bool)))<|eD o (λaa o=>?_) λaa o=>?_;refine S9 (hg:=cg aa) 0 E_ j G5<|SS (vi p1) (cg aa)<|Uv 1 p1 (cg aa) j Jl<|Ty (hg:=cg aa) (fB G_ p1 (false:Bool))<|eB aa (vb<|!(fB G_ p1 (false:Bool)))<|By ?_;obtain rfl:=oi o;exact ⟨rfl,j.sp 5 [0,1,2,3,4]⟩;exact aW aa<|aW aa<|aW aa<|aW aa<|eB aa (vb false)<|By<|oi o▸⟨rfl,j.sp 5 [0,1,2,3,4]⟩;rintro _ w⟨O,rfl,j⟩;refine aC<|q_ hb λaf o hb=>S8 (λ(af:List Int)U w=>∃ad:Value,SH E V [(2,vp b2 0),(3,vp b3 0)] [bc 105 b2 [E_],mp E_ G_,bc 106 b3 [vp b3h 0],bc 147 b3h [ad],own 3 ad af] U w) af ?_ ?_;refine cY o (λo=>?_) λo=>?_;refine IS<|S9 2 (vp b3h 0) j G6<|aX p0<|aX p1 ?_;have j:=(j.pull 4).pull 4;refine q_ o λai ag o=>Td PY (qQ N (p1:=p0) (p2:=p1) j ag) ?_;rintro _ w⟨ah,rfl,j⟩;exact By<|oi o▸⟨rfl,ah,j.sp 7 [2,3,4,0,1]⟩;exact Tr<|oi o▸⟨rfl,T_,j.sp 5 [0,1,2,3,4]⟩;rintro _ w⟨ad,O,rfl,j⟩;obtain rfl:=oi hb;exact CF<|JW ⟨ad,zr,j.pk 5 [0,1,2,3,4]⟩
def Cl(E:World)(V:List HP)(b0:Nat)(e_ f_:Value)(a_ d_:Value)(h_ b_:Value)(g_ i_:Value)(r_ o_:Value)(m_ l_:Value)(res:List Int)(v:Value)(w:World):Prop:=Holds E w<|[own 3 v res,bc 72 b0 [e_,f_,a_,d_,h_,b_,g_,i_,r_,o_,m_,l_]]++V
theorem u6{k_:List bR}{p_:List cS}{j_:List aF}{s_:List (List Int)}{y_:List Int}{x_:List dK}{p1:List dX}{res:List Int}(j:Holds E w (bc 72 b0 [e_,f_,a_,d_,h_,b_,g_,i_,r_,o_,m_,l_]::rd a_ k_::rd d_ p_::rd b_ j_::rd g_ s_::rd m_ y_::rd l_ x_::V))(h1:V[i1]? =some (rd v1 p1))(o:eU N k_ p_ j_ s_ y_ x_ p1=some res):c_ 25 [vp b0 0,v1] w<|Cl E V b0 e_ f_ a_ d_ h_ b_ g_ i_ r_ o_ m_ l_ res:=by
 unfold eU at o;refine enter Tryz.func25 zr zr ?_;have j:=j.dup (i1+7) h1;refine w_<|dG n_<|OF<|mv (vp b0 0)<|Th zt zr zr<|AT zr xf<|S9 1 b_ j G1<|SY 4 j_ j J8<|TG j D2.z λad w j=>?_;have j:=j.sc Int (j_.length:Int);refine TB 1 j 0 zr cB λw j=>?_;refine OF ?_;have j:=j.iD (i:=1) rfl;refine Us [vp ad 0]<|dG (.func (.func 53) #[] #[vp ad 0])<|OF<|UO (κ:=Int) (ν:=Bool) zr j λag w j=>Ut j P7 λae w j=>?_;refine T3 0 ag j zr zr (N3 j (i:=1) zr) G5 λw j=>?_;refine SU<|w_<|mv v1<|SY 4 p1 j FE<|aX 0<|AI<|Ux E V (λ(ao:List (Int×Bool))=>[bc 72 b0 [e_,f_,a_,d_,h_,b_,g_,i_,r_,o_,m_,l_],rd a_ k_,rd d_ p_,rd b_ j_,rd g_ s_,rd m_ y_,rd l_ x_,rd v1 p1,pt (vp ad 0) (j_.length:Int),bc 105 ae [ag],mp ag ao]) (λ_=>[(0,vp b0 0),(1,v1),(5,vp ad 0),(6,(.func (.func 53) #[] #[vp ad 0])),(7,vp ae 0)]) (λa4 _=>[(32,v1),(33,vi p1.length),(34,vi a4)]) o ?_ ?_ ?_;exact j.sp 12 [5,6,7,8,9,10,11,4,3,0,1];rintro hm a4 ao s' _ w hk⟨O,rfl,j⟩o;refine IN<|Tp<|q_ o λb2 b3 o=>SV 7 j zf b3 λc5 j=>Ta 0 b2 j Ba λc6 j=>TG j Ot.z λc7 w j=>?_;refine TB 0 j 1 zr Ba λw j=>?_;refine OF<|AT zr rT<|SW 0 j zr lH qM<|AI<|q_ o λba hj o=>S8 (λ(ba:List (Int×Bool))=>SH E V [(0,vp b0 0),(1,v1),(5,vp ad 0),(6,(.func (.func 53) #[] #[vp ad 0])),(7,vp ae 0),(32,v1),(33,vi p1.length),(34,vi a4)] [bc 72 b0 [e_,f_,a_,d_,h_,b_,g_,i_,r_,o_,m_,l_],rd a_ k_,rd d_ p_,rd b_ j_,rd g_ s_,rd m_ y_,rd l_ x_,rd v1 p1,pt (vp ad 0) (j_.length:Int),bc 105 ae [ag],mp ag ba]) ba ?_ ?_;refine cY hj (λhj=>?_) λhj=>?_;have j:=j.drew;refine Uq (λw=>Holds E w<|[bc 105 ae [ag]]++V) mixed [1,0,0,0,2,2] [0,1,2,3,4,5] (j.pk 14 [12])<|Un ag zr (λw j=>S9 0 ag j G5 Tf)<|S5 zr zr<|mv (.func (.func 53) #[] #[vp ad 0])<|aR zr<|AT zr qV<|aR zr<|Ts 0 j zr kS qB λb4 j=>mP zr<|q_ hj λb5 b6 hj=>Uk [vp ad 0] P8 [b4]<|hZ (sg N (i0:=0) (i1:=12) j zr zr b6) ?_;rintro _ w⟨rfl,j⟩;refine Tt (j.pk 15 [13])<|TD zr zr ?_;have j:=j.sc Bool true;exact UP 15 0 b5 j zr zr zr zr zr Jl λw j=>Tt (j.pk 16 [14])<|Tl<|oi hj▸⟨rfl,j.sp 16 [5,6,7,8,9,10,11,12,13,14,15]⟩;exact Tr<|oi hj▸⟨rfl,j.sp 14 [3,4,5,6,7,8,9,10,11,12,13]⟩;rintro _ w⟨O,rfl,j⟩;exact bH<|aC<|IS<|TI hk hm<|aX ((a4+1:Nat):Int)<|By<|oi o▸⟨rfl,j.sp 11 [0,1,2,3,4,5,6,7,8,9,10]⟩;rintro ao _ w o⟨O,rfl,j⟩;refine aC<|IN ?_;refine q_ o λb7 b8 o=>Uc E V mixed [0,1,1,1,1,0,0,1,0,0,0] [8,9,10] (λ(x:Nat×Value×Nat)=>(λab aj aa=>[(0,46,vi j_.length),(1,47,vp b0 0),(2,48,vp b0 0),(3,49,vp b0 0),(4,50,vp b0 2),(5,51,a_),(6,52,vi k_.length),(7,53,vi<|wrap .i64<|(j_.length:Int)+(k_.length:Int)),(8,54,vp ab 0),(9,10,vp aa 0)]) x.1 x.2.1 x.2.2) [(0,vp b0 0),(1,v1),(5,vp ad 0),(6,(.func (.func 53) #[] #[vp ad 0])),(7,vp ae 0)] [] (λ(D:Nat->Bool)(x:Nat×Value×Nat)=>(λab aj aa=>[bif D 0 then bc 147 ab [aj]else bM,bif D 0 then own 3 aj b7 else bM,bif D 2 then bc 106 aa [vp ab 0]else(bif D 1 then bc 106 aa [(.pointer none)]else bM),bc 72 b0 [e_,f_,a_,d_,h_,b_,g_,i_,r_,o_,m_,l_],rd a_ k_,rd d_ p_,rd b_ j_,rd g_ s_,rd m_ y_,rd l_ x_,rd v1 p1,pt (vp ad 0) (j_.length:Int),bc 105 ae [ag],mp ag ao]) x.1 x.2.1 x.2.2) (λx=>by kernel_rfl) ?_ ⟨?_,λ_=>jS gn,λ_=>xc gn,λ_=>nk gn qA,λ_=>nk gn gr,?_,?_,λ_=>Mu gn rfl,?_,?_,?_,trivial⟩ ?_;have j:=(((j.drew).bM).bM).bM;exact⟨(0,undef,0),eH.none,GV zr,zt,j⟩;rintro D U w hD aq az⟨⟨ab,aj,aa⟩,hv,ha,_,j⟩;obtain⟨O,rfl⟩:=ha.ui;exact Te (j_.length:Int) 11 j cB<|S6 (ab,aj,aa) 0 hv ha j;rintro D U w hD aq az⟨⟨ab,aj,aa⟩,hv,ha,_,j⟩;obtain⟨O,rfl⟩:=hv.o1 4 aq;exact S9 3 a_ j mR<|S6 (ab,aj,aa) 5 hv ha j;rintro D U w hD aq az⟨⟨ab,aj,aa⟩,hv,ha,_,j⟩;obtain⟨O,rfl⟩:=hv.o1 5 aq;exact SY 4 k_ j uT<|S6 (ab,aj,aa) 6 hv ha j;rintro D U w hD aq az⟨⟨ab,aj,aa⟩,hv,ha,_,j⟩;obtain⟨O,rfl⟩:=hv.o1 7 aq;have j:=((j.cE 0 hD).cE 1 hD).cE 2<|nh az hD 10;refine Td PX (sd N (p0:=wrap .i64<|(j_.length:Int)+(k_.length:Int)) j b8) ?_;rintro _ w⟨bo,b9,rfl,j⟩;have j:=(((j.pl 16 [0,1,4,5,6,7,8,9,10,11,12,13,14,15] rfl).dF 0 true rfl bM).dF 1 true rfl bM).fK 2 (D 10) (nh az hD 10)<|bc 106 aa [vp bo 0];exact S6 (bo,b9,aa) 8 hv ha j;rintro D U w hD aq az⟨⟨ab,aj,aa⟩,hv,ha,_,j⟩;obtain⟨O,rfl⟩:=QT U;have j:=(j.cE 2<|nh az hD 10).cE 2 hD;refine Ut j P9 λbp w j=>?_;have j:=(j.nw 2).fK 2 (D 10) (nh az hD 10)<|bc 106 bp [vp ab 0];exact S6 (ab,aj,bp) 9 hv ha j;rintro D U w hD aq az⟨⟨ab,aj,aa⟩,hv,ha,_,j⟩;obtain⟨O,rfl⟩:=hv.o2 9 8 aq;have j:=((j.eM 0<|aq.2.1 rfl).cE 2 hD).eM 2<|aq.1 rfl;refine T3 2 (vp ab 0) j zr zr zr G6 λw j=>?_;have j:=(j.dF 0 (D 8) (aq.2.1 rfl) bM).dF 2 true rfl (bif D 9 then bc 106 aa [(.pointer none)]else bM);exact Uf (ab,aj,aa) hv ha j;rintro D U w a5⟨⟨ab,aj,aa⟩,hv,ha,_,j⟩;have j:=((j.eM 0<|tV a5 8).eM 1<|tV a5 8).eM 2<|tV a5 10;obtain⟨O,rfl⟩:=(ac (hv.at 9 rfl<|tV a5 9) ha).ui;refine aC<|w_<|Us [vp ae 0,vp aa 0]<|dG (.func (.func 55) #[] #[vp ae 0,vp aa 0])<|SU<|w_<|mv (vp b0 0)<|Th zt zr zr<|AT zr FC<|S9 3 g_ j Ad<|SY 7 s_ j Im<|aX 0<|AI<|Ua E V (λ(bb:List Int)(bq:Value)=>[bc 72 b0 [e_,f_,a_,d_,h_,b_,g_,i_,r_,o_,m_,l_],rd a_ k_,rd d_ p_,rd b_ j_,rd g_ s_,rd m_ y_,rd l_ x_,rd v1 p1,pt (vp ad 0) (j_.length:Int),bc 105 ae [ag],mp ag ao,bc 106 aa [vp ab 0],bc 147 ab [bq],own 3 bq bb]) (λ_ _=>[(0,vp b0 0),(1,v1),(6,(.func (.func 53) #[] #[vp ad 0])),(7,vp ae 0),(10,vp aa 0),(11,(.func (.func 55) #[] #[vp ae 0,vp aa 0]))]) (λau _ _=>[(5,vp ad 0),(59,g_),(60,vi s_.length),(61,vi au)]) o ?_ ?_ ?_;exact⟨aj,j.sp 14 [3,4,5,6,7,8,9,10,11,12,13,2,0,1]⟩;rintro hm au bb s' _ w hk⟨ca,O,rfl,j⟩o;refine IN<|Tp<|aX (au:Int)<|q_ o λa6 cb o=>SV 4 j A8 cb λc8 j=>Ta 0 a6 j fW λa7 j=>aL (au:Int)<|dG a7<|OF<|mv a7<|SY 0 a6 j mj<|aX 0<|AI ?_;refine Ua E V (λ(bf:List Int)(br:Value)=>[bc 72 b0 [e_,f_,a_,d_,h_,b_,g_,i_,r_,o_,m_,l_],rd a_ k_,rd d_ p_,rd b_ j_,rd g_ s_,rd m_ y_,rd l_ x_,rd v1 p1,pt (vp ad 0) (j_.length:Int),bc 105 ae [ag],mp ag ao,bc 106 aa [vp ab 0],bc 147 ab [br],own 3 br bf,rd a7 a6]) (λ_ _=>[(0,vp b0 0),(1,v1),(5,vp ad 0),(6,(.func (.func 53) #[] #[vp ad 0])),(7,vp ae 0),(10,vp aa 0),(11,(.func (.func 55) #[] #[vp ae 0,vp aa 0])),(59,g_),(60,vi s_.length),(61,vi au)]) (λbg _ _=>[(12,vi au),(66,a7),(67,vi a6.length),(68,vi bg)]) o ?_ ?_ ?_;exact⟨ca,j.sp 16 [2,3,4,5,6,7,8,9,10,11,12,13,14,15,0]⟩;rintro hm bg bf s' _ w hk⟨c9,O,rfl,j⟩o;refine IN<|Tp<|q_ o λa2 cc o=>SV 14 j dM cc λda j=>Te a2 0 j cB<|aL a2<|AI<|IS<|mv (.func (.func 55) #[] #[vp ae 0,vp aa 0])<|aX a2<|Te (j_.length:Int) 9 j cB<|aX (au:Int) ?_;refine SX (j_.length:Int) (au:Int) ?_;have j:=((((j.pull 14).pull 14).pull 14).pull 14).pull 14;refine q_ o λdb cd o=>Uk [vp ae 0,vp aa 0] Qa [vi a2,vi<|wrap .i64<|(j_.length:Int)+(au:Int)]<|hZ (si N (p0:=a2) (p1:=wrap .i64<|(j_.length:Int)+(au:Int)) j cd) ?_;rintro _ w⟨cf,rfl,j⟩;exact By<|bH<|aC<|IS<|TI hk hm<|aX ((bg+1:Nat):Int)<|By<|oi o▸⟨rfl,cf,j.sp 21 [6,7,8,9,10,11,12,13,14,0,1,2,3,4,20]⟩;rintro bf _ w o⟨ch,O,rfl,j⟩;exact bH<|aC<|IS<|TI hk hm<|aX ((au+1:Nat):Int)<|By<|oi o▸⟨rfl,ch,j.sp 15 [0,1,2,3,4,5,6,7,8,9,10,11,12,13]⟩;rintro bb _ w o⟨cj,O,rfl,j⟩;refine aC<|IN<|w_<|mv v1<|SY 7 p1 j FE<|aX 0<|AI<|Ua E V (λ(bh:List Int)(bt:Value)=>[bc 72 b0 [e_,f_,a_,d_,h_,b_,g_,i_,r_,o_,m_,l_],rd a_ k_,rd d_ p_,rd b_ j_,rd g_ s_,rd m_ y_,rd l_ x_,pt (vp ad 0) (j_.length:Int),bc 105 ae [ag],mp ag ao,bc 106 aa [vp ab 0],bc 147 ab [bt],own 3 bt bh,rd v1 p1]) (λ_ _=>[(0,vp b0 0),(6,(.func (.func 53) #[] #[vp ad 0])),(7,vp ae 0),(10,vp aa 0)]) (λa8 _ _=>[(11,(.func (.func 55) #[] #[vp ae 0,vp aa 0])),(80,v1),(81,vi p1.length),(82,vi a8)]) o ?_ ?_ ?_;exact⟨cj,j.sp 14 [0,1,2,3,4,5,6,8,9,10,11,12,13,7]⟩;rintro hm a8 bh s' _ w hk⟨ck,O,rfl,j⟩o;refine IN<|Tp<|q_ o λy7 cm o=>SV 13 j zf cm λdc j=>Ta 0 y7 j Ba λdd j=>TG j Ot.z λde w j=>?_;refine TB 0 j 1 zr Ba λw j=>?_;refine OF<|AT zr rT<|SW 0 j zr lH qM<|Ty y7.Open<|AI<|q_ o λbj hj o=>S8 (λ(bj:List Int)U w=>∃a9:Value,SH E V [(0,vp b0 0),(6,(.func (.func 53) #[] #[vp ad 0])),(7,vp ae 0),(10,vp aa 0),(11,(.func (.func 55) #[] #[vp ae 0,vp aa 0])),(80,v1),(81,vi p1.length),(82,vi a8)] [bc 72 b0 [e_,f_,a_,d_,h_,b_,g_,i_,r_,o_,m_,l_],rd a_ k_,rd d_ p_,rd b_ j_,rd g_ s_,rd m_ y_,rd l_ x_,pt (vp ad 0) (j_.length:Int),bc 105 ae [ag],mp ag ao,bc 106 aa [vp ab 0],bc 147 ab [a9],own 3 a9 bj,rd v1 p1] U w) bj ?_ ?_;refine cY hj (λhj=>?_) λhj=>?_;refine IS<|mv (.func (.func 55) #[] #[vp ae 0,vp aa 0])<|AT zr vT<|SW 0 j zr oG cB<|AT zr vU<|SW 0 j zr oH cB ?_;have j:=((((j.pull 15).pull 15).pull 15).pull 15).pull 15;refine q_ hj λdf cn hj=>Uk [vp ae 0,vp aa 0] Qa [vi y7.A,vi y7.B]<|hZ (si N (p0:=y7.A) (p1:=y7.B) j cn) ?_;rintro _ w⟨cp,rfl,j⟩;exact By<|oi hj▸⟨rfl,cp,j.sp 22 [8,9,10,11,12,13,14,15,0,1,2,3,4,21]⟩;exact Tr<|oi hj▸⟨rfl,ck,j.sp 17 [3,4,5,6,7,8,9,10,11,12,13,14,15,16]⟩;rintro _ w⟨a9,O,rfl,j⟩;exact bH<|aC<|IS<|TI hk hm<|aX ((a8+1:Nat):Int)<|By<|oi o▸⟨rfl,a9,j.sp 14 [0,1,2,3,4,5,6,7,8,9,10,11,12,13]⟩;rintro bh _ w o⟨cq,O,rfl,j⟩;refine aC<|w_<|UO (κ:=Int) (ν:=Int) zr j λay w j=>dG ay<|OF<|mv (vp b0 0)<|Th zt zr zr<|AT zr qA<|AT zr nV<|S9 1 d_ j xe<|SY 3 p_ j Eb ?_;refine q_ o λCR cr o=>Um (p_.length:Int) j rA Oe cr λav w j=>?_;refine dG av<|SU<|w_<|mv (vp b0 0)<|Th zt zr zr<|AT zr Ir<|S9 2 l_ j Oo<|SY 8 x_ j RB<|aX 0<|AI<|Ua E V (λ(ai:List Int×List (Int×Int)×List Int)(bu:Value)=>[bc 72 b0 [e_,f_,a_,d_,h_,b_,g_,i_,r_,o_,m_,l_],rd a_ k_,rd d_ p_,rd b_ j_,rd g_ s_,rd m_ y_,rd l_ x_,pt (vp ad 0) (j_.length:Int),bc 105 ae [ag],mp ag ao,bc 106 aa [vp ab 0],bc 147 ab [bu],own 3 bu ai.1,mp ay ai.2.1,own 3 av ai.2.2]) (λ_ _=>[(0,vp b0 0),(19,av)]) (λak _ _=>[(6,(.func (.func 53) #[] #[vp ad 0])),(7,vp ae 0),(10,vp aa 0),(18,ay),(107,l_),(108,vi x_.length),(109,vi ak)]) o ?_ ?_ ?_;exact⟨cq,j.sp 16 [2,3,4,5,6,7,8,9,10,11,12,13,14,1,0]⟩;rintro hm ak ai s' _ w hk⟨bk,O,rfl,j⟩o;refine IN<|Tp<|aX (ak:Int)<|q_ o λct cu o=>SV 6 j P0 cu λdg j=>Ta 0 ct j qB λdh j=>TG j Ip.z λdi w j=>?_;refine aL (ak:Int)<|TB 0 j 1 zr qB λw j=>?_;refine OF<|mv (.func (.func 53) #[] #[vp ad 0])<|Tz 0 j zr qB λcv j=>?_;refine q_ o λar cw o=>Uk [vp ad 0] P8 [cv]<|hZ (sg N (i0:=0) (i1:=11) j zr zr cw) ?_;rintro _ w⟨rfl,j⟩;refine aL ar<|SU<|IN<|q_ o λbl hj o=>S8 (λ(bl:Bool)=>SH E V [(0,vp b0 0),(6,(.func (.func 53) #[] #[vp ad 0])),(7,vp ae 0),(10,vp aa 0),(18,ay),(19,av),(20,vi ak),(22,vi ar),(107,l_),(108,vi x_.length),(109,vi ak),(129,vb bl)] [bc 72 b0 [e_,f_,a_,d_,h_,b_,g_,i_,r_,o_,m_,l_],rd a_ k_,rd d_ p_,rd b_ j_,rd g_ s_,rd m_ y_,rd l_ x_,pt (vp ad 0) (j_.length:Int),bc 105 ae [ag],mp ag ao,bc 106 aa [vp ab 0],bc 147 ab [bk],own 3 bk ai.1,mp ay ai.2.1,own 3 av ai.2.2]) bl ?_ ?_;refine IS<|mv (vp b0 0)<|Th zt zr zr<|AT zr Iq<|S9 4 m_ j fW<|aX (ak:Int)<|q_ hj λbm cx hj=>SV 9 j dM cx λdj j=>Te bm 0 j cB<|ic bm 0<|fp (decide<|bm<0)<|eD hj (λa0 hj=>?_) λa0 hj=>?_;exact aW a0<|aW a0<|aW a0<|eB a0 (vb true)<|By<|oi hj▸⟨rfl,j.sp 20 [5,6,7,8,9,10,11,12,13,14,15,16,17,18,19]⟩;refine S9 (hg:=cg a0) 13 ag j G5<|SS (vi ar) (cg a0)<|Uv 14 ar (cg a0) j Jl<|eB a0 (vb<|fB ao ar (false:Bool))<|By ?_;obtain rfl:=oi hj;exact ⟨rfl,j.sp 20 [5,6,7,8,9,10,11,12,13,14,15,16,17,18,19]⟩;rintro _ w⟨O,rfl,j⟩;refine aC<|cY o (λo=>?_) λo=>?_;refine w_<|mv av<|aX (ak:Int)<|q_ o λdk bw o=>Tg 14 j zr zr dM bw ?_;have j:=j.sc Int<|-1;refine TZ 15 0 j bw cB λw j=>?_;exact AI<|Tm<|H5<|aC<|IS<|TI hk hm<|aX ((ak+1:Nat):Int)<|By<|oi o▸⟨rfl,bk,j.sp 16 [1,2,3,4,5,6,7,8,9,10,11,12,13,14,15]⟩;refine Tb<|w_<|mv ay<|S9 10 (vp ab 0) j G6<|aX ar ?_;have j:=(j.pull 12).pull 12;refine q_ o λa1 cy o=>Td J9 (jc N (p1:=ar) j cy) ?_;rintro _ w⟨cz,rfl,j⟩;refine Vj 15 a1.1 zt zr j zr zr zr BR<|mv (.tuple #[vi<|fB ai.2.1 a1.1 (0:Int),vb<|lV ai.2.1 a1.1])<|TN (vi<|fB ai.2.1 a1.1 (0:Int))<|TN (vb<|lV ai.2.1 a1.1)<|aL (fB ai.2.1 a1.1 (0:Int))<|bW (lV ai.2.1 a1.1)<|OF<|fp (lV ai.2.1 a1.1)<|Ty (lV ai.2.1 a1.1) ?_;refine AI<|q_ o λa3 hj o=>S8 (λ(a3:List Int×List (Int×Int))U w=>∃bn:Value,SH E V [(0,vp b0 0),(6,(.func (.func 53) #[] #[vp ad 0])),(7,vp ae 0),(10,vp aa 0),(18,ay),(19,av),(20,vi ak),(22,vi ar),(107,l_),(108,vi x_.length),(109,vi ak)] [bc 72 b0 [e_,f_,a_,d_,h_,b_,g_,i_,r_,o_,m_,l_],rd a_ k_,rd d_ p_,rd b_ j_,rd g_ s_,rd m_ y_,rd l_ x_,pt (vp ad 0) (j_.length:Int),bc 105 ae [ag],mp ag ao,bc 106 aa [vp ab 0],bc 147 ab [bn],own 3 bn a3.1,mp ay a3.2,own 3 av ai.2.2] U w) a3 ?_ ?_;refine cY hj (λhj=>?_) λhj=>?_;refine IS<|mv ay<|S9 12 (vp ab 0) j G6<|aX ar ?_;have j:=(j.pull 1).pull 1;refine q_ hj λc0 c1 hj=>Td J9 (jc N (p1:=ar) j c1) ?_;rintro _ w⟨c2,rfl,j⟩;refine aX (ak:Int) ?_;have j:=j.sc Int (ak:Int);exact UP 18 0 c0.1 j zr zr zr zr zr BR λw j=>By<|oi hj▸⟨rfl,c2,j.sp 20 [5,6,7,8,9,10,11,12,13,14,15,1,2,18,19]⟩;exact Tr<|oi hj▸⟨rfl,cz,j.sp 17 [2,3,4,5,6,7,8,9,10,11,12,0,1,15,16]⟩;rintro _ w⟨bn,O,rfl,j⟩;refine aC<|IS<|mv av<|aX (ak:Int)<|mv ay<|S9 10 (vp ab 0) j G6<|aX ar ?_;have j:=(j.pull 12).pull 12;refine q_ o λbx c3 o=>Td J9 (jc N (p1:=ar) j c3) ?_;rintro _ w⟨c4,rfl,j⟩;refine Uv 15 bx.1 zt j BR<|q_ o λdm bz o=>Tg 16 j zr zr dM bz ?_;have j:=j.sc Int<|fB a3.2 bx.1 (0:Int);refine TZ 17 0 j bz cB λw j=>?_;exact By<|bH<|aC<|IS<|TI hk hm<|aX ((ak+1:Nat):Int)<|By<|oi o▸⟨rfl,c4,j.sp 18 [3,4,5,6,7,8,9,10,11,12,13,1,2,16,17]⟩;rintro ai _ w o⟨dn,O,rfl,j⟩;refine aC<|w_<|mv av<|dG av<|AI<|S4 ?_;obtain rfl:=oi o;exact bT<|j.pk 15 [14,0]
def Eh(E:World)(V:List HP)(b0:Nat)(e_ f_:Value)(a_ d_:Value)(h_ b_:Value)(g_ i_:Value)(r_ o_:Value)(m_ l_:Value)(res:List Bool)(v:Value)(w:World):Prop:=Holds E w<|[own 4 v res,bc 72 b0 [e_,f_,a_,d_,h_,b_,g_,i_,r_,o_,m_,l_]]++V
theorem C8{u_:List (List aH)}{A_:List aH}{k_:List bR}{p_:List cS}{j_:List aF}{s_:List (List Int)}{y_:List Int}{x_:List dK}{p1:List Test}{p2:List dX}{res:List Bool}(j:Holds E w (bc 72 b0 [e_,f_,a_,d_,h_,b_,g_,i_,r_,o_,m_,l_]::rd e_ u_::rd f_ A_::rd a_ k_::rd d_ p_::rd b_ j_::rd g_ s_::rd m_ y_::rd l_ x_::V))(h1:V[i1]? =some (rd v1 p1))(h2:V[i2]? =some (rd v2 p2))(hb:ru N u_ A_ k_ p_ j_ s_ y_ x_ p1 p2=some res):c_ 12 [vp b0 0,v1,v2] w<|Eh E V b0 e_ f_ a_ d_ h_ b_ g_ i_ r_ o_ m_ l_ res:=by
 unfold ru at hb;refine enter Tryz.func12 zr zr ?_;have j:=(j.dup (i1+9) h1).dup (i2+10) h2;refine w_<|dG n_<|OF<|mv (vp b0 0)<|mv v2 ?_;have j:=((((((j.dup 10 rfl).dup 10 rfl).dup 10 rfl).dup 10 rfl).dup 10 rfl).dup 10 rfl).pull 8;refine q_ hb λaz ba hb=>Td Qb (u6 N (i1:=0) j zr ba) λai w j=>dG ai<|OF<|dG n_<|SU<|w_<|mv v1<|SY 3 p1 j Ed<|aX 0<|AI<|Ua E V (λ(ar:List Bool)(a0:Value)=>[bc 72 b0 [e_,f_,a_,d_,h_,b_,g_,i_,r_,o_,m_,l_],rd e_ u_,rd f_ A_,rd a_ k_,rd d_ p_,rd b_ j_,rd g_ s_,rd m_ y_,rd l_ x_,own 3 ai az,rd v1 p1,own 4 a0 ar]) (λ_ a0=>[(0,vp b0 0),(8,a0)]) (λal _ _=>[(7,ai),(16,v1),(17,vi p1.length),(18,vi al)]) hb ?_ ?_ ?_;have j:=j.cQ Bool 4;exact⟨n_,j.sp 14 [2,6,7,8,9,10,11,12,13,1,4,0]⟩;rintro hm al ar s' _ w hk⟨au,O,rfl,j⟩hb;refine IN<|Tp<|q_ hb λak bg hb=>SV 10 j ze bg λbh j=>Ta 0 ak j Ae λbj j=>TG j MA.z λav w j=>?_;refine TB 0 j 1 zr Ae λw j=>?_;refine SU ?_;obtain⟨aw,bk,hb⟩:=bd hb;refine q_ hb λa1 bl hb=>Uc E V mixed [1,1,1,0,1,0,0,1,1,1,0,1,0,0,1,1] [5,12] (λ(x:Value×Value)=>(λad ae=>[(0,22,vp b0 0),(1,23,vp b0 0),(2,24,vp b0 0),(3,25,(.agg ([e_,f_,a_,d_]:List Value).toArray)),(4,26,vp av 0),(5,27,ad),(6,28,vi aw),(7,29,vp b0 0),(8,30,vp b0 0),(9,31,vp b0 0),(10,32,(.agg ([e_,f_,a_,d_]:List Value).toArray)),(11,33,vp av 2),(12,34,ae),(13,35,vi a1),(14,11,vi aw),(15,12,vi a1)]) x.1 x.2) [(0,vp b0 0),(7,ai),(8,au),(10,vp av 0),(16,v1),(17,vi p1.length),(18,vi al)] [] (λ(D:Nat->Bool)(x:Value×Value)=>(λad ae=>[bif D 0 then rd ad ak.A else bM,bif D 1 then rd ae ak.B else bM,bx 52 av ak,rd bj ak,pt bh ak,bc 72 b0 [e_,f_,a_,d_,h_,b_,g_,i_,r_,o_,m_,l_],rd e_ u_,rd f_ A_,rd a_ k_,rd d_ p_,rd b_ j_,rd g_ s_,rd m_ y_,rd l_ x_,own 3 ai az,rd v1 p1,own 4 au ar]) x.1 x.2) (λx=>by kernel_rfl) ?_ ⟨λ_=>jS gn,λ_=>xc gn,λ_=>nk gn qA,?_,λ_=>nk gn qC,?_,?_,λ_=>jS gn,λ_=>xc gn,λ_=>nk gn qA,?_,λ_=>nk gn rS,?_,?_,λ_=>Pb gn rfl,λ_=>Pb gn rfl,trivial⟩ ?_;have j:=((j.drew).bM).bM;exact⟨(undef,undef),eH.none,GV zr,zt,j⟩;rintro D U w hD af an⟨⟨ad,ae⟩,hv,ha,_,j⟩;obtain⟨O,rfl⟩:=hv.o1 2 af;exact US 5 [e_,f_,a_,d_] zr j zr zr nn zr zr<|S6 (ad,ae) 3 hv ha j;rintro D U w hD af an⟨⟨ad,ae⟩,hv,ha,_,j⟩;obtain⟨O,rfl⟩:=hv.o1 4 af;have j:=j.cE 0 hD;refine Ts 2 j zr kn oI λbm j=>?_;have j:=j.nw 0;exact S6 (bm,ae) 5 hv ha j;rintro D U w hD af an⟨⟨ad,ae⟩,hv,ha,_,j⟩;obtain⟨O,rfl⟩:=hv.o2 3 5 af;have j:=(j.eM 0<|af.2.1 rfl).w4 (cs:=[e_,f_,a_,d_]) (x:=(⟨u_,A_,k_,p_⟩:gQ)) (λM hs g=>⟨[e_],[f_,a_,d_],rfl,ji (g.sat 6 _ rfl).1,⟨[f_],[a_,d_],rfl,ji (g.sat 7 _ rfl).1,⟨[a_],[d_],rfl,ji (g.sat 8 _ rfl).1,ji (g.sat 9 _ rfl).1⟩⟩⟩) rfl;refine SZ G4 (jd N (i0:=0) (i1:=1) j zr zr bk) λw j=>?_;have j:=(j.pl 18 [1,2,3,4,5,6,7,8,9,10,11,12,13,14,15,16,17] rfl).dF 0 (D 5) (af.2.1 rfl) bM;exact S6 (ad,ae) 6 hv ha j;rintro D U w hD af an⟨⟨ad,ae⟩,hv,ha,_,j⟩;obtain⟨O,rfl⟩:=hv.o1 9 af;exact US 5 [e_,f_,a_,d_] zr j zr zr nn zr zr<|S6 (ad,ae) 10 hv ha j;rintro D U w hD af an⟨⟨ad,ae⟩,hv,ha,_,j⟩;obtain⟨O,rfl⟩:=hv.o1 11 af;have j:=j.cE 1 hD;refine Ts 2 j zr lG oI λbn j=>?_;have j:=j.nw 1;exact S6 (ad,bn) 12 hv ha j;rintro D U w hD af an⟨⟨ad,ae⟩,hv,ha,_,j⟩;obtain⟨O,rfl⟩:=hv.o2 10 12 af;have j:=(j.eM 1<|af.2.1 rfl).w4 (cs:=[e_,f_,a_,d_]) (x:=(⟨u_,A_,k_,p_⟩:gQ)) (λM hs g=>⟨[e_],[f_,a_,d_],rfl,ji (g.sat 6 _ rfl).1,⟨[f_],[a_,d_],rfl,ji (g.sat 7 _ rfl).1,⟨[a_],[d_],rfl,ji (g.sat 8 _ rfl).1,ji (g.sat 9 _ rfl).1⟩⟩⟩) rfl;refine SZ G4 (jd N (i0:=0) (i1:=2) j zr zr bl) λw j=>?_;have j:=(j.pl 18 [1,2,3,4,5,6,7,8,9,10,11,12,13,14,15,16,17] rfl).dF 1 (D 12) (af.2.1 rfl) bM;exact S6 (ad,ae) 13 hv ha j;rintro D U w ax⟨⟨ad,ae⟩,hv,ha,_,j⟩;have j:=(j.eM 0<|tV ax 5).eM 1<|tV ax 12;obtain⟨O,rfl⟩:=(ac (hv.at 14 rfl<|tV ax 14)<|ac (hv.at 15 rfl<|tV ax 15) ha).ui;refine aC<|q_ hb λa2 hj hb=>S8 (λ(a2:List Bool)U w=>∃ay:Value,SH E V [(0,vp b0 0),(7,ai),(8,ay),(16,v1),(17,vi p1.length),(18,vi al)] [bc 72 b0 [e_,f_,a_,d_,h_,b_,g_,i_,r_,o_,m_,l_],rd e_ u_,rd f_ A_,rd a_ k_,rd d_ p_,rd b_ j_,rd g_ s_,rd m_ y_,rd l_ x_,own 3 ai az,rd v1 p1,own 4 ay a2] U w) a2 ?_ ?_;refine TK mixed [1,0,0,0,0,0,0,0,0,0,0,0,0,0,0,0,0,2,2,0] [0,1,2,3,4,5,6,7,8,9,10,11,12,13,14,15,16,17,18,19] ?_;have j:=j.drew;refine Ti au zr (λw=>SS au zt Tf)<|S5 zr zr<|mv ai<|aR zr<|aX aw<|aR zr<|q_ hj λa3 a4 hj=>Tg 14 j zr zr dM a4<|aR zr<|TQ 14 j a4 cB<|aR zr<|ic a3 0<|aR zr<|fp (decide<|a3>=0)<|S7<|eD hj (λo hj=>?_) λo hj=>?_;refine S5 zr zr<|SS ai (cg o)<|aR zr<|SS (vi aw) (cg o)<|aR zr<|q_ hj λao a6 hj=>Tg (hg:=cg o) 14 j zr zr dM a6<|aR zr<|TQ (hg:=cg o) 14 j a6 cB<|aR zr<|SS ai (cg o)<|aR zr<|SS (vi a1) (cg o)<|aR zr ?_;refine q_ hj λaq a7 hj=>Tg (hg:=cg o) 14 j zr zr dM a7<|aR zr<|TQ (hg:=cg o) 14 j a7 cB<|aR zr<|TO ao aq (cg o)<|aR zr<|eB o (vb<|ao==aq)<|mP zr ?_;have j:=j.sc Bool<|ao==aq;refine TC ([ao==aq]:List Bool) j [vb<|ao==aq] th RD (λM hs g=>⟨(g.sat 0 _ zr).1,zt⟩) λbt w j=>H0 zr ?_;have j:=j.freeze 0;refine q_ hj λbu bp hj=>TH 18 0 j Is bp λa8 w j=>?_;exact pS zr<|dG a8<|S7<|Tl<|oi hj▸⟨rfl,a8,j.sp 19 [7,8,9,10,11,12,13,14,15,16,17,18]⟩;refine S5 zr zr<|aW o<|aR zr<|aW o<|aR zr<|aW o<|aR zr<|aW o<|aR zr<|aW o<|aR zr<|aW o<|aR zr<|aW o<|aR zr<|aW o<|aR zr<|aW o ?_;refine aR zr<|eB o (vb false)<|mP zr ?_;have j:=j.sc Bool false;refine TC ([false]:List Bool) j [vb false] th RD (λM hs g=>⟨(g.sat 0 _ zr).1,zt⟩) λbq w j=>H0 zr ?_;have j:=j.freeze 0;refine q_ hj λbr bo hj=>TH 18 0 j Is bo λa5 w j=>?_;exact pS zr<|dG a5<|S7<|Tl<|oi hj▸⟨rfl,a5,j.sp 19 [7,8,9,10,11,12,13,14,15,16,17,18]⟩;rintro _ w⟨ay,O,rfl,j⟩;exact bH<|aC<|IS<|TI hk hm<|aX ((al+1:Nat):Int)<|By<|oi hb▸⟨rfl,ay,j.sp 12 [0,1,2,3,4,5,6,7,8,9,10,11]⟩;rintro ar _ w hb⟨a9,O,rfl,j⟩;refine aC<|w_<|mv a9<|dG a9<|AI<|S4 ?_;obtain rfl:=oi hb;exact bT<|j.pk 12 [11,0]
theorem xB{p0:gQ}{p1:List Test}{p2:List dX}{res:List Bool×Int}(j:Holds E w V)(h0:V[i0]? =some (rd v0 p0))(h1:V[i1]? =some (rd v1 p1))(h2:V[i2]? =some (rd v2 p2))(o:gw N p0 p1 p2=some res):
    c_ 4 [v0,v1,v2] w<|yN E V res:=by
 unfold gw at o
 refine enter Tryz.func4 zr zr ?_
 have j:=((j.dup (i0+0) h0).dup (i1+1) h1).dup (i2+2) h2
 refine w_<|Tq 2 v0 j zr λaj w j=>?_
 refine dG n_<|aL 0<|OF<|Tz 0 j zr nn λak j=>mv v1 ?_
 obtain⟨aa,ag,o⟩:=bd o
 refine Td (gF Tryz.func10) (Eg N (i0:=0) (i1:=3) j zr zr ag) ?_
 rintro _ w hK49
 rcases ae:aa.1 with _|al
 ·replace o:=N8 ae o
  obtain⟨rfl,j⟩:=KZ ae hK49
  refine mv (.tuple #[(.pointer none),vi aa.2])<|TN (.pointer none)<|TN (vi aa.2)<|dG (.pointer none)<|aL aa.2<|SU<|w_<|aX aa.2<|ic aa.2 0 ?_
  refine AI<|cY o (λo=>?_) λo=>?_
  rotate_left
  ·cases o
  refine w_<|aX aa.2<|dG n_<|aL aa.2<|AI<|Tj ?_
  obtain rfl:=oi o
  have j:=j.cQ Bool 4
  exact lJ ⟨n_,zr,j.pk 6 [0]⟩
 replace o:=N9 ae o
 obtain⟨ab,an,ao,aq,ar,au,av,aw,ax,ay,az,a0,a1,rfl,j⟩:=K0 ae hK49
 refine mv (.tuple #[vp ab 0,vi aa.2])<|TN (vp ab 0)<|TN (vi aa.2)<|dG (vp ab 0)<|aL aa.2<|SU<|w_<|aX aa.2<|ic aa.2 0 ?_
 refine AI<|cY o (λo=>?_) λo=>?_
 ·refine w_<|aX aa.2<|dG n_<|aL aa.2<|AI<|Tj ?_
  obtain rfl:=oi o
  have j:=j.cQ Bool 4
  exact lJ ⟨n_,zr,j.pk 19 [0]⟩
 refine Tb<|w_<|mv (vp ab 0)<|mv v2 ?_
 have j:=((((((((((((j.freeze 5).freeze 8).freeze 11).freeze 12).dup 12 rfl).dup 12 rfl).dup 12 rfl).dup 12 rfl).dup 12 rfl).dup 12 rfl).dup 12 rfl).dup 12 rfl).dup 12 rfl
 have j:=(((j.dup 12 rfl).dup 12 rfl).dup 12 rfl).pull 12
 obtain⟨ad,ah,o⟩:=bd o
 refine SZ P6 (sf N (i1:=15) j zr ah) λw j=>aL ad<|OF<|aX ad<|ic ad 0<|AI<|cY o (λo=>?_) λo=>?_
 ·refine w_<|aX ad<|dG n_<|aL ad<|AI<|Tj ?_
  obtain rfl:=oi o
  have j:=j.cQ Bool 4
  exact lJ ⟨n_,zr,j.pk 20 [0]⟩
 refine TP<|mv (vp ab 0)<|mv v1<|mv v2 ?_
 have j:=((((((((j.dup 13 rfl).dup 13 rfl).dup 10 rfl).dup 10 rfl).dup 9 rfl).dup 9 rfl).dup 9 rfl).dup 9 rfl).pull 8
 obtain⟨a2,ai,o⟩:=bd o
 refine Td (gF Tryz.func12) (C8 N (i1:=17) (i2:=16) j zr zr ai) λaf w j=>dG af<|aL 0<|AI<|S4 ?_
 obtain rfl:=oi o
 exact lJ ⟨af,zr,j.pk 21 [0]⟩
theorem u7{res:Bool}(o:Holds E w V)(j:nT N p0 p1 p2=some res):c_ 154 [vi p0,vi p1,vi p2] w<|aV E V res:=by
 unfold nT at j;refine enter Tryz.func154 zr zr<|w_<|bW false<|OF<|aX p0<|aX p1<|ic p0 p1<|fp (decide<|p0>=p1)<|BY true (decide<|p0>=p1) (vi p0) zr zr zr cD ?_;refine BY true (decide<|p0>=p1) (vi p2) rfl rfl rfl cD<|BY true (decide<|p0>=p1) (vb<|decide<|p0<=p2) rfl rfl rfl (cZ .leq .i64 p0 p2 rfl (by exact z_ (vi p0)) (by exact z_ (vi p2)) rfl)<|Tw (b:=decide<|p0>=p1) (v:=vb<|decide (p0>=p1)&&decide (p0<=p2)) trivial rfl rfl (fA true)<|bW (decide (p0>=p1)&&decide (p0<=p2))<|AI<|S4 ?_;exact oi j▸bT ⟨rfl,o.drop 0⟩
theorem eW{res:Bool}(o:Holds E w V)(j:cU N p0=some res):c_ 133 [vi p0] w<|aV E V res:=by
 unfold cU at j;exact enter Tryz.func133 zr zr<|w_<|bW false<|OF<|aX p0<|q_ j λaa ab j=>SZ (gF Tryz.func154) (u7 N (p0:=p0) (p1:=(-1000000)) (p2:=1000000) o ab) λw o=>bW aa<|AI<|S4<|oi j▸bT ⟨rfl,o.drop 0⟩
end Go.Gk
