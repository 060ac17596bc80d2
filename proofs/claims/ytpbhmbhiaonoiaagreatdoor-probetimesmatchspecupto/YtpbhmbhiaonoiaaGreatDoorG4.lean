/-
  Printed texts: Go functions as plain functions, and that they are. No statement of the seed is proved here.
-/
import Derived.Test.YtpbhmbhiaonoiaaGreatDoorG1
import Derived.Test.YtpbhmbhiaonoiaaGreatDoorG2
import Derived.Test.YtpbhmbhiaonoiaaGreatDoorG3
import Derived.Test.YtpbhmbhiaonoiaaGreatDoorA2
set_option linter.unusedVariables false
set_option linter.unusedSimpArgs false
set_option linter.unusedSectionVars false
set_option maxRecDepth 100000
set_option maxHeartbeats 40000000
namespace Go.Gk
open Go IntKind Go.Proofs
variable (N:Nat){E w:World}{i0 i1 i2:Nat}{p0 p1 p2 p3 p4 res:Int}{v0 v1 v2:Value}{V:List HP}
def yN(E:World)(V:List HP)(r:Option (List (List aH)×List aH×List cJ×List dN×List (List aA)×List aL×List (List Int)×List dD×List Int×List Int×List Int×List gC)×Int)(U:Nat->Value)(w:World):Prop:=lK bI 63 Tryz.f24 (pS E V r) .ret U w
theorem CB{p0:gm}{p1:List Test}{res:Option (List (List aH)×List aH×List cJ×List dN×List (List aA)×List aL×List (List Int)×List dD×List Int×List Int×List Int×List gC)×Int}(j:Holds E w V)(h0:V[i0]? =some (rd v0 p0))(h1:V[i1]? =some (rd v1 p1))(o:lS N p0 p1=some res):
    c_ 24 [v0,v1] w<|pS E V res:=by
 unfold lS at o
 refine enter Tryz.func24 zr zr ?_
 have j:=(j.dup (i0+0) h0).dup (i1+1) h1
 refine w_<|R1 1 v0 j zr λak w j=>?_
 refine dV (.pointer none)<|aM 0<|IT<|R5 0 j zr nT λcd j=>?_
 obtain⟨af,bt,o⟩:=bd o
 refine RU Of (vR N (i0:=0) j zr bt) ?_
 rintro _ w hK49
 rcases a2:af.1 with _|ab
 ·replace o:=Mu a2 o
  obtain⟨rfl,j⟩:=Jl a2 hK49
  refine mv (.tuple #[(.pointer none),vi af.2])<|Sw (.pointer none)<|Sw (vi af.2)<|dV (.pointer none)<|aM af.2<|RD<|w_<|aY af.2<|ic af.2 0 ?_
  refine AI<|dP o (λo=>?_) λo=>?_
  ·refine w_<|aY af.2<|dV (.pointer none)<|aM af.2<|AI<|RZ ?_
   obtain rfl:=oi o
   exact ll ⟨rfl,j.drop 4⟩
  refine RW<|w_<|mv v1<|RK 2 p1 j AG<|ic ((p1.length:Int)) 2000<|AI<|dP o (λo=>?_) λo=>?_
  ·refine w_<|dV (.pointer none)<|aM 2<|AI<|RZ ?_
   obtain rfl:=oi o
   exact ll ⟨rfl,j.drop 4⟩
  refine RW<|w_<|mv v1<|RK 2 p1 j AG<|aY 0<|AI<|SM E V (λ(bh:Unit)=>[rd v1 p1,bx 27 ak p0]) (λ_=>[(6,(.pointer none))]) (λag _=>[(1,v1),(2,vp ak 0),(21,v1),(22,vi p1.length),(23,vi ag)]) (yN E V) o ?_ ?_ ?_ ?_
  ·exact j.sp 4 [2,1]
  ·rintro hm ag bh fl _ w hk⟨O,rfl,j⟩o
   refine IN<|R6<|aY (ag:Int) ?_
   obtain⟨bj,bw,o⟩:=bd o
   refine RG 0 j zK bw λcf j=>RQ 0 bj j Bp λch j=>Sj j Og.z λbk w j=>?_
   refine aM (ag:Int)<|Sa 0 j 1 zr Bp λw j=>?_
   refine AI<|Sv<|IN ?_
   obtain⟨a5,hj,o⟩:=bd o
   refine RS (λ(a5:Bool)=>SH E V [(1,v1),(2,vp ak 0),(6,(.pointer none)),(8,vi ag),(9,vp bk 0),(21,v1),(22,vi p1.length),(23,vi ag),(28,vb a5)] [rd v1 p1,bx 27 ak p0,bx 48 bk bj]) a5 ?_ ?_
   ·refine IS<|R5 4 j zr nT λcj j=>AT zr pd<|R2 1 j zr jC nz λck j=>?_
    obtain⟨bl,bz,hj⟩:=bd hj
    refine RI Ff (iF N (i0:=1) (i1:=0) j zr zr bz) λw j=>ic bl 0<|fN (decide<|bl<0)<|fp hj (λah hj=>?_) λah hj=>?_
    ·refine bK ah<|bK ah<|bK ah<|bK ah<|bK ah<|eY ah (vb true)<|bZ true<|By ?_
     obtain rfl:=oi hj
     exact⟨rfl,j.sp 7 [5,6,2]⟩
    refine R5 (hg:=cg ah) 6 j zr nT λcm j=>AT (hg:=cg ah) zr qw<|R2 (hg:=cg ah) 3 j zr kI nz λcn j=>?_
    obtain⟨a6,b0,hj⟩:=bd hj
    refine RI (hg:=cg ah) Ff (iF N (i0:=1) (i1:=0) j zr zr b0) λw j=>St a6 0 (cg ah)<|eY ah (vb<|decide<|a6<0)<|bZ (decide<|a6<0)<|By ?_
    obtain rfl:=oi hj
    exact⟨rfl,j.sp 9 [7,8,4]⟩
   rintro _ w⟨O,rfl,j⟩
   refine aF<|dP o (λo=>?_) λo=>?_
   ·refine w_<|dV (.pointer none)<|aM 9<|AI<|Sp<|iY<|bH ?_
    obtain rfl:=oi o
    exact⟨rfl,ll ⟨rfl,j.drop 3⟩⟩
   refine w_<|AT zr qw<|R2 2 j zr kI nz λcp j=>AT zr pd<|R2 3 j zr jC nz λcq j=>?_
   obtain⟨bm,b2,o⟩:=bd o
   refine RI Ie (gG N (i0:=1) (i1:=0) j zr zr b2) λw j=>ic bm 0<|bZ (decide<|bm<=0)<|AI<|dP o (λo=>?_) λo=>?_
   ·refine w_<|dV (.pointer none)<|aM 8<|AI<|Sp<|iY<|bH ?_
    obtain rfl:=oi o
    exact⟨rfl,ll ⟨rfl,j.drop 5⟩⟩
   refine IN ?_
   obtain⟨a7,hj,o⟩:=bd o
   refine RS (λ(a7:Bool)=>SH E V [(1,v1),(2,vp ak 0),(6,(.pointer none)),(21,v1),(22,vi p1.length),(23,vi ag),(48,vb a7)] [rd v1 p1,bx 27 ak p0]) a7 ?_ ?_
   ·refine Ss mixed [0,0,0,0,0,0,0,0,0,2,0,0,0] [0,1,2,3,4,5,6,7,8,9,10,11,12] ?_
    have j:=j.drew
    refine RR zr<|aY (ag:Int)<|bC zr<|ic ((ag:Int)) 0<|bC zr<|fN (decide<|(ag:Int)>0)<|RT<|fp hj (λad hj=>?_) λad hj=>?_
    rotate_left
    ·refine RR zr<|bK ad<|bC zr<|bK ad<|bC zr<|bK ad<|bC zr<|bK ad<|bC zr ?_
     refine bK ad<|bC zr<|bK ad<|pR zr<|bK ad<|ud zr<|bK ad<|bC zr<|eY ad (vb false) ?_
     refine bC zr<|bZ false<|RT<|Sd ?_
     obtain rfl:=oi hj
     exact⟨rfl,j.sp 5 [2,3]⟩
    refine RR zr<|R5 (hg:=cg ad) 4 j zr Bp λcr j=>bC zr<|RN v1 (cg ad)<|bC zr<|RN (vi ag) (cg ad)<|bC zr<|RF (hg:=cg ad) (ag:Int) 1<|bC zr ?_
    obtain⟨b3,b4,hj⟩:=bd hj
    refine RG (hg:=cg ad) 3 j zK b4 λct j=>bC zr<|RQ (hg:=cg ad) 0 b3 j Bp λcu j=>pR zr ?_
    obtain⟨a8,b5,hj⟩:=bd hj
    refine RI (hg:=cg ad) Oh (pF N (i0:=2) (i1:=0) j zr zr b5) λw j=>ud zr<|St a8 0 (cg ad)<|bC zr<|eY ad (vb<|decide<|a8<=0)<|bC zr<|bZ (decide<|a8<=0)<|RT<|Sd ?_
    obtain rfl:=oi hj
    exact⟨rfl,j.sp 8 [5,6]⟩
   rintro _ w⟨O,rfl,j⟩
   refine aF<|dP o (λo=>?_) λo=>?_
   rotate_left
   ·refine Se<|bQ<|bQ<|aF<|IS<|So hk hm<|aY ((ag+1:Nat):Int)<|By ?_
    obtain rfl:=oi o
    exact⟨rfl,j.sp 2 [0,1]⟩
   refine w_<|dV (.pointer none)<|aM 8<|AI<|Sp<|iY<|bH ?_
   obtain rfl:=oi o
   exact⟨rfl,ll ⟨rfl,j.drop 2⟩⟩
  ·intro r U w o hK
   refine bH ?_
   obtain rfl:=oi o
   exact hK
  rintro bh _ w o⟨O,rfl,j⟩
  refine aF<|w_<|mv (.pointer none)<|dV (.pointer none)<|aM 0<|AI<|RM ?_
  obtain rfl:=oi o
  exact ll ⟨rfl,j.drop 2⟩
 replace o:=Mv a2 o
 obtain⟨al,an,ao,aq,ar,au,av,aw,ax,ay,az,a0,a1,rfl,j⟩:=Jm a2 hK49
 refine mv (.tuple #[vp al 0,vi af.2])<|Sw (vp al 0)<|Sw (vi af.2)<|dV (vp al 0)<|aM af.2<|RD<|w_<|aY af.2<|ic af.2 0 ?_
 refine AI<|dP o (λo=>?_) λo=>?_
 ·refine w_<|aY af.2<|dV (.pointer none)<|aM af.2<|AI<|RZ ?_
  obtain rfl:=oi o
  exact ll ⟨rfl,j.drop 17⟩
 refine RW<|w_<|mv v1<|RK 15 p1 j AG<|ic ((p1.length:Int)) 2000<|AI<|dP o (λo=>?_) λo=>?_
 ·refine w_<|dV (.pointer none)<|aM 2<|AI<|RZ ?_
  obtain rfl:=oi o
  exact ll ⟨rfl,j.drop 17⟩
 refine RW<|w_<|mv v1<|RK 15 p1 j AG<|aY 0<|AI<|SM E V (λ(bn:Unit)=>[rd v1 p1,bx 27 ak p0,bc 93 al [an,ao,aq,ar,au,av,aw,ax,ay,az,a0,a1],rd an ab.1,rd ao ab.2.1,rd aq ab.2.2.1,rd ar ab.2.2.2.1,own 116 au ab.2.2.2.2.1,rd av ab.2.2.2.2.2.1,rd aw ab.2.2.2.2.2.2.1,own 135 ax ab.2.2.2.2.2.2.2.1,rd ay ab.2.2.2.2.2.2.2.2.1,rd az ab.2.2.2.2.2.2.2.2.2.1,own 3 a0 ab.2.2.2.2.2.2.2.2.2.2.1,own 96 a1 ab.2.2.2.2.2.2.2.2.2.2.2]) (λ_=>[(6,vp al 0)]) (λai _=>[(1,v1),(2,vp ak 0),(21,v1),(22,vi p1.length),(23,vi ai)]) (yN E V) o ?_ ?_ ?_ ?_
 ·exact j.sp 17 [15,14,0,1,2,3,4,5,6,7,8,9,10,11,12]
 ·rintro hm ai bn fl _ w hk⟨O,rfl,j⟩o
  refine IN<|R6<|aY (ai:Int) ?_
  obtain⟨bo,b6,o⟩:=bd o
  refine RG 0 j zK b6 λcv j=>RQ 0 bo j Bp λcw j=>Sj j Og.z λbp w j=>?_
  refine aM (ai:Int)<|Sa 0 j 1 zr Bp λw j=>?_
  refine AI<|Sv<|IN ?_
  obtain⟨ba,hj,o⟩:=bd o
  refine RS (λ(ba:Bool)=>SH E V [(1,v1),(2,vp ak 0),(6,vp al 0),(8,vi ai),(9,vp bp 0),(21,v1),(22,vi p1.length),(23,vi ai),(28,vb ba)] [rd v1 p1,bx 27 ak p0,bc 93 al [an,ao,aq,ar,au,av,aw,ax,ay,az,a0,a1],rd an ab.1,rd ao ab.2.1,rd aq ab.2.2.1,rd ar ab.2.2.2.1,own 116 au ab.2.2.2.2.1,rd av ab.2.2.2.2.2.1,rd aw ab.2.2.2.2.2.2.1,own 135 ax ab.2.2.2.2.2.2.2.1,rd ay ab.2.2.2.2.2.2.2.2.1,rd az ab.2.2.2.2.2.2.2.2.2.1,own 3 a0 ab.2.2.2.2.2.2.2.2.2.2.1,own 96 a1 ab.2.2.2.2.2.2.2.2.2.2.2,bx 48 bp bo]) ba ?_ ?_
  ·refine IS<|R5 4 j zr nT λcx j=>AT zr pd<|R2 1 j zr jC nz λcy j=>?_
   obtain⟨bq,b7,hj⟩:=bd hj
   refine RI Ff (iF N (i0:=1) (i1:=0) j zr zr b7) λw j=>ic bq 0<|fN (decide<|bq<0)<|fp hj (λaj hj=>?_) λaj hj=>?_
   ·refine bK aj<|bK aj<|bK aj<|bK aj<|bK aj<|eY aj (vb true)<|bZ true<|By ?_
    obtain rfl:=oi hj
    exact⟨rfl,j.sp 20 [5,6,7,8,9,10,11,12,13,14,15,16,17,18,19,2]⟩
   refine R5 (hg:=cg aj) 6 j zr nT λcz j=>AT (hg:=cg aj) zr qw<|R2 (hg:=cg aj) 3 j zr kI nz λc0 j=>?_
   obtain⟨bb,b8,hj⟩:=bd hj
   refine RI (hg:=cg aj) Ff (iF N (i0:=1) (i1:=0) j zr zr b8) λw j=>St bb 0 (cg aj)<|eY aj (vb<|decide<|bb<0)<|bZ (decide<|bb<0)<|By ?_
   obtain rfl:=oi hj
   exact⟨rfl,j.sp 22 [7,8,9,10,11,12,13,14,15,16,17,18,19,20,21,4]⟩
  rintro _ w⟨O,rfl,j⟩
  refine aF<|dP o (λo=>?_) λo=>?_
  ·refine w_<|dV (.pointer none)<|aM 9<|AI<|Sp<|iY<|bH ?_
   obtain rfl:=oi o
   exact⟨rfl,ll ⟨rfl,j.drop 16⟩⟩
  refine w_<|AT zr qw<|R2 15 j zr kI nz λc1 j=>AT zr pd<|R2 16 j zr jC nz λc2 j=>?_
  obtain⟨br,b9,o⟩:=bd o
  refine RI Ie (gG N (i0:=1) (i1:=0) j zr zr b9) λw j=>ic br 0<|bZ (decide<|br<=0)<|AI<|dP o (λo=>?_) λo=>?_
  ·refine w_<|dV (.pointer none)<|aM 8<|AI<|Sp<|iY<|bH ?_
   obtain rfl:=oi o
   exact⟨rfl,ll ⟨rfl,j.drop 18⟩⟩
  refine IN ?_
  obtain⟨bf,hj,o⟩:=bd o
  refine RS (λ(bf:Bool)=>SH E V [(1,v1),(2,vp ak 0),(6,vp al 0),(21,v1),(22,vi p1.length),(23,vi ai),(48,vb bf)] [rd v1 p1,bx 27 ak p0,bc 93 al [an,ao,aq,ar,au,av,aw,ax,ay,az,a0,a1],rd an ab.1,rd ao ab.2.1,rd aq ab.2.2.1,rd ar ab.2.2.2.1,own 116 au ab.2.2.2.2.1,rd av ab.2.2.2.2.2.1,rd aw ab.2.2.2.2.2.2.1,own 135 ax ab.2.2.2.2.2.2.2.1,rd ay ab.2.2.2.2.2.2.2.2.1,rd az ab.2.2.2.2.2.2.2.2.2.1,own 3 a0 ab.2.2.2.2.2.2.2.2.2.2.1,own 96 a1 ab.2.2.2.2.2.2.2.2.2.2.2]) bf ?_ ?_
  ·refine Ss mixed [0,0,0,0,0,0,0,0,0,2,0,0,0] [0,1,2,3,4,5,6,7,8,9,10,11,12] ?_
   have j:=j.drew
   refine RR zr<|aY (ai:Int)<|bC zr<|ic ((ai:Int)) 0<|bC zr<|fN (decide<|(ai:Int)>0)<|RT<|fp hj (λae hj=>?_) λae hj=>?_
   rotate_left
   ·refine RR zr<|bK ae<|bC zr<|bK ae<|bC zr<|bK ae<|bC zr<|bK ae<|bC zr ?_
    refine bK ae<|bC zr<|bK ae<|pR zr<|bK ae<|ud zr<|bK ae<|bC zr<|eY ae (vb false) ?_
    refine bC zr<|bZ false<|RT<|Sd ?_
    obtain rfl:=oi hj
    exact⟨rfl,j.sp 18 [2,3,4,5,6,7,8,9,10,11,12,13,14,15,16]⟩
   refine RR zr<|R5 (hg:=cg ae) 17 j zr Bp λc3 j=>bC zr<|RN v1 (cg ae)<|bC zr<|RN (vi ai) (cg ae)<|bC zr<|RF (hg:=cg ae) (ai:Int) 1<|bC zr ?_
   obtain⟨ca,cb,hj⟩:=bd hj
   refine RG (hg:=cg ae) 3 j zK cb λc4 j=>bC zr<|RQ (hg:=cg ae) 0 ca j Bp λc5 j=>pR zr ?_
   obtain⟨bg,cc,hj⟩:=bd hj
   refine RI (hg:=cg ae) Oh (pF N (i0:=2) (i1:=0) j zr zr cc) λw j=>ud zr<|St bg 0 (cg ae)<|bC zr<|eY ae (vb<|decide<|bg<=0)<|bC zr<|bZ (decide<|bg<=0)<|RT<|Sd ?_
   obtain rfl:=oi hj
   exact⟨rfl,j.sp 21 [5,6,7,8,9,10,11,12,13,14,15,16,17,18,19]⟩
  rintro _ w⟨O,rfl,j⟩
  refine aF<|dP o (λo=>?_) λo=>?_
  rotate_left
  ·refine Se<|bQ<|bQ<|aF<|IS<|So hk hm<|aY ((ai+1:Nat):Int)<|By ?_
   obtain rfl:=oi o
   exact⟨rfl,j.sp 15 [0,1,2,3,4,5,6,7,8,9,10,11,12,13,14]⟩
  refine w_<|dV (.pointer none)<|aM 8<|AI<|Sp<|iY<|bH ?_
  obtain rfl:=oi o
  exact⟨rfl,ll ⟨rfl,j.drop 15⟩⟩
 ·intro r U w o hK
  refine bH ?_
  obtain rfl:=oi o
  exact hK
 rintro bn _ w o⟨O,rfl,j⟩
 refine aF<|w_<|mv (vp al 0)<|dV (vp al 0)<|aM 0<|AI<|RM ?_
 obtain rfl:=oi o
 exact ll ⟨al,an,ao,aq,ar,au,av,aw,ax,ay,az,a0,a1,zr,j.pk 15 [2,3,4,5,6,7,8,9,10,11,12,13,14]⟩
theorem xc{p0:gm}{p1:List Test}(j:Holds E w V)(h0:V[i0]? =some (rd v0 p0))(h1:V[i1]? =some (rd v1 p1))(hb:iu N p0 p1=some res):
    c_ 16 [v0,v1] w<|aN E V res:=by
 unfold iu at hb
 refine enter Tryz.func16 zr zr ?_
 have j:=(j.dup (i0+0) h0).dup (i1+1) h1
 refine w_<|R1 1 v0 j zr λaf w j=>?_
 refine aM 0<|IT<|R5 0 j zr nT λag j=>mv v1 ?_
 obtain⟨o,ae,hb⟩:=bd hb
 refine RU (gL Tryz.func24) (CB N (i0:=0) (i1:=2) j zr zr ae) ?_
 rintro _ w hK49
 rcases ab:o.1 with _|ah
 ·replace hb:=Mu ab hb
  obtain⟨rfl,j⟩:=Jl ab hK49
  refine mv (.tuple #[(.pointer none),vi o.2])<|Sw (.pointer none)<|Sw (vi o.2)<|dV (.pointer none)<|aM o.2<|IT<|aY o.2<|aM o.2<|AI ?_
  refine RM ?_
  obtain rfl:=oi hb
  exact bS ⟨rfl,j.drop 4⟩
 replace hb:=Mv ab hb
 obtain⟨ad,ai,aj,ak,al,an,ao,aq,ar,au,av,aw,ax,rfl,j⟩:=Jm ab hK49
 refine mv (.tuple #[vp ad 0,vi o.2])<|Sw (vp ad 0)<|Sw (vi o.2)<|dV (vp ad 0)<|aM o.2<|IT<|aY o.2<|aM o.2<|AI ?_
 refine RM ?_
 obtain rfl:=oi hb
 exact bS ⟨rfl,j.drop 17⟩
theorem l8{res:Bool}(o:Holds E w V)(j:jk N p0 p1 p2=some res):c_ 8 [vi p0,vi p1,vi p2] w<|aX E V res:=by
 unfold jk at j;refine enter Tryz.func8 zr zr<|w_<|bZ false<|IT<|aY p0<|aY p1<|ic p0 p1<|fN (decide<|p0>=p1)<|BY true (decide<|p0>=p1) (vi p0) zr zr zr cF ?_;refine BY true (decide<|p0>=p1) (vi p2) rfl rfl rfl cF<|BY true (decide<|p0>=p1) (vb<|decide<|p0<=p2) rfl rfl rfl (dB .leq .i64 p0 p2 rfl (by exact z_ (vi p0)) (by exact z_ (vi p2)) rfl)<|Sb (decide<|p0>=p1) (vb<|decide (p0>=p1)&&decide (p0<=p2)) (fE true)<|bZ (decide (p0>=p1)&&decide (p0<=p2))<|AI<|RM ?_;exact oi j▸bS ⟨rfl,o.drop 0⟩
theorem xd{p0:gm}{p1:List Test}(j:Holds E w V)(h0:V[i0]? =some (rd v0 p0))(h1:V[i1]? =some (rd v1 p1))(o:ly N p0 p1 p2 p3=some res):c_ 7 [v0,v1,vi p2,vi p3] w<|aN E V res:=by
 unfold ly at o;refine enter Tryz.func7 zr zr ?_;have j:=(j.dup (i0+0) h0).dup (i1+1) h1;refine w_<|R1 1 v0 j zr λak w j=>?_;refine aM 0<|RD<|w_<|R5 0 j zr nT λal j=>mv v1<|q_ o λad ah o=>RI (gL Tryz.func16) (xc N (i0:=0) (i1:=2) j zr zr ah) λw j=>aM ad<|IT<|aY ad<|ic ad 0<|AI<|dP o (λo=>?_) λo=>?_;exact w_<|aY ad<|aM ad<|AI<|RZ<|oi o▸bS ⟨rfl,j.drop 4⟩;refine RW<|IN<|q_ o λae hj o=>RS (λ(ae:Bool)=>SH E V [(23,vb ae)] []) ae ?_ ?_;refine IS<|aY p2<|q_ hj λaf ai hj=>RI Oi (l8 N (p0:=p2) (p1:=1) (p2:=1000000) j ai) λw j=>Sk af<|fN (!af)<|fp hj (λab hj=>?_) λab hj=>?_;exact bK ab<|bK ab<|bK ab<|eY ab (vb true)<|By<|oi hj▸⟨rfl,j.sp 4 []⟩;exact RN (vi p3) (cg ab)<|q_ hj λag aj hj=>RI (hg:=cg ab) Oi (l8 N (p0:=p3) (p1:=0) (p2:=1000) j aj) λw j=>Sk (hg:=cg ab) ag<|eY ab (vb<|!ag)<|By<|oi hj▸⟨rfl,j.sp 4 []⟩;rintro _ w⟨O,rfl,j⟩;refine aF<|dP o (λo=>?_) λo=>?_;exact w_<|aM 1<|AI<|RZ<|oi o▸bS ⟨rfl,j.drop 0⟩;exact Sz<|aM 0<|AI<|RM<|oi o▸bS ⟨rfl,j.drop 0⟩
def D4(E:World)(V:List HP)(res:cE)(v:Value)(w:World):Prop:=Holds E w<|[rd v res]++V
theorem CC{p0:gm}{p1:Test}{p2:Bool}{res:cE}(j:Holds E w V)(h0:V[i0]? =some (rd v0 p0))(h1:V[i1]? =some (rd v1 p1))(hb:rH N p0 p1 p2=some res):
    c_ 9 [v0,v1,vb p2] w<|D4 E V res:=by
 unfold rH at hb
 refine enter Tryz.func9 zr zr ?_
 have j:=(j.dup (i0+0) h0).dup (i1+1) h1
 refine w_<|R1 1 v0 j zr λa4 w j=>?_
 refine R1 1 v1 j zr λa5 w j=>?_
 refine Sj j Qj.z λa6 w j=>?_
 refine RD ?_
 obtain⟨a9,ba,hb⟩:=bd hb
 obtain⟨a0,bb,hb⟩:=bd hb
 obtain⟨bc,bf,hb⟩:=bd hb
 obtain⟨a1,bg,hb⟩:=bd hb
 refine SU E V mixed [1,0,0,1,0,0,0,0,0,1,0,0,1,0,0,0,0,0,0,0,0,0] [1,2,4,6,7,8,10,11,13,15,16,17,18,19,20,21] (λ(x:Value×Value×Value×Value×Value×Value×Value×Value×Value×Value×Value×Value×Nat×Nat)=>(λae af ag ah ai aj ak al an ao aq ar ab ad=>[(0,9,vp a4 3),(1,10,ae),(2,11,af),(3,12,vp a5 0),(4,13,ag),(5,14,vi a9),(6,15,ah),(7,16,ai),(8,17,aj),(9,18,vp a4 3),(10,19,ak),(11,20,al),(12,21,vp a5 2),(13,22,an),(14,23,vi bc),(15,24,ao),(16,25,aq),(17,26,ar),(18,7,vp ab 0),(19,8,vp ad 0)]) x.1 x.2.1 x.2.2.1 x.2.2.2.1 x.2.2.2.2.1 x.2.2.2.2.2.1 x.2.2.2.2.2.2.1 x.2.2.2.2.2.2.2.1 x.2.2.2.2.2.2.2.2.1 x.2.2.2.2.2.2.2.2.2.1 x.2.2.2.2.2.2.2.2.2.2.1 x.2.2.2.2.2.2.2.2.2.2.2.1 x.2.2.2.2.2.2.2.2.2.2.2.2.1 x.2.2.2.2.2.2.2.2.2.2.2.2.2) [(2,vb p2),(3,vp a4 0),(4,vp a5 0),(6,vp a6 0)] [] (λ(D:Nat->Bool)(x:Value×Value×Value×Value×Value×Value×Value×Value×Value×Value×Value×Value×Nat×Nat)=>(λae af ag ah ai aj ak al an ao aq ar ab ad=>[bif D 0 then rd ae p0.bJ else aS,bif D 1 then rd af p0 else aS,bif D 2 then rd ag p1.A else aS,bif D 3 then pt ah a0 else aS,bif D 4 then pt ai a0.At else aS,bif D 5 then rd aj a0.At else aS,bif D 6 then rd ak p0.bJ else aS,bif D 7 then rd al p0 else aS,bif D 8 then rd an p1.B else aS,bif D 9 then pt ao a1 else aS,bif D 10 then pt aq a1.At else aS,bif D 11 then rd ar a1.At else aS,bif D 14 then bx 41 ab a0.At else(bif D 12 then raw 41 ab 2 else aS),bif D 15 then bx 41 ad a1.At else(bif D 13 then raw 41 ad 2 else aS),raw 43 a6 4,bx 48 a5 p1,bx 27 a4 p0,rd v1 p1,rd v0 p0]) x.1 x.2.1 x.2.2.1 x.2.2.2.1 x.2.2.2.2.1 x.2.2.2.2.2.1 x.2.2.2.2.2.2.1 x.2.2.2.2.2.2.2.1 x.2.2.2.2.2.2.2.2.1 x.2.2.2.2.2.2.2.2.2.1 x.2.2.2.2.2.2.2.2.2.2.1 x.2.2.2.2.2.2.2.2.2.2.2.1 x.2.2.2.2.2.2.2.2.2.2.2.2.1 x.2.2.2.2.2.2.2.2.2.2.2.2.2) (λx=>by kernel_rfl) ?_ ⟨λ_=>mz gn mW,?_,?_,λ_=>mz gn pd,?_,?_,?_,?_,?_,λ_=>mz gn mW,?_,?_,λ_=>mz gn qw,?_,?_,?_,?_,?_,?_,?_,?_,?_,trivial⟩ ?_
 ·have j:=((((((((((((j.drew).aS).aS).aS).aS).aS).aS).aS).aS).aS).aS).aS).aS
  have j:=(j.aS).aS
  exact⟨(undef,undef,undef,undef,undef,undef,undef,undef,undef,undef,undef,undef,0,0),dX.none,Ex zr,zt,j⟩
 ·rintro D U w hD aa aw⟨⟨ae,af,ag,ah,ai,aj,ak,al,an,ao,aq,ar,ab,ad⟩,o,ha,_,j⟩
  dsimp only at o j
  obtain⟨O,rfl⟩:=o.o1 0 aa
  have j:=j.bU 0 hD
  refine R2 16 j zr jS vz λbh j=>?_
  have j:=j.nw 0
  exact RH (bh,af,ag,ah,ai,aj,ak,al,an,ao,aq,ar,ab,ad) 1 o ha j
 ·rintro D U w hD aa aw⟨⟨ae,af,ag,ah,ai,aj,ak,al,an,ao,aq,ar,ab,ad⟩,o,ha,_,j⟩
  dsimp only at o j
  obtain⟨O,rfl⟩:=ha.px
  have j:=j.bU 1 hD
  refine R5 16 j zr nT λbj j=>?_
  have j:=j.nw 1
  exact RH (ae,bj,ag,ah,ai,aj,ak,al,an,ao,aq,ar,ab,ad) 2 o ha j
 ·rintro D U w hD aa aw⟨⟨ae,af,ag,ah,ai,aj,ak,al,an,ao,aq,ar,ab,ad⟩,o,ha,_,j⟩
  dsimp only at o j
  obtain⟨O,rfl⟩:=o.o1 3 aa
  have j:=j.bU 2 hD
  refine R2 15 j zr jC nz λbk j=>?_
  have j:=j.nw 2
  exact RH (ae,af,bk,ah,ai,aj,ak,al,an,ao,aq,ar,ab,ad) 4 o ha j
 ·rintro D U w hD aa aw⟨⟨ae,af,ag,ah,ai,aj,ak,al,an,ao,aq,ar,ab,ad⟩,o,ha,_,j⟩
  dsimp only at o j
  obtain⟨O,rfl⟩:=o.o2 2 4 aa
  have j:=(j.cV 1<|aa.1 rfl).cV 2<|aa.2.1 rfl
  refine RI Ff (iF N (i0:=1) (i1:=2) j zr zr ba) λw j=>?_
  have j:=(j.cG 1 (D 2) (aa.1 rfl) aS).cG 2 (D 4) (aa.2.1 rfl) aS
  exact RH (ae,af,ag,ah,ai,aj,ak,al,an,ao,aq,ar,ab,ad) 5 o ha j
 ·rintro D U w hD aa aw⟨⟨ae,af,ag,ah,ai,aj,ak,al,an,ao,aq,ar,ab,ad⟩,o,ha,_,j⟩
  dsimp only at o j
  obtain⟨O,rfl⟩:=o.o2 1 5 aa
  have j:=(j.cV 0<|aa.1 rfl).bU 3 hD
  refine RG 0 j yA bb λbl j=>?_
  have j:=((j.pl 20 [1,2,3,0,5,6,7,8,9,10,11,12,13,14,15,16,17,18,19]).cG 0 (D 1) (aa.1 rfl) aS).cG 3 true rfl aS
  exact RH (ae,af,ag,bl,ai,aj,ak,al,an,ao,aq,ar,ab,ad) 6 o ha j
 ·rintro D U w hD aa aw⟨⟨ae,af,ag,ah,ai,aj,ak,al,an,ao,aq,ar,ab,ad⟩,o,ha,_,j⟩
  dsimp only at o j
  obtain⟨O,rfl⟩:=o.o1 6 aa
  have j:=(j.cV 3<|aa.1 rfl).bU 4 hD
  refine R4 3 j zr vB oG λbm j=>?_
  have j:=((j.pl 20 [1,2,3,4,0,6,7,8,9,10,11,12,13,14,15,16,17,18,19]).cG 3 (D 6) (aa.1 rfl) aS).cG 4 true rfl aS
  exact RH (ae,af,ag,ah,bm,aj,ak,al,an,ao,aq,ar,ab,ad) 7 o ha j
 ·rintro D U w hD aa aw⟨⟨ae,af,ag,ah,ai,aj,ak,al,an,ao,aq,ar,ab,ad⟩,o,ha,_,j⟩
  dsimp only at o j
  obtain⟨O,rfl⟩:=o.o1 7 aa
  have j:=(j.cV 4<|aa.1 rfl).bU 5 hD
  refine RQ 4 a0.At j lM λbn j=>?_
  have j:=((j.pl 20 [1,2,3,4,5,0,7,8,9,10,11,12,13,14,15,16,17,18,19]).cG 4 (D 7) (aa.1 rfl) aS).cG 5 true rfl aS
  exact RH (ae,af,ag,ah,ai,bn,ak,al,an,ao,aq,ar,ab,ad) 8 o ha j
 ·rintro D U w hD aa aw⟨⟨ae,af,ag,ah,ai,aj,ak,al,an,ao,aq,ar,ab,ad⟩,o,ha,_,j⟩
  dsimp only at o j
  obtain⟨O,rfl⟩:=o.o1 9 aa
  have j:=j.bU 6 hD
  refine R2 16 j zr jS vz λbo j=>?_
  have j:=j.nw 6
  exact RH (ae,af,ag,ah,ai,aj,bo,al,an,ao,aq,ar,ab,ad) 10 o ha j
 ·rintro D U w hD aa aw⟨⟨ae,af,ag,ah,ai,aj,ak,al,an,ao,aq,ar,ab,ad⟩,o,ha,_,j⟩
  dsimp only at o j
  obtain⟨O,rfl⟩:=ha.px
  have j:=j.bU 7 hD
  refine R5 16 j zr nT λbp j=>?_
  have j:=j.nw 7
  exact RH (ae,af,ag,ah,ai,aj,ak,bp,an,ao,aq,ar,ab,ad) 11 o ha j
 ·rintro D U w hD aa aw⟨⟨ae,af,ag,ah,ai,aj,ak,al,an,ao,aq,ar,ab,ad⟩,o,ha,_,j⟩
  dsimp only at o j
  obtain⟨O,rfl⟩:=o.o1 12 aa
  have j:=j.bU 8 hD
  refine R2 15 j zr kI nz λbq j=>?_
  have j:=j.nw 8
  exact RH (ae,af,ag,ah,ai,aj,ak,al,bq,ao,aq,ar,ab,ad) 13 o ha j
 ·rintro D U w hD aa aw⟨⟨ae,af,ag,ah,ai,aj,ak,al,an,ao,aq,ar,ab,ad⟩,o,ha,_,j⟩
  dsimp only at o j
  obtain⟨O,rfl⟩:=o.o2 11 13 aa
  have j:=(j.cV 7<|aa.1 rfl).cV 8<|aa.2.1 rfl
  refine RI Ff (iF N (i0:=7) (i1:=8) j zr zr bf) λw j=>?_
  have j:=(j.cG 7 (D 11) (aa.1 rfl) aS).cG 8 (D 13) (aa.2.1 rfl) aS
  exact RH (ae,af,ag,ah,ai,aj,ak,al,an,ao,aq,ar,ab,ad) 14 o ha j
 ·rintro D U w hD aa aw⟨⟨ae,af,ag,ah,ai,aj,ak,al,an,ao,aq,ar,ab,ad⟩,o,ha,_,j⟩
  dsimp only at o j
  obtain⟨O,rfl⟩:=o.o2 10 14 aa
  have j:=(j.cV 6<|aa.1 rfl).bU 9 hD
  refine RG 6 j yA bg λbr j=>?_
  have j:=((j.pl 20 [1,2,3,4,5,6,7,8,9,0,11,12,13,14,15,16,17,18,19]).cG 6 (D 10) (aa.1 rfl) aS).cG 9 true rfl aS
  exact RH (ae,af,ag,ah,ai,aj,ak,al,an,br,aq,ar,ab,ad) 15 o ha j
 ·rintro D U w hD aa aw⟨⟨ae,af,ag,ah,ai,aj,ak,al,an,ao,aq,ar,ab,ad⟩,o,ha,_,j⟩
  dsimp only at o j
  obtain⟨O,rfl⟩:=o.o1 15 aa
  have j:=(j.cV 9<|aa.1 rfl).bU 10 hD
  refine R4 9 j zr vB oG λbs j=>?_
  have j:=((j.pl 20 [1,2,3,4,5,6,7,8,9,10,0,12,13,14,15,16,17,18,19]).cG 9 (D 15) (aa.1 rfl) aS).cG 10 true rfl aS
  exact RH (ae,af,ag,ah,ai,aj,ak,al,an,ao,bs,ar,ab,ad) 16 o ha j
 ·rintro D U w hD aa aw⟨⟨ae,af,ag,ah,ai,aj,ak,al,an,ao,aq,ar,ab,ad⟩,o,ha,_,j⟩
  dsimp only at o j
  obtain⟨O,rfl⟩:=o.o1 16 aa
  have j:=(j.cV 10<|aa.1 rfl).bU 11 hD
  refine RQ 10 a1.At j lM λbt j=>?_
  have j:=((j.pl 20 [1,2,3,4,5,6,7,8,9,10,11,0,13,14,15,16,17,18,19]).cG 10 (D 16) (aa.1 rfl) aS).cG 11 true rfl aS
  exact RH (ae,af,ag,ah,ai,aj,ak,al,an,ao,aq,bt,ab,ad) 17 o ha j
 ·rintro D U w hD aa aw⟨⟨ae,af,ag,ah,ai,aj,ak,al,an,ao,aq,ar,ab,ad⟩,o,ha,_,j⟩
  dsimp only at o j
  obtain⟨O,rfl⟩:=(az U).px
  have j:=(j.bU 12<|nh aw hD 20).bU 12 hD
  refine Sj j GF.z λa7 w j=>?_
  have j:=(j.nw 12).gh 12 (D 20) (nh aw hD 20)<|bx 41 a7 a0.At
  exact RH (ae,af,ag,ah,ai,aj,ak,al,an,ao,aq,ar,a7,ad) 18 o ha j
 ·rintro D U w hD aa aw⟨⟨ae,af,ag,ah,ai,aj,ak,al,an,ao,aq,ar,ab,ad⟩,o,ha,_,j⟩
  dsimp only at o j
  obtain⟨O,rfl⟩:=(az U).px
  have j:=(j.bU 13<|nh aw hD 21).bU 13 hD
  refine Sj j GF.z λa8 w j=>?_
  have j:=(j.nw 13).gh 13 (D 21) (nh aw hD 21)<|bx 41 a8 a1.At
  exact RH (ae,af,ag,ah,ai,aj,ak,al,an,ao,aq,ar,ab,a8) 19 o ha j
 ·rintro D U w hD aa aw⟨⟨ae,af,ag,ah,ai,aj,ak,al,an,ao,aq,ar,ab,ad⟩,o,ha,_,j⟩
  dsimp only at o j
  obtain⟨O,rfl⟩:=o.o2 18 8 aa
  have j:=((j.cV 5<|aa.2.1 rfl).bU 12 hD).cV 12<|aa.1 rfl
  refine Sa 12 j 5 zr lM λw j=>?_
  have j:=(j.cG 5 (D 8) (aa.2.1 rfl) aS).cG 12 true rfl (bif D 18 then raw 41 ab 2 else aS)
  exact SL (ae,af,ag,ah,ai,aj,ak,al,an,ao,aq,ar,ab,ad) o ha j
 ·rintro D U w hD aa aw⟨⟨ae,af,ag,ah,ai,aj,ak,al,an,ao,aq,ar,ab,ad⟩,o,ha,_,j⟩
  dsimp only at o j
  obtain⟨O,rfl⟩:=o.o2 19 17 aa
  have j:=((j.cV 11<|aa.2.1 rfl).bU 13 hD).cV 13<|aa.1 rfl
  refine Sa 13 j 11 zr lM λw j=>?_
  have j:=(j.cG 11 (D 17) (aa.2.1 rfl) aS).cG 13 true rfl (bif D 19 then raw 41 ad 2 else aS)
  exact SL (ae,af,ag,ah,ai,aj,ak,al,an,ao,aq,ar,ab,ad) o ha j
 rintro D U w ax⟨⟨ae,af,ag,ah,ai,aj,ak,al,an,ao,aq,ar,ab,ad⟩,o,ha,_,j⟩
 simp only[List.getD_cons_zero,List.getD_cons_succ,ax 1 (by decide),ax 2 (by decide),ax 4 (by decide),ax 6 (by decide),ax 7 (by decide),ax 8 (by decide),ax 10 (by decide),ax 11 (by decide),ax 13 (by decide),ax 15 (by decide),ax 16 (by decide),ax 17 (by decide),ax 20 (by decide),ax 21 (by decide),aO]at j
 obtain⟨O,rfl⟩:=(ac (o.at 18 rfl<|t9 ax 18)<|ac (o.at 19 rfl<|t9 ax 19) ha).px
 refine aF<|IN<|w_<|fN p2<|AI ?_
 obtain⟨a2,hj,hb⟩:=bd hb
 refine RS (λ(a2:cK×cK)=>SH E V [(6,vp a6 0),(7,vp ab 0),(8,vp ad 0)] [raw 43 a6 4,bx 41 ab a2.1,bx 41 ad a2.2]) a2 ?_ ?_
 ·refine dP hj (λhj=>?_) λhj=>?_
  rotate_left
  ·refine Se ?_
   obtain rfl:=oi hj
   exact⟨rfl,j.sp 19 [14,12,13]⟩
  refine IS<|R5 13 j zr lM λbz j=>R5 13 j zr lM λb0 j=>Te 14 j 1 zr lM λw j=>?_
  refine Te 15 j 0 zr lM λw j=>?_
  refine By ?_
  obtain rfl:=oi hj
  exact⟨rfl,j.sp 21 [16,14,15]⟩
 rintro _ w⟨O,rfl,j⟩
 refine aF<|w_<|R5 1 j rfl lM λbu j=>R5 3 j rfl lM λbw j=>Uq (y:=(⟨a2.1,a2.2⟩:cE)) trivial rfl j [(0,bu),(1,bw)] rfl Oj rfl (λM hs g=>by have h:=Cu M;exact cO.cons (f:=λ(x:cE)y=>{x with e0:=y}) h zD (g.sat 1 _ rfl).1 λ_ h=>cO.cons (f:=λ(x:cE)y=>{x with e1:=y}) h zG (g.sat 0 _ rfl).1 λ_ h=>cO.nil h) λb2 j=>?_
 refine Sa 3 j 0 zr Fi λw j=>?_
 refine AI<|RM ?_
 obtain rfl:=oi hb
 exact I9 3 zr j zr zr Fi λb3 j=>j.pk 7 [0]
theorem vS(o:Holds E w V)(j:oD N p0 p1=some res):c_ 18 [vi p0,vi p1] w<|aN E V res:=by
 unfold oD at j;refine enter Tryz.func18 zr zr<|w_<|aM 0<|IT<|aY p0<|aY p1<|RF p0 p1<|aY p1<|aY p0<|RF p1 p0<|S9 (wrap .i64<|p0 - p1) (wrap .i64<|p1 - p0)<|aM (if wrap .i64 (p0 - p1)<(wrap .i64<|p1 - p0)then wrap .i64 (p1 - p0)else wrap .i64 (p0 - p1))<|AI<|RM ?_;exact oi j▸bS ⟨rfl,o.drop 0⟩
theorem CD{p0 p1:cE}(j:Holds E w V)(h0:V[i0]? =some (rd v0 p0))(h1:V[i1]? =some (rd v1 p1))(hb:rI N p0 p1 p2=some res):c_ 10 [v0,v1,vi p2] w<|aN E V res:=by
 unfold rI at hb;refine enter Tryz.func10 zr zr ?_;have j:=(j.dup (i0+0) h0).dup (i1+1) h1;refine w_<|R1 1 v0 j zr λan w j=>?_;refine R1 1 v1 j zr λad w j=>?_;refine aM 0<|IT<|aM 0<|RD<|w_<|R5 1 j zr Fi λah j=>aY 0<|AI<|Td E V (λ(o:Int×Int)=>[bx 43 ad p1,rd ah p0]) (λo=>[(2,vi p2),(7,vi o.1)]) (λo=>[(4,vp ad 0),(10,ah),(11,vi o.2)]) hb ?_ ?_ ?_;exact j.sp 5 [1,0];rintro o fl _ w⟨O,rfl,j⟩hb;refine w_<|ic o.2 2<|RD<|dP hb (λhb=>?_) λhb=>?_;refine RW<|R6<|aY o.2<|q_ hb λab af hb=>Up (i:=1) (f:=λ(x:cE)=>x.gt ab) zt zr j zr zr zr zr (KY.Ri af) (qs ab) lM λaq j=>Sj j GF.z λai w j=>?_;refine aM o.2<|Sa 0 j 1 zr lM λw j=>?_;refine AI ?_;have j:=j.drew;refine Tn (λw=>Holds E w<|[bx 41 ai<|p0.gt ab,bx 43 ad p1]++V) mixed zr [1,0,0,0,0,0,0,2,1,1,1,1,1,1,2,0,0] [0,1,2,3,4,5,6,8,9,10,11,12,13,7,14,15,16] (j.pk 4 [0,2])<|R3 (vi o.1) zr (λw=>RN (vi o.1) zt RX)<|RR zr<|AT zr nL<|bC zr<|OF 0 j zr gM cB<|bC zr<|aY o.2<|bC zr ?_;refine T7 zt zr zr zr (KY.at af)<|bC zr<|AT zr nL<|bC zr<|OF (f:=(λx=>(x.gt ab).X)) 2 j zr (Fd.comp (f:=λ(x:cE)=>x.gt ab) (λ(x:cK)=>x.X) (qs ab) gM) cB<|RT<|R3 (vp ai 1) zr (λw=>AT zr nM RX)<|Th (vi (p0.gt ab).Y) zr (λw j=>OF 0 j zr gN cB RX)<|R3 (vi o.2) zr (λw=>RN (vi o.2) zt RX)<|R3 (vp ad<|ab.val*2) zr (λw=>T7 zt zr zr zr (KY.at af) RX)<|R3 (vp ad<|(ab.val*2)+1) zr (λw=>AT zr nM RX)<|Th (vi (p1.gt ab).Y) zr (λw j=>OF (f:=(λx=>(x.gt ab).Y)) 1 j zr (Fd.comp (f:=λ(x:cE)=>x.gt ab) (λ(x:cK)=>x.Y) (qs ab) gN) cB RX)<|Sr zr ?_;refine q_ hb λae aj hb=>RI On (vS N (p0:=(p0.gt ab).X) (p1:=(p1.gt ab).X) j aj) λw j=>Sg (j.pk 4 [0,2])<|Sr zr<|q_ hb λag ak hb=>RI On (vS N (p0:=(p0.gt ab).Y) (p1:=(p1.gt ab).Y) j ak) λw j=>Sg (j.pk 4 [0,2])<|RR zr<|T8 o.1 ae ag zt zr zr zr zr<|bC zr<|aM (if(if o.1<ae then ae else o.1)<ag then ag else(if o.1<ae then ae else o.1))<|RT<|Sd<|bQ ?_;refine aF<|IS<|RF o.2 1<|aY (wrap .i64<|o.2+1)<|By ?_;exact oi hb▸⟨rfl,j.sp 4 [2,3]⟩;exact Sh<|oi hb▸⟨rfl,j.sp 2 [0,1]⟩;rintro o _ w hb⟨O,rfl,j⟩;refine aF<|w_<|aY o.1<|aY p2<|RF o.1 p2<|RF (wrap .i64<|o.1+p2) 1<|aY p2<|q_ hb λar al hb=>Tg (wrap .i64<|wrap .i64 (o.1+p2) - 1) p2 (Q6 al)<|aM (wrap .i64<|Int.tdiv (wrap .i64<|wrap .i64 (o.1+p2) - 1) p2)<|AI<|RM ?_;exact oi hb▸bS ⟨rfl,j.drop 2⟩
def yO(E:World)(V:List HP)(r:Int×Int)(U:Nat->Value)(w:World):Prop:=lK bI 92 Tryz.f4 (re E V r) .ret U w
theorem CE{p0:gm}{p1:List Test}{p2:List Touch}{res:Int×Int}(j:Holds E w V)(h0:V[i0]? =some (rd v0 p0))(h1:V[i1]? =some (rd v1 p1))(h2:V[i2]? =some (rd v2 p2))(o:ot N p0 p1 p2 p3 p4=some res):c_ 4 [v0,v1,v2,vi p3,vi p4] w<|re E V res:=by
 unfold ot at o;refine enter Tryz.func4 zr zr ?_;have j:=((j.dup (i0+0) h0).dup (i1+1) h1).dup (i2+2) h2;refine w_<|R1 2 v0 j zr λaq w j=>?_;refine aM 0<|aM 0<|RD<|w_<|R5 0 j zr nT λb4 j=>mv v1<|aY p3<|aY p4<|q_ o λaw bj o=>RI (gL Tryz.func7) (xd N (p2:=p3) (p3:=p4) (i0:=0) (i1:=3) j zr zr bj) λw j=>aM aw<|IT<|aY aw<|ic aw 0<|AI<|dP o (λo=>?_) λo=>?_;exact w_<|aY aw<|aM 0<|aM aw<|AI<|RZ<|oi o▸ll ⟨rfl,j.drop 5⟩;refine Sz<|mv v1<|RK 3 p1 j AG<|q_ o λb5 bk o=>Tf (p1.length:Int) j MI Qi bk λau w j=>?_;refine dV au<|RD<|w_<|mv v2<|RK 3 p2 j Ij<|aY 0<|AI<|SM E V (λ(ay:List Bool)=>[rd v1 p1,rd v2 p2,bx 27 aq p0,own 4 au ay]) (λ_=>[(1,v1),(2,v2),(3,vi p3),(4,vi p4),(5,vp aq 0)]) (λa0 _=>[(13,au),(32,v2),(33,vi p2.length),(34,vi a0)]) (yO E V) o ?_ ?_ ?_ ?_;exact j.sp 6 [4,3,2,0];rintro hm a0 ay fl _ w hk⟨O,rfl,j⟩o;refine IN<|R6<|q_ o λa6 bm o=>RG 1 j Fg bm λb6 j=>RQ 0 a6 j KX λb7 j=>S7 j Ol λbb w j=>?_;have j:=j.rE (i:=0) (x:=(⟨0,false,0⟩:Touch)) rfl<|λM hs g=>⟨[vi 0],[vb false,vi 0],rfl,rfl,⟨[vb false],[vi 0],rfl,rfl,rfl⟩⟩;refine Te 0 j 1 zr KX λw j=>?_;refine RD<|IN<|q_ o λa7 hj o=>RS (λ(a7:Bool)=>SH E V [(1,v1),(2,v2),(3,vi p3),(4,vi p4),(5,vp aq 0),(13,au),(15,vp bb 0),(32,v2),(33,vi p2.length),(34,vi a0),(51,vb a7)] [rd v1 p1,rd v2 p2,bx 27 aq p0,own 4 au ay,bx 38 bb a6]) a7 ?_ ?_;refine IS<|AT zr xL<|OF 0 j zr ou cB<|mv v1<|RK 3 p1 j AG<|RF (p1.length:Int) 1<|q_ hj λbc bn hj=>RI Oi (l8 N (p0:=a6.Test) (p1:=0) (p2:=wrap .i64<|(p1.length:Int) - 1) j bn) λw j=>Sk bc<|fN (!bc)<|fp hj (λal hj=>?_) λal hj=>?_;exact bK al<|bK al<|bK al<|bK al<|bK al<|eY al (vb true)<|By<|oi hj▸⟨rfl,j.sp 7 [3,4,5,6,0]⟩;refine RN au (cg al)<|AT (hg:=cg al) zr xL<|OF (hg:=cg al) 0 j zr ou cB<|q_ hj λbo bf hj=>R8 (hg:=cg al) 6 j zr zr Fh bf<|SO (hg:=cg al) 6 j bf xJ<|eY al (vb bo)<|By ?_;exact oi hj▸⟨rfl,j.sp 7 [3,4,5,6,0]⟩;rintro _ w⟨O,rfl,j⟩;refine aF<|dP o (λo=>?_) λo=>?_;exact w_<|aM 0<|aM 3<|AI<|RZ<|iY<|bH<|oi o▸⟨rfl,ll ⟨rfl,j.drop 5⟩⟩;refine SK<|IS<|mv au<|AT zr xL<|OF 4 j zr ou cB<|q_ o λb8 bg o=>R8 3 j zr zr Fh bg ?_;have j:=j.sc Bool true;refine SP 4 0 j bg xJ λw j=>?_;exact By<|bQ<|aF<|IS<|So hk hm<|aY ((a0+1:Nat):Int)<|By<|oi o▸⟨rfl,j.sp 6 [1,2,3,4]⟩;intro r U w o hK;exact bH<|oi o▸hK;rintro ay _ w o⟨O,rfl,j⟩;refine aF<|IN<|w_<|mv v2<|RK 1 p2 j Ij<|mv v1<|RK 0 p1 j AG<|ic ((p2.length:Int)) ((p1.length:Int))<|AI<|dP o (λo=>?_) λo=>?_;exact w_<|aM 0<|aM 3<|AI<|RZ<|oi o▸ll ⟨rfl,j.drop 4⟩;refine Sz<|S7 j Om λa1 w j=>?_;have j:=j.rE (i:=0) (x:=(⟨(⟨0,0⟩:cK),(⟨0,0⟩:cK)⟩:cE)) rfl<|λM hs g=>⟨[vi 0,vi 0],[vi 0,vi 0],rfl,⟨[vi 0],[vi 0],rfl,rfl,rfl⟩,⟨[vi 0],[vi 0],rfl,rfl,rfl⟩⟩;refine IT<|aM 0<|RD<|w_<|mv v2<|RK 2 p2 j Ij<|aY 0<|AI<|SM E V (λ(ak:cE×Int)=>[rd v1 p1,bx 27 aq p0,bx 43 a1 ak.1,rd v2 p2]) (λak=>[(17,vi ak.2)]) (λa2 _=>[(1,v1),(3,vi p3),(4,vi p4),(5,vp aq 0),(16,vp a1 0),(62,v2),(63,vi p2.length),(64,vi a2)]) (yO E V) o ?_ ?_ ?_ ?_;exact j.sp 5 [1,3,0,2];rintro hm a2 ak fl _ w hk⟨O,rfl,j⟩o;refine IN<|R6<|q_ o λar bp o=>RG 3 j Fg bp λbq j=>RQ 0 ar j KX λbr j=>S7 j Ol λa3 w j=>?_;have j:=j.rE (i:=0) (x:=(⟨0,false,0⟩:Touch)) rfl<|λM hs g=>⟨[vi 0],[vb false,vi 0],rfl,rfl,⟨[vb false],[vi 0],rfl,rfl,rfl⟩⟩;refine Te 0 j 1 zr KX λw j=>?_;refine RD ?_;obtain⟨a9,bt,o⟩:=bd o;refine q_ o λba bu o=>SU E V mixed [0,1,1,0,0,0,1,0,0,0,0] [0,4,5,8,9,10] (λ(x:Value×Value×Value×Value×Nat)=>(λae af ag ah ad=>[(0,68,ae),(1,69,v1),(2,70,vp a3 0),(3,71,vi ar.Test),(4,72,af),(5,73,ag),(6,74,vp a3 1),(7,75,vb ar.o4),(8,76,ah),(9,20,vp ad 0)]) x.1 x.2.1 x.2.2.1 x.2.2.2.1 x.2.2.2.2) [(1,v1),(3,vi p3),(4,vi p4),(5,vp aq 0),(16,vp a1 0),(17,vi ak.2),(19,vp a3 0),(62,v2),(63,vi p2.length),(64,vi a2)] [] (λ(D:Nat->Bool)(x:Value×Value×Value×Value×Nat)=>(λae af ag ah ad=>[bif D 0 then rd ae p0 else aS,bif D 1 then pt af a9 else aS,bif D 2 then rd ag a9 else aS,bif D 3 then rd ah ba else aS,bif D 5 then bx 43 ad ba else(bif D 4 then bx 43 ad (⟨(⟨0,0⟩:cK),(⟨0,0⟩:cK)⟩:cE)else aS),bx 38 a3 ar,rd br ar,pt bq ar,rd v1 p1,bx 27 aq p0,bx 43 a1 ak.1,rd v2 p2]) x.1 x.2.1 x.2.2.1 x.2.2.2.1 x.2.2.2.2) (λx=>by kernel_rfl) ?_ ⟨?_,λ_=>lA gn,λ_=>mz gn xL,?_,?_,?_,λ_=>mz gn GD,?_,?_,?_,?_,trivial⟩ ?_;have j:=(((((j.drew).aS).aS).aS).aS).aS;exact⟨(undef,undef,undef,undef,0),dX.none,Ex zr,zt,j⟩;rintro D U w hD ab ao⟨⟨ae,af,ag,ah,ad⟩,hv,ha,_,j⟩;obtain⟨O,rfl⟩:=ha.px;have j:=j.bU 0 hD;refine R5 9 j zr nT λbw j=>?_;have j:=j.nw 0;exact RH (bw,af,ag,ah,ad) 0 hv ha j;rintro D U w hD ab ao⟨⟨ae,af,ag,ah,ad⟩,hv,ha,_,j⟩;obtain⟨O,rfl⟩:=hv.o1 2 ab;exact OF 5 j zr ou cB<|RH (ae,af,ag,ah,ad) 3 hv ha j;rintro D U w hD ab ao⟨⟨ae,af,ag,ah,ad⟩,hv,ha,_,j⟩;obtain⟨O,rfl⟩:=hv.o2 1 3 ab;have j:=j.bU 1 hD;refine RG 8 j zK bt λbz j=>?_;have j:=j.nw 1;exact RH (ae,bz,ag,ah,ad) 4 hv ha j;rintro D U w hD ab ao⟨⟨ae,af,ag,ah,ad⟩,hv,ha,_,j⟩;obtain⟨O,rfl⟩:=hv.o1 4 ab;have j:=(j.cV 1<|ab.1 rfl).bU 2 hD;refine RQ 1 a9 j Bp λb0 j=>?_;have j:=((j.pl 13 [1,2,0,4,5,6,7,8,9,10,11,12]).cG 1 (D 4) (ab.1 rfl) aS).cG 2 true rfl aS;exact RH (ae,af,b0,ah,ad) 5 hv ha j;rintro D U w hD ab ao⟨⟨ae,af,ag,ah,ad⟩,hv,ha,_,j⟩;obtain⟨O,rfl⟩:=hv.o1 6 ab;exact OF 5 j zr xE xJ<|RH (ae,af,ag,ah,ad) 7 hv ha j;rintro D U w hD ab ao⟨⟨ae,af,ag,ah,ad⟩,hv,ha,_,j⟩;obtain⟨O,rfl⟩:=(ac (hv.at 0 rfl<|ab.1 rfl)<|ac (hv.at 5 rfl<|ab.2.1 rfl)<|ac (hv.at 7 rfl<|ab.2.2.1 rfl) (az _)).px;have j:=((j.cV 0<|ab.1 rfl).cV 2<|ab.2.1 rfl).bU 3 hD;refine RU (gL Tryz.func9) (CC N (p2:=ar.o4) (i0:=0) (i1:=2) j zr zr bu) λb2 w j=>?_;have j:=(((j.pl 13 [1,2,3,0,5,6,7,8,9,10,11,12]).cG 0 (D 0) (ab.1 rfl) aS).cG 2 (D 5) (ab.2.1 rfl) aS).cG 3 true rfl aS;exact RH (ae,af,ag,b2,ad) 8 hv ha j;rintro D U w hD ab ao⟨⟨ae,af,ag,ah,ad⟩,hv,ha,_,j⟩;obtain⟨O,rfl⟩:=(az U).px;have j:=(j.bU 4<|nh ao hD 10).bU 4 hD;refine S7 j Om λbh w j=>?_;have j:=j.rE (i:=0) (x:=(⟨(⟨0,0⟩:cK),(⟨0,0⟩:cK)⟩:cE)) rfl<|λM hs g=>⟨[vi 0,vi 0],[vi 0,vi 0],rfl,⟨[vi 0],[vi 0],rfl,rfl,rfl⟩,⟨[vi 0],[vi 0],rfl,rfl,rfl⟩⟩;have j:=(j.nw 4).gh 4 (D 10) (nh ao hD 10)<|bx 43 bh ba;exact RH (ae,af,ag,ah,bh) 9 hv ha j;rintro D U w hD ab ao⟨⟨ae,af,ag,ah,ad⟩,hv,ha,_,j⟩;obtain⟨O,rfl⟩:=hv.o2 9 8 ab;have j:=((j.cV 3<|ab.2.1 rfl).bU 4 hD).cV 4<|ab.1 rfl;refine Te 4 j 3 zr Fi λw j=>?_;have j:=(j.cG 3 (D 8) (ab.2.1 rfl) aS).cG 4 true rfl (bif D 9 then bx 43 ad (⟨(⟨0,0⟩:cK),(⟨0,0⟩:cK)⟩:cE)else aS);exact SL (ae,af,ag,ah,ad) hv ha j;rintro D U w av⟨⟨ae,af,ag,ah,ad⟩,hv,ha,_,j⟩;simp only[List.getD_cons_zero,List.getD_cons_succ,av 0 (by decide),av 4 (by decide),av 5 (by decide),av 8 (by decide),av 10 (by decide),aO]at j;obtain⟨O,rfl⟩:=(ac (hv.at 9 rfl<|t9 av 9) ha).px;refine aF<|w_<|aY ak.2<|R5 10 j zr Fi λb9 j=>R5 5 j zr Fi λca j=>aY p3<|q_ o λax b3 o=>RI (gL Tryz.func10) (CD N (p2:=p3) (i0:=1) (i1:=0) j zr zr b3) λw j=>aY p4<|RF ax p4<|RF ak.2 (wrap .i64<|ax+p4)<|aM (wrap .i64<|ak.2+ wrap .i64 (ax+p4))<|IT<|R5 6 j zr Fi λcb j=>Te 13 j 0 zr Fi λw j=>?_;refine IT<|AT zr JB<|OF 8 j zr Bi cB<|aY (wrap .i64<|ak.2+ wrap .i64 (ax+p4))<|ic ar.tp (wrap .i64<|ak.2+ wrap .i64 (ax+p4))<|AI<|dP o (λo=>?_) λo=>?_;exact w_<|aM 0<|aM 12<|AI<|Sp<|bH<|oi o▸⟨rfl,ll ⟨rfl,j.drop 15⟩⟩;exact Se<|bQ<|aF<|IS<|So hk hm<|aY ((a2+1:Nat):Int)<|By<|oi o▸⟨rfl,j.sp 15 [11,12,13,14]⟩;intro r U w o hK;exact bH<|oi o▸hK;rintro ak _ w o⟨O,rfl,j⟩;exact aF<|w_<|aY ak.2<|aM ak.2<|aM 0<|AI<|RM<|oi o▸ll ⟨rfl,j.drop 4⟩
theorem tF{res:Bool}(o:Holds E w V)(j:mU N p0 p1 p2=some res):c_ 134 [vi p0,vi p1,vi p2] w<|aX E V res:=by
 unfold mU at j;refine enter Tryz.func134 zr zr<|w_<|bZ false<|IT<|aY p0<|aY p1<|ic p0 p1<|fN (decide<|p0>=p1)<|BY true (decide<|p0>=p1) (vi p0) zr zr zr cF ?_;refine BY true (decide<|p0>=p1) (vi p2) rfl rfl rfl cF<|BY true (decide<|p0>=p1) (vb<|decide<|p0<=p2) rfl rfl rfl (dB .leq .i64 p0 p2 rfl (by exact z_ (vi p0)) (by exact z_ (vi p2)) rfl)<|Sb (decide<|p0>=p1) (vb<|decide (p0>=p1)&&decide (p0<=p2)) (fE true)<|bZ (decide (p0>=p1)&&decide (p0<=p2))<|AI<|RM ?_;exact oi j▸bS ⟨rfl,o.drop 0⟩
theorem eK{res:Bool}(o:Holds E w V)(j:cN N p0=some res):c_ 113 [vi p0] w<|aX E V res:=by
 unfold cN at j;exact enter Tryz.func113 zr zr<|w_<|bZ false<|IT<|aY p0<|q_ j λaa ab j=>RI (gL Tryz.func134) (tF N (p0:=p0) (p1:=(-1000000)) (p2:=1000000) o ab) λw o=>bZ aa<|AI<|RM<|oi j▸bS ⟨rfl,o.drop 0⟩
theorem ri{p0:List aH}(o:Holds E w V)(h0:V[i0]? =some (rd v0 p0))(hb:gY N p0=some res):c_ 109 [v0] w<|aN E V res:=by
 unfold gY at hb;refine enter Tryz.func109 zr zr ?_;have o:=o.dup (i0+0) h0;refine w_<|aM 0<|RD<|w_<|mv v0<|RK 0 p0 o nU<|ic ((p0.length:Int)) 2000<|AI<|dP hb (λhb=>?_) λhb=>?_;exact w_<|aM 2<|AI<|RZ<|oi hb▸bS ⟨rfl,o.drop 1⟩;refine RW<|w_<|aM 0<|AI<|SN E V (λ(ad:Int)=>[rd v0 p0]) (λ_=>[]) (λad=>[(0,v0),(3,vi ad)]) (λr=>lK bI 52 Tryz.f109 (aN E V r) .ret) hb ?_ ?_ ?_ ?_;exact o.sp 1 [0];rintro ad fl _ w⟨O,rfl,o⟩hb;refine IN<|w_<|aY ad<|mv v0<|RK 0 p0 o nU<|ic ad ((p0.length:Int))<|AI<|dP hb (λhb=>?_) λhb=>?_;refine RW<|R6<|mv v0<|aY ad<|q_ hb λj ao hb=>RG 0 o jL ao λay o=>RQ 0 j o iL λaz o=>Sj o pz.z λah w o=>?_;refine Sa 0 o 1 zr iL λw o=>?_;refine RD<|IN<|q_ hb λai hj hb=>RS (λ(ai:Bool)=>SH E V [(0,v0),(3,vi ad),(4,vp ah 0),(39,vb ai)] [rd v0 p0,bx 58 ah j]) ai ?_ ?_;refine IS<|AT zr iT<|OF 0 o zr dW cB<|q_ hj λal aq hj=>RI xk (eK N (p0:=j.X0) o aq) λw o=>Sk al<|fN (!al)<|fp hj (λae hj=>?_) λae hj=>?_;refine bK ae<|bK ae<|bK ae<|bK ae<|eY ae (vb true)<|fN true<|mA<|mA<|mA<|mA<|Sb true (vb true) zr<|fN true<|mA<|mA<|mA<|mA<|Sb true (vb true) zr<|By ?_;exact oi hj▸⟨rfl,o.sp 4 [3,0]⟩;refine AT (hg:=cg ae) zr iJ<|OF (hg:=cg ae) 0 o zr dQ cB<|q_ hj λaj ar hj=>RI (hg:=cg ae) xk (eK N (p0:=j.Y0) o ar) λw o=>Sk (hg:=cg ae) aj<|eY ae (vb<|!aj)<|fN (!aj)<|fp hj (λaf hj=>?_) λaf hj=>?_;refine bK af<|bK af<|bK af<|bK af<|eY af (vb true)<|fN true<|mA<|mA<|mA<|mA<|Sb true (vb true) zr<|By ?_;exact oi hj▸⟨rfl,o.sp 4 [3,0]⟩;refine AT (hg:=cg af) zr jM<|OF (hg:=cg af) 0 o zr eV cB<|q_ hj λak au hj=>RI (hg:=cg af) xk (eK N (p0:=j.X1) o au) λw o=>Sk (hg:=cg af) ak<|eY af (vb<|!ak)<|fN (!ak)<|fp hj (λag hj=>?_) λag hj=>?_;exact bK ag<|bK ag<|bK ag<|bK ag<|eY ag (vb true)<|By<|oi hj▸⟨rfl,o.sp 4 [3,0]⟩;exact AT (hg:=cg ag) zr lF<|OF (hg:=cg ag) 0 o zr gj cB<|q_ hj λan av hj=>RI (hg:=cg ag) xk (eK N (p0:=j.Y1) o av) λw o=>Sk (hg:=cg ag) an<|eY ag (vb<|!an)<|By<|oi hj▸⟨rfl,o.sp 4 [3,0]⟩;rintro _ w⟨O,rfl,o⟩;refine aF<|dP hb (λhb=>?_) λhb=>?_;exact w_<|aM 1<|AI<|RZ<|iY<|bH<|oi hb▸⟨rfl,bS ⟨rfl,o.drop 2⟩⟩;refine Sz<|AT rfl jM<|OF 1 o rfl eV cB<|AT rfl iT<|OF 1 o rfl dW cB<|ic j.X1 j.X0<|fN (decide<|j.X1<=j.X0)<|BY true (decide<|j.X1<=j.X0) (vp ah 3) rfl rfl rfl (cX lF)<|BY true (decide<|j.X1<=j.X0) (vi j.Y1) rfl rfl rfl (bP 1 rfl o (by exact z_ (vp ah 3)) rfl gj cB) ?_;refine BY true (decide<|j.X1<=j.X0) (vp ah 1) rfl rfl rfl (cX iJ)<|BY true (decide<|j.X1<=j.X0) (vi j.Y0) rfl rfl rfl (bP 1 rfl o (by exact z_ (vp ah 1)) rfl dQ cB)<|BY true (decide<|j.X1<=j.X0) (vb<|decide<|j.Y1<=j.Y0) rfl rfl rfl (dB .leq .i64 j.Y1 j.Y0 rfl (by exact z_ (vi j.Y1)) (by exact z_ (vi j.Y0)) rfl)<|Sb (decide<|j.X1<=j.X0) (vb<|decide (j.X1<=j.X0)||decide (j.Y1<=j.Y0)) (nG true)<|AI<|dP hb (λhb=>?_) λhb=>?_;exact w_<|aM 13<|AI<|Sp<|bH<|oi hb▸⟨rfl,bS ⟨rfl,o.drop 2⟩⟩;refine Se<|bQ<|aF<|IS<|aY ad<|RF ad 1<|aM (wrap .i64<|ad+1)<|By ?_;exact oi hb▸⟨rfl,o.sp 2 [0]⟩;exact Sh<|oi hb▸⟨rfl,o.sp 1 [0]⟩;intro r U w hb hK;exact bH<|oi hb▸hK;rintro ad _ w hb⟨O,rfl,o⟩;exact aF<|w_<|aM 0<|AI<|RM<|oi hb▸bS ⟨rfl,o.drop 1⟩
theorem oL{p0 p1:aH}{res:Bool}(j:Holds E w V)(h0:V[i0]? =some (rd v0 p0))(h1:V[i1]? =some (rd v1 p1))(hb:iv N p0 p1=some res):c_ 110 [v0,v1] w<|aX E V res:=by
 unfold iv at hb;refine enter Tryz.func110 zr zr ?_;have j:=(j.dup (i0+0) h0).dup (i1+1) h1;refine w_<|R1 1 v0 j zr λo w j=>?_;refine R1 1 v1 j zr λaa w j=>?_;refine bZ false<|IT<|AT zr iJ<|OF 1 j zr dQ cB<|AT zr iJ<|OF 0 j zr dQ cB<|ic p0.Y0 p1.Y0<|fN (decide<|p0.Y0<p1.Y0)<|BY true (decide<|p0.Y0<p1.Y0) (vp o 1) zr zr zr (cX iJ) ?_;refine BY true (decide<|p0.Y0<p1.Y0) (vi p0.Y0) rfl rfl rfl (bP 1 rfl j (by exact z_ (vp o 1)) rfl dQ cB)<|BY true (decide<|p0.Y0<p1.Y0) (vp aa 1) rfl rfl rfl (cX iJ)<|BY true (decide<|p0.Y0<p1.Y0) (vi p1.Y0) rfl rfl rfl (bP 0 rfl j (by exact z_ (vp aa 1)) rfl dQ cB)<|BY true (decide<|p0.Y0<p1.Y0) (vb<|p0.Y0==p1.Y0) rfl rfl rfl (dB .eql .i64 p0.Y0 p1.Y0 rfl (by exact z_ (vi p0.Y0)) (by exact z_ (vi p1.Y0)) rfl)<|BY true (decide<|p0.Y0<p1.Y0) (vb<|p0.Y0==p1.Y0) rfl rfl rfl (cF (hx:=λh=>by exact(cC h:cv (true&&(decide (p0.Y0<p1.Y0)==false)) (vb<|p0.Y0==p1.Y0)= vb (p0.Y0==p1.Y0))))<|BY (true&&(decide (p0.Y0<p1.Y0)==false)) (p0.Y0==p1.Y0) (vp o 0) rfl rfl rfl (cX iT)<|BY (true&&(decide (p0.Y0<p1.Y0)==false)) (p0.Y0==p1.Y0) (vi p0.X0) rfl rfl rfl (bP 1 rfl j (by exact z_ (vp o 0)) rfl dW cB)<|BY (true&&(decide (p0.Y0<p1.Y0)==false)) (p0.Y0==p1.Y0) (vp aa 0) rfl rfl rfl (cX iT)<|BY (true&&(decide (p0.Y0<p1.Y0)==false)) (p0.Y0==p1.Y0) (vi p1.X0) rfl rfl rfl (bP 0 rfl j (by exact z_ (vp aa 0)) rfl dW cB) ?_;refine BY (true&&(decide (p0.Y0<p1.Y0)==false)) (p0.Y0==p1.Y0) (vb<|decide<|p0.X0<p1.X0) rfl rfl rfl (dB .lss .i64 p0.X0 p1.X0 rfl (by exact z_ (vi p0.X0)) (by exact z_ (vi p1.X0)) rfl)<|BY true (decide<|p0.Y0<p1.Y0) (vb<|(p0.Y0==p1.Y0)&&decide (p0.X0<p1.X0)) rfl rfl rfl (kr (p0.Y0==p1.Y0) rfl (by exact z_ (vb<|p0.Y0==p1.Y0)) (λh=>by exact fE (h:=h)<|true&&(decide (p0.Y0<p1.Y0)==false)))<|Sb (decide<|p0.Y0<p1.Y0) (vb<|decide (p0.Y0<p1.Y0)||((p0.Y0==p1.Y0)&&decide (p0.X0<p1.X0))) (nG true)<|bZ (decide (p0.Y0<p1.Y0)||((p0.Y0==p1.Y0)&&decide (p0.X0<p1.X0)))<|AI<|RM ?_;exact oi hb▸bS ⟨rfl,j.drop 4⟩
theorem iG{p0:List Int}{res:List Int}(j:Holds E w V)(h0:V[i0]? =some (rd v0 p0))(hb:fB N p0 p1=some res):c_ 136 [v0,vi p1] w<|qG E V res:=by
 unfold fB at hb;refine enter Tryz.func136 zr zr ?_;have j:=j.dup (i0+0) h0;refine w_<|dV n_<|IT<|mv v0<|RK 0 p0 j nK<|aM 0<|aM (p0.length:Int)<|RD<|Td E V (λ(o:Int×Int)=>[rd v0 p0]) (λo=>[(0,v0),(1,vi p1),(5,vi o.1)]) (λo=>[(6,vi o.2)]) hb ?_ ?_ ?_;exact j.sp 1 [0];rintro o fl _ w⟨O,rfl,j⟩hb;refine IN<|w_<|aY o.1<|aY o.2<|ic o.1 o.2<|AI<|dP hb (λhb=>?_) λhb=>?_;refine SK<|R6<|aY o.1<|aY o.2<|RF o.1 o.2<|Tg (wrap .i64<|o.1+o.2) 2 zr<|aM (wrap .i64<|Int.tdiv (wrap .i64<|o.1+o.2) 2)<|IT<|mv v0 ?_;refine aY (wrap .i64<|Int.tdiv (wrap .i64<|o.1+o.2) 2)<|q_ hb λah ak hb=>RG 0 j eW ak λax j=>RY ah 0 j cB<|aY p1<|ic ah p1<|AI<|q_ hb λae hj hb=>RS (λ(ae:Int×Int)=>SH E V [(0,v0),(1,vi p1),(5,vi ae.1),(6,vi ae.2)] [rd v0 p0]) ae ?_ ?_;refine dP hj (λhj=>?_) λhj=>?_;refine IS<|aY (wrap .i64<|Int.tdiv (wrap .i64<|o.1+o.2) 2)<|RF (wrap .i64<|Int.tdiv (wrap .i64<|o.1+o.2) 2) 1<|aM (wrap .i64<|wrap .i64 (Int.tdiv (wrap .i64<|o.1+o.2) 2)+1)<|By ?_;exact oi hj▸⟨rfl,j.sp 2 [1]⟩;exact IS<|aY (wrap .i64<|Int.tdiv (wrap .i64<|o.1+o.2) 2)<|aM (wrap .i64<|Int.tdiv (wrap .i64<|o.1+o.2) 2)<|By<|oi hj▸⟨rfl,j.sp 2 [1]⟩;rintro _ w⟨O,rfl,j⟩;exact bQ<|oi hb▸⟨rfl,j.sp 1 [0]⟩;exact Sh<|oi hb▸⟨rfl,j.sp 1 [0]⟩;rintro o _ w hb⟨O,rfl,j⟩;refine aF<|IN<|IN<|q_ hb λaf hj hb=>RS (λ(af:Bool)=>SH E V [(0,v0),(1,vi p1),(5,vi o.1),(38,vb af)] [rd v0 p0]) af ?_ ?_;refine IS<|aY o.1<|mv v0<|RK 0 p0 j nK<|ic o.1 ((p0.length:Int))<|fN (decide<|o.1<(p0.length:Int))<|fp hj (λab hj=>?_) λab hj=>?_;refine RN v0 (cg ab)<|RN (vi o.1) (cg ab)<|q_ hj λag al hj=>RG (hg:=cg ab) 0 j eW al λay j=>RY (hg:=cg ab) ag 0 j cB<|RN (vi p1) (cg ab)<|St ag p1 (cg ab)<|eY ab (vb<|ag==p1)<|By ?_;exact oi hj▸⟨rfl,j.sp 2 [1]⟩;exact bK ab<|bK ab<|bK ab<|bK ab<|bK ab<|bK ab<|eY ab (vb false)<|By<|oi hj▸⟨rfl,j.sp 1 [0]⟩;rintro _ w⟨O,rfl,j⟩;refine aF<|dP hb (λhb=>?_) λhb=>?_;refine w_<|mv v0<|dV v0<|AI<|RZ ?_;obtain rfl:=oi hb;exact bS<|j.pk 1 [0];refine Sz<|dV n_<|IT<|mv n_<|mv v0<|aY o.1<|q_ hb λaz an hb=>Ta (hl:= .inr ⟨rfl,zr⟩) 0 j eW (.inl zr) an λa0 j=>?_;have j:=j.dU Int 3;refine q_ hb λa1 ao hb=>Sx 0 1 j vx ao λai w j=>?_;refine dV ai<|IT<|mv ai<|aY p1 ?_;have j:=j.sc Int p1;refine Su ([p1]:List Int) j [vi p1] eW Ib (λM hs g=>⟨(g.sat 0 _ zr).1,zt⟩) λa2 w j=>?_;have j:=j.freeze 0;refine q_ hb λa3 aq hb=>Sx 2 0 j vx aq λaj w j=>?_;refine dV aj<|IT<|mv aj<|mv v0<|aY o.1<|q_ hb λa4 ar hb=>Ta 4 j eW (.inr ⟨rfl,zr⟩) ar λa5 j=>?_;refine q_ hb λa6 au hb=>Sx 3 0 j vx au λav w j=>?_;refine dV av<|AI<|RM ?_;obtain rfl:=oi hb;have j:=j.freeze 3;exact bS<|j.pk 6 [3]
theorem nY{p0:List aH}{res:List Int}(j:Holds E w V)(h0:V[i0]? =some (rd v0 p0))(o:gV N p0=some res):c_ 117 [v0] w<|qG E V res:=by
 unfold gV at o;refine enter Tryz.func117 zr zr ?_;have j:=j.dup (i0+0) h0;refine w_<|dV n_<|IT<|dV n_<|RD<|w_<|aM 0<|AI<|SQ E V (λ(aa:List Int×Int)(ab:Value)=>[rd v0 p0,rd ab aa.1]) (λ_ ab=>[(3,ab)]) (λaa _=>[(0,v0),(4,vi aa.2)]) o ?_ ?_ ?_;have j:=j.xy Int;exact⟨n_,j.sp 2 [1,0]⟩;rintro aa fl _ w⟨ad,O,rfl,j⟩o;refine IN<|w_<|aY aa.2<|mv v0<|RK 0 p0 j nU<|ic aa.2 ((p0.length:Int))<|AI<|dP o (λo=>?_) λo=>?_;refine RW<|Sv<|Ss mixed [0,0,0,0,0,0,2,1,1,1,1,1,2,0] [0,1,2,3,4,5,7,8,9,10,11,6,12,13] ?_;have j:=j.drew;refine RR zr<|mv ad<|bC zr<|mv v0<|bC zr<|aY aa.2<|bC zr<|q_ o λae ai o=>RG 0 j jL ai λao j=>bC zr<|R4 0 j zr iJ dQ λaq j=>bC zr<|RY ae.Y0 0 j cB<|RT<|R3 v0 zr (λw=>RN v0 zt RX)<|R3 (vi aa.2) zr (λw=>RN (vi aa.2) zt RX) ?_;refine q_ o λaf aj o=>SY 2 zr j jL aj λar j=>Tc 0 zr j zr lF gj λau j=>S4 af.Y1 0 zr j cB λa68 av j=>Sr zr<|q_ o λaw ak o=>RU C3 (iG N (p1:=ae.Y0) (i0:=6) j zr ak) λax w j=>Sg (⟨zt,j.f9 1⟩)<|Sr zr<|q_ o λay al o=>RU C3 (iG N (p1:=af.Y1) (i0:=0) j zr al) λag w j=>Sg (⟨zt,j.f9 2⟩)<|RR zr<|dV ag<|RT ?_;have j:=j.pl 9 [0,1,3,4,5,6,7,8];refine Sd<|bQ<|aF<|IS<|aY aa.2<|RF aa.2 1<|aM (wrap .i64<|aa.2+1)<|By ?_;exact oi o▸⟨rfl,ag,j.sp 8 [6,0]⟩;exact Sh<|oi o▸⟨rfl,ad,j.sp 2 [0,1]⟩;rintro aa _ w o⟨ah,O,rfl,j⟩;refine aF<|w_<|mv ah<|dV ah<|AI<|RM ?_;obtain rfl:=oi o;exact bS<|j.pk 2 [1]
theorem oM{p0:List aG}{p1:aG}{res:List aG}(j:Holds E w V)(h0:V[i0]? =some (rd v0 p0))(h1:V[i1]? =some (rd v1 p1))(o:iw N p0 p1=some res):c_ 138 [v0,v1] w<|lT E V res:=by
 unfold iw at o;refine enter Tryz.func138 zr zr ?_;have j:=(j.dup (i0+0) h0).dup (i1+1) h1;refine w_<|R1 0 v1 j zr λag w j=>?_;refine dV n_<|IT<|dV n_<|IT<|aM 0<|RD<|SQ E V (λ(ae:List aG×Int)(al:Value)=>[rd v0 p0,bx 186 ag p1,own 186 al ae.1]) (λae al=>[(0,v0),(3,vp ag 0),(5,al),(6,vi ae.2)]) (λ_ _=>[]) o ?_ ?_ ?_;have j:=j.dU aG 186;exact⟨n_,j.sp 4 [3,1,0]⟩;rintro ae fl _ w⟨aj,O,rfl,j⟩o;refine IN<|IN<|q_ o λan hj o=>RS (λ(an:Bool)=>SH E V [(0,v0),(3,vp ag 0),(5,aj),(6,vi ae.2),(20,vb an)] [rd v0 p0,bx 186 ag p1,own 186 aj ae.1]) an ?_ ?_;refine SF mixed ?_;have j:=j.drew;refine SE<|aY ae.2<|AS<|mv v0<|AS<|RK 0 p0 j xl<|AS<|ic ae.2 ((p0.length:Int))<|AS<|fN (decide<|ae.2<(p0.length:Int))<|fp hj (λab hj=>?_) λab hj=>?_;refine AS<|RN v0 (cg ab)<|AS<|RN (vi ae.2) (cg ab)<|AS<|q_ hj λao ay hj=>RG (hg:=cg ab) 0 j pD ay λba j=>AS<|R4 (hg:=cg ab) 0 j zr q8 eI λbb j=>AS<|RY (hg:=cg ab) ao.to 0 j cB<|AS<|AT (hg:=cg ab) zr q9<|AS<|OF (hg:=cg ab) 3 j zr eH cB ?_;refine AS<|St ao.to p1.from_ (cg ab)<|AS<|eY ab (vb<|decide<|ao.to<p1.from_)<|Sy ?_;exact oi hj▸⟨rfl,j.sp 5 [2,3,4]⟩;refine AS<|bK ab<|AS<|bK ab<|AS<|bK ab<|AS<|bK ab<|AS<|bK ab<|AS<|bK ab<|AS<|bK ab<|AS<|bK ab<|AS<|eY ab (vb false) ?_;exact Sy<|oi hj▸⟨rfl,j.sp 3 [0,1,2]⟩;rintro _ w⟨O,rfl,j⟩;refine aF<|dP o (λo=>?_) λo=>?_;refine SK<|R6<|mv aj<|mv v0<|aY ae.2<|q_ o λau az o=>RG 0 j pD az λbc j=>RQ 0 au j Hu λa0 j=>Su ([au]:List aG) j [a0] pD LX (λM hs g=>⟨(g.sat 0 _ zr).1,zt⟩) λbf w j=>?_;have j:=j.freeze 0;refine q_ o λbg a1 o=>Sx 5 0 j JC a1 λav w j=>?_;refine dV av<|AI<|IS<|aY ae.2<|RF ae.2 1<|aM (wrap .i64<|ae.2+1)<|By<|bQ ?_;exact oi o▸⟨rfl,av,j.sp 6 [3,4,5]⟩;exact Sh<|oi o▸⟨rfl,aj,j.sp 3 [0,1,2]⟩;rintro ae _ w o⟨ai,O,rfl,j⟩;refine aF<|IN<|Td E V (λ(aa:aG×Int)=>[rd v0 p0,bx 186 ag aa.1,own 186 ai ae.1]) (λaa=>[(0,v0),(3,vp ag 0),(5,ai),(6,vi aa.2)]) (λ_=>[]) o ?_ ?_ ?_;exact j.sp 3 [0,1,2];rintro aa fl _ w⟨O,rfl,j⟩o;refine IN<|IN<|q_ o λaq hj o=>RS (λ(aq:Bool)=>SH E V [(0,v0),(3,vp ag 0),(5,ai),(6,vi aa.2),(43,vb aq)] [rd v0 p0,bx 186 ag aa.1,own 186 ai ae.1]) aq ?_ ?_;refine SF mixed ?_;have j:=j.drew;refine SE<|aY aa.2<|AS<|mv v0<|AS<|RK 0 p0 j xl<|AS<|ic aa.2 ((p0.length:Int))<|AS<|fN (decide<|aa.2<(p0.length:Int))<|fp hj (λad hj=>?_) λad hj=>?_;refine AS<|RN v0 (cg ad)<|AS<|RN (vi aa.2) (cg ad)<|AS<|q_ hj λar a2 hj=>RG (hg:=cg ad) 0 j pD a2 λbh j=>AS<|R4 (hg:=cg ad) 0 j zr q9 eH λbj j=>AS<|RY (hg:=cg ad) ar.from_ 0 j cB<|AS<|AT (hg:=cg ad) zr q8<|AS<|OF (hg:=cg ad) 3 j zr eI cB ?_;refine AS<|St ar.from_ aa.1.to (cg ad)<|AS<|eY ad (vb<|decide<|ar.from_<=aa.1.to)<|Sy ?_;exact oi hj▸⟨rfl,j.sp 5 [2,3,4]⟩;refine AS<|bK ad<|AS<|bK ad<|AS<|bK ad<|AS<|bK ad<|AS<|bK ad<|AS<|bK ad<|AS<|bK ad<|AS<|bK ad<|AS<|eY ad (vb false) ?_;exact Sy<|oi hj▸⟨rfl,j.sp 3 [0,1,2]⟩;rintro _ w⟨O,rfl,j⟩;refine aF<|dP o (λo=>?_) λo=>?_;refine SK<|Sv<|IN<|Ss mixed [0,0,0,0,0,0,0,0,0,0,1,1,1,1,1,1,0,2,0,2] [0,1,2,3,4,5,6,7,8,9,10,11,12,13,14,15,16,17,18,19] ?_;have j:=j.drew;refine RR zr<|AT zr q9<|bC zr<|OF 1 j zr eH cB<|bC zr<|mv v0<|bC zr<|aY aa.2<|bC zr<|q_ o λak a3 o=>RG 0 j pD a3 λbk j=>bC zr<|R4 0 j zr q9 eH λbl j=>bC zr<|RY ak.from_ 0 j cB<|bC zr<|S6 aa.1.from_ ak.from_<|bC zr<|AT zr q8 ?_;refine bC zr<|OF 3 j zr eI cB<|RT<|R3 v0 zr (λw=>RN v0 zt RX)<|R3 (vi aa.2) zr (λw=>RN (vi aa.2) zt RX)<|q_ o λah a4 o=>SY 2 zr j pD a4 λbm j=>Tc 0 zr j zr q8 eI λbn j=>S4 ah.to 0 zr j cB λa135 bo j=>R3 (vi (if aa.1.to<ah.to then ah.to else aa.1.to)) zr (λw=>S9 aa.1.to ah.to RX)<|RR zr<|AT zr q9<|pR zr ?_;have j:=j.sc Int (if ak.from_<aa.1.from_ then ak.from_ else aa.1.from_);refine Ty 7 j zr zr zr 0 zr lB cB λw j=>?_;refine Sg (⟨zt,j.f9 1⟩)<|RR zr<|AT zr q8<|pR zr ?_;have j:=j.sc Int (if aa.1.to<ah.to then ah.to else aa.1.to);refine Ty 8 j zr zr zr 0 zr lC cB λw j=>?_;refine Sg (⟨zt,j.f9 2⟩) ?_;have j:=j.pl 10 [0,1,3,4,5,6,7,8,9];refine Sd<|aF<|IS<|aY aa.2<|RF aa.2 1<|aM (wrap .i64<|aa.2+1)<|By<|bQ ?_;exact oi o▸⟨rfl,j.sp 9 [6,7,8]⟩;exact Sh<|oi o▸⟨rfl,j.sp 3 [0,1,2]⟩;rintro aa _ w o⟨O,rfl,j⟩;refine aF<|w_<|mv ai<|R5 1 j zr Hu λa5 j=>Su ([aa.1]:List aG) j [a5] pD LX (λM hs g=>⟨(g.sat 0 _ zr).1,zt⟩) λbp w j=>?_;have j:=j.freeze 0;refine q_ o λbq a6 o=>Sx 4 0 j JC a6 λaw w j=>?_;refine dV aw<|IT<|mv aw<|mv v0<|aY aa.2<|q_ o λbr a7 o=>Ta 2 j pD (.inr ⟨rfl,zr⟩) a7 λbt j=>?_;refine q_ o λbu a8 o=>Sx 5 0 j JC a8 λa9 w j=>?_;refine dV a9<|AI<|RM ?_;obtain rfl:=oi o;exact bS<|j.pk 6 [5]
theorem m0{p0:List aH}{res:List aG}(j:Holds E w V)(h0:V[i0]? =some (rd v0 p0))(hb:iS N p0 p1=some res):c_ 119 [v0,vi p1] w<|lT E V res:=by
 unfold iS at hb;refine enter Tryz.func119 zr zr ?_;have j:=j.dup (i0+0) h0;refine w_<|dV n_<|IT<|dV n_<|RD<|w_<|aM 0<|AI<|SQ E V (λ(aa:List aG×Int)(ai:Value)=>[rd v0 p0,own 186 ai aa.1]) (λ_ ai=>[(5,ai)]) (λaa _=>[(0,v0),(1,vi p1),(6,vi aa.2)]) hb ?_ ?_ ?_;have j:=j.dU aG 186;exact⟨n_,j.sp 2 [1,0]⟩;rintro aa fl _ w⟨ae,O,rfl,j⟩hb;refine IN<|w_<|aY aa.2<|mv v0<|RK 0 p0 j nU<|ic aa.2 ((p0.length:Int))<|AI<|dP hb (λhb=>?_) λhb=>?_;refine RW<|Sv<|IN<|q_ hb λaj o hb=>RS (λ(aj:Bool)=>SH E V [(0,v0),(1,vi p1),(5,ae),(6,vi aa.2),(28,vb aj)] [rd v0 p0,own 186 ae aa.1]) aj ?_ ?_;refine IS<|mv v0<|aY aa.2<|q_ o λak ar o=>RG 0 j jL ar λaz j=>R4 0 j zr iJ dQ λa0 j=>RY ak.Y0 0 j cB<|aY p1<|ic ak.Y0 p1<|fN (decide<|ak.Y0<=p1)<|fp o (λab o=>?_) λab o=>?_;refine RN (vi p1) (cg ab)<|RN v0 (cg ab)<|RN (vi aa.2) (cg ab)<|q_ o λal au o=>RG (hg:=cg ab) 2 j jL au λa1 j=>R4 (hg:=cg ab) 0 j zr lF gj λa2 j=>RY (hg:=cg ab) al.Y1 0 j cB<|St p1 al.Y1 (cg ab)<|eY ab (vb<|decide<|p1<al.Y1)<|By ?_;exact oi o▸⟨rfl,j.sp 6 [4,5]⟩;exact bK ab<|bK ab<|bK ab<|bK ab<|bK ab<|bK ab<|bK ab<|eY ab (vb false)<|By<|oi o▸⟨rfl,j.sp 4 [2,3]⟩;rintro _ w⟨O,rfl,j⟩;refine aF<|q_ hb λan o hb=>RS (λ(an:List aG)U w=>∃af:Value,SH E V [(0,v0),(1,vi p1),(5,af),(6,vi aa.2)] [rd v0 p0,own 186 af an] U w) an ?_ ?_;refine dP o (λo=>?_) λo=>?_;refine Ss mixed [0,0,0,0,0,0,0,0,0,0,0,0,2,0] [0,1,2,3,4,5,6,7,8,9,10,11,12,13] ?_;have j:=j.drew;refine RR zr<|mv ae<|bC zr<|mv v0<|bC zr<|aY aa.2<|bC zr<|q_ o λag av o=>RG 0 j jL av λa3 j=>bC zr<|R4 0 j zr iT dW λa4 j=>bC zr<|RY ag.X0 0 j cB<|bC zr<|mv v0<|bC zr<|aY aa.2 ?_;refine bC zr<|q_ o λah aw o=>RG 2 j jL aw λa5 j=>bC zr<|R4 0 j zr jM eV λa6 j=>bC zr<|RY ah.X1 0 j cB<|bC zr ?_;have j:=(j.sc Int ag.X0).sc Int ah.X1;refine SI (⟨ag.X0,ah.X1⟩:aG) trivial rfl j [(0,vi ag.X0),(1,vi ah.X1)] rfl LW rfl (λM hs g=>by have h:=pZ M;exact cO.cons (f:=λ(x:aG)y=>{x with from_:=y}) h lB (g.sat 1 _ rfl).1 λ_ h=>cO.cons (f:=λ(x:aG)y=>{x with to:=y}) h lC (g.sat 0 _ rfl).1 λ_ h=>cO.nil h) λa7 j=>?_;refine pR zr ?_;have j:=j.freeze 8;exact q_ o λa8 ax o=>RU LY (oM N (i0:=8) (i1:=0) j zr zr ax) λao w j=>ud zr<|dV ao<|RT<|Sd<|oi o▸⟨rfl,ao,j.sp 10 [8,0]⟩;exact Se<|oi o▸⟨rfl,ae,j.sp 2 [0,1]⟩;rintro _ w⟨af,O,rfl,j⟩;refine bQ<|aF<|IS<|aY aa.2<|RF aa.2 1<|aM (wrap .i64<|aa.2+1)<|By ?_;exact oi hb▸⟨rfl,af,j.sp 2 [0,1]⟩;exact Sh<|oi hb▸⟨rfl,ae,j.sp 2 [0,1]⟩;rintro aa _ w hb⟨aq,O,rfl,j⟩;refine aF<|w_<|mv aq<|dV aq<|AI<|RM ?_;obtain rfl:=oi hb;exact bS<|j.pk 2 [1]
end Go.Gk
