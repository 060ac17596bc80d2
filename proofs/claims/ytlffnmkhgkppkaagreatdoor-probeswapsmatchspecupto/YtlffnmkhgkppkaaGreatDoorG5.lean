/-
  Printed texts: Go functions as plain functions, and that they are. No statement of the seed is proved here.
-/
import Derived.Test.YtlffnmkhgkppkaaGreatDoorG1
import Derived.Test.YtlffnmkhgkppkaaGreatDoorG2
import Derived.Test.YtlffnmkhgkppkaaGreatDoorG4
import Derived.Test.YtlffnmkhgkppkaaGreatDoorA2
set_option linter.unusedVariables false
set_option linter.unusedSimpArgs false
set_option linter.unusedSectionVars false
set_option maxRecDepth 100000
set_option maxHeartbeats 40000000
namespace Go.Gk
open Go IntKind Go.Proofs
variable (N:Nat){E w:World}{i0 i1:Nat}{p0 p1 p2 p3 res:Int}{v0 v1:Value}{V:List HP}
def EU(E:World)(V:List HP)(r:Int)(U:Nat->Value)(w:World):Prop:=lZ bH 18 Tryz.f164 (aR E V r) .ret U w
theorem Dv{p0:List Int}(j:Holds E w V)(h0:V[i0]? =some (rd v0 p0))(o:sf N p0=some res):c_ 164 [v0] w<|aR E V res:=by
 unfold sf at o;refine enter Tryz.func164 zr zr ?_;have j:=j.dup (i0+0) h0;refine w_<|aP (vi 0)<|OF<|aP (vi 0)<|BY<|w_<|mv v0<|S8 0 p0 j n8<|mv (vi 0)<|AI ?_;refine q_ o λak hN o=>T9 (λ(ab:Nat)(ad:Unit)=>SH E V [(3,vi 0),(6,v0),(7,vi p0.length),(8,vi ab)] [rd v0 p0]) (λ(ad:Unit)=>SH E V [(3,vi 0)] [rd v0 p0]) (EU E V) hN ?_ ?_ ?_ ?_ ?_;exact j.sp 1 [0];rintro hm ad _ w⟨O,rfl,j⟩;exact w_<|ic ((p0.length:Int)) ((p0.length:Int))<|BY<|TJ qC<|Te<|⟨rfl,j.sp 1 [0]⟩;rintro hm ab ad fl _ w hk⟨O,rfl,j⟩o;refine w_<|ic ((ab:Int)) ((p0.length:Int))<|BY<|TI (qB hk)<|Ta<|Tn<|q_ o λaa ah o=>S7 0 j fG ah λan j=>Tq aa 0 j cI<|aP (vi aa)<|OF<|mv (vi aa)<|mv (vi 0)<|ic aa 0<|AI<|dR o (λhc o=>?_) λhc o=>?_;exact w_<|mv (vi aa)<|aP (vi aa)<|AI<|TL<|bQ<|oi o▸⟨rfl,cC ⟨rfl,j.drop 2⟩⟩;exact Tw<|bR<|aG<|IT<|TF hk hm<|mv (vi ((ab+1:Nat):Int))<|AS<|oi o▸⟨rfl,j.sp 2 [1]⟩;intro r U w e hK;subst e;exact bQ<|oi o▸hK;rintro ad _ w rfl⟨O,rfl,j⟩;rw[Fo.dN]at o;exact aG<|w_<|mv (vi 0)<|aP (vi 0)<|AI<|Tb<|oi o▸cC ⟨rfl,j.drop 1⟩
theorem pZ{p0 p1:Test}(j:Holds E w V)(h0:V[i0]? =some (rd v0 p0))(h1:V[i1]? =some (rd v1 p1))(o:iB N p0 p1=some res):c_ 131 [v0,v1] w<|aR E V res:=by
 unfold iB at o;refine enter Tryz.func131 zr zr ?_;have j:=(j.dup (i0+0) h0).dup (i1+1) h1;refine w_<|Tm 1 v0 j zr λan w j=>?_;have j:=j.iE (i:=0) rfl;refine Tm 1 v1 j zr λao w j=>?_;have j:=j.iE (i:=0) rfl;refine aP (vi 0)<|BY<|TU mixed [0,0,0,0,2,1,1,1,1,2,2,2,0] [0,1,2,3,5,6,7,8,4,9,10,11,12] ?_;have j:=j.drew;refine Th zr<|Tt 1 j zr pF jR λaq j=>bJ zr<|Tf 0 p0.A j nT λad j=>bJ zr<|Tt 2 j zr pF jR λar j=>bJ zr<|Tf 0 p1.A j nT λae j=>Tj<|Ur 5 zr j zr qW k7 λau j=>Uf p0.B 0 zr j nT λaf a39 av j=>Ur 7 zr j zr qW k7 λaw j=>Uf p1.B 0 zr j nT λag a43 ax j=>TO zr<|q_ o λaa ah o=>IN zt zr Jq [ad,ae] zr<|aF (gW N (i0:=8) (i1:=6) j zr zr ah) ?_;rintro _ w⟨rfl,j⟩;refine TB (⟨⟨zt,j.gw 3⟩,j.gw 0⟩)<|TO zr<|q_ o λab ai o=>IN zt zr Jq [af,ag] zr<|aF (gW N (i0:=4) (i1:=1) j zr zr ai) ?_;rintro _ w⟨rfl,j⟩;refine TB (⟨⟨zt,j.gw 3⟩,j.gw 0⟩)<|TO zr ?_;have j:=(j.sc Int aa).sc Int ab;refine TN ([aa,ab]:List Int) j [vi aa,vi ab] fG Jo (λM hs g=>⟨(g.sat 1 _ zr).1,⟨(g.sat 0 _ zr).1,zt⟩⟩) λaj w j=>TB (⟨⟨zt,j.gw 6⟩,j.gw 3⟩)<|TO zr ?_;have j:=j.freeze 0;refine q_ o λak al o=>IN zt zr PX [aj] zr<|aF (Dv N (i0:=0) j zr al) ?_;rintro _ w⟨rfl,j⟩;refine TB (⟨⟨zt,j.gw 6⟩,j.gw 3⟩)<|Th zr<|aP (vi ak)<|Tj ?_;have j:=j.pl 17 [0,1,2,4,5,7,8,9,10,11,12,13,14,15,16];exact TA<|aG<|Tb<|oi o▸cC ⟨rfl,j.drop 15⟩
def zF(E:World)(V:List HP)(r:Option (List (List aI)×List aI×List cP×List dV×List (List aA)×List aO×List (List Int)×List dL×List Int×List Int×List Int×List gM)×Int)(U:Nat->Value)(w:World):Prop:=lZ bH 63 Tryz.f80 (qy E V r) .ret U w
theorem Dw{p0:fE}{p1:List Test}{res:Option (List (List aI)×List aI×List cP×List dV×List (List aA)×List aO×List (List Int)×List dL×List Int×List Int×List Int×List gM)×Int}(j:Holds E w V)(h0:V[i0]? =some (rd v0 p0))(h1:V[i1]? =some (rd v1 p1))(o:l8 N p0 p1=some res):
    c_ 80 [v0,v1] w<|qy E V res:=by
 unfold l8 at o
 refine enter Tryz.func80 zr zr ?_
 have j:=(j.dup (i0+0) h0).dup (i1+1) h1
 refine w_<|Tm 1 v0 j zr λah w j=>?_
 refine aP (.pointer none)<|aP (vi 0)<|OF<|S3 (f:=(λx=>x)) 0 j zr Fd.self lC λbw j=>?_
 obtain⟨ag,bz,o⟩:=bd o
 refine IN zt zr PV [bw] zr<|aF (wJ N (i0:=0) j zr bz) ?_
 rintro _ w hK49
 rcases a5:ag.1 with _|aa
 ·replace o:=NX a5 o
  obtain⟨rfl,j⟩:=Kr a5 hK49
  refine mv (.tuple #[(.pointer none),vi ag.2])<|TK (.pointer none)<|TK (vi ag.2)<|aP (.pointer none)<|aP (vi ag.2)<|BY<|w_<|mv (vi ag.2)<|ic ag.2 0 ?_
  refine AI<|dR o (λhc o=>?_) λhc o=>?_
  ·refine w_<|mv (vi ag.2)<|aP (.pointer none)<|aP (vi ag.2)<|AI<|Tp ?_
   obtain rfl:=oi o
   exact l3 ⟨rfl,j.drop 4⟩
  refine Ta<|w_<|mv v1<|S8 2 p1 j t8<|ic ((p1.length:Int)) 2000<|AI<|dR o (λhc o=>?_) λhc o=>?_
  ·refine w_<|aP (.pointer none)<|aP (vi 2)<|AI<|Tp ?_
   obtain rfl:=oi o
   exact l3 ⟨rfl,j.drop 4⟩
  refine Ta<|w_<|mv v1<|S8 2 p1 j t8<|mv (vi 0)<|AI ?_
  obtain⟨c0,hN,o⟩:=bd o
  refine T9 (λ(ai:Nat)(a6:Unit)=>SH E V [(1,v1),(2,vp ah 0),(6,(.pointer none)),(21,v1),(22,vi p1.length),(23,vi ai)] [rd v1 p1,bx 27 ah p0]) (λ(a6:Unit)=>SH E V [(6,(.pointer none))] [rd v1 p1,bx 27 ah p0]) (zF E V) hN ?_ ?_ ?_ ?_ ?_
  ·exact j.sp 4 [2,1]
  ·rintro hm a6 _ w⟨O,rfl,j⟩
   refine w_<|ic ((p1.length:Int)) ((p1.length:Int))<|BY<|TJ qC<|Te ?_
   exact⟨rfl,j.sp 2 [0,1]⟩
  ·rintro hm ai a6 fl _ w hk⟨O,rfl,j⟩o
   refine w_<|ic ((ai:Int)) ((p1.length:Int))<|BY<|TI (qB hk)<|Ta<|Tn<|mv (vi ai) ?_
   obtain⟨bm,b1,o⟩:=bd o
   refine S7 0 j wu b1 λc1 j=>Tf 0 bm j sV λc2 j=>TC j PW.z λbn w j=>?_
   refine aP (vi ai)<|Tx 0 j 1 zr sV λw j=>?_
   refine AI<|TT<|S6 ?_
   obtain⟨a9,hj,o⟩:=bd o
   refine Tg (λ(a9:Bool)=>SH E V [(1,v1),(2,vp ah 0),(6,(.pointer none)),(8,vi ai),(9,vp bn 0),(21,v1),(22,vi p1.length),(23,vi ai),(28,vb a9)] [rd v1 p1,bx 27 ah p0,bx 62 bn bm]) a9 ?_ ?_
   ·refine IT<|S3 (f:=(λx=>x)) 4 j zr Fd.self lC λb2 j=>By zr pF<|S3 1 j zr jR nT λb3 j=>?_
    obtain⟨bo,b4,hj⟩:=bd hj
    refine IN zt zr Gi [b2,b3] zr<|aF (iQ N (i0:=1) (i1:=0) j zr zr b4) ?_
    rintro _ w⟨rfl,j⟩
    refine ic bo 0<|mv (vb<|decide<|bo<0)<|fI hj (λal hj=>?_) λal hj=>?_
    ·refine bO al<|bO al<|bO al<|bO al<|bO al<|fH al (vb true)<|aP (vb true)<|AS ?_
     obtain rfl:=oi hj
     exact⟨rfl,j.sp 7 [5,6,2]⟩
    refine S3 (hg:=cg al) (f:=(λx=>x)) 6 j zr Fd.self lC λb5 j=>By (hg:=cg al) zr qW<|S3 (hg:=cg al) 3 j zr k7 nT λb6 j=>?_
    obtain⟨ba,b7,hj⟩:=bd hj
    refine IN (cg al) zr Gi [b5,b6] zr<|aF (iQ N (i0:=1) (i1:=0) j zr zr b7) ?_
    rintro _ w⟨rfl,j⟩
    refine TR ba 0 (cg al)<|fH al (vb<|decide<|ba<0)<|aP (vb<|decide<|ba<0)<|AS ?_
    obtain rfl:=oi hj
    exact⟨rfl,j.sp 9 [7,8,4]⟩
   rintro _ w⟨O,rfl,j⟩
   refine aG<|dR o (λhc o=>?_) λhc o=>?_
   ·refine w_<|aP (.pointer none)<|aP (vi 9)<|AI<|TL<|jW<|bQ ?_
    obtain rfl:=oi o
    exact⟨rfl,l3 ⟨rfl,j.drop 3⟩⟩
   refine w_<|By zr qW<|S3 2 j zr k7 nT λb8 j=>By zr pF<|S3 3 j zr jR nT λb9 j=>?_
   obtain⟨bp,ca,o⟩:=bd o
   refine IN zt zr Jq [b8,b9] zr<|aF (gW N (i0:=1) (i1:=0) j zr zr ca) ?_
   rintro _ w⟨rfl,j⟩
   refine ic bp 0<|aP (vb<|decide<|bp<=0)<|AI<|dR o (λhc o=>?_) λhc o=>?_
   ·refine w_<|aP (.pointer none)<|aP (vi 8)<|AI<|TL<|jW<|bQ ?_
    obtain rfl:=oi o
    exact⟨rfl,l3 ⟨rfl,j.drop 5⟩⟩
   refine S6 ?_
   obtain⟨bb,hj,o⟩:=bd o
   refine Tg (λ(bb:Bool)=>SH E V [(1,v1),(2,vp ah 0),(6,(.pointer none)),(21,v1),(22,vi p1.length),(23,vi ai),(48,vb bb)] [rd v1 p1,bx 27 ah p0]) bb ?_ ?_
   ·refine TU mixed [0,0,0,0,0,0,0,0,0,2,0,0,0] [0,1,2,3,4,5,6,7,8,9,10,11,12] ?_
    have j:=j.drew
    refine Th zr<|mv (vi ai)<|bJ zr<|ic ((ai:Int)) 0<|bJ zr<|mv (vb<|decide<|(ai:Int)>0)<|Tj<|fI hj (λae hj=>?_) λae hj=>?_
    rotate_left
    ·refine Th zr<|bO ae<|bJ zr<|bO ae<|bJ zr<|bO ae<|bJ zr<|bO ae<|bJ zr ?_
     refine bO ae<|bJ zr<|bO ae<|qG zr<|bO ae<|uW zr<|bO ae<|bJ zr<|fH ae (vb false) ?_
     refine bJ zr<|aP (vb false)<|Tj<|TA ?_
     obtain rfl:=oi hj
     exact⟨rfl,j.sp 5 [2,3]⟩
    refine Th zr<|S3 (hg:=cg ae) (f:=(λx=>x)) 4 j zr Fd.self sV λcb j=>bJ zr<|Tc v1 (cg ae)<|bJ zr<|Tc (vi ai) (cg ae)<|bJ zr<|S5 (hg:=cg ae) (ai:Int) 1<|bJ zr ?_
    obtain⟨cc,cd,hj⟩:=bd hj
    refine S7 (hg:=cg ae) 3 j wu cd λc3 j=>bJ zr<|Tf (hg:=cg ae) 0 cc j sV λcf j=>qG zr ?_
    obtain⟨bf,ch,hj⟩:=bd hj
    refine IN (cg ae) zr Nd [cb,cf] zr<|aF (pZ N (i0:=2) (i1:=0) j zr zr ch) ?_
    rintro _ w⟨rfl,j⟩
    refine uW zr<|TR bf 0 (cg ae)<|bJ zr<|fH ae (vb<|decide<|bf<=0)<|bJ zr<|aP (vb<|decide<|bf<=0)<|Tj<|TA ?_
    obtain rfl:=oi hj
    exact⟨rfl,j.sp 8 [5,6]⟩
   rintro _ w⟨O,rfl,j⟩
   refine aG<|dR o (λhc o=>?_) λhc o=>?_
   rotate_left
   ·refine Tw<|bR<|bR<|aG<|IT<|TF hk hm<|mv (vi ((ai+1:Nat):Int))<|AS ?_
    obtain rfl:=oi o
    exact⟨rfl,j.sp 2 [0,1]⟩
   refine w_<|aP (.pointer none)<|aP (vi 8)<|AI<|TL<|jW<|bQ ?_
   obtain rfl:=oi o
   exact⟨rfl,l3 ⟨rfl,j.drop 2⟩⟩
  ·intro r U w e hK
   subst e
   refine bQ ?_
   obtain rfl:=oi o
   exact hK
  rintro a6 _ w rfl⟨O,rfl,j⟩
  rw[Fo.dN]at o
  refine aG<|w_<|mv (.pointer none)<|aP (.pointer none)<|aP (vi 0)<|AI<|Tb ?_
  obtain rfl:=oi o
  exact l3 ⟨rfl,j.drop 2⟩
 replace o:=NY a5 o
 obtain⟨aj,ao,aq,ar,au,av,aw,ax,ay,az,a0,a1,a2,rfl,j⟩:=Ks a5 hK49
 refine mv (.tuple #[vp aj 0,vi ag.2])<|TK (vp aj 0)<|TK (vi ag.2)<|aP (vp aj 0)<|aP (vi ag.2)<|BY<|w_<|mv (vi ag.2)<|ic ag.2 0 ?_
 refine AI<|dR o (λhc o=>?_) λhc o=>?_
 ·refine w_<|mv (vi ag.2)<|aP (.pointer none)<|aP (vi ag.2)<|AI<|Tp ?_
  obtain rfl:=oi o
  exact l3 ⟨rfl,j.drop 17⟩
 refine Ta<|w_<|mv v1<|S8 15 p1 j t8<|ic ((p1.length:Int)) 2000<|AI<|dR o (λhc o=>?_) λhc o=>?_
 ·refine w_<|aP (.pointer none)<|aP (vi 2)<|AI<|Tp ?_
  obtain rfl:=oi o
  exact l3 ⟨rfl,j.drop 17⟩
 refine Ta<|w_<|mv v1<|S8 15 p1 j t8<|mv (vi 0)<|AI ?_
 obtain⟨c4,hN,o⟩:=bd o
 refine T9 (λ(ak:Nat)(a7:Unit)=>SH E V [(1,v1),(2,vp ah 0),(6,vp aj 0),(21,v1),(22,vi p1.length),(23,vi ak)] [rd v1 p1,bx 27 ah p0,bc 108 aj [ao,aq,ar,au,av,aw,ax,ay,az,a0,a1,a2],rd ao aa.1,rd aq aa.2.1,rd ar aa.2.2.1,rd au aa.2.2.2.1,own 137 av aa.2.2.2.2.1,rd aw aa.2.2.2.2.2.1,rd ax aa.2.2.2.2.2.2.1,own 172 ay aa.2.2.2.2.2.2.2.1,rd az aa.2.2.2.2.2.2.2.2.1,rd a0 aa.2.2.2.2.2.2.2.2.2.1,own 3 a1 aa.2.2.2.2.2.2.2.2.2.2.1,own 47 a2 aa.2.2.2.2.2.2.2.2.2.2.2]) (λ(a7:Unit)=>SH E V [(6,vp aj 0)] [rd v1 p1,bx 27 ah p0,bc 108 aj [ao,aq,ar,au,av,aw,ax,ay,az,a0,a1,a2],rd ao aa.1,rd aq aa.2.1,rd ar aa.2.2.1,rd au aa.2.2.2.1,own 137 av aa.2.2.2.2.1,rd aw aa.2.2.2.2.2.1,rd ax aa.2.2.2.2.2.2.1,own 172 ay aa.2.2.2.2.2.2.2.1,rd az aa.2.2.2.2.2.2.2.2.1,rd a0 aa.2.2.2.2.2.2.2.2.2.1,own 3 a1 aa.2.2.2.2.2.2.2.2.2.2.1,own 47 a2 aa.2.2.2.2.2.2.2.2.2.2.2]) (zF E V) hN ?_ ?_ ?_ ?_ ?_
 ·exact j.sp 17 [15,14,0,1,2,3,4,5,6,7,8,9,10,11,12]
 ·rintro hm a7 _ w⟨O,rfl,j⟩
  refine w_<|ic ((p1.length:Int)) ((p1.length:Int))<|BY<|TJ qC<|Te ?_
  exact⟨rfl,j.sp 15 [0,1,2,3,4,5,6,7,8,9,10,11,12,13,14]⟩
 ·rintro hm ak a7 fl _ w hk⟨O,rfl,j⟩o
  refine w_<|ic ((ak:Int)) ((p1.length:Int))<|BY<|TI (qB hk)<|Ta<|Tn<|mv (vi ak) ?_
  obtain⟨bq,cj,o⟩:=bd o
  refine S7 0 j wu cj λc5 j=>Tf 0 bq j sV λc6 j=>TC j PW.z λbr w j=>?_
  refine aP (vi ak)<|Tx 0 j 1 zr sV λw j=>?_
  refine AI<|TT<|S6 ?_
  obtain⟨bh,hj,o⟩:=bd o
  refine Tg (λ(bh:Bool)=>SH E V [(1,v1),(2,vp ah 0),(6,vp aj 0),(8,vi ak),(9,vp br 0),(21,v1),(22,vi p1.length),(23,vi ak),(28,vb bh)] [rd v1 p1,bx 27 ah p0,bc 108 aj [ao,aq,ar,au,av,aw,ax,ay,az,a0,a1,a2],rd ao aa.1,rd aq aa.2.1,rd ar aa.2.2.1,rd au aa.2.2.2.1,own 137 av aa.2.2.2.2.1,rd aw aa.2.2.2.2.2.1,rd ax aa.2.2.2.2.2.2.1,own 172 ay aa.2.2.2.2.2.2.2.1,rd az aa.2.2.2.2.2.2.2.2.1,rd a0 aa.2.2.2.2.2.2.2.2.2.1,own 3 a1 aa.2.2.2.2.2.2.2.2.2.2.1,own 47 a2 aa.2.2.2.2.2.2.2.2.2.2.2,bx 62 br bq]) bh ?_ ?_
  ·refine IT<|S3 (f:=(λx=>x)) 4 j zr Fd.self lC λck j=>By zr pF<|S3 1 j zr jR nT λcl j=>?_
   obtain⟨bt,cm,hj⟩:=bd hj
   refine IN zt zr Gi [ck,cl] zr<|aF (iQ N (i0:=1) (i1:=0) j zr zr cm) ?_
   rintro _ w⟨rfl,j⟩
   refine ic bt 0<|mv (vb<|decide<|bt<0)<|fI hj (λan hj=>?_) λan hj=>?_
   ·refine bO an<|bO an<|bO an<|bO an<|bO an<|fH an (vb true)<|aP (vb true)<|AS ?_
    obtain rfl:=oi hj
    exact⟨rfl,j.sp 20 [5,6,7,8,9,10,11,12,13,14,15,16,17,18,19,2]⟩
   refine S3 (hg:=cg an) (f:=(λx=>x)) 6 j zr Fd.self lC λcn j=>By (hg:=cg an) zr qW<|S3 (hg:=cg an) 3 j zr k7 nT λcp j=>?_
   obtain⟨bj,cq,hj⟩:=bd hj
   refine IN (cg an) zr Gi [cn,cp] zr<|aF (iQ N (i0:=1) (i1:=0) j zr zr cq) ?_
   rintro _ w⟨rfl,j⟩
   refine TR bj 0 (cg an)<|fH an (vb<|decide<|bj<0)<|aP (vb<|decide<|bj<0)<|AS ?_
   obtain rfl:=oi hj
   exact⟨rfl,j.sp 22 [7,8,9,10,11,12,13,14,15,16,17,18,19,20,21,4]⟩
  rintro _ w⟨O,rfl,j⟩
  refine aG<|dR o (λhc o=>?_) λhc o=>?_
  ·refine w_<|aP (.pointer none)<|aP (vi 9)<|AI<|TL<|jW<|bQ ?_
   obtain rfl:=oi o
   exact⟨rfl,l3 ⟨rfl,j.drop 16⟩⟩
  refine w_<|By zr qW<|S3 15 j zr k7 nT λcr j=>By zr pF<|S3 16 j zr jR nT λct j=>?_
  obtain⟨bu,cu,o⟩:=bd o
  refine IN zt zr Jq [cr,ct] zr<|aF (gW N (i0:=1) (i1:=0) j zr zr cu) ?_
  rintro _ w⟨rfl,j⟩
  refine ic bu 0<|aP (vb<|decide<|bu<=0)<|AI<|dR o (λhc o=>?_) λhc o=>?_
  ·refine w_<|aP (.pointer none)<|aP (vi 8)<|AI<|TL<|jW<|bQ ?_
   obtain rfl:=oi o
   exact⟨rfl,l3 ⟨rfl,j.drop 18⟩⟩
  refine S6 ?_
  obtain⟨bk,hj,o⟩:=bd o
  refine Tg (λ(bk:Bool)=>SH E V [(1,v1),(2,vp ah 0),(6,vp aj 0),(21,v1),(22,vi p1.length),(23,vi ak),(48,vb bk)] [rd v1 p1,bx 27 ah p0,bc 108 aj [ao,aq,ar,au,av,aw,ax,ay,az,a0,a1,a2],rd ao aa.1,rd aq aa.2.1,rd ar aa.2.2.1,rd au aa.2.2.2.1,own 137 av aa.2.2.2.2.1,rd aw aa.2.2.2.2.2.1,rd ax aa.2.2.2.2.2.2.1,own 172 ay aa.2.2.2.2.2.2.2.1,rd az aa.2.2.2.2.2.2.2.2.1,rd a0 aa.2.2.2.2.2.2.2.2.2.1,own 3 a1 aa.2.2.2.2.2.2.2.2.2.2.1,own 47 a2 aa.2.2.2.2.2.2.2.2.2.2.2]) bk ?_ ?_
  ·refine TU mixed [0,0,0,0,0,0,0,0,0,2,0,0,0] [0,1,2,3,4,5,6,7,8,9,10,11,12] ?_
   have j:=j.drew
   refine Th zr<|mv (vi ak)<|bJ zr<|ic ((ak:Int)) 0<|bJ zr<|mv (vb<|decide<|(ak:Int)>0)<|Tj<|fI hj (λaf hj=>?_) λaf hj=>?_
   rotate_left
   ·refine Th zr<|bO af<|bJ zr<|bO af<|bJ zr<|bO af<|bJ zr<|bO af<|bJ zr ?_
    refine bO af<|bJ zr<|bO af<|qG zr<|bO af<|uW zr<|bO af<|bJ zr<|fH af (vb false) ?_
    refine bJ zr<|aP (vb false)<|Tj<|TA ?_
    obtain rfl:=oi hj
    exact⟨rfl,j.sp 18 [2,3,4,5,6,7,8,9,10,11,12,13,14,15,16]⟩
   refine Th zr<|S3 (hg:=cg af) (f:=(λx=>x)) 17 j zr Fd.self sV λcv j=>bJ zr<|Tc v1 (cg af)<|bJ zr<|Tc (vi ak) (cg af)<|bJ zr<|S5 (hg:=cg af) (ak:Int) 1<|bJ zr ?_
   obtain⟨cw,cx,hj⟩:=bd hj
   refine S7 (hg:=cg af) 3 j wu cx λc7 j=>bJ zr<|Tf (hg:=cg af) 0 cw j sV λcy j=>qG zr ?_
   obtain⟨bl,cz,hj⟩:=bd hj
   refine IN (cg af) zr Nd [cv,cy] zr<|aF (pZ N (i0:=2) (i1:=0) j zr zr cz) ?_
   rintro _ w⟨rfl,j⟩
   refine uW zr<|TR bl 0 (cg af)<|bJ zr<|fH af (vb<|decide<|bl<=0)<|bJ zr<|aP (vb<|decide<|bl<=0)<|Tj<|TA ?_
   obtain rfl:=oi hj
   exact⟨rfl,j.sp 21 [5,6,7,8,9,10,11,12,13,14,15,16,17,18,19]⟩
  rintro _ w⟨O,rfl,j⟩
  refine aG<|dR o (λhc o=>?_) λhc o=>?_
  rotate_left
  ·refine Tw<|bR<|bR<|aG<|IT<|TF hk hm<|mv (vi ((ak+1:Nat):Int))<|AS ?_
   obtain rfl:=oi o
   exact⟨rfl,j.sp 15 [0,1,2,3,4,5,6,7,8,9,10,11,12,13,14]⟩
  refine w_<|aP (.pointer none)<|aP (vi 8)<|AI<|TL<|jW<|bQ ?_
  obtain rfl:=oi o
  exact⟨rfl,l3 ⟨rfl,j.drop 15⟩⟩
 ·intro r U w e hK
  subst e
  refine bQ ?_
  obtain rfl:=oi o
  exact hK
 rintro a7 _ w rfl⟨O,rfl,j⟩
 rw[Fo.dN]at o
 refine aG<|w_<|mv (vp aj 0)<|aP (vp aj 0)<|aP (vi 0)<|AI<|Tb ?_
 obtain rfl:=oi o
 exact l3 ⟨aj,ao,aq,ar,au,av,aw,ax,ay,az,a0,a1,a2,zr,j.pk 15 [2,3,4,5,6,7,8,9,10,11,12,13,14]⟩
theorem xY{p0:fE}{p1:List Test}(j:Holds E w V)(h0:V[i0]? =some (rd v0 p0))(h1:V[i1]? =some (rd v1 p1))(hb:gR N p0 p1=some res):
    c_ 42 [v0,v1] w<|aR E V res:=by
 unfold gR at hb
 refine enter Tryz.func42 zr zr ?_
 have j:=(j.dup (i0+0) h0).dup (i1+1) h1
 refine w_<|Tm 1 v0 j zr λag w j=>?_
 refine aP (vi 0)<|OF<|S3 (f:=(λx=>x)) 0 j zr Fd.self lC λae j=>mv v1 ?_
 obtain⟨o,af,hb⟩:=bd hb
 refine IN zt zr RH [ae,v1] zr<|aF (Dw N (i0:=0) (i1:=2) j zr zr af) ?_
 rintro _ w hK49
 rcases ab:o.1 with _|ah
 ·replace hb:=NX ab hb
  obtain⟨rfl,j⟩:=Kr ab hK49
  refine mv (.tuple #[(.pointer none),vi o.2])<|TK (.pointer none)<|TK (vi o.2)<|aP (.pointer none)<|aP (vi o.2)<|OF<|mv (vi o.2)<|aP (vi o.2)<|AI ?_
  refine Tb ?_
  obtain rfl:=oi hb
  exact cC ⟨rfl,j.drop 4⟩
 replace hb:=NY ab hb
 obtain⟨ad,ai,aj,ak,al,an,ao,aq,ar,au,av,aw,ax,rfl,j⟩:=Ks ab hK49
 refine mv (.tuple #[vp ad 0,vi o.2])<|TK (vp ad 0)<|TK (vi o.2)<|aP (vp ad 0)<|aP (vi o.2)<|OF<|mv (vi o.2)<|aP (vi o.2)<|AI ?_
 refine Tb ?_
 obtain rfl:=oi hb
 exact cC ⟨rfl,j.drop 17⟩
theorem oS{res:Bool}(o:Holds E w V)(j:ln N p0 p1 p2=some res):c_ 43 [vi p0,vi p1,vi p2] w<|aX E V res:=by
 unfold ln at j;refine enter Tryz.func43 zr zr<|w_<|aP (vb false)<|OF<|mv (vi p0)<|mv (vi p1)<|ic p0 p1<|mv (vb<|decide<|p0>=p1)<|IS true (decide<|p0>=p1) (vi p0) zr zr zr cJ ?_;refine IS true (decide<|p0>=p1) (vi p2) rfl rfl rfl cJ<|IS true (decide<|p0>=p1) (vb<|decide<|p0<=p2) rfl rfl rfl (dE .leq .i64 p0 p2 rfl (by exact z_ (vi p0)) (by exact z_ (vi p2)) rfl)<|Tu (decide<|p0>=p1) (vb<|decide (p0>=p1)&&decide (p0<=p2)) (fR true)<|aP (vb<|decide (p0>=p1)&&decide (p0<=p2))<|AI<|Tb ?_;exact oi j▸cC ⟨rfl,o.drop 0⟩
theorem rm{p0:fE}{p1:List Test}(j:Holds E w V)(h0:V[i0]? =some (rd v0 p0))(h1:V[i1]? =some (rd v1 p1))(o:kr N p0 p1 p2 p3=some res):c_ 21 [v0,v1,vi p2,vi p3] w<|aR E V res:=by
 unfold kr at o;refine enter Tryz.func21 zr zr ?_;have j:=(j.dup (i0+0) h0).dup (i1+1) h1;refine w_<|Tm 1 v0 j zr λan w j=>?_;refine aP (vi 0)<|BY<|w_<|S3 (f:=(λx=>x)) 0 j zr Fd.self lC λai j=>mv v1<|q_ o λad aj o=>IN zt zr RI [ai,v1] zr<|aF (xY N (i0:=0) (i1:=2) j zr zr aj) ?_;rintro _ w⟨rfl,j⟩;refine aP (vi ad)<|OF<|mv (vi ad)<|ic ad 0<|AI<|dR o (λhc o=>?_) λhc o=>?_;exact w_<|mv (vi ad)<|aP (vi ad)<|AI<|Tp<|oi o▸cC ⟨rfl,j.drop 4⟩;refine Ta<|S6<|q_ o λaf hj o=>Tg (λ(af:Bool)=>SH E V [(23,vb af)] []) af ?_ ?_;refine IT<|mv (vi p2)<|q_ hj λag ak hj=>IN zt zr L4 [vi p2,vi 1,vi 1000000] zr<|aF (oS N (p0:=p2) (p1:=1) (p2:=1000000) j ak) ?_;rintro _ w⟨rfl,j⟩;refine TH ag<|mv (vb<|!ag)<|fI hj (λab hj=>?_) λab hj=>?_;exact bO ab<|bO ab<|bO ab<|fH ab (vb true)<|AS<|oi hj▸⟨rfl,j.sp 4 []⟩;refine Tc (vi p3) (cg ab)<|q_ hj λah al hj=>IN (cg ab) zr L4 [vi p3,vi 0,vi 1000] zr<|aF (oS N (p0:=p3) (p1:=0) (p2:=1000) j al) ?_;rintro _ w⟨rfl,j⟩;exact TH (hg:=cg ab) ah<|fH ab (vb<|!ah)<|AS<|oi hj▸⟨rfl,j.sp 4 []⟩;rintro _ w⟨O,rfl,j⟩;refine aG<|dR o (λhc o=>?_) λhc o=>?_;exact w_<|aP (vi 1)<|AI<|Tp<|oi o▸cC ⟨rfl,j.drop 0⟩;exact TV<|aP (vi 0)<|AI<|Tb<|oi o▸cC ⟨rfl,j.drop 0⟩
def EV(E:World)(V:List HP)(res:bT)(v:Value)(w:World):Prop:=Holds E w<|[rd v res]++V
theorem kn{p0:fE}{p1:Test}{p2:Bool}{res:bT}(j:Holds E w V)(h0:V[i0]? =some (rd v0 p0))(h1:V[i1]? =some (rd v1 p1))(hb:i9 N p0 p1 p2=some res):
    c_ 22 [v0,v1,vb p2] w<|EV E V res:=by
 unfold i9 at hb
 refine enter Tryz.func22 zr zr ?_
 have j:=(j.dup (i0+0) h0).dup (i1+1) h1
 refine w_<|Tm 1 v0 j zr λa4 w j=>?_
 refine Tm 1 v1 j zr λa5 w j=>?_
 refine TC j RK.z λa6 w j=>?_
 refine BY ?_
 obtain⟨a9,ba,hb⟩:=bd hb
 obtain⟨a0,bb,hb⟩:=bd hb
 obtain⟨bc,bf,hb⟩:=bd hb
 obtain⟨a1,bg,hb⟩:=bd hb
 refine T7 E V mixed [1,0,0,1,0,0,0,0,0,1,0,0,1,0,0,0,0,0,0,0,0,0] [1,2,4,6,7,8,10,11,13,15,16,17,18,19,20,21] (λ(x:Value×Value×Value×Value×Value×Value×Value×Value×Value×Value×Value×Value×Nat×Nat)=>(λaj af ag ak al an ao ah ai aq ar au ab ad=>[(0,9,vp a4 3),(1,10,aj),(2,11,af),(3,12,vp a5 0),(4,13,ag),(5,14,vi a9),(6,15,ak),(7,16,al),(8,17,an),(9,18,vp a4 3),(10,19,ao),(11,20,ah),(12,21,vp a5 2),(13,22,ai),(14,23,vi bc),(15,24,aq),(16,25,ar),(17,26,au),(18,7,vp ab 0),(19,8,vp ad 0)]) x.1 x.2.1 x.2.2.1 x.2.2.2.1 x.2.2.2.2.1 x.2.2.2.2.2.1 x.2.2.2.2.2.2.1 x.2.2.2.2.2.2.2.1 x.2.2.2.2.2.2.2.2.1 x.2.2.2.2.2.2.2.2.2.1 x.2.2.2.2.2.2.2.2.2.2.1 x.2.2.2.2.2.2.2.2.2.2.2.1 x.2.2.2.2.2.2.2.2.2.2.2.2.1 x.2.2.2.2.2.2.2.2.2.2.2.2.2) [(2,vb p2),(3,vp a4 0),(4,vp a5 0),(6,vp a6 0)] [] (λ(D:Nat->Bool)(x:Value×Value×Value×Value×Value×Value×Value×Value×Value×Value×Value×Value×Nat×Nat)=>(λaj af ag ak al an ao ah ai aq ar au ab ad=>[bif D 0 then rd aj p0.bN else aJ,bif D 1 then rd af p0 else aJ,bif D 2 then rd ag p1.A else aJ,bif D 3 then pt ak a0 else aJ,bif D 4 then pt al a0.At else aJ,bif D 5 then rd an a0.At else aJ,bif D 6 then rd ao p0.bN else aJ,bif D 7 then rd ah p0 else aJ,bif D 8 then rd ai p1.B else aJ,bif D 9 then pt aq a1 else aJ,bif D 10 then pt ar a1.At else aJ,bif D 11 then rd au a1.At else aJ,bif D 14 then bx 57 ab a0.At else(bif D 12 then raw 57 ab 2 else aJ),bif D 15 then bx 57 ad a1.At else(bif D 13 then raw 57 ad 2 else aJ),raw 59 a6 4,bx 62 a5 p1,bx 27 a4 p0,rd v1 p1,rd v0 p0]) x.1 x.2.1 x.2.2.1 x.2.2.2.1 x.2.2.2.2.1 x.2.2.2.2.2.1 x.2.2.2.2.2.2.1 x.2.2.2.2.2.2.2.1 x.2.2.2.2.2.2.2.2.1 x.2.2.2.2.2.2.2.2.2.1 x.2.2.2.2.2.2.2.2.2.2.1 x.2.2.2.2.2.2.2.2.2.2.2.1 x.2.2.2.2.2.2.2.2.2.2.2.2.1 x.2.2.2.2.2.2.2.2.2.2.2.2.2) (λx=>by kernel_rfl) ?_ ⟨λ_=>nu gn nv,?_,?_,λ_=>nu gn pF,?_,?_,?_,?_,?_,λ_=>nu gn nv,?_,?_,λ_=>nu gn qW,?_,?_,?_,?_,?_,?_,?_,?_,?_,trivial⟩ ?_
 ·have j:=((((((((((((j.drew).aJ).aJ).aJ).aJ).aJ).aJ).aJ).aJ).aJ).aJ).aJ).aJ
  have j:=(j.aJ).aJ
  exact⟨(undef,undef,undef,undef,undef,undef,undef,undef,undef,undef,undef,undef,0,0),eR.none,A3 zr,zt,j⟩
 ·rintro D U w hD aa aw⟨⟨aj,af,ag,ak,al,an,ao,ah,ai,aq,ar,au,ab,ad⟩,o,ha,_,j⟩
  dsimp only at o j
  obtain⟨O,rfl⟩:=(ac (o.at 0 rfl<|aa.1 rfl) az).cY
  have j:=j.bI 0 hD
  refine S3 16 j zr ka wo λbh j=>?_
  have j:=(j.pl 20 [0,2,3,4,5,6,7,8,9,10,11,12,13,14,15,16,17,18,19]).bB 0 true rfl aJ
  exact AS ⟨rfl,(bh,af,ag,ak,al,an,ao,ah,ai,aq,ar,au,ab,ad),o.pu 1,ha.u,zt,j⟩
 ·rintro D U w hD aa aw⟨⟨aj,af,ag,ak,al,an,ao,ah,ai,aq,ar,au,ab,ad⟩,o,ha,_,j⟩
  dsimp only at o j
  obtain⟨O,rfl⟩:=(ac (ha.at 1 rfl) az).cY
  have j:=j.bI 1 hD
  refine S3 (f:=(λx=>x)) 16 j zr Fd.self lC λbj j=>?_
  have j:=(j.pl 20 [1,0,3,4,5,6,7,8,9,10,11,12,13,14,15,16,17,18,19]).bB 1 true rfl aJ
  exact AS ⟨rfl,(aj,bj,ag,ak,al,an,ao,ah,ai,aq,ar,au,ab,ad),o.pu 2,ha.u,zt,j⟩
 ·rintro D U w hD aa aw⟨⟨aj,af,ag,ak,al,an,ao,ah,ai,aq,ar,au,ab,ad⟩,o,ha,_,j⟩
  dsimp only at o j
  obtain⟨O,rfl⟩:=(ac (o.at 3 rfl<|aa.1 rfl) az).cY
  have j:=j.bI 2 hD
  refine S3 15 j zr jR nT λbk j=>?_
  have j:=(j.pl 20 [1,2,0,4,5,6,7,8,9,10,11,12,13,14,15,16,17,18,19]).bB 2 true rfl aJ
  exact AS ⟨rfl,(aj,af,bk,ak,al,an,ao,ah,ai,aq,ar,au,ab,ad),o.pu 4,ha.u,zt,j⟩
 ·rintro D U w hD aa aw⟨⟨aj,af,ag,ak,al,an,ao,ah,ai,aq,ar,au,ab,ad⟩,o,ha,_,j⟩
  dsimp only at o j
  obtain⟨O,rfl⟩:=(ac (o.at 2 rfl<|aa.1 rfl)<|ac (o.at 4 rfl<|aa.2.1 rfl) az).cY
  have j:=(j.cK 1<|aa.1 rfl).cK 2<|aa.2.1 rfl
  refine IN zt zr Gi [af,ag] zr<|aF (iQ N (i0:=1) (i1:=2) j zr zr ba) ?_
  rintro _ w⟨rfl,j⟩
  have j:=(j.bB 1 (D 2) (aa.1 rfl) aJ).bB 2 (D 4) (aa.2.1 rfl) aJ
  exact AS ⟨rfl,(aj,af,ag,ak,al,an,ao,ah,ai,aq,ar,au,ab,ad),o.pu 5,ha.u,zt,j⟩
 ·rintro D U w hD aa aw⟨⟨aj,af,ag,ak,al,an,ao,ah,ai,aq,ar,au,ab,ad⟩,o,ha,_,j⟩
  dsimp only at o j
  obtain⟨O,rfl⟩:=(ac (o.at 1 rfl<|aa.1 rfl)<|ac (o.at 5 rfl<|aa.2.1 rfl) az).cY
  have j:=(j.cK 0<|aa.1 rfl).bI 3 hD
  refine S7 0 j zo bb λbl j=>?_
  have j:=((j.pl 20 [1,2,3,0,5,6,7,8,9,10,11,12,13,14,15,16,17,18,19]).bB 0 (D 1) (aa.1 rfl) aJ).bB 3 true rfl aJ
  exact AS ⟨rfl,(aj,af,ag,bl,al,an,ao,ah,ai,aq,ar,au,ab,ad),o.pu 6,ha.u,zt,j⟩
 ·rintro D U w hD aa aw⟨⟨aj,af,ag,ak,al,an,ao,ah,ai,aq,ar,au,ab,ad⟩,o,ha,_,j⟩
  dsimp only at o j
  obtain⟨O,rfl⟩:=(ac (o.at 6 rfl<|aa.1 rfl) az).cY
  have j:=(j.cK 3<|aa.1 rfl).bI 4 hD
  refine Tt 3 j zr wt o7 λbm j=>?_
  have j:=((j.pl 20 [1,2,3,4,0,6,7,8,9,10,11,12,13,14,15,16,17,18,19]).bB 3 (D 6) (aa.1 rfl) aJ).bB 4 true rfl aJ
  exact AS ⟨rfl,(aj,af,ag,ak,bm,an,ao,ah,ai,aq,ar,au,ab,ad),o.pu 7,ha.u,zt,j⟩
 ·rintro D U w hD aa aw⟨⟨aj,af,ag,ak,al,an,ao,ah,ai,aq,ar,au,ab,ad⟩,o,ha,_,j⟩
  dsimp only at o j
  obtain⟨O,rfl⟩:=(ac (o.at 7 rfl<|aa.1 rfl) az).cY
  have j:=(j.cK 4<|aa.1 rfl).bI 5 hD
  refine Tf 4 a0.At j jD λbn j=>?_
  have j:=((j.pl 20 [1,2,3,4,5,0,7,8,9,10,11,12,13,14,15,16,17,18,19]).bB 4 (D 7) (aa.1 rfl) aJ).bB 5 true rfl aJ
  exact AS ⟨rfl,(aj,af,ag,ak,al,bn,ao,ah,ai,aq,ar,au,ab,ad),o.pu 8,ha.u,zt,j⟩
 ·rintro D U w hD aa aw⟨⟨aj,af,ag,ak,al,an,ao,ah,ai,aq,ar,au,ab,ad⟩,o,ha,_,j⟩
  dsimp only at o j
  obtain⟨O,rfl⟩:=(ac (o.at 9 rfl<|aa.1 rfl) az).cY
  have j:=j.bI 6 hD
  refine S3 16 j zr ka wo λbo j=>?_
  have j:=(j.pl 20 [1,2,3,4,5,6,0,8,9,10,11,12,13,14,15,16,17,18,19]).bB 6 true rfl aJ
  exact AS ⟨rfl,(aj,af,ag,ak,al,an,bo,ah,ai,aq,ar,au,ab,ad),o.pu 10,ha.u,zt,j⟩
 ·rintro D U w hD aa aw⟨⟨aj,af,ag,ak,al,an,ao,ah,ai,aq,ar,au,ab,ad⟩,o,ha,_,j⟩
  dsimp only at o j
  obtain⟨O,rfl⟩:=(ac (ha.at 1 rfl) az).cY
  have j:=j.bI 7 hD
  refine S3 (f:=(λx=>x)) 16 j zr Fd.self lC λbp j=>?_
  have j:=(j.pl 20 [1,2,3,4,5,6,7,0,9,10,11,12,13,14,15,16,17,18,19]).bB 7 true rfl aJ
  exact AS ⟨rfl,(aj,af,ag,ak,al,an,ao,bp,ai,aq,ar,au,ab,ad),o.pu 11,ha.u,zt,j⟩
 ·rintro D U w hD aa aw⟨⟨aj,af,ag,ak,al,an,ao,ah,ai,aq,ar,au,ab,ad⟩,o,ha,_,j⟩
  dsimp only at o j
  obtain⟨O,rfl⟩:=(ac (o.at 12 rfl<|aa.1 rfl) az).cY
  have j:=j.bI 8 hD
  refine S3 15 j zr k7 nT λbq j=>?_
  have j:=(j.pl 20 [1,2,3,4,5,6,7,8,0,10,11,12,13,14,15,16,17,18,19]).bB 8 true rfl aJ
  exact AS ⟨rfl,(aj,af,ag,ak,al,an,ao,ah,bq,aq,ar,au,ab,ad),o.pu 13,ha.u,zt,j⟩
 ·rintro D U w hD aa aw⟨⟨aj,af,ag,ak,al,an,ao,ah,ai,aq,ar,au,ab,ad⟩,o,ha,_,j⟩
  dsimp only at o j
  obtain⟨O,rfl⟩:=(ac (o.at 11 rfl<|aa.1 rfl)<|ac (o.at 13 rfl<|aa.2.1 rfl) az).cY
  have j:=(j.cK 7<|aa.1 rfl).cK 8<|aa.2.1 rfl
  refine IN zt zr Gi [ah,ai] zr<|aF (iQ N (i0:=7) (i1:=8) j zr zr bf) ?_
  rintro _ w⟨rfl,j⟩
  have j:=(j.bB 7 (D 11) (aa.1 rfl) aJ).bB 8 (D 13) (aa.2.1 rfl) aJ
  exact AS ⟨rfl,(aj,af,ag,ak,al,an,ao,ah,ai,aq,ar,au,ab,ad),o.pu 14,ha.u,zt,j⟩
 ·rintro D U w hD aa aw⟨⟨aj,af,ag,ak,al,an,ao,ah,ai,aq,ar,au,ab,ad⟩,o,ha,_,j⟩
  dsimp only at o j
  obtain⟨O,rfl⟩:=(ac (o.at 10 rfl<|aa.1 rfl)<|ac (o.at 14 rfl<|aa.2.1 rfl) az).cY
  have j:=(j.cK 6<|aa.1 rfl).bI 9 hD
  refine S7 6 j zo bg λbr j=>?_
  have j:=((j.pl 20 [1,2,3,4,5,6,7,8,9,0,11,12,13,14,15,16,17,18,19]).bB 6 (D 10) (aa.1 rfl) aJ).bB 9 true rfl aJ
  exact AS ⟨rfl,(aj,af,ag,ak,al,an,ao,ah,ai,br,ar,au,ab,ad),o.pu 15,ha.u,zt,j⟩
 ·rintro D U w hD aa aw⟨⟨aj,af,ag,ak,al,an,ao,ah,ai,aq,ar,au,ab,ad⟩,o,ha,_,j⟩
  dsimp only at o j
  obtain⟨O,rfl⟩:=(ac (o.at 15 rfl<|aa.1 rfl) az).cY
  have j:=(j.cK 9<|aa.1 rfl).bI 10 hD
  refine Tt 9 j zr wt o7 λbs j=>?_
  have j:=((j.pl 20 [1,2,3,4,5,6,7,8,9,10,0,12,13,14,15,16,17,18,19]).bB 9 (D 15) (aa.1 rfl) aJ).bB 10 true rfl aJ
  exact AS ⟨rfl,(aj,af,ag,ak,al,an,ao,ah,ai,aq,bs,au,ab,ad),o.pu 16,ha.u,zt,j⟩
 ·rintro D U w hD aa aw⟨⟨aj,af,ag,ak,al,an,ao,ah,ai,aq,ar,au,ab,ad⟩,o,ha,_,j⟩
  dsimp only at o j
  obtain⟨O,rfl⟩:=(ac (o.at 16 rfl<|aa.1 rfl) az).cY
  have j:=(j.cK 10<|aa.1 rfl).bI 11 hD
  refine Tf 10 a1.At j jD λbt j=>?_
  have j:=((j.pl 20 [1,2,3,4,5,6,7,8,9,10,11,0,13,14,15,16,17,18,19]).bB 10 (D 16) (aa.1 rfl) aJ).bB 11 true rfl aJ
  exact AS ⟨rfl,(aj,af,ag,ak,al,an,ao,ah,ai,aq,ar,bt,ab,ad),o.pu 17,ha.u,zt,j⟩
 ·rintro D U w hD aa aw⟨⟨aj,af,ag,ak,al,an,ao,ah,ai,aq,ar,au,ab,ad⟩,o,ha,_,j⟩
  dsimp only at o j
  obtain⟨O,rfl⟩:=(az (U:=U)).cY
  have j:=(j.bI 12<|nh aw hD 20).bI 12 hD
  refine TC j Hy.z λa7 w j=>?_
  have j:=((j.pl 20 [1,2,3,4,5,6,7,8,9,10,11,12,0,14,15,16,17,18,19]).bB 12 true rfl aJ).fM 12 (D 20) (nh aw hD 20)<|bx 57 a7 a0.At
  exact AS ⟨rfl,(aj,af,ag,ak,al,an,ao,ah,ai,aq,ar,au,a7,ad),o.pu 18,ha.u,zt,j⟩
 ·rintro D U w hD aa aw⟨⟨aj,af,ag,ak,al,an,ao,ah,ai,aq,ar,au,ab,ad⟩,o,ha,_,j⟩
  dsimp only at o j
  obtain⟨O,rfl⟩:=(az (U:=U)).cY
  have j:=(j.bI 13<|nh aw hD 21).bI 13 hD
  refine TC j Hy.z λa8 w j=>?_
  have j:=((j.pl 20 [1,2,3,4,5,6,7,8,9,10,11,12,13,0,15,16,17,18,19]).bB 13 true rfl aJ).fM 13 (D 21) (nh aw hD 21)<|bx 57 a8 a1.At
  exact AS ⟨rfl,(aj,af,ag,ak,al,an,ao,ah,ai,aq,ar,au,ab,a8),o.pu 19,ha.u,zt,j⟩
 ·rintro D U w hD aa aw⟨⟨aj,af,ag,ak,al,an,ao,ah,ai,aq,ar,au,ab,ad⟩,o,ha,_,j⟩
  dsimp only at o j
  obtain⟨O,rfl⟩:=(ac (o.at 8 rfl<|aa.2.1 rfl)<|ac (o.at 18 rfl<|aa.1 rfl) az).cY
  have j:=((j.cK 5<|aa.2.1 rfl).bI 12 hD).cK 12<|aa.1 rfl
  refine Tx 12 j 5 zr jD λw j=>?_
  have j:=(j.bB 5 (D 8) (aa.2.1 rfl) aJ).bB 12 true rfl (bif D 18 then raw 57 ab 2 else aJ)
  exact AS ⟨rfl,(aj,af,ag,ak,al,an,ao,ah,ai,aq,ar,au,ab,ad),o.n1,ha,zt,j⟩
 ·rintro D U w hD aa aw⟨⟨aj,af,ag,ak,al,an,ao,ah,ai,aq,ar,au,ab,ad⟩,o,ha,_,j⟩
  dsimp only at o j
  obtain⟨O,rfl⟩:=(ac (o.at 17 rfl<|aa.2.1 rfl)<|ac (o.at 19 rfl<|aa.1 rfl) az).cY
  have j:=((j.cK 11<|aa.2.1 rfl).bI 13 hD).cK 13<|aa.1 rfl
  refine Tx 13 j 11 zr jD λw j=>?_
  have j:=(j.bB 11 (D 17) (aa.2.1 rfl) aJ).bB 13 true rfl (bif D 19 then raw 57 ad 2 else aJ)
  exact AS ⟨rfl,(aj,af,ag,ak,al,an,ao,ah,ai,aq,ar,au,ab,ad),o.n1,ha,zt,j⟩
 rintro D U w ax⟨⟨aj,af,ag,ak,al,an,ao,ah,ai,aq,ar,au,ab,ad⟩,o,ha,_,j⟩
 simp only[List.getD_cons_zero,List.getD_cons_succ,ax 1 (by decide),ax 2 (by decide),ax 4 (by decide),ax 6 (by decide),ax 7 (by decide),ax 8 (by decide),ax 10 (by decide),ax 11 (by decide),ax 13 (by decide),ax 15 (by decide),ax 16 (by decide),ax 17 (by decide),ax 20 (by decide),ax 21 (by decide),aQ]at j
 obtain⟨O,rfl⟩:=(ac (o.at 18 rfl<|pU ax 18)<|ac (o.at 19 rfl<|pU ax 19)<|ac (ha.at 0 rfl)<|ac (ha.at 1 rfl)<|ac (ha.at 2 rfl)<|ac (ha.at 3 rfl) az).cY
 refine aG<|S6<|w_<|mv (vb p2)<|AI ?_
 obtain⟨a2,hj,hb⟩:=bd hb
 refine Tg (λ(a2:bL×bL)=>SH E V [(6,vp a6 0),(7,vp ab 0),(8,vp ad 0)] [raw 59 a6 4,bx 57 ab a2.1,bx 57 ad a2.2]) a2 ?_ ?_
 ·refine dR hj (λhc hj=>?_) λhc hj=>?_
  rotate_left
  ·refine Tw ?_
   obtain rfl:=oi hj
   exact⟨rfl,j.sp 19 [14,12,13]⟩
  refine IT<|S3 (f:=(λx=>x)) 13 j zr Fd.self jD λb0 j=>S3 (f:=(λx=>x)) 13 j zr Fd.self jD λb1 j=>Uj 14 j 1 zr jD λw j=>?_
  refine Uj 15 j 0 zr jD λw j=>?_
  refine AS ?_
  obtain rfl:=oi hj
  exact⟨rfl,j.sp 21 [16,14,15]⟩
 rintro _ w⟨O,rfl,j⟩
 refine aG<|w_<|S3 (f:=(λx=>x)) 1 j rfl Fd.self jD λbw j=>S3 (f:=(λx=>x)) 3 j rfl Fd.self jD λbz j=>Vc (⟨a2.1,a2.2⟩:bT) trivial rfl j [(0,bw),(1,bz)] rfl P3 rfl (λM hs g=>by have h:=tF M;exact cM.cons (f:=λ(x:bT)y=>{x with e0:=y}) h Aq (g.sat 1 _ rfl).1 λ_ h=>cM.cons (f:=λ(x:bT)y=>{x with e1:=y}) h As (g.sat 0 _ rfl).1 λ_ h=>cM.nil h) λb2 j=>?_
 refine Tx 3 j 0 zr Av λw j=>?_
 refine AI<|Tb ?_
 obtain rfl:=oi hb
 exact Ke 3 j Av λb3 j=>j.pk 7 [0]
theorem wK(o:Holds E w V)(j:o4 N p0 p1=some res):c_ 44 [vi p0,vi p1] w<|aR E V res:=by
 unfold o4 at j;refine enter Tryz.func44 zr zr<|w_<|aP (vi 0)<|OF<|mv (vi p0)<|mv (vi p1)<|S5 p0 p1<|mv (vi p1)<|mv (vi p0)<|S5 p1 p0<|Uo (wrap .i64<|p0 - p1) (wrap .i64<|p1 - p0)<|aP (vi (if wrap .i64 (p0 - p1)<(wrap .i64<|p1 - p0)then wrap .i64 (p1 - p0)else wrap .i64 (p0 - p1)))<|AI<|Tb ?_;exact oi j▸cC ⟨rfl,o.drop 0⟩
theorem ox{p0 p1:bT}(j:Holds E w V)(h0:V[i0]? =some (rd v0 p0))(h1:V[i1]? =some (rd v1 p1))(hb:kI N p0 p1 p2=some res):c_ 23 [v0,v1,vi p2] w<|aR E V res:=by
 unfold kI at hb;refine enter Tryz.func23 zr zr ?_;have j:=(j.dup (i0+0) h0).dup (i1+1) h1;refine w_<|Tm 1 v0 j zr λaq w j=>?_;refine Tm 1 v1 j zr λad w j=>?_;refine aP (vi 0)<|OF<|aP (vi 0)<|BY<|w_<|S3 (f:=(λx=>x)) 1 j zr Fd.self Av λaf j=>mv (vi 0)<|AI<|q_ hb λar hN hb=>TD (λ(o:Int×Int)=>SH E V [(2,vi p2),(4,vp ad 0),(7,vi o.1),(10,af),(11,vi o.2)] [bx 59 ad p1,rd af p0]) (λ(o:Int×Int)=>SH E V [(2,vi p2),(7,vi o.1)] [bx 59 ad p1,rd af p0]) (λ(r:Empty)_ _=>r.elim) hN ?_ ?_ ?_ ?_;exact j.sp 5 [1,0];rintro o fl _ w⟨O,rfl,j⟩hb;refine w_<|ic o.2 2<|BY<|dR hb (λhc hb=>?_) λhc hb=>?_;refine Ta<|Tn<|mv (vi o.2)<|q_ hb λaa ag hb=>Vt (i:=1) (f:=λ(x:bT)=>x.gt aa) zt zr j zr zr zr zr (L5.SF ag) (qV aa) jD λav j=>TC j Hy.z λai w j=>?_;refine aP (vi o.2)<|Tx 0 j 1 zr jD λw j=>?_;refine AI ?_;have j:=j.drew;refine Uy (λw=>Holds E w<|[bx 57 ai<|p0.gt aa,bx 59 ad p1]++V) mixed [1,0,0,0,0,0,0,2,1,1,1,1,1,1,2,0,0] [0,1,2,3,4,5,6,8,9,10,11,12,13,7,14,15,16] (j.pk 4 [0,2])<|Tr (vi o.1) zr (λw=>Tc (vi o.1) zt Tl)<|Th zr<|By zr n9<|bJ zr<|S4 0 j zr g9 cI<|bJ zr<|mv (vi o.2)<|bJ zr ?_;refine Vb zt zr zr zr (L5.at ag)<|bJ zr<|By zr n9<|bJ zr<|S4 (f:=(λx=>(x.gt aa).X)) 2 j zr (Fd.comp (f:=λ(x:bT)=>x.gt aa) (λ(x:bL)=>x.X) (qV aa) g9) cI<|Tj<|Tr (vp ai 1) zr (λw=>By zr oc Tl)<|Uu (vi (p0.gt aa).Y) zr (λw j=>S4 0 j zr hG cI Tl)<|Tr (vi o.2) zr (λw=>Tc (vi o.2) zt Tl)<|Tr (vp ad<|aa.val*2) zr (λw=>Vb zt zr zr zr (L5.at ag) Tl)<|Tr (vp ad<|(aa.val*2)+1) zr (λw=>By zr oc Tl)<|Uu (vi (p1.gt aa).Y) zr (λw j=>S4 (f:=(λx=>(x.gt aa).Y)) 1 j zr (Fd.comp (f:=λ(x:bT)=>x.gt aa) (λ(x:bL)=>x.Y) (qV aa) hG) cI Tl)<|TO zr ?_;refine q_ hb λae al hb=>IN zt zr P4 [vi (p0.gt aa).X,vi (p1.gt aa).X] zr<|aF (wK N (p0:=(p0.gt aa).X) (p1:=(p1.gt aa).X) j al) ?_;rintro _ w⟨rfl,j⟩;refine TB (j.pk 4 [0,2])<|TO zr<|q_ hb λah an hb=>IN zt zr P4 [vi (p0.gt aa).Y,vi (p1.gt aa).Y] zr<|aF (wK N (p0:=(p0.gt aa).Y) (p1:=(p1.gt aa).Y) j an) ?_;rintro _ w⟨rfl,j⟩;refine TB (j.pk 4 [0,2])<|Th zr<|Vd o.1 ae ah zt zr zr zr zr<|bJ zr<|aP (vi (if(if o.1<ae then ae else o.1)<ah then ah else(if o.1<ae then ae else o.1)))<|Tj<|TA<|bR<|aG<|IT<|S5 o.2 1<|mv (vi<|wrap .i64<|o.2+1)<|AS ?_;exact oi hb▸⟨rfl,j.sp 4 [2,3]⟩;exact Te<|oi hb▸⟨rfl,j.sp 2 [0,1]⟩;intro r _ _ _ _;exact r.elim;rintro o _ w rfl⟨O,rfl,j⟩;rw[Fo.dN]at hb;refine aG<|w_<|mv (vi o.1)<|mv (vi p2)<|S5 o.1 p2<|S5 (wrap .i64<|o.1+p2) 1<|mv (vi p2)<|q_ hb λaw ao hb=>Us (wrap .i64<|wrap .i64 (o.1+p2) - 1) p2 (St ao)<|aP (vi<|wrap .i64<|Int.tdiv (wrap .i64<|wrap .i64 (o.1+p2) - 1) p2)<|AI<|Tb ?_;exact oi hb▸cC ⟨rfl,j.drop 2⟩
theorem Ct{p0:fE}{p1:List Test}{res:List Touch×Int}(j:Holds E w V)(h0:V[i0]? =some (rd v0 p0))(h1:V[i1]? =some (rd v1 p1))(hb:nn N p0 p1 p2 p3=some res):c_ 6 [v0,v1,vi p2,vi p3] w<|qx E V res:=by
 unfold nn at hb;refine enter Tryz.func6 zr zr ?_;have j:=(j.dup (i0+0) h0).dup (i1+1) h1;refine w_<|Tm 1 v0 j zr λak w j=>?_;refine aP n_<|aP (vi 0)<|BY<|w_<|S3 (f:=(λx=>x)) 0 j zr Fd.self lC λcu j=>mv v1<|mv (vi p2)<|mv (vi p3)<|q_ hb λb4 cv hb=>IN zt zr PY [cu,v1,vi p2,vi p3] zr<|aF (rm N (p2:=p2) (p3:=p3) (i0:=0) (i1:=2) j zr zr cv) ?_;rintro _ w⟨rfl,j⟩;refine aP (vi b4)<|OF<|mv (vi b4)<|ic b4 0<|AI<|dR hb (λhc hb=>?_) λhc hb=>?_;refine w_<|mv (vi b4)<|aP n_<|aP (vi b4)<|AI<|Tp ?_;obtain rfl:=oi hb;have j:=j.dB Touch 35;exact l3 ⟨n_,zr,j.pk 5 [0]⟩;refine TV ?_;have j:=(j.sc Bool false).sc Bool true;refine TN ([false,true]:List Bool) j [vb false,vb true] Ds SK (λM hs g=>⟨(g.sat 1 _ zr).1,⟨(g.sat 0 _ zr).1,zt⟩⟩) λa2 w j=>aP a2<|OF<|mv v1<|S8 5 p1 j t8<|S5 (p1.length:Int) 1<|q_ hb λd9 cw hb=>Un (wrap .i64<|(p1.length:Int)+1) j PZ P0 cw λah w j=>?_;refine aP ah<|BY<|w_<|mv v1<|S8 6 p1 j t8<|S5 (p1.length:Int) 1<|aP (vi<|wrap .i64<|(p1.length:Int) - 1)<|AI ?_;refine q_ hb λea hN hb=>TD (λ(ag:List cB×Int)=>SH E V [(1,v1),(2,vi p2),(3,vi p3),(4,vp ak 0),(11,a2),(12,ah),(13,vi ag.2)] [rd v1 p1,bx 27 ak p0,own 4 a2 ([false,true]:List Bool),own 64 ah ag.1]) (λ(ag:List cB×Int)=>SH E V [(1,v1),(2,vi p2),(3,vi p3),(4,vp ak 0),(12,ah)] [rd v1 p1,bx 27 ak p0,own 4 a2 ([false,true]:List Bool),own 64 ah ag.1]) (λ(r:Empty)_ _=>r.elim) hN ?_ ?_ ?_ ?_;exact j.sp 8 [6,5,1,0];rintro ag fl _ w⟨O,rfl,j⟩hb;refine S6<|w_<|mv (vi ag.2)<|ic ag.2 0<|AI<|dR hb (λhc hb=>?_) λhc hb=>?_;refine Ta<|Tn<|mv a2<|T4 2 ([false,true]:List Bool) j RJ<|mv (vi 0)<|AI<|q_ hb λbq hN hb=>TX (λ(bk:Nat)(bq:List cB)=>SH E V [(1,v1),(2,vi p2),(3,vi p3),(4,vp ak 0),(11,a2),(12,ah),(13,vi ag.2),(47,a2),(48,vi ((([false,true]:List Bool).length:Nat):Int)),(49,vi bk)] [rd v1 p1,bx 27 ak p0,own 4 a2 ([false,true]:List Bool),own 64 ah bq]) (λ(bq:List cB)=>SH E V [(1,v1),(2,vi p2),(3,vi p3),(4,vp ak 0),(11,a2),(12,ah),(13,vi ag.2)] [rd v1 p1,bx 27 ak p0,own 4 a2 ([false,true]:List Bool),own 64 ah bq]) hN ?_ ?_ ?_ ?_;exact j.sp 4 [0,1,2,3];rintro hm bq _ w⟨O,rfl,j⟩;exact w_<|ic (((([false,true]:List Bool).length:Nat):Int)) (((([false,true]:List Bool).length:Nat):Int))<|BY<|TJ qC<|Te<|⟨rfl,j.sp 4 [0,1,2,3]⟩;rintro hm bk bq s' _ w hk⟨O,rfl,j⟩hb;refine w_<|ic ((bk:Int)) (((([false,true]:List Bool).length:Nat):Int))<|BY<|TI (qB hk)<|Ta<|Tn<|mv (vi bk)<|q_ hb λb8 cj hb=>Tk 2 j zr zr Ds cj<|TP (f:=(λx=>x)) 2 j (jl 2 j cj 0) (bD cj).2.1 Fd.self yu<|aP (vi bk)<|aP (vb b8)<|BY ?_;obtain⟨bw,cx,hb⟩:=bd hb;refine q_ hb λbp cy hb=>T7 E V mixed [0,1,1,1,0,0,1,0,0,0] [0,4,5,7,8,9] (λ(x:Value×Value×Value×Value×Nat)=>(λa3 a6 a4 a7 ay=>[(0,54,a3),(1,55,v1),(2,56,vi ag.2),(3,57,vi<|wrap .i64<|ag.2 - 1),(4,58,a6),(5,59,a4),(6,60,vb b8),(7,61,a7),(8,16,vp ay 0)]) x.1 x.2.1 x.2.2.1 x.2.2.2.1 x.2.2.2.2) [(1,v1),(2,vi p2),(3,vi p3),(4,vp ak 0),(11,a2),(12,ah),(13,vi ag.2),(14,vi bk),(15,vb b8),(47,a2),(48,vi ((([false,true]:List Bool).length:Nat):Int)),(49,vi bk)] [] (λ(D:Nat->Bool)(x:Value×Value×Value×Value×Nat)=>(λa3 a6 a4 a7 ay=>[bif D 0 then rd a3 p0 else aJ,bif D 1 then pt a6 bw else aJ,bif D 2 then rd a4 bw else aJ,bif D 3 then rd a7 bp else aJ,bif D 5 then bx 59 ay bp else(bif D 4 then bx 59 ay (⟨(⟨0,0⟩:bL),(⟨0,0⟩:bL)⟩:bT)else aJ),rd v1 p1,bx 27 ak p0,own 4 a2 ([false,true]:List Bool),own 64 ah bq]) x.1 x.2.1 x.2.2.1 x.2.2.2.1 x.2.2.2.2) (λx=>by kernel_rfl) ?_ ⟨?_,λ_=>gL gn,λ_=>gL gn,λ_=>ym gn,?_,?_,λ_=>gL gn,?_,?_,?_,trivial⟩ ?_;have j:=(((((j.drew).aJ).aJ).aJ).aJ).aJ;exact⟨(undef,undef,undef,undef,0),eR.none,A3 zr,zt,j⟩;rintro D U w hD aa af⟨⟨a3,a6,a4,a7,ay⟩,hv,o,_,j⟩;obtain⟨O,rfl⟩:=(ac (o.at 3 rfl) az).cY;have j:=j.bI 0 hD;refine S3 (f:=(λx=>x)) 6 j zr Fd.self lC λcz j=>?_;have j:=(j.pl 10 [0,2,3,4,5,6,7,8,9]).bB 0 true rfl aJ;exact AS ⟨rfl,(cz,a6,a4,a7,ay),hv.pu 0,o.u,zt,j⟩;rintro D U w hD aa af⟨⟨a3,a6,a4,a7,ay⟩,hv,o,_,j⟩;obtain⟨O,rfl⟩:=(ac (hv.at 1 rfl<|aa.1 rfl)<|ac (hv.at 3 rfl<|aa.2.1 rfl) az).cY;have j:=j.bI 1 hD;refine S7 5 j wu cx λc0 j=>?_;have j:=(j.pl 10 [1,0,3,4,5,6,7,8,9]).bB 1 true rfl aJ;exact AS ⟨rfl,(a3,c0,a4,a7,ay),hv.pu 4,o.u,zt,j⟩;rintro D U w hD aa af⟨⟨a3,a6,a4,a7,ay⟩,hv,o,_,j⟩;obtain⟨O,rfl⟩:=(ac (hv.at 4 rfl<|aa.1 rfl) az).cY;have j:=(j.cK 1<|aa.1 rfl).bI 2 hD;refine Tf 1 bw j sV λc1 j=>?_;have j:=((j.pl 10 [1,2,0,4,5,6,7,8,9]).bB 1 (D 4) (aa.1 rfl) aJ).bB 2 true rfl aJ;exact AS ⟨rfl,(a3,a6,c1,a7,ay),hv.pu 5,o.u,zt,j⟩;rintro D U w hD aa af⟨⟨a3,a6,a4,a7,ay⟩,hv,o,_,j⟩;obtain⟨O,rfl⟩:=(ac (hv.at 0 rfl<|aa.1 rfl)<|ac (hv.at 5 rfl<|aa.2.1 rfl)<|ac (hv.at 6 rfl<|aa.2.2.1 rfl) az).cY;have j:=((j.cK 0<|aa.1 rfl).cK 2<|aa.2.1 rfl).bI 3 hD;refine IN zt zr Gj [a3,a4,vb b8] zr<|aF (kn N (p2:=b8) (i0:=0) (i1:=2) j zr zr cy) ?_;rintro c2 w j;have j:=(((j.pl 10 [1,2,3,0,5,6,7,8,9]).bB 0 (D 0) (aa.1 rfl) aJ).bB 2 (D 5) (aa.2.1 rfl) aJ).bB 3 true rfl aJ;exact AS ⟨rfl,(a3,a6,a4,c2,ay),hv.pu 7,o.u,zt,j⟩;rintro D U w hD aa af⟨⟨a3,a6,a4,a7,ay⟩,hv,o,_,j⟩;obtain⟨O,rfl⟩:=(az (U:=U)).cY;have j:=(j.bI 4<|nh af hD 9).bI 4 hD;refine Uc j N9 λcl w j=>?_;have j:=j.mm (i:=0) (x:=(⟨(⟨0,0⟩:bL),(⟨0,0⟩:bL)⟩:bT)) rfl<|λM hs g=>⟨[vi 0,vi 0],[vi 0,vi 0],rfl,⟨[vi 0],[vi 0],rfl,rfl,rfl⟩,⟨[vi 0],[vi 0],rfl,rfl,rfl⟩⟩;have j:=((j.pl 10 [1,2,3,4,0,6,7,8,9]).bB 4 true rfl aJ).fM 4 (D 9) (nh af hD 9)<|bx 59 cl bp;exact AS ⟨rfl,(a3,a6,a4,a7,cl),hv.pu 8,o.u,zt,j⟩;rintro D U w hD aa af⟨⟨a3,a6,a4,a7,ay⟩,hv,o,_,j⟩;obtain⟨O,rfl⟩:=(ac (hv.at 7 rfl<|aa.2.1 rfl)<|ac (hv.at 8 rfl<|aa.1 rfl) az).cY;have j:=((j.cK 3<|aa.2.1 rfl).bI 4 hD).cK 4<|aa.1 rfl;refine Uj 4 j 3 zr Av λw j=>?_;have j:=(j.bB 3 (D 7) (aa.2.1 rfl) aJ).bB 4 true rfl (bif D 8 then bx 59 ay (⟨(⟨0,0⟩:bL),(⟨0,0⟩:bL)⟩:bT)else aJ);exact AS ⟨rfl,(a3,a6,a4,a7,ay),hv.n1,o,zt,j⟩;rintro D U w ai⟨⟨a3,a6,a4,a7,ay⟩,hv,o,_,j⟩;simp only[List.getD_cons_zero,List.getD_cons_succ,ai 0 (by decide),ai 4 (by decide),ai 5 (by decide),ai 7 (by decide),ai 9 (by decide),aQ]at j;obtain⟨O,rfl⟩:=(ac (hv.at 8 rfl<|pU ai 8)<|ac (o.at 0 rfl)<|ac (o.at 1 rfl)<|ac (o.at 2 rfl)<|ac (o.at 3 rfl)<|ac (o.at 4 rfl)<|ac (o.at 5 rfl)<|ac (o.at 6 rfl)<|ac (o.at 7 rfl)<|ac (o.at 8 rfl)<|ac (o.at 9 rfl)<|ac (o.at 10 rfl)<|ac (o.at 11 rfl) az).cY;refine aG<|S6 ?_;obtain⟨b9,c3,hb⟩:=bd hb;obtain⟨cm,c4,hb⟩:=bd hb;obtain⟨bt,c5,hb⟩:=bd hb;refine q_ hb λbu cb hb=>T7 E V mixed [0,0,1,1,0,0,0,1,0,1,1,1,0,0,0,1,1] [0,1,4,5,6] (λ(x:Value×Value×Value×Value×Value)=>(λal an ar ao aq=>[(0,62,al),(1,63,an),(2,64,v1),(3,65,vi ag.2),(4,66,ar),(5,67,ao),(6,68,aq),(7,69,vi p2),(8,70,vi bt),(9,71,ah),(10,72,vi ag.2),(11,73,vi<|wrap .i64<|ag.2+1),(12,74,vX ah (Int.toNat<|wrap .i64<|ag.2+1) 2 0),(13,75,vX ah (Int.toNat<|wrap .i64<|ag.2+1) 2 0),(14,76,vi bu.e0),(15,77,vi<|wrap .i64<|bt+bu.e0),(16,17,vi<|wrap .i64<|bt+bu.e0)]) x.1 x.2.1 x.2.2.1 x.2.2.2.1 x.2.2.2.2) [(1,v1),(2,vi p2),(3,vi p3),(4,vp ak 0),(11,a2),(12,ah),(13,vi ag.2),(14,vi bk),(16,vp ay 0),(47,a2),(48,vi ((([false,true]:List Bool).length:Nat):Int)),(49,vi bk)] [] (λ(D:Nat->Bool)(x:Value×Value×Value×Value×Value)=>(λal an ar ao aq=>[bif D 0 then rd al bp else aJ,bif D 1 then rd an p0 else aJ,bif D 2 then pt ar b9 else aJ,bif D 3 then rd ao b9 else aJ,bif D 4 then rd aq cm else aJ,rd a3 p0,pt a6 bw,rd a4 bw,rd a7 bp,bx 59 ay bp,rd v1 p1,bx 27 ak p0,own 4 a2 ([false,true]:List Bool),own 64 ah bq]) x.1 x.2.1 x.2.2.1 x.2.2.2.1 x.2.2.2.2) (λx=>by kernel_rfl) ?_ ⟨?_,?_,λ_=>gL gn,λ_=>gL gn,?_,?_,?_,λ_=>gL gn,?_,λ_=>gL gn,λ_=>gL gn,λ_=>ym gn,?_,?_,?_,λ_=>ym gn,λ_=>F7 gn,trivial⟩ ?_;have j:=(((((j.drew).aJ).aJ).aJ).aJ).aJ;exact⟨(undef,undef,undef,undef,undef),eR.none,A3 zr,zt,j⟩;rintro D U w hD aa af⟨⟨al,an,ar,ao,aq⟩,hv,o,_,j⟩;obtain⟨O,rfl⟩:=(ac (o.at 8 rfl) az).cY;have j:=j.bI 0 hD;refine S3 (f:=(λx=>x)) 9 j zr Fd.self Av λc6 j=>?_;have j:=(j.pl 15 [0,2,3,4,5,6,7,8,9,10,11,12,13,14]).bB 0 true rfl aJ;exact AS ⟨rfl,(c6,an,ar,ao,aq),hv.pu 0,o.u,zt,j⟩;rintro D U w hD aa af⟨⟨al,an,ar,ao,aq⟩,hv,o,_,j⟩;obtain⟨O,rfl⟩:=(ac (o.at 3 rfl) az).cY;have j:=j.bI 1 hD;refine S3 (f:=(λx=>x)) 11 j zr Fd.self lC λc7 j=>?_;have j:=(j.pl 15 [1,0,3,4,5,6,7,8,9,10,11,12,13,14]).bB 1 true rfl aJ;exact AS ⟨rfl,(al,c7,ar,ao,aq),hv.pu 1,o.u,zt,j⟩;rintro D U w hD aa af⟨⟨al,an,ar,ao,aq⟩,hv,o,_,j⟩;obtain⟨O,rfl⟩:=(ac (hv.at 2 rfl<|aa.1 rfl)<|ac (hv.at 3 rfl<|aa.2.1 rfl) az).cY;have j:=j.bI 2 hD;refine S7 10 j wu c3 λc8 j=>?_;have j:=(j.pl 15 [1,2,0,4,5,6,7,8,9,10,11,12,13,14]).bB 2 true rfl aJ;exact AS ⟨rfl,(al,an,c8,ao,aq),hv.pu 4,o.u,zt,j⟩;rintro D U w hD aa af⟨⟨al,an,ar,ao,aq⟩,hv,o,_,j⟩;obtain⟨O,rfl⟩:=(ac (hv.at 4 rfl<|aa.1 rfl) az).cY;have j:=(j.cK 2<|aa.1 rfl).bI 3 hD;refine Tf 2 b9 j sV λc9 j=>?_;have j:=((j.pl 15 [1,2,3,0,5,6,7,8,9,10,11,12,13,14]).bB 2 (D 4) (aa.1 rfl) aJ).bB 3 true rfl aJ;exact AS ⟨rfl,(al,an,ar,c9,aq),hv.pu 5,o.u,zt,j⟩;rintro D U w hD aa af⟨⟨al,an,ar,ao,aq⟩,hv,o,_,j⟩;obtain⟨O,rfl⟩:=(ac (hv.at 1 rfl<|aa.1 rfl)<|ac (hv.at 5 rfl<|aa.2.1 rfl) az).cY;have j:=((j.cK 1<|aa.1 rfl).cK 3<|aa.2.1 rfl).bI 4 hD;refine IN zt zr Gj [an,ao,vb false] zr<|aF (kn N (p2:=false) (i0:=1) (i1:=3) j zr zr c4) ?_;rintro da w j;have j:=(((j.pl 15 [1,2,3,4,0,6,7,8,9,10,11,12,13,14]).bB 1 (D 1) (aa.1 rfl) aJ).bB 3 (D 5) (aa.2.1 rfl) aJ).bB 4 true rfl aJ;exact AS ⟨rfl,(al,an,ar,ao,da),hv.pu 6,o.u,zt,j⟩;rintro D U w hD aa af⟨⟨al,an,ar,ao,aq⟩,hv,o,_,j⟩;obtain⟨O,rfl⟩:=(ac (hv.at 0 rfl<|aa.1 rfl)<|ac (hv.at 6 rfl<|aa.2.1 rfl)<|ac (hv.at 7 rfl<|aa.2.2.1 rfl) az).cY;have j:=(j.cK 0<|aa.1 rfl).cK 4<|aa.2.1 rfl;refine IN zt zr KG [al,aq,vi p2] zr<|aF (ox N (p2:=p2) (i0:=0) (i1:=4) j zr zr c5) ?_;rintro _ w⟨rfl,j⟩;have j:=(j.bB 0 (D 0) (aa.1 rfl) aJ).bB 4 (D 6) (aa.2.1 rfl) aJ;exact AS ⟨rfl,(al,an,ar,ao,aq),hv.pu 8,o.u,zt,j⟩;rintro D U w hD aa af⟨⟨al,an,ar,ao,aq⟩,hv,o,_,j⟩;obtain⟨O,rfl⟩:=(ac (hv.at 9 rfl<|aa.1 rfl)<|ac (hv.at 11 rfl<|aa.2.1 rfl) az).cY;exact Tk 13 j zr zr Dt cb<|AS ⟨rfl,(al,an,ar,ao,aq),hv.pu 12,o.u,zt,j⟩;rintro D U w hD aa af⟨⟨al,an,ar,ao,aq⟩,hv,o,_,j⟩;obtain⟨O,rfl⟩:=(ac (hv.at 12 rfl<|aa.1 rfl) az).cY;exact Up (α:=cB) (jl 13 j cb 0) EL<|AS ⟨rfl,(al,an,ar,ao,aq),hv.pu 13,o.u,zt,j⟩;rintro D U w hD aa af⟨⟨al,an,ar,ao,aq⟩,hv,o,_,j⟩;obtain⟨O,rfl⟩:=(ac (hv.at 13 rfl<|aa.1 rfl) az).cY;exact TP 13 j (jl 13 j cb 0) (bD cb).2.1 qs cI<|AS ⟨rfl,(al,an,ar,ao,aq),hv.pu 14,o.u,zt,j⟩;rintro D U w ai⟨⟨al,an,ar,ao,aq⟩,hv,o,_,j⟩;simp only[List.getD_cons_zero,List.getD_cons_succ,ai 0 (by decide),ai 1 (by decide),ai 4 (by decide),ai 5 (by decide),ai 6 (by decide),aQ]at j;obtain⟨O,rfl⟩:=(ac (hv.at 16 rfl<|pU ai 16)<|ac (o.at 0 rfl)<|ac (o.at 1 rfl)<|ac (o.at 2 rfl)<|ac (o.at 3 rfl)<|ac (o.at 4 rfl)<|ac (o.at 5 rfl)<|ac (o.at 6 rfl)<|ac (o.at 7 rfl)<|ac (o.at 8 rfl)<|ac (o.at 9 rfl)<|ac (o.at 10 rfl)<|ac (o.at 11 rfl) az).cY;refine aG<|S6 ?_;obtain⟨ck,db,hb⟩:=bd hb;obtain⟨dc,dd,hb⟩:=bd hb;obtain⟨bz,de,hb⟩:=bd hb;refine q_ hb λb0 cc hb=>T7 E V mixed [0,0,1,1,0,0,0,1,0,1,1,1,0,0,0,1,1] [0,1,4,5,6] (λ(x:Value×Value×Value×Value×Value)=>(λau av a0 aw ax=>[(0,78,au),(1,79,av),(2,80,v1),(3,81,vi ag.2),(4,82,a0),(5,83,aw),(6,84,ax),(7,85,vi p2),(8,86,vi bz),(9,87,ah),(10,88,vi ag.2),(11,89,vi<|wrap .i64<|ag.2+1),(12,90,vX ah (Int.toNat<|wrap .i64<|ag.2+1) 2 0),(13,91,vX ah (Int.toNat<|wrap .i64<|ag.2+1) 2 1),(14,92,vi b0.e1),(15,93,vi<|wrap .i64<|bz+b0.e1),(16,18,vi<|wrap .i64<|bz+b0.e1)]) x.1 x.2.1 x.2.2.1 x.2.2.2.1 x.2.2.2.2) [(1,v1),(2,vi p2),(3,vi p3),(4,vp ak 0),(11,a2),(12,ah),(13,vi ag.2),(14,vi bk),(16,vp ay 0),(17,vi<|wrap .i64<|bt+bu.e0),(47,a2),(48,vi ((([false,true]:List Bool).length:Nat):Int)),(49,vi bk)] [] (λ(D:Nat->Bool)(x:Value×Value×Value×Value×Value)=>(λau av a0 aw ax=>[bif D 0 then rd au bp else aJ,bif D 1 then rd av p0 else aJ,bif D 2 then pt a0 ck else aJ,bif D 3 then rd aw ck else aJ,bif D 4 then rd ax dc else aJ,rd al bp,rd an p0,pt ar b9,rd ao b9,rd aq cm,rd a3 p0,pt a6 bw,rd a4 bw,rd a7 bp,bx 59 ay bp,rd v1 p1,bx 27 ak p0,own 4 a2 ([false,true]:List Bool),own 64 ah bq]) x.1 x.2.1 x.2.2.1 x.2.2.2.1 x.2.2.2.2) (λx=>by kernel_rfl) ?_ ⟨?_,?_,λ_=>gL gn,λ_=>gL gn,?_,?_,?_,λ_=>gL gn,?_,λ_=>gL gn,λ_=>gL gn,λ_=>ym gn,?_,?_,?_,λ_=>ym gn,λ_=>F7 gn,trivial⟩ ?_;have j:=(((((j.drew).aJ).aJ).aJ).aJ).aJ;exact⟨(undef,undef,undef,undef,undef),eR.none,A3 zr,zt,j⟩;rintro D U w hD aa af⟨⟨au,av,a0,aw,ax⟩,hv,o,_,j⟩;obtain⟨O,rfl⟩:=(ac (o.at 8 rfl) az).cY;have j:=j.bI 0 hD;refine S3 (f:=(λx=>x)) 14 j zr Fd.self Av λdf j=>?_;have j:=(j.pl 20 [0,2,3,4,5,6,7,8,9,10,11,12,13,14,15,16,17,18,19]).bB 0 true rfl aJ;exact AS ⟨rfl,(df,av,a0,aw,ax),hv.pu 0,o.u,zt,j⟩;rintro D U w hD aa af⟨⟨au,av,a0,aw,ax⟩,hv,o,_,j⟩;obtain⟨O,rfl⟩:=(ac (o.at 3 rfl) az).cY;have j:=j.bI 1 hD;refine S3 (f:=(λx=>x)) 16 j zr Fd.self lC λdg j=>?_;have j:=(j.pl 20 [1,0,3,4,5,6,7,8,9,10,11,12,13,14,15,16,17,18,19]).bB 1 true rfl aJ;exact AS ⟨rfl,(au,dg,a0,aw,ax),hv.pu 1,o.u,zt,j⟩;rintro D U w hD aa af⟨⟨au,av,a0,aw,ax⟩,hv,o,_,j⟩;obtain⟨O,rfl⟩:=(ac (hv.at 2 rfl<|aa.1 rfl)<|ac (hv.at 3 rfl<|aa.2.1 rfl) az).cY;have j:=j.bI 2 hD;refine S7 15 j wu db λdh j=>?_;have j:=(j.pl 20 [1,2,0,4,5,6,7,8,9,10,11,12,13,14,15,16,17,18,19]).bB 2 true rfl aJ;exact AS ⟨rfl,(au,av,dh,aw,ax),hv.pu 4,o.u,zt,j⟩;rintro D U w hD aa af⟨⟨au,av,a0,aw,ax⟩,hv,o,_,j⟩;obtain⟨O,rfl⟩:=(ac (hv.at 4 rfl<|aa.1 rfl) az).cY;have j:=(j.cK 2<|aa.1 rfl).bI 3 hD;refine Tf 2 ck j sV λdi j=>?_;have j:=((j.pl 20 [1,2,3,0,5,6,7,8,9,10,11,12,13,14,15,16,17,18,19]).bB 2 (D 4) (aa.1 rfl) aJ).bB 3 true rfl aJ;exact AS ⟨rfl,(au,av,a0,di,ax),hv.pu 5,o.u,zt,j⟩;rintro D U w hD aa af⟨⟨au,av,a0,aw,ax⟩,hv,o,_,j⟩;obtain⟨O,rfl⟩:=(ac (hv.at 1 rfl<|aa.1 rfl)<|ac (hv.at 5 rfl<|aa.2.1 rfl) az).cY;have j:=((j.cK 1<|aa.1 rfl).cK 3<|aa.2.1 rfl).bI 4 hD;refine IN zt zr Gj [av,aw,vb true] zr<|aF (kn N (p2:=true) (i0:=1) (i1:=3) j zr zr dd) ?_;rintro dj w j;have j:=(((j.pl 20 [1,2,3,4,0,6,7,8,9,10,11,12,13,14,15,16,17,18,19]).bB 1 (D 1) (aa.1 rfl) aJ).bB 3 (D 5) (aa.2.1 rfl) aJ).bB 4 true rfl aJ;exact AS ⟨rfl,(au,av,a0,aw,dj),hv.pu 6,o.u,zt,j⟩;rintro D U w hD aa af⟨⟨au,av,a0,aw,ax⟩,hv,o,_,j⟩;obtain⟨O,rfl⟩:=(ac (hv.at 0 rfl<|aa.1 rfl)<|ac (hv.at 6 rfl<|aa.2.1 rfl)<|ac (hv.at 7 rfl<|aa.2.2.1 rfl) az).cY;have j:=(j.cK 0<|aa.1 rfl).cK 4<|aa.2.1 rfl;refine IN zt zr KG [au,ax,vi p2] zr<|aF (ox N (p2:=p2) (i0:=0) (i1:=4) j zr zr de) ?_;rintro _ w⟨rfl,j⟩;have j:=(j.bB 0 (D 0) (aa.1 rfl) aJ).bB 4 (D 6) (aa.2.1 rfl) aJ;exact AS ⟨rfl,(au,av,a0,aw,ax),hv.pu 8,o.u,zt,j⟩;rintro D U w hD aa af⟨⟨au,av,a0,aw,ax⟩,hv,o,_,j⟩;obtain⟨O,rfl⟩:=(ac (hv.at 9 rfl<|aa.1 rfl)<|ac (hv.at 11 rfl<|aa.2.1 rfl) az).cY;exact Tk 18 j zr zr Dt cc<|AS ⟨rfl,(au,av,a0,aw,ax),hv.pu 12,o.u,zt,j⟩;rintro D U w hD aa af⟨⟨au,av,a0,aw,ax⟩,hv,o,_,j⟩;obtain⟨O,rfl⟩:=(ac (hv.at 12 rfl<|aa.1 rfl) az).cY;exact Up (α:=cB) (jl 18 j cc 0) EM<|AS ⟨rfl,(au,av,a0,aw,ax),hv.pu 13,o.u,zt,j⟩;rintro D U w hD aa af⟨⟨au,av,a0,aw,ax⟩,hv,o,_,j⟩;obtain⟨O,rfl⟩:=(ac (hv.at 13 rfl<|aa.1 rfl) az).cY;exact TP 18 j (jl 18 j cc 1) (bD cc).2.1 qt cI<|AS ⟨rfl,(au,av,a0,aw,ax),hv.pu 14,o.u,zt,j⟩;rintro D U w ai⟨⟨au,av,a0,aw,ax⟩,hv,o,_,j⟩;simp only[List.getD_cons_zero,List.getD_cons_succ,ai 0 (by decide),ai 1 (by decide),ai 4 (by decide),ai 5 (by decide),ai 6 (by decide),aQ]at j;obtain⟨O,rfl⟩:=(ac (hv.at 16 rfl<|pU ai 16)<|ac (o.at 0 rfl)<|ac (o.at 1 rfl)<|ac (o.at 2 rfl)<|ac (o.at 3 rfl)<|ac (o.at 4 rfl)<|ac (o.at 5 rfl)<|ac (o.at 6 rfl)<|ac (o.at 7 rfl)<|ac (o.at 8 rfl)<|ac (o.at 9 rfl)<|ac (o.at 10 rfl)<|ac (o.at 11 rfl)<|ac (o.at 12 rfl) az).cY;refine aG<|IT<|mv ah<|mv (vi ag.2)<|mv (vi bk)<|mv (vi<|wrap .i64<|bt+bu.e0)<|mv (vi<|wrap .i64<|bz+b0.e1)<|Ud (wrap .i64<|bt+bu.e0) (wrap .i64<|bz+b0.e1) ?_;refine q_ hb λec cd hb=>Tk 18 j zr zr Dt cd<|q_ hb λcf dk hb=>Up (α:=cB) (jl 18 j cd 0) (L6.at dk) ?_;have j:=j.sc Int (if wrap .i64 (bz+b0.e1)<(wrap .i64<|bt+bu.e0)then wrap .i64 (bz+b0.e1)else wrap .i64 (bt+bu.e0));refine T5 (hm:=zj cf) (f:=(λx y=>x.st cf y)) 19 0 j (jl 19 j cd<|cf.val*1) (bD cd).2.1 zr (zi cf) cI λw j=>?_;exact AS<|bR<|aG<|IT<|TF hk hm<|mv (vi ((bk+1:Nat):Int))<|AS<|oi hb▸⟨rfl,j.sp 20 [16,17,18,19]⟩;rintro _ w⟨O,rfl,j⟩;refine bR<|aG<|IT<|mv (vi ag.2)<|S5 ag.2 1<|aP (vi<|wrap .i64<|ag.2 - 1)<|AS ?_;exact oi hb▸⟨rfl,j.sp 4 [0,1,2,3]⟩;exact Te<|oi hb▸⟨rfl,j.sp 4 [0,1,2,3]⟩;intro r _ _ _ _;exact r.elim;rintro ag _ w rfl⟨O,rfl,j⟩;rw[Fo.dN]at hb;refine aG<|w_<|aP n_<|OF<|Uc j N9 λbr w j=>?_;have j:=j.mm (i:=0) (x:=(⟨(⟨0,0⟩:bL),(⟨0,0⟩:bL)⟩:bT)) rfl<|λM hs g=>⟨[vi 0,vi 0],[vi 0,vi 0],rfl,⟨[vi 0],[vi 0],rfl,rfl,rfl⟩,⟨[vi 0],[vi 0],rfl,rfl,rfl⟩⟩;refine OF<|aP (vi 0)<|BY<|w_<|mv v1<|S8 1 p1 j t8<|mv (vi 0)<|AI<|q_ hb λaj hN hb=>TX (λ(a1:Nat)(aj:List Touch×bT×Int)U w=>∃cn:Value,SH E V [(2,vi p2),(3,vi p3),(4,vp ak 0),(12,ah),(19,cn),(20,vp br 0),(21,vi aj.2.2),(103,v1),(104,vi p1.length),(105,vi a1)] [bx 27 ak p0,own 64 ah ag.1,bx 59 br aj.2.1,rd v1 p1,own 35 cn aj.1] U w) (λ(aj:List Touch×bT×Int)U w=>∃b2:Value,SH E V [(19,b2)] [bx 27 ak p0,own 64 ah ag.1,bx 59 br aj.2.1,rd v1 p1,own 35 b2 aj.1] U w) hN ?_ ?_ ?_ ?_;have j:=j.dB Touch 35;exact⟨n_,j.sp 6 [3,5,1,2,0]⟩;rintro hm aj _ w⟨dm,O,rfl,j⟩;exact w_<|ic ((p1.length:Int)) ((p1.length:Int))<|BY<|TJ qC<|Te<|⟨rfl,dm,j.sp 5 [0,1,2,3,4]⟩;rintro hm a1 aj s' _ w hk⟨b1,O,rfl,j⟩hb;refine w_<|ic ((a1:Int)) ((p1.length:Int))<|BY<|TI (qB hk)<|Ta<|Tn<|mv (vi a1)<|q_ hb λbo dn hb=>S7 3 j wu dn λcp j=>Tf 0 bo j sV λcq j=>Uc j P5 λb3 w j=>?_;have j:=j.mm (i:=0) (x:=(⟨(⟨⟨[]⟩,⟨[]⟩⟩:eE),(⟨⟨[]⟩,⟨[]⟩⟩:eE),false⟩:Test)) rfl<|λM hs g=>⟨[str ⟨[]⟩,str ⟨[]⟩],[str ⟨[]⟩,str ⟨[]⟩,vb false],rfl,⟨[str ⟨[]⟩],[str ⟨[]⟩],rfl,rfl,rfl⟩,⟨[str ⟨[]⟩,str ⟨[]⟩],[vb false],rfl,⟨[str ⟨[]⟩],[str ⟨[]⟩],rfl,rfl,rfl⟩,rfl⟩⟩;refine aP (vi a1)<|Uj 0 j 1 zr sV λw j=>?_;refine BY ?_;obtain⟨cr,dp,hb⟩:=bd hb;refine q_ hb λa8 dq hb=>T7 E V mixed [0,0,0,0,1,0,1] [0,1,2,3] (λ(x:Value×Value×Value×Value)=>(λa9 ba bb bc=>[(0,110,a9),(1,111,ba),(2,112,bb),(3,113,bc),(4,114,vi p2),(5,115,vi a8),(6,24,vi a8)]) x.1 x.2.1 x.2.2.1 x.2.2.2) [(2,vi p2),(3,vi p3),(4,vp ak 0),(12,ah),(19,b1),(20,vp br 0),(21,vi aj.2.2),(22,vi a1),(23,vp b3 0),(103,v1),(104,vi p1.length),(105,vi a1)] [] (λ(D:Nat->Bool)(x:Value×Value×Value×Value)=>(λa9 ba bb bc=>[bif D 0 then rd a9 aj.2.1 else aJ,bif D 1 then rd ba p0 else aJ,bif D 2 then rd bb bo else aJ,bif D 3 then rd bc cr else aJ,bx 62 b3 bo,rd cq bo,pt cp bo,bx 27 ak p0,own 64 ah ag.1,bx 59 br aj.2.1,rd v1 p1,own 35 b1 aj.1]) x.1 x.2.1 x.2.2.1 x.2.2.2) (λx=>by kernel_rfl) ?_ ⟨?_,?_,?_,?_,λ_=>gL gn,?_,λ_=>F7 gn,trivial⟩ ?_;have j:=((((j.drew).aJ).aJ).aJ).aJ;exact⟨(undef,undef,undef,undef),eR.none,A3 zr,zt,j⟩;rintro D U w hD aa af⟨⟨a9,ba,bb,bc⟩,hv,o,_,j⟩;obtain⟨O,rfl⟩:=(ac (o.at 5 rfl) az).cY;have j:=j.bI 0 hD;refine S3 (f:=(λx=>x)) 9 j zr Fd.self Av λdr j=>?_;have j:=(j.pl 13 [0,2,3,4,5,6,7,8,9,10,11,12]).bB 0 true rfl aJ;exact AS ⟨rfl,(dr,ba,bb,bc),hv.pu 0,o.u,zt,j⟩;rintro D U w hD aa af⟨⟨a9,ba,bb,bc⟩,hv,o,_,j⟩;obtain⟨O,rfl⟩:=(ac (o.at 2 rfl) az).cY;have j:=j.bI 1 hD;refine S3 (f:=(λx=>x)) 7 j zr Fd.self lC λds j=>?_;have j:=(j.pl 13 [1,0,3,4,5,6,7,8,9,10,11,12]).bB 1 true rfl aJ;exact AS ⟨rfl,(a9,ds,bb,bc),hv.pu 1,o.u,zt,j⟩;rintro D U w hD aa af⟨⟨a9,ba,bb,bc⟩,hv,o,_,j⟩;obtain⟨O,rfl⟩:=(ac (o.at 8 rfl) az).cY;have j:=j.bI 2 hD;refine S3 (f:=(λx=>x)) 4 j zr Fd.self sV λdt j=>?_;have j:=(j.pl 13 [1,2,0,4,5,6,7,8,9,10,11,12]).bB 2 true rfl aJ;exact AS ⟨rfl,(a9,ba,dt,bc),hv.pu 2,o.u,zt,j⟩;rintro D U w hD aa af⟨⟨a9,ba,bb,bc⟩,hv,o,_,j⟩;obtain⟨O,rfl⟩:=(ac (hv.at 1 rfl<|aa.1 rfl)<|ac (hv.at 2 rfl<|aa.2.1 rfl) az).cY;have j:=((j.cK 1<|aa.1 rfl).cK 2<|aa.2.1 rfl).bI 3 hD;refine IN zt zr Gj [ba,bb,vb false] zr<|aF (kn N (p2:=false) (i0:=1) (i1:=2) j zr zr dp) ?_;rintro du w j;have j:=(((j.pl 13 [1,2,3,0,5,6,7,8,9,10,11,12]).bB 1 (D 1) (aa.1 rfl) aJ).bB 2 (D 2) (aa.2.1 rfl) aJ).bB 3 true rfl aJ;exact AS ⟨rfl,(a9,ba,bb,du),hv.pu 3,o.u,zt,j⟩;rintro D U w hD aa af⟨⟨a9,ba,bb,bc⟩,hv,o,_,j⟩;obtain⟨O,rfl⟩:=(ac (hv.at 0 rfl<|aa.1 rfl)<|ac (hv.at 3 rfl<|aa.2.1 rfl)<|ac (hv.at 4 rfl<|aa.2.2.1 rfl) az).cY;have j:=(j.cK 0<|aa.1 rfl).cK 3<|aa.2.1 rfl;refine IN zt zr KG [a9,bc,vi p2] zr<|aF (ox N (p2:=p2) (i0:=0) (i1:=3) j zr zr dq) ?_;rintro _ w⟨rfl,j⟩;have j:=(j.bB 0 (D 0) (aa.1 rfl) aJ).bB 3 (D 3) (aa.2.1 rfl) aJ;exact AS ⟨rfl,(a9,ba,bb,bc),hv.pu 5,o.u,zt,j⟩;rintro D U w ai⟨⟨a9,ba,bb,bc⟩,hv,o,_,j⟩;have j:=(((j.cK 0<|pU ai 0).cK 1<|pU ai 1).cK 2<|pU ai 2).cK 3<|pU ai 3;obtain⟨O,rfl⟩:=(ac (hv.at 6 rfl<|pU ai 6)<|ac (o.at 0 rfl)<|ac (o.at 1 rfl)<|ac (o.at 2 rfl)<|ac (o.at 3 rfl)<|ac (o.at 4 rfl)<|ac (o.at 5 rfl)<|ac (o.at 6 rfl)<|ac (o.at 7 rfl)<|ac (o.at 8 rfl)<|ac (o.at 9 rfl)<|ac (o.at 10 rfl)<|ac (o.at 11 rfl) az).cY;refine aG<|S6 ?_;obtain⟨dv,dw,hb⟩:=bd hb;refine q_ hb λa5 dx hb=>T7 E V mixed [0,0,0,0,1,0,1] [0,1,2,3] (λ(x:Value×Value×Value×Value)=>(λbf bg bh bj=>[(0,116,bf),(1,117,bg),(2,118,bh),(3,119,bj),(4,120,vi p2),(5,121,vi a5),(6,25,vi a5)]) x.1 x.2.1 x.2.2.1 x.2.2.2) [(2,vi p2),(3,vi p3),(4,vp ak 0),(12,ah),(19,b1),(20,vp br 0),(21,vi aj.2.2),(22,vi a1),(23,vp b3 0),(24,vi a8),(103,v1),(104,vi p1.length),(105,vi a1)] [] (λ(D:Nat->Bool)(x:Value×Value×Value×Value)=>(λbf bg bh bj=>[bif D 0 then rd bf aj.2.1 else aJ,bif D 1 then rd bg p0 else aJ,bif D 2 then rd bh bo else aJ,bif D 3 then rd bj dv else aJ,rd a9 aj.2.1,rd ba p0,rd bb bo,rd bc cr,bx 62 b3 bo,rd cq bo,pt cp bo,bx 27 ak p0,own 64 ah ag.1,bx 59 br aj.2.1,rd v1 p1,own 35 b1 aj.1]) x.1 x.2.1 x.2.2.1 x.2.2.2) (λx=>by kernel_rfl) ?_ ⟨?_,?_,?_,?_,λ_=>gL gn,?_,λ_=>F7 gn,trivial⟩ ?_;have j:=((((j.drew).aJ).aJ).aJ).aJ;exact⟨(undef,undef,undef,undef),eR.none,A3 zr,zt,j⟩;rintro D U w hD aa af⟨⟨bf,bg,bh,bj⟩,hv,o,_,j⟩;obtain⟨O,rfl⟩:=(ac (o.at 5 rfl) az).cY;have j:=j.bI 0 hD;refine S3 (f:=(λx=>x)) 13 j zr Fd.self Av λdy j=>?_;have j:=(j.pl 17 [0,2,3,4,5,6,7,8,9,10,11,12,13,14,15,16]).bB 0 true rfl aJ;exact AS ⟨rfl,(dy,bg,bh,bj),hv.pu 0,o.u,zt,j⟩;rintro D U w hD aa af⟨⟨bf,bg,bh,bj⟩,hv,o,_,j⟩;obtain⟨O,rfl⟩:=(ac (o.at 2 rfl) az).cY;have j:=j.bI 1 hD;refine S3 (f:=(λx=>x)) 11 j zr Fd.self lC λdz j=>?_;have j:=(j.pl 17 [1,0,3,4,5,6,7,8,9,10,11,12,13,14,15,16]).bB 1 true rfl aJ;exact AS ⟨rfl,(bf,dz,bh,bj),hv.pu 1,o.u,zt,j⟩;rintro D U w hD aa af⟨⟨bf,bg,bh,bj⟩,hv,o,_,j⟩;obtain⟨O,rfl⟩:=(ac (o.at 8 rfl) az).cY;have j:=j.bI 2 hD;refine S3 (f:=(λx=>x)) 8 j zr Fd.self sV λd0 j=>?_;have j:=(j.pl 17 [1,2,0,4,5,6,7,8,9,10,11,12,13,14,15,16]).bB 2 true rfl aJ;exact AS ⟨rfl,(bf,bg,d0,bj),hv.pu 2,o.u,zt,j⟩;rintro D U w hD aa af⟨⟨bf,bg,bh,bj⟩,hv,o,_,j⟩;obtain⟨O,rfl⟩:=(ac (hv.at 1 rfl<|aa.1 rfl)<|ac (hv.at 2 rfl<|aa.2.1 rfl) az).cY;have j:=((j.cK 1<|aa.1 rfl).cK 2<|aa.2.1 rfl).bI 3 hD;refine IN zt zr Gj [bg,bh,vb true] zr<|aF (kn N (p2:=true) (i0:=1) (i1:=2) j zr zr dw) ?_;rintro d3 w j;have j:=(((j.pl 17 [1,2,3,0,5,6,7,8,9,10,11,12,13,14,15,16]).bB 1 (D 1) (aa.1 rfl) aJ).bB 2 (D 2) (aa.2.1 rfl) aJ).bB 3 true rfl aJ;exact AS ⟨rfl,(bf,bg,bh,d3),hv.pu 3,o.u,zt,j⟩;rintro D U w hD aa af⟨⟨bf,bg,bh,bj⟩,hv,o,_,j⟩;obtain⟨O,rfl⟩:=(ac (hv.at 0 rfl<|aa.1 rfl)<|ac (hv.at 3 rfl<|aa.2.1 rfl)<|ac (hv.at 4 rfl<|aa.2.2.1 rfl) az).cY;have j:=(j.cK 0<|aa.1 rfl).cK 3<|aa.2.1 rfl;refine IN zt zr KG [bf,bj,vi p2] zr<|aF (ox N (p2:=p2) (i0:=0) (i1:=3) j zr zr dx) ?_;rintro _ w⟨rfl,j⟩;have j:=(j.bB 0 (D 0) (aa.1 rfl) aJ).bB 3 (D 3) (aa.2.1 rfl) aJ;exact AS ⟨rfl,(bf,bg,bh,bj),hv.pu 5,o.u,zt,j⟩;rintro D U w ai⟨⟨bf,bg,bh,bj⟩,hv,o,_,j⟩;have j:=(((j.cK 0<|pU ai 0).cK 1<|pU ai 1).cK 2<|pU ai 2).cK 3<|pU ai 3;obtain⟨O,rfl⟩:=(ac (hv.at 6 rfl<|pU ai 6)<|ac (o.at 0 rfl)<|ac (o.at 1 rfl)<|ac (o.at 2 rfl)<|ac (o.at 3 rfl)<|ac (o.at 4 rfl)<|ac (o.at 5 rfl)<|ac (o.at 6 rfl)<|ac (o.at 7 rfl)<|ac (o.at 8 rfl)<|ac (o.at 9 rfl)<|ac (o.at 10 rfl)<|ac (o.at 11 rfl)<|ac (o.at 12 rfl) az).cY;refine aG<|S6<|T1 mixed ?_;have j:=j.drew;refine T0<|mv (vi a5)<|AT<|mv ah<|AT<|mv (vi a1)<|AT<|S5 (a1:Int) 1<|AT<|q_ hb λbl cg hb=>Tk 12 j zr zr Dt cg<|AT<|Up (α:=cB) (jl 12 j cg 0) EM<|AT<|TP 12 j (jl 12 j cg 1) (bD cg).2.1 qt cI<|AT<|S5 a5 bl.e1<|AT<|mv (vi a8) ?_;refine AT<|mv ah<|AT<|mv (vi a1)<|AT<|S5 (a1:Int) 1<|AT<|q_ hb λbm ch hb=>Tk 12 j zr zr Dt ch<|AT<|Up (α:=cB) (jl 12 j ch 0) EL<|AT<|TP 12 j (jl 12 j ch 0) (bD ch).2.1 qs cI<|AT<|S5 a8 bm.e0<|AT<|ic (wrap .i64<|a5+bl.e1) (wrap .i64<|a8+bm.e0) ?_;refine AT<|aP (vb<|decide<|wrap .i64 (a5+bl.e1)< wrap .i64 (a8+bm.e0))<|TS<|aG<|S6<|w_<|mv (vb<|decide<|wrap .i64 (a5+bl.e1)< wrap .i64 (a8+bm.e0))<|AI ?_;refine q_ hb λbn hj hb=>Tg (λ(bn:Int)=>SH E V [(2,vi p2),(3,vi p3),(4,vp ak 0),(12,ah),(19,b1),(20,vp br 0),(21,vi aj.2.2),(22,vi a1),(23,vp b3 0),(24,vi bn),(26,vb<|decide<|wrap .i64 (a5+bl.e1)< wrap .i64 (a8+bm.e0)),(103,v1),(104,vi p1.length),(105,vi a1)] [bx 27 ak p0,own 64 ah ag.1,own 35 b1 aj.1,bx 59 br aj.2.1,bx 62 b3 bo,rd v1 p1]) bn ?_ ?_;refine dR hj (λhc hj=>?_) λhc hj=>?_;exact IT<|mv (vi a5)<|aP (vi a5)<|AS<|oi hj▸⟨rfl,j.sp 16 [11,12,15,13,8,14]⟩;exact Tw<|oi hj▸⟨rfl,j.sp 16 [11,12,15,13,8,14]⟩;rintro _ w⟨O,rfl,j⟩;refine aG<|w_<|mv (vi aj.2.2)<|mv (vi bn)<|mv (vi p3)<|S5 bn p3<|S5 aj.2.2 (wrap .i64<|bn+p3)<|aP (vi<|wrap .i64<|aj.2.2+ wrap .i64 (bn+p3))<|OF ?_;refine S3 (f:=(λx=>x)) 0 j zr Fd.self lC λd4 j=>S3 (f:=(λx=>x)) 5 j zr Fd.self sV λd5 j=>mv (vb<|decide<|wrap .i64 (a5+bl.e1)< wrap .i64 (a8+bm.e0))<|q_ hb λed d6 hb=>IN zt zr Gj [d4,d5,vb<|decide<|wrap .i64 (a5+bl.e1)< wrap .i64 (a8+bm.e0)] zr<|aF (kn N (p2:=decide<|wrap .i64 (a5+bl.e1)< wrap .i64 (a8+bm.e0)) (i0:=1) (i1:=0) j zr zr d6) ?_;rintro ee w j;refine Uj 6 j 0 zr Av λw j=>?_;refine AI<|IT<|mv b1<|mv (vi a1)<|mv (vb<|decide<|wrap .i64 (a5+bl.e1)< wrap .i64 (a8+bm.e0))<|mv (vi<|wrap .i64<|aj.2.2+ wrap .i64 (bn+p3)) ?_;have j:=((j.sc Int (a1:Int)).sc Bool<|decide<|wrap .i64 (a5+bl.e1)< wrap .i64 (a8+bm.e0)).sc Int<|wrap .i64<|aj.2.2+ wrap .i64 (bn+p3);refine TZ (⟨(a1:Int),decide<|wrap .i64 (a5+bl.e1)< wrap .i64 (a8+bm.e0),wrap .i64<|aj.2.2+ wrap .i64 (bn+p3)⟩:Touch) trivial rfl j [(0,vi a1),(1,vb<|decide<|wrap .i64 (a5+bl.e1)< wrap .i64 (a8+bm.e0)),(2,vi<|wrap .i64<|aj.2.2+ wrap .i64 (bn+p3))] rfl L7 rfl (λM hs g=>by have h:=BN M;exact cM.cons (f:=λ(x:Touch)y=>{x with Test:=y}) h uY (g.sat 2 _ rfl).1 λ_ h=>cM.cons (f:=λ(x:Touch)y=>{x with FZ:=y}) h uZ (g.sat 1 _ rfl).1 λ_ h=>cM.cons (f:=λ(x:Touch)y=>{x with A0:=y}) h u3 (g.sat 0 _ rfl).1 λ_ h=>cM.nil h) λd7 j=>?_;refine TN ([(⟨(a1:Int),decide<|wrap .i64 (a5+bl.e1)< wrap .i64 (a8+bm.e0),wrap .i64<|aj.2.2+ wrap .i64 (bn+p3)⟩:Touch)]:List Touch) j [d7] Js L8 (λM hs g=>⟨(g.sat 0 _ zr).1,zt⟩) λef w j=>?_;have j:=j.freeze 0;refine q_ hb λeg d8 hb=>TQ 10 0 j L9 d8 λct w j=>?_;exact aP ct<|AS<|bR<|aG<|IT<|TF hk hm<|mv (vi ((a1+1:Nat):Int))<|AS<|oi hb▸⟨rfl,ct,j.sp 14 [8,9,11,13,10]⟩;rintro _ w⟨b2,O,rfl,j⟩;exact aG<|w_<|mv b2<|aP b2<|aP (vi 0)<|AI<|Tb<|oi hb▸l3 ⟨b2,zr,j.pk 5 [4]⟩
end Go.Gk
