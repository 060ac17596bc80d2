/-
  Printed texts: Go functions as plain functions, and that they are. No statement of the seed is proved here.
-/
import Derived.Test.YthjjhaommlojiaaGreatDoorG1
import Derived.Test.YthjjhaommlojiaaGreatDoorG3
import Derived.Test.YthjjhaommlojiaaGreatDoorG4
import Derived.Test.YthjjhaommlojiaaGreatDoorG5
import Derived.Test.YthjjhaommlojiaaGreatDoorG6
import Derived.Test.YthjjhaommlojiaaGreatDoorG7
import Derived.Test.YthjjhaommlojiaaGreatDoorG2
import Derived.Test.YthjjhaommlojiaaGreatDoorA2
set_option linter.unusedVariables false
set_option linter.unusedSimpArgs false
set_option linter.unusedSectionVars false
set_option maxRecDepth 100000
set_option maxHeartbeats 40000000
namespace Go.Gk
open Go IntKind Go.Proofs
variable (N:Nat){E w:World}{b0 i0 i1 i2:Nat}{p1 p2 res:Int}{v0 e_ g_ l_ k_ a_ d_ h_ b_ f_ i_ p_ o_ v1 v2:Value}{V:List HP}
def ud(E:World)(V:List HP)(res:(List (List aH)×List aH×List cD×List eP×List Int×List (List aH)×List cP×List (List Int)))(v:Value)(w:World):Prop:=∃(ub0:Nat)(x_ J_:Value)(K_ P_:Value)(E_ F_:Value)(C_ I_:Value),v=vp ub0 0/\Holds E w ([bc 80 ub0 [x_,J_,K_,P_,E_,F_,C_,I_],rd x_ res.1,rd J_ res.2.1,rd K_ res.2.2.1,rd P_ res.2.2.2.1,rd E_ res.2.2.2.2.1,rd F_ res.2.2.2.2.2.1,own 117 C_ res.2.2.2.2.2.2.1,rd I_ res.2.2.2.2.2.2.2]++V)
theorem oD{p0:jT}{res:(List (List aH)×List aH×List cD×List eP×List Int×List (List aH)×List cP×List (List Int))}(j:Holds E w V)(h0:V[i0]? =some (rd v0 p0))(hb:iG N p0=some res):
    c_ 14 [v0] w<|ud E V res:=by
 unfold iG at hb
 refine enter Tryz.func14 zr zr ?_
 have j:=j.dup (i0+0) h0
 refine w_<|Q2 0 v0 j zr λa2 w j=>?_
 refine cZ (.pointer none)<|IT<|QW 0 j zr rY λck j=>?_
 obtain⟨cs,hcs,hv37,j⟩:=j.HE (i:=0) rfl rfl
 obtain⟨ax,ay,a0,a1,rfl⟩:=M8 hcs
 have j:=(((j.my (i:=0) (k:=0) (f:=λx=>x.aJ) rfl jE rfl rfl rfl).my (i:=1) (k:=1) (f:=λx=>x.cM) rfl tP rfl rfl rfl).my (i:=2) (k:=2) (f:=λx=>x.aL) rfl ik rfl rfl rfl).my (i:=3) (k:=3) (f:=λx=>x.bN) rfl lR rfl rfl rfl
 refine Th (zs:=[n_,n_,n_,n_,n_,n_,n_,n_]) (cs:=[ax,ay,a0,a1,n_,n_,n_,n_]) zt zr [(0,ck)] [(0,[ax,ay,a0,a1])] zr PT ⟨rfl,congrArg Value.cells hv37,zt⟩ zr<|SY [ax,ay,a0,a1,n_,n_,n_,n_] zr j zr (yJ.all (⟨oL 3 j,oL 2 j,oL 1 j,oL 0 j,zr,zr,zr,zr,zt⟩:yJ [ax,ay,a0,a1,n_,n_,n_,n_])) λah w j=>?_
 refine cZ (vp ah 0)<|OF<|w_<|aP 0<|AI<|Sv E V (λ(ai:List Int×List (List aH)×Int)(bw bz:Value)=>[bx 27 a2 p0,bc 80 ah [ax,ay,a0,a1,bw,bz,n_,n_],own 3 bw ai.1,own 23 bz ai.2.1,rd ax p0.aJ,rd ay p0.cM,rd a0 p0.aL,rd a1 p0.bN]) (λ_ _ _=>[(1,vp a2 0),(3,vp ah 0)]) (λai _ _=>[(4,vi ai.2.2)]) hb ?_ ?_ ?_
 ·have j:=(j.cG Int 3).cG (List aH) 23
  exact⟨n_,n_,j.sp 11 [9,2,1,0,6,5,4,3]⟩
 ·rintro ai fl _ w⟨b0,b2,O,rfl,j⟩hb
  refine BY<|w_<|aW ai.2.2<|AT zr np<|Rk 0 j zr jE ov λdi j=>QK 0 p0.aJ j po<|ic ai.2.2 ((p0.aJ.length:Int))<|AI<|dQ hb (λhb=>?_) λhb=>?_
  rotate_left
  ·refine Q3 ?_
   obtain rfl:=oi hb
   exact⟨rfl,b0,b2,j.sp 9 [1,2,3,4,5,6,7,8]⟩
  refine QX<|Q6<|QW 1 j zr rY λdj j=>aW ai.2.2 ?_
  obtain⟨dk,cm,hb⟩:=bd hb
  refine QO Oe (nA N (p1:=ai.2.2) (i0:=0) j zr cm) λdm w j=>?_
  have j:=j.freeze 0
  obtain⟨bn,cn,hb⟩:=bd hb
  refine QO Of (n8 N (i0:=0) j zr cn) λbf w j=>cZ bf<|IT<|aP 0<|AI<|Sv E V (λ(a9:List Int×List (List aH)×Int)(b3 b4:Value)=>[bx 27 a2 p0,bc 80 ah [ax,ay,a0,a1,b3,b4,n_,n_],own 3 b3 a9.1,own 23 b4 a9.2.1,rd ax p0.aJ,rd ay p0.cM,rd a0 p0.aL,rd a1 p0.bN,own 23 bf bn]) (λ_ _ _=>[(1,vp a2 0),(3,vp ah 0),(4,vi ai.2.2)]) (λa9 _ _=>[(5,bf),(6,vi a9.2.2)]) hb ?_ ?_ ?_
  ·exact⟨b0,b2,j.sp 12 [4,5,6,7,8,9,10,11,0]⟩
  ·rintro a9 fl _ w⟨b5,bg,O,rfl,j⟩hb
   refine BY<|w_<|aW a9.2.2<|mv bf<|Rx 8 bn j po<|ic a9.2.2 ((bn.length:Int))<|AI<|dQ hb (λhb=>?_) λhb=>?_
   rotate_left
   ·refine Q3 ?_
    obtain rfl:=oi hb
    exact⟨rfl,b5,bg,j.sp 9 [0,1,2,3,4,5,6,7,8]⟩
   refine QX<|Q6<|mv (vp ah 0)<|mv (vp ah 0)<|Q0 zr<|AT zr BX<|QQ 1 b5 j fQ<|aW ai.2.2 ?_
   have j:=j.sc Int ai.2.2
   refine Ri ([ai.2.2]:List Int) j [vi ai.2.2] dE Bh (λM hs g=>⟨(g.sat 0 _ zr).1,zt⟩) λdn w j=>?_
   have j:=j.freeze 0
   obtain⟨dp,cp,hb⟩:=bd hb
   refine Rl 4 0 j pU cp λbo w j=>?_
   refine Q0 zr<|AT zr BX<|RT 3 bo j zr zr (jt 4 j) fQ λw j=>?_
   refine AI ?_
   have j:=j.drew
   refine Sf (λw=>Holds E w<|[bc 80 ah [ax,ay,a0,a1,bo,bg,n_,n_]]++V) mixed zr [1,1,1,1,1,0,0,0,0,2,2,0,0,2] [0,1,2,3,4,5,6,7,8,9,10,11,12,13] (j.pk 11 [3])<|Q1 (vp ah 0) zr (λw=>QE (vp ah 0) zt QY)<|Q1 (vp ah 0) zr (λw=>QE (vp ah 0) zt QY)<|Q1 (vp ah 0) zr (λw=>Q0 zr QY)<|Q1 (vp ah 5) zr (λw=>AT zr oU QY)<|Sa bg zr (λw j=>QQ 0 bg j ov QY)<|QN zr<|mv bf<|aY zr ?_
   refine aW a9.2.2<|aY zr ?_
   obtain⟨cq,b6,hb⟩:=bd hb
   refine QT 10 j zr zr vW b6<|aY zr<|RQ 10 j b6 vx λcr j=>?_
   refine pE zr<|Ri ([cq]:List (List aH)) j [cr] vW Mw (λM hs g=>⟨(g.sat 0 _ zr).1,zt⟩) λdq w j=>Rc (j.pk 13 [5])<|Rr zr ?_
   have j:=j.freeze 0
   obtain⟨dr,ct,hb⟩:=bd hb
   refine Rl 7 0 j JI ct λb7 w j=>?_
   refine Rc (j.pk 13 [5])<|QN zr<|Q0 zr<|aY zr<|AT zr oU<|QV<|SL zr zr<|RT 5 b7 j zr zr (jt 7 j) ov λw j=>?_
   refine Rc zt<|Rg<|bO<|aD<|IS<|aW a9.2.2<|QF a9.2.2 1<|aP (wrap .i64<|a9.2.2+1)<|By ?_
   obtain rfl:=oi hb
   exact⟨rfl,bo,b7,j.sp 13 [4,5,6,7,8,9,10,11,12]⟩
  rintro a9 _ w hb⟨cu,cv,O,rfl,j⟩
  refine bO<|aD<|IS<|aW ai.2.2<|QF ai.2.2 1<|aP (wrap .i64<|ai.2.2+1)<|By ?_
  obtain rfl:=oi hb
  exact⟨rfl,cu,cv,j.sp 9 [0,1,2,3,4,5,6,7]⟩
 rintro ai _ w hb⟨a3,a5,O,rfl,j⟩
 refine aD<|BY<|w_<|aP 0<|AI<|RI E V (λ(aw:List (List Int)×Int)(b8:Value)=>[bx 27 a2 p0,bc 80 ah [ax,ay,a0,a1,a3,a5,n_,b8],own 52 b8 aw.1,rd ax p0.aJ,rd ay p0.cM,rd a0 p0.aL,rd a1 p0.bN,own 3 a3 ai.1,own 23 a5 ai.2.1]) (λ_ _=>[(3,vp ah 0)]) (λaw _=>[(1,vp a2 0),(7,vi aw.2)]) hb ?_ ?_ ?_
 ·have j:=j.cG (List Int) 52
  exact⟨n_,j.sp 9 [1,2,0,5,6,7,8,3,4]⟩
 ·rintro aw fl _ w⟨a7,O,rfl,j⟩hb
  refine BY<|w_<|aW aw.2<|AT zr iU<|Rk 0 j zr ik oT λds j=>QK 0 p0.aL j xY<|ic aw.2 ((p0.aL.length:Int))<|AI<|dQ hb (λhb=>?_) λhb=>?_
  rotate_left
  ·refine Q3 ?_
   obtain rfl:=oi hb
   exact⟨rfl,a7,j.sp 10 [1,2,3,4,5,6,7,8,9]⟩
  refine QX<|Q6<|cZ n_<|OF<|w_<|aP 0<|AI<|RI E V (λ(au:List Int×Int)(bp:Value)=>[bx 27 a2 p0,bc 80 ah [ax,ay,a0,a1,a3,a5,n_,a7],rd ax p0.aJ,rd ay p0.cM,rd a0 p0.aL,rd a1 p0.bN,own 3 a3 ai.1,own 23 a5 ai.2.1,own 52 a7 aw.1,own 3 bp au.1]) (λ_ bp=>[(1,vp a2 0),(3,vp ah 0),(7,vi aw.2),(8,bp)]) (λau _=>[(9,vi au.2)]) hb ?_ ?_ ?_
  ·have j:=j.cG Int 3
   exact⟨n_,j.sp 11 [2,3,5,6,7,8,9,10,4,0]⟩
  ·rintro au fl _ w⟨ba,O,rfl,j⟩hb
   refine BY<|BY ?_
   obtain⟨bq,hj,hb⟩:=bd hb
   refine QP (λ(bq:Bool)=>SH E V [(1,vp a2 0),(3,vp ah 0),(7,vi aw.2),(8,ba),(9,vi au.2),(74,vb bq)] [bx 27 a2 p0,bc 80 ah [ax,ay,a0,a1,a3,a5,n_,a7],rd ax p0.aJ,rd ay p0.cM,rd a0 p0.aL,rd a1 p0.bN,own 3 a3 ai.1,own 23 a5 ai.2.1,own 52 a7 aw.1,own 3 ba au.1]) bq ?_ ?_
   ·refine IS<|aW au.2<|mv (vp ah 0)<|Q0 zr<|AT zr oU<|QQ 1 a5 j ov<|Rx 7 ai.2.1 j po<|ic au.2 ((ai.2.1.length:Int))<|fI (decide<|au.2<(ai.2.1.length:Int)) ?_
    refine fw hj (λa6 hj=>?_) λa6 hj=>?_
    rotate_left
    ·refine bI a6<|bI a6<|bI a6<|bI a6<|bI a6<|bI a6<|fA a6 (vb false)<|By ?_
     obtain rfl:=oi hj
     exact⟨rfl,j.sp 10 [0,1,2,3,4,5,6,7,8,9]⟩
    refine AT (hg:=cg a6) zr iU<|Rk (hg:=cg a6) 0 j zr ik oT λdt j=>QE (vi aw.2) (cg a6) ?_
    obtain⟨b9,cw,hj⟩:=bd hj
    refine QG (hg:=cg a6) 0 j rZ cw λdu j=>Rh (hg:=cg a6) 0 j zr zU rM λdv j=>QZ (hg:=cg a6) b9.gw 0 j A4<|fA a6 (vb b9.gw)<|By ?_
    obtain rfl:=oi hj
    exact⟨rfl,j.sp 13 [3,4,5,6,7,8,9,10,11,12]⟩
   rintro _ w⟨O,rfl,j⟩
   refine aD<|dQ hb (λhb=>?_) λhb=>?_
   rotate_left
   ·refine Q3 ?_
    obtain rfl:=oi hb
    exact⟨rfl,ba,j.sp 10 [0,1,2,3,4,5,6,7,8,9]⟩
   refine QX<|Rq<|BY ?_
   obtain⟨br,hj,hb⟩:=bd hb
   refine QP (λ(br:Bool)=>SH E V [(1,vp a2 0),(3,vp ah 0),(7,vi aw.2),(8,ba),(9,vi au.2),(105,vb br)] [bx 27 a2 p0,bc 80 ah [ax,ay,a0,a1,a3,a5,n_,a7],rd ax p0.aJ,rd ay p0.cM,rd a0 p0.aL,rd a1 p0.bN,own 3 a3 ai.1,own 23 a5 ai.2.1,own 52 a7 aw.1,own 3 ba au.1]) br ?_ ?_
   ·obtain⟨bb,ca,hj⟩:=bd hj
    obtain⟨bh,bj,hj⟩:=bd hj
    obtain⟨bk,cb,hj⟩:=bd hj
    refine fw hj (λav hj=>?_) λav hj=>?_
    rotate_left
    ·refine RW E V mixed [1,0,1,0,0,1,1,1,0,1,0,0,0,1,1,1,1,1,1,1,1,1,1,1,1,1,1,1,1] [1,3,4] (λ(x:Value×Value×Value)=>(λad ae af=>[(0,77,vp a2 2),(1,78,ad),(2,79,vi aw.2),(3,80,ae),(4,81,af),(5,82,vp ah 0),(6,83,vp ah 0),(7,84,vp ah 4),(8,85,a3),(9,86,vi au.2),(10,87,zH a3 (Int.toNat au.2) 1 0),(11,88,vi bh),(12,89,vb bk),(13,90,vb bk),(14,91,undef),(15,92,undef),(16,93,undef),(17,94,undef),(18,95,undef),(19,96,undef),(20,97,undef),(21,98,undef),(22,99,undef),(23,100,undef),(24,101,undef),(25,102,undef),(26,103,undef),(27,104,undef),(28,105,vb false)]) x.1 x.2.1 x.2.2) [(1,vp a2 0),(3,vp ah 0),(7,vi aw.2),(8,ba),(9,vi au.2)] [] (λ(D:Nat->Bool)(x:Value×Value×Value)=>(λad ae af=>[bif D 0 then rd ad p0.aL else bC,bif D 1 then pt ae bb else bC,bif D 2 then rd af bb else bC,bx 27 a2 p0,bc 80 ah [ax,ay,a0,a1,a3,a5,n_,a7],rd ax p0.aJ,rd ay p0.cM,rd a0 p0.aL,rd a1 p0.bN,own 3 a3 ai.1,own 23 a5 ai.2.1,own 52 a7 aw.1,own 3 ba au.1]) x.1 x.2.1 x.2.2) (λx=>by kernel_rfl) ?_ ⟨λ_=>mA gn iU,?_,λ_=>g8 gn,?_,?_,λ_=>g8 gn,λ_=>tr gn,λ_=>mA gn BX,?_,λ_=>g8 gn,?_,?_,?_,λ_=>g8 gn,λ_=>pT av,λ_=>pT av,λ_=>pT av,λ_=>pT av,λ_=>pT av,λ_=>pT av,λ_=>pT av,λ_=>pT av,λ_=>pT av,λ_=>pT av,λ_=>pT av,λ_=>pT av,λ_=>pT av,λ_=>pT av,λ_=>Mo gn av rfl,trivial⟩ ?_
     ·have j:=(((j.drew).bC).bC).bC
      exact⟨(undef,undef,undef),eH.none,D9 zr,zt,j⟩
     ·rintro D U w hD aa a4⟨⟨ad,ae,af⟩,o,ha,_,j⟩
      obtain⟨O,rfl⟩:=o.o1 0 aa
      have j:=j.bZ 0 hD
      refine Rk 3 j zr ik oT λcx j=>?_
      have j:=j.nw 0
      exact QH (cx,ae,af) 1 o ha j
     ·rintro D U w hD aa a4⟨⟨ad,ae,af⟩,o,ha,_,j⟩
      obtain⟨O,rfl⟩:=o.o2 1 2 aa
      have j:=(j.dZ 0<|aa.1 rfl).bZ 1 hD
      refine QG 0 j rZ ca λcy j=>?_
      have j:=((j.pl 14 [1,0,3,4,5,6,7,8,9,10,11,12,13]).cR 0 (D 1) (aa.1 rfl) bC).cR 1 true rfl bC
      exact QH (ad,cy,af) 3 o ha j
     ·rintro D U w hD aa a4⟨⟨ad,ae,af⟩,o,ha,_,j⟩
      obtain⟨O,rfl⟩:=o.o1 3 aa
      have j:=(j.dZ 1<|aa.1 rfl).bZ 2 hD
      refine QR 1 bb j mS λcz j=>?_
      have j:=((j.pl 14 [1,2,0,4,5,6,7,8,9,10,11,12,13]).cR 1 (D 3) (aa.1 rfl) bC).cR 2 true rfl bC
      exact QH (ad,ae,cz) 4 o ha j
     ·rintro D U w hD aa a4⟨⟨ad,ae,af⟩,o,ha,_,j⟩
      obtain⟨O,rfl⟩:=o.o1 7 aa
      refine QQ 4 a3 j fQ ?_
      exact QH (ad,ae,af) 8 o ha j
     ·rintro D U w hD aa a4⟨⟨ad,ae,af⟩,o,ha,_,j⟩
      obtain⟨O,rfl⟩:=o.o2 8 9 aa
      refine QT 9 j zr zr dE bj ?_
      exact QH (ad,ae,af) 10 o ha j
     ·rintro D U w hD aa a4⟨⟨ad,ae,af⟩,o,ha,_,j⟩
      obtain⟨O,rfl⟩:=o.o1 10 aa
      refine RA 9 j bj cJ ?_
      exact QH (ad,ae,af) 11 o ha j
     ·rintro D U w hD aa a4⟨⟨ad,ae,af⟩,o,ha,_,j⟩
      obtain⟨O,rfl⟩:=o.o2 4 11 aa
      have j:=j.dZ 2<|aa.1 rfl
      refine QM KX (jV N (p1:=bh) (i0:=2) j zr cb) λw j=>?_
      have j:=j.cR 2 (D 4) (aa.1 rfl) bC
      exact QH (ad,ae,af) 12 o ha j
     rintro D U w a8⟨⟨ad,ae,af⟩,o,ha,_,j⟩
     have j:=((j.dZ 0<|qx a8 1).dZ 1<|qx a8 3).dZ 2<|qx a8 4
     obtain⟨O,rfl⟩:=(ac (o.at 28 rfl<|qx a8 28) ha).qP
     obtain rfl:=oi hj
     exact⟨rfl,j.sp 13 [3,4,5,6,7,8,9,10,11,12]⟩
    obtain⟨c0,cc,hj⟩:=bd hj
    obtain⟨bt,c1,hj⟩:=bd hj
    obtain⟨c2,c3,hj⟩:=bd hj
    obtain⟨cd,c4,hj⟩:=bd hj
    refine RW E V mixed [1,0,1,0,0,1,1,1,0,1,0,0,0,1,1,1,1,0,1,0,0,1,0,1,0,0,0,0,1] [1,3,4,20,22,24,25,26] (λ(x:Value×Value×Value×Value×Value×Value×Value×Value)=>(λad ae af ak al an ao aq=>[(0,77,vp a2 2),(1,78,ad),(2,79,vi aw.2),(3,80,ae),(4,81,af),(5,82,vp ah 0),(6,83,vp ah 0),(7,84,vp ah 4),(8,85,a3),(9,86,vi au.2),(10,87,zH a3 (Int.toNat au.2) 1 0),(11,88,vi bh),(12,89,vb bk),(13,90,vb bk),(14,91,vp ah 0),(15,92,vp ah 0),(16,93,vp ah 5),(17,94,a5),(18,95,vi au.2),(19,96,zH a5 (Int.toNat au.2) 1 0),(20,97,ak),(21,98,vp a2 2),(22,99,al),(23,100,vi aw.2),(24,101,an),(25,102,ao),(26,103,aq),(27,104,vb cd),(28,105,vb cd)]) x.1 x.2.1 x.2.2.1 x.2.2.2.1 x.2.2.2.2.1 x.2.2.2.2.2.1 x.2.2.2.2.2.2.1 x.2.2.2.2.2.2.2) [(1,vp a2 0),(3,vp ah 0),(7,vi aw.2),(8,ba),(9,vi au.2)] [] (λ(D:Nat->Bool)(x:Value×Value×Value×Value×Value×Value×Value×Value)=>(λad ae af ak al an ao aq=>[bif D 0 then rd ad p0.aL else bC,bif D 1 then pt ae bb else bC,bif D 2 then rd af bb else bC,bif D 3 then rd ak c0 else bC,bif D 4 then rd al p0.aL else bC,bif D 5 then pt an bt else bC,bif D 6 then rd ao bt else bC,bif D 7 then rd aq c2 else bC,bx 27 a2 p0,bc 80 ah [ax,ay,a0,a1,a3,a5,n_,a7],rd ax p0.aJ,rd ay p0.cM,rd a0 p0.aL,rd a1 p0.bN,own 3 a3 ai.1,own 23 a5 ai.2.1,own 52 a7 aw.1,own 3 ba au.1]) x.1 x.2.1 x.2.2.1 x.2.2.2.1 x.2.2.2.2.1 x.2.2.2.2.2.1 x.2.2.2.2.2.2.1 x.2.2.2.2.2.2.2) (λx=>by kernel_rfl) ?_ ⟨λ_=>mA gn iU,?_,λ_=>g8 gn,?_,?_,λ_=>g8 gn,λ_=>tr gn,λ_=>mA gn BX,?_,λ_=>g8 gn,?_,?_,?_,λ_=>g8 gn,λ_=>g8<|gy av,λ_=>tr<|gy av,λ_=>mA (gy av) oU,?_,λ_=>g8<|gy av,?_,?_,λ_=>mA (gy av) iU,?_,λ_=>g8<|gy av,?_,?_,?_,?_,λ_=>Mn gn av rfl,trivial⟩ ?_
    ·have j:=((((((((j.drew).bC).bC).bC).bC).bC).bC).bC).bC
     exact⟨(undef,undef,undef,undef,undef,undef,undef,undef),eH.none,D9 zr,zt,j⟩
    ·rintro D U w hD aa a4⟨⟨ad,ae,af,ak,al,an,ao,aq⟩,o,ha,_,j⟩
     dsimp only at o j
     obtain⟨O,rfl⟩:=o.o1 0 aa
     have j:=j.bZ 0 hD
     refine Rk 8 j zr ik oT λc5 j=>?_
     have j:=j.nw 0
     exact QH (c5,ae,af,ak,al,an,ao,aq) 1 o ha j
    ·rintro D U w hD aa a4⟨⟨ad,ae,af,ak,al,an,ao,aq⟩,o,ha,_,j⟩
     dsimp only at o j
     obtain⟨O,rfl⟩:=o.o2 1 2 aa
     have j:=(j.dZ 0<|aa.1 rfl).bZ 1 hD
     refine QG 0 j rZ ca λc6 j=>?_
     have j:=((j.pl 19 [1,0,3,4,5,6,7,8,9,10,11,12,13,14,15,16,17,18]).cR 0 (D 1) (aa.1 rfl) bC).cR 1 true rfl bC
     exact QH (ad,c6,af,ak,al,an,ao,aq) 3 o ha j
    ·rintro D U w hD aa a4⟨⟨ad,ae,af,ak,al,an,ao,aq⟩,o,ha,_,j⟩
     dsimp only at o j
     obtain⟨O,rfl⟩:=o.o1 3 aa
     have j:=(j.dZ 1<|aa.1 rfl).bZ 2 hD
     refine QR 1 bb j mS λc7 j=>?_
     have j:=((j.pl 19 [1,2,0,4,5,6,7,8,9,10,11,12,13,14,15,16,17,18]).cR 1 (D 3) (aa.1 rfl) bC).cR 2 true rfl bC
     exact QH (ad,ae,c7,ak,al,an,ao,aq) 4 o ha j
    ·rintro D U w hD aa a4⟨⟨ad,ae,af,ak,al,an,ao,aq⟩,o,ha,_,j⟩
     dsimp only at o j
     obtain⟨O,rfl⟩:=o.o1 7 aa
     refine QQ 9 a3 j fQ ?_
     exact QH (ad,ae,af,ak,al,an,ao,aq) 8 o ha j
    ·rintro D U w hD aa a4⟨⟨ad,ae,af,ak,al,an,ao,aq⟩,o,ha,_,j⟩
     dsimp only at o j
     obtain⟨O,rfl⟩:=o.o2 8 9 aa
     refine QT 14 j zr zr dE bj ?_
     exact QH (ad,ae,af,ak,al,an,ao,aq) 10 o ha j
    ·rintro D U w hD aa a4⟨⟨ad,ae,af,ak,al,an,ao,aq⟩,o,ha,_,j⟩
     dsimp only at o j
     obtain⟨O,rfl⟩:=o.o1 10 aa
     refine RA 14 j bj cJ ?_
     exact QH (ad,ae,af,ak,al,an,ao,aq) 11 o ha j
    ·rintro D U w hD aa a4⟨⟨ad,ae,af,ak,al,an,ao,aq⟩,o,ha,_,j⟩
     dsimp only at o j
     obtain⟨O,rfl⟩:=o.o2 4 11 aa
     have j:=j.dZ 2<|aa.1 rfl
     refine QM KX (jV N (p1:=bh) (i0:=2) j zr cb) λw j=>?_
     have j:=j.cR 2 (D 4) (aa.1 rfl) bC
     exact QH (ad,ae,af,ak,al,an,ao,aq) 12 o ha j
    ·rintro D U w hD aa a4⟨⟨ad,ae,af,ak,al,an,ao,aq⟩,o,ha,_,j⟩
     dsimp only at o j
     obtain⟨O,rfl⟩:=o.o2 16 13 aa
     refine QQ (hg:=cg av) 9 a5 j ov ?_
     exact QH (ad,ae,af,ak,al,an,ao,aq) 17 o ha j
    ·rintro D U w hD aa a4⟨⟨ad,ae,af,ak,al,an,ao,aq⟩,o,ha,_,j⟩
     dsimp only at o j
     obtain⟨O,rfl⟩:=(ac (o.at 13 rfl<|aa.2.2.1 rfl)<|ac (o.at 17 rfl<|aa.1 rfl)<|ac (o.at 18 rfl<|aa.2.1 rfl) az).qP
     refine QT (hg:=cg av) 15 j zr zr vW cc ?_
     exact QH (ad,ae,af,ak,al,an,ao,aq) 19 o ha j
    ·rintro D U w hD aa a4⟨⟨ad,ae,af,ak,al,an,ao,aq⟩,o,ha,_,j⟩
     dsimp only at o j
     obtain⟨O,rfl⟩:=o.o2 19 13 aa
     have j:=j.bZ 3 hD
     refine RQ (hg:=cg av) 15 j cc vx λc8 j=>?_
     have j:=j.nw 3
     exact QH (ad,ae,af,c8,al,an,ao,aq) 20 o ha j
    ·rintro D U w hD aa a4⟨⟨ad,ae,af,ak,al,an,ao,aq⟩,o,ha,_,j⟩
     dsimp only at o j
     obtain⟨O,rfl⟩:=o.o2 21 13 aa
     have j:=j.bZ 4 hD
     refine Rk (hg:=cg av) 8 j zr ik oT λc9 j=>?_
     have j:=j.nw 4
     exact QH (ad,ae,af,ak,c9,an,ao,aq) 22 o ha j
    ·rintro D U w hD aa a4⟨⟨ad,ae,af,ak,al,an,ao,aq⟩,o,ha,_,j⟩
     dsimp only at o j
     obtain⟨O,rfl⟩:=(ac (o.at 13 rfl<|aa.2.2.1 rfl)<|ac (o.at 22 rfl<|aa.1 rfl)<|ac (o.at 23 rfl<|aa.2.1 rfl) az).qP
     have j:=(j.dZ 4<|aa.1 rfl).bZ 5 hD
     refine QG (hg:=cg av) 4 j rZ c1 λda j=>?_
     have j:=((j.pl 19 [1,2,3,4,5,0,7,8,9,10,11,12,13,14,15,16,17,18]).cR 4 (D 22) (aa.1 rfl) bC).cR 5 true rfl bC
     exact QH (ad,ae,af,ak,al,da,ao,aq) 24 o ha j
    ·rintro D U w hD aa a4⟨⟨ad,ae,af,ak,al,an,ao,aq⟩,o,ha,_,j⟩
     dsimp only at o j
     obtain⟨O,rfl⟩:=o.o2 24 13 aa
     have j:=(j.dZ 5<|aa.1 rfl).bZ 6 hD
     refine QR (hg:=cg av) 5 bt j mS λdb j=>?_
     have j:=((j.pl 19 [1,2,3,4,5,6,0,8,9,10,11,12,13,14,15,16,17,18]).cR 5 (D 24) (aa.1 rfl) bC).cR 6 true rfl bC
     exact QH (ad,ae,af,ak,al,an,db,aq) 25 o ha j
    ·rintro D U w hD aa a4⟨⟨ad,ae,af,ak,al,an,ao,aq⟩,o,ha,_,j⟩
     dsimp only at o j
     obtain⟨O,rfl⟩:=o.o2 25 13 aa
     have j:=(j.dZ 6<|aa.1 rfl).bZ 7 hD
     refine QO (hg:=cg av) IH (ga N (i0:=6) j zr c3) λdc w j=>?_
     have j:=((j.pl 19 [1,2,3,4,5,6,7,0,9,10,11,12,13,14,15,16,17,18]).cR 6 (D 25) (aa.1 rfl) bC).cR 7 true rfl bC
     exact QH (ad,ae,af,ak,al,an,ao,dc) 26 o ha j
    ·rintro D U w hD aa a4⟨⟨ad,ae,af,ak,al,an,ao,aq⟩,o,ha,_,j⟩
     dsimp only at o j
     obtain⟨O,rfl⟩:=(ac (o.at 13 rfl<|aa.2.2.2.1 rfl)<|ac (o.at 20 rfl<|aa.1 rfl)<|ac (o.at 26 rfl<|aa.2.1 rfl) az).qP
     have j:=(j.dZ 3<|aa.1 rfl).dZ 7<|aa.2.1 rfl
     refine QM (hg:=cg av) (hZ Tryz.func35) (vJ N (i0:=3) (i1:=7) j zr zr c4) λw j=>?_
     have j:=(j.cR 3 (D 20) (aa.1 rfl) bC).cR 7 (D 26) (aa.2.1 rfl) bC
     exact QH (ad,ae,af,ak,al,an,ao,aq) 27 o ha j
    rintro D U w a8⟨⟨ad,ae,af,ak,al,an,ao,aq⟩,o,ha,_,j⟩
    simp only[List.getD_cons_zero,List.getD_cons_succ,a8 1 (by decide),a8 3 (by decide),a8 4 (by decide),a8 20 (by decide),a8 22 (by decide),a8 24 (by decide),a8 25 (by decide),a8 26 (by decide),aK]at j
    obtain⟨O,rfl⟩:=(ac (o.at 28 rfl<|qx a8 28) ha).qP
    obtain rfl:=oi hj
    exact⟨rfl,j.sp 18 [8,9,10,11,12,13,14,15,16,17]⟩
   rintro _ w⟨O,rfl,j⟩
   refine aD ?_
   obtain⟨bu,hj,hb⟩:=bd hb
   refine QP (λ(bu:List Int)U w=>∃bl:Value,SH E V [(1,vp a2 0),(3,vp ah 0),(7,vi aw.2),(8,bl),(9,vi au.2)] [bx 27 a2 p0,bc 80 ah [ax,ay,a0,a1,a3,a5,n_,a7],rd ax p0.aJ,rd ay p0.cM,rd a0 p0.aL,rd a1 p0.bN,own 3 a3 ai.1,own 23 a5 ai.2.1,own 52 a7 aw.1,own 3 bl bu] U w) bu ?_ ?_
   ·refine dQ hj (λhj=>?_) λhj=>?_
    rotate_left
    ·refine Rb ?_
     obtain rfl:=oi hj
     exact⟨rfl,ba,j.sp 10 [0,1,2,3,4,5,6,7,8,9]⟩
    refine IS<|mv ba<|aW au.2 ?_
    have j:=j.sc Int au.2
    refine Ri ([au.2]:List Int) j [vi au.2] dE Bh (λM hs g=>⟨(g.sat 0 _ zr).1,zt⟩) λdw w j=>?_
    have j:=j.freeze 0
    obtain⟨dx,dd,hj⟩:=bd hj
    refine Rl 11 0 j pU dd λcf w j=>?_
    refine cZ cf<|By ?_
    obtain rfl:=oi hj
    exact⟨rfl,cf,j.sp 12 [2,3,4,5,6,7,8,9,10,11]⟩
   rintro _ w⟨bl,O,rfl,j⟩
   refine bO<|aD<|IS<|aW au.2<|QF au.2 1<|aP (wrap .i64<|au.2+1)<|By ?_
   obtain rfl:=oi hb
   exact⟨rfl,bl,j.sp 10 [0,1,2,3,4,5,6,7,8,9]⟩
  rintro au _ w hb⟨ch,O,rfl,j⟩
  refine aD<|IS<|mv (vp ah 0)<|mv (vp ah 0)<|Q0 zr<|AT zr qf<|QQ 1 a7 j vz<|mv ch ?_
  have j:=j.freeze 9
  refine Ri ([au.1]:List (List Int)) j [ch] x9 My (λM hs g=>⟨(g.sat 9 _ zr).1,zt⟩) λdy w j=>?_
  have j:=j.freeze 0
  obtain⟨dz,de,hb⟩:=bd hb
  refine Rl 9 0 j Mz de λcj w j=>?_
  refine Q0 zr<|AT zr qf<|RT 2 cj j zr zr (jt 9 j) vz λw j=>?_
  refine By<|bO<|aD<|IS<|aW aw.2<|QF aw.2 1<|aP (wrap .i64<|aw.2+1)<|By ?_
  obtain rfl:=oi hb
  exact⟨rfl,cj,j.sp 11 [1,2,9,3,4,5,6,7,8]⟩
 rintro aw _ w hb⟨df,O,rfl,j⟩
 refine aD<|w_<|mv (vp ah 0) ?_
 have j:=((((((((j.freeze 7).freeze 8).freeze 2).dup 2 rfl).dup 9 rfl).dup 9 rfl).dup 9 rfl).dup 9 rfl).pull 6
 obtain⟨d3,dg,hb⟩:=bd hb
 refine QO (hZ Tryz.func37) (oW N j dg) ?_
 rintro _ w⟨dh,rfl,j⟩
 refine IT<|mv (vp ah 0)<|cZ (vp ah 0)<|AI<|QL ?_
 obtain rfl:=oi hb
 exact bX ⟨ah,ax,ay,a0,a1,a3,a5,dh,df,zr,j.pk 11 [0,5,6,7,8,9,10,1,4]⟩
def qZ(E:World)(V:List HP)(b0:Nat)(e_ g_:Value)(a_ d_:Value)(h_ b_:Value)(f_ i_:Value)(res:Int)(v:Value)(w:World):Prop:=v= vi res/\Holds E w ([bc 80 b0 [e_,g_,a_,d_,h_,b_,f_,i_]]++V)
theorem mc{j_:List (List aH)}{p1:cL}(j:Holds E w (bc 80 b0 [e_,g_,a_,d_,h_,b_,f_,i_]::rd b_ j_::V))(h1:V[i1]? =some (rd v1 p1))(o:fV N j_ p1=some res):c_ 39 [vp b0 0,v1] w<|qZ E V b0 e_ g_ a_ d_ h_ b_ f_ i_ res:=by
 unfold fV at o;refine enter Tryz.func39 zr zr ?_;have j:=j.dup (i1+2) h1;refine w_<|Q2 0 v1 j zr λaa w j=>?_;refine aP 0<|OF<|w_<|AT zr zW<|QI 0 j zr tQ A4<|AI<|dQ o (λo=>?_) λo=>?_;refine BY<|RG mixed ?_;have j:=j.drew;refine RF<|mv (vp b0 0)<|AS<|Q0 zr<|AS<|AT zr oU<|AS<|QQ 2 b_ j ov<|AS<|QK 3 j_ j po<|AS<|AT zr uS<|AS<|QI 0 j zr pF cJ<|AS<|QF (j_.length:Int) p1.Number<|AS<|aP (wrap .i64<|(j_.length:Int)+p1.Number) ?_;exact Rs<|aD<|Q5<|oi o▸bX ⟨rfl,j.pk 4 [2]⟩;exact Ru<|AT zr uS<|QI 0 j zr pF cJ<|aP p1.Number<|AI<|QL<|oi o▸bX ⟨rfl,j.pk 4 [2]⟩
theorem me{j_:List (List aH)}{t_:List (List Int)}{res:List Int}(j:Holds E w (bc 80 b0 [e_,g_,a_,d_,h_,b_,f_,i_]::rd b_ j_::rd i_ t_::V))(o:eW N j_ t_ p1=some res):c_ 40 [vp b0 0,vi p1] w<|km E V b0 e_ g_ a_ d_ h_ b_ f_ i_ res:=by
 unfold eW at o;refine enter Tryz.func40 zr zr<|w_<|cZ n_<|IT<|cZ n_<|OF<|w_<|aW p1<|mv (vp b0 0)<|Q0 zr<|AT zr oU<|QQ 0 b_ j ov<|QK 1 j_ j po<|ic p1 ((j_.length:Int))<|AI<|dQ o (λo=>?_) λo=>?_;refine BY<|Rz mixed [0,0,0,0,0,0,0,0,0,0,0,0,0,0,2,0] [0,1,2,3,4,5,6,7,8,9,10,11,12,13,14,15] ?_;have j:=j.drew;refine QN zr<|mv n_<|aY zr<|mv (vp b0 0)<|aY zr<|Q0 zr<|aY zr<|AT zr qf<|aY zr<|QQ 0 i_ j vz<|aY zr<|aW p1<|aY zr<|mv (vp b0 0)<|aY zr<|Q0 zr<|aY zr<|AT zr oU ?_;refine aY zr<|QQ 0 b_ j ov<|aY zr<|QK 1 j_ j po<|aY zr<|QF p1 (j_.length:Int)<|aY zr<|q_ o λaj ak o=>QG 2 j x9 ak λav j=>aY zr<|QR 0 aj j fQ λaw j=>pE zr ?_;have j:=j.cG Int 3;refine q_ o λax al o=>Rl 0 1 j pU al λan w j=>?_;refine tt zr<|cZ an<|QV<|Rg<|aD<|Q5 ?_;obtain rfl:=oi o;exact bX<|j.pk 6 [0,3];refine QX<|w_<|aP 0<|AI<|RI E V (λ(aa:List Int×Int)(ae:Value)=>[bc 80 b0 [e_,g_,a_,d_,h_,b_,f_,i_],rd b_ j_,rd i_ t_,own 3 ae aa.1]) (λ_ ae=>[(0,vp b0 0),(5,ae)]) (λaa _=>[(1,vi p1),(6,vi aa.2)]) o ?_ ?_ ?_;have j:=j.cG Int 3;exact⟨n_,j.sp 4 [1,2,3,0]⟩;rintro aa fl _ w⟨af,O,rfl,j⟩o;refine BY<|w_<|aW aa.2<|mv (vp b0 0)<|Q0 zr<|AT zr qf<|QQ 0 i_ j vz<|QK 2 t_ j Eb<|ic aa.2 ((t_.length:Int))<|AI<|dQ o (λo=>?_) λo=>?_;refine QX<|Q6<|mv (vp b0 0)<|Q0 zr<|AT zr qf<|QQ 0 i_ j vz<|aW aa.2<|q_ o λao aq o=>QG 2 j x9 aq λaz j=>QR 0 ao j fQ λa0 j=>aW p1<|q_ o λa1 ar o=>QM JQ (gU N (p1:=p1) (i0:=0) j zr ar) λw j=>AI<|q_ o λag hj o=>QP (λ(ag:List Int)U w=>∃ad:Value,SH E V [(0,vp b0 0),(1,vi p1),(5,ad),(6,vi aa.2)] [bc 80 b0 [e_,g_,a_,d_,h_,b_,f_,i_],rd b_ j_,rd i_ t_,own 3 ad ag] U w) ag ?_ ?_;refine dQ hj (λhj=>?_) λhj=>?_;refine IS<|mv af<|mv (vp b0 0)<|Q0 zr<|AT zr oU<|QQ 2 b_ j ov<|QK 3 j_ j po<|aW aa.2<|QF (j_.length:Int) aa.2 ?_;have j:=j.sc Int<|wrap .i64<|(j_.length:Int)+aa.2;refine Ri ([wrap .i64<|(j_.length:Int)+aa.2]:List Int) j [vi<|wrap .i64<|(j_.length:Int)+aa.2] dE Bh (λM hs g=>⟨(g.sat 0 _ zr).1,zt⟩) λa2 w j=>?_;have j:=j.freeze 0;refine q_ hj λa3 au hj=>Rl 7 0 j pU au λah w j=>?_;exact cZ ah<|By<|oi hj▸⟨rfl,ah,j.sp 8 [4,5,6,7]⟩;exact Rb<|oi hj▸⟨rfl,af,j.sp 6 [2,3,4,5]⟩;rintro _ w⟨ad,O,rfl,j⟩;refine bO<|aD<|IS<|aW aa.2<|QF aa.2 1<|aP (wrap .i64<|aa.2+1)<|By ?_;exact oi o▸⟨rfl,ad,j.sp 4 [0,1,2,3]⟩;exact Q3<|oi o▸⟨rfl,af,j.sp 4 [0,1,2,3]⟩;rintro aa _ w o⟨ai,O,rfl,j⟩;refine aD<|w_<|mv ai<|cZ ai<|AI<|QL ?_;obtain rfl:=oi o;exact bX<|j.pk 4 [3,0]
theorem mC{j_:List (List aH)}{t_:List (List Int)}{res:List Int}(j:Holds E w (bc 80 b0 [e_,g_,a_,d_,h_,b_,f_,i_]::rd b_ j_::rd i_ t_::V))(o:dK N j_ t_ p1 p2=some res):c_ 18 [vp b0 0,vi p1,vi p2] w<|km E V b0 e_ g_ a_ d_ h_ b_ f_ i_ res:=by
 unfold dK at o;refine enter Tryz.func18 zr zr<|w_<|cZ n_<|OF<|Rz mixed [0,0,0,0,0,0,0,0,0,0,0,2,0] [0,1,2,3,4,5,6,7,8,9,10,11,12] ?_;have j:=j.drew;refine QN zr<|mv (vp b0 0)<|aY zr<|Q0 zr<|aY zr<|AT zr oU<|aY zr<|QQ 0 b_ j ov<|aY zr<|QK 1 j_ j po<|aY zr<|mv (vp b0 0)<|aY zr<|Q0 zr<|aY zr<|AT zr qf<|aY zr<|QQ 0 i_ j vz ?_;refine aY zr<|QK 2 t_ j Eb<|aY zr<|QF (j_.length:Int) (t_.length:Int)<|pE zr<|q_ o λbm bf o=>Sb (wrap .i64<|(j_.length:Int)+(t_.length:Int)) j pU MX bf λab w j=>?_;refine tt zr<|cZ ab<|QV<|Rg<|aD<|BY<|w_<|aP 0<|AI<|R6 E V (λ(ag:List Int×Int)=>[bc 80 b0 [e_,g_,a_,d_,h_,b_,f_,i_],rd b_ j_,rd i_ t_,own 3 ab ag.1]) (λ_=>[(0,vp b0 0),(1,vi p1),(2,vi p2),(7,ab)]) (λag=>[(8,vi ag.2)]) o ?_ ?_ ?_;exact j.sp 4 [1,2,3,0];rintro ag fl _ w⟨O,rfl,j⟩o;refine BY<|w_<|aW ag.2<|mv ab<|Rx 3 ag.1 j kK<|ic ag.2 ((ag.1.length:Int))<|AI<|dQ o (λo=>?_) λo=>?_;refine QX<|Rq<|IS<|mv ab<|aW ag.2<|q_ o λbn av o=>QT 3 j zr zr dE av ?_;have j:=j.sc Int<|-1;refine RP 4 0 j av cJ λw j=>?_;refine By<|bO<|aD<|IS<|aW ag.2<|QF ag.2 1<|aP (wrap .i64<|ag.2+1)<|By ?_;exact oi o▸⟨rfl,j.sp 5 [1,2,3,4]⟩;exact Q3<|oi o▸⟨rfl,j.sp 4 [0,1,2,3]⟩;rintro ag _ w o⟨O,rfl,j⟩;refine aD<|BY<|w_<|aW p1<|aW p2<|ic p1 p2<|AI<|dQ o (λo=>?_) λo=>?_;refine w_<|mv ab<|cZ ab<|AI<|Q5 ?_;obtain rfl:=oi o;exact bX<|j.pk 4 [3,0];refine Ru<|mv ab<|aW p1<|q_ o λbo aw o=>QT 3 j zr zr dE aw ?_;have j:=j.sc Int 0;refine RP 4 0 j aw cJ λw j=>?_;refine IT<|aW p1 ?_;have j:=j.sc Int p1;refine Ri ([p1]:List Int) j [vi p1] dE Bh (λM hs g=>⟨(g.sat 0 _ zr).1,zt⟩) λax w j=>cZ ax<|OF<|w_<|aP 0<|AI<|q_ o λbp hN o=>R7 (λ(ad:List Int×List Int×Int)U w=>∃ay:Value,SH E V [(0,vp b0 0),(2,vi p2),(7,ab),(9,ay),(10,vi ad.2.2)] [bc 80 b0 [e_,g_,a_,d_,h_,b_,f_,i_],rd b_ j_,rd i_ t_,own 3 ab ad.1,own 3 ay ad.2.1] U w) (λ(ad:List Int×List Int×Int)=>SH E V [(0,vp b0 0),(7,ab)] [bc 80 b0 [e_,g_,a_,d_,h_,b_,f_,i_],rd b_ j_,rd i_ t_,own 3 ab ad.1]) (λ(r:Empty)_ _=>r.elim) hN ?_ ?_ ?_ ?_;exact⟨ax,j.sp 7 [3,4,5,6,0]⟩;rintro ad fl _ w⟨an,O,rfl,j⟩o;refine BY<|w_<|aW ad.2.2<|mv an<|Rx 4 ad.2.1 j kK<|ic ad.2.2 ((ad.2.1.length:Int))<|AI<|dQ o (λo=>?_) λo=>?_;refine QX<|Q6<|mv (vp b0 0)<|mv an<|aW ad.2.2<|q_ o λbh az o=>QT 4 j zr zr dE az<|RA 4 j az cJ ?_;have j:=((j.dup 2 rfl).dup 2 rfl).pull 2;refine q_ o λaj bj o=>QO On (me N (p1:=bh) j bj) λah w j=>cZ ah<|IT<|aP 0<|AI<|RI E V (λ(ae:List Int×List Int×Int)(ao:Value)=>[bc 80 b0 [e_,g_,a_,d_,h_,b_,f_,i_],rd b_ j_,rd i_ t_,own 3 ab ae.1,own 3 ah aj,own 3 ao ae.2.1]) (λ_ ao=>[(0,vp b0 0),(2,vi p2),(7,ab),(9,ao),(10,vi ad.2.2)]) (λae _=>[(11,ah),(12,vi ae.2.2)]) o ?_ ?_ ?_;exact⟨an,j.sp 7 [1,3,4,5,0,6]⟩;rintro ae fl _ w⟨ai,O,rfl,j⟩o;refine BY<|w_<|aW ae.2.2<|mv ah<|Rx 4 aj j kK<|ic ae.2.2 ((aj.length:Int))<|AI<|dQ o (λo=>?_) λo=>?_;refine QX<|Rq<|BY<|q_ o λaq hj o=>QP (λ(aq:Bool)=>SH E V [(0,vp b0 0),(2,vi p2),(7,ab),(9,ai),(10,vi ad.2.2),(11,ah),(12,vi ae.2.2),(76,vb aq)] [bc 80 b0 [e_,g_,a_,d_,h_,b_,f_,i_],rd b_ j_,rd i_ t_,own 3 ab ae.1,own 3 ai ae.2.1,own 3 ah aj]) aq ?_ ?_;refine IS<|mv ah<|aW ae.2.2<|q_ hj λa0 a1 hj=>QT 4 j zr zr dE a1<|RA 4 j a1 cJ<|aW p2<|ic a0 p2<|fI (a0 != p2)<|fw hj (λaf hj=>?_) λaf hj=>?_;refine QE ab (cg af)<|QE ah (cg af)<|QE (vi ae.2.2) (cg af)<|q_ hj λbq a2 hj=>QT (hg:=cg af) 4 j zr zr dE a2<|RA (hg:=cg af) 4 j a2 cJ<|q_ hj λa3 a4 hj=>QT (hg:=cg af) 3 j zr zr dE a4<|RA (hg:=cg af) 3 j a4 cJ<|Ry a3 0 (cg af)<|fA af (vb<|decide<|a3<0)<|By ?_;exact oi hj▸⟨rfl,j.sp 6 [0,1,2,3,5,4]⟩;refine bI af<|bI af<|bI af<|bI af<|bI af<|bI af<|bI af<|bI af<|fA af (vb false)<|By ?_;exact oi hj▸⟨rfl,j.sp 6 [0,1,2,3,5,4]⟩;rintro _ w⟨O,rfl,j⟩;refine aD<|q_ o λak hj o=>QP (λ(ak:List Int×List Int)U w=>∃al:Value,SH E V [(0,vp b0 0),(2,vi p2),(7,ab),(9,al),(10,vi ad.2.2),(11,ah),(12,vi ae.2.2)] [bc 80 b0 [e_,g_,a_,d_,h_,b_,f_,i_],rd b_ j_,rd i_ t_,own 3 ab ak.1,own 3 ah aj,own 3 al ak.2] U w) ak ?_ ?_;refine dQ hj (λhj=>?_) λhj=>?_;refine BY<|Rz mixed [0,0,0,0,0,0,0,0,0,0,0,0,0,0,2] [0,1,2,3,4,5,6,7,8,9,10,11,12,13,14] ?_;have j:=j.drew;refine QN zr<|mv ab<|aY zr<|mv ah<|aY zr<|aW ae.2.2<|aY zr<|q_ hj λbr a5 hj=>QT 5 j zr zr dE a5<|aY zr<|RA 5 j a5 cJ<|aY zr<|mv ab<|aY zr<|mv ai<|aY zr<|aW ad.2.2 ?_;refine aY zr<|q_ hj λbt a6 hj=>QT 4 j zr zr dE a6<|aY zr<|RA 4 j a6 cJ<|aY zr<|q_ hj λa7 a8 hj=>QT 3 j zr zr dE a8<|aY zr<|RA 3 j a8 cJ<|aY zr<|QF a7 1<|aY zr ?_;refine q_ hj λbu a9 hj=>QT 3 j zr zr dE a9<|pE zr ?_;have j:=j.sc Int<|wrap .i64<|a7+1;refine RP 4 0 j a9 cJ λw j=>?_;refine Rc zt<|Rg<|aD<|IS<|mv ai<|mv ah<|aW ae.2.2<|q_ hj λar ba hj=>QT 6 j zr zr dE ba<|RA 6 j ba cJ ?_;have j:=j.sc Int ar;refine Ri ([ar]:List Int) j [vi ar] dE Bh (λM hs g=>⟨(g.sat 0 _ zr).1,zt⟩) λbw w j=>?_;have j:=j.freeze 0;refine q_ hj λbx bk hj=>Rl 7 0 j pU bk λbb w j=>?_;exact cZ bb<|By<|oi hj▸⟨rfl,bb,j.sp 9 [3,4,5,6,8,7]⟩;exact Rb<|oi hj▸⟨rfl,ai,j.sp 6 [0,1,2,3,5,4]⟩;rintro _ w⟨al,O,rfl,j⟩;refine bO<|aD<|IS<|aW ae.2.2<|QF ae.2.2 1<|aP (wrap .i64<|ae.2.2+1)<|By ?_;exact oi o▸⟨rfl,al,j.sp 6 [0,1,2,3,4,5]⟩;exact Q3<|oi o▸⟨rfl,ai,j.sp 6 [0,1,2,3,4,5]⟩;rintro ae _ w o⟨bl,O,rfl,j⟩;refine bO<|aD<|IS<|aW ad.2.2<|QF ad.2.2 1<|aP (wrap .i64<|ad.2.2+1)<|By ?_;exact oi o▸⟨rfl,bl,j.sp 6 [0,1,2,3,5]⟩;exact Q3<|oi o▸⟨rfl,j.sp 5 [0,1,2,3]⟩;intro r _ _ _ _;exact r.elim;rintro ad _ w rfl⟨O,rfl,j⟩;rw[Fo.yI]at o;refine aD<|w_<|mv ab<|cZ ab<|AI<|QL ?_;obtain rfl:=oi o;exact bX<|j.pk 4 [3,0]
theorem nC{m_:List cD}{s_:List eP}{v_:List Int}{j_:List (List aH)}{t_:List (List Int)}{res:List Int}(j:Holds E w (bc 80 b0 [e_,g_,a_,d_,h_,b_,f_,i_]::rd a_ m_::rd d_ s_::rd h_ v_::rd b_ j_::rd i_ t_::V))(o:eF N m_ s_ v_ j_ t_ p1 p2=some res):c_ 15 [vp b0 0,vi p1,vi p2] w<|km E V b0 e_ g_ a_ d_ h_ b_ f_ i_ res:=by
 unfold eF at o;refine enter Tryz.func15 zr zr<|w_<|cZ n_<|IT<|mv (vp b0 0)<|mv (vp b0 0)<|Q0 zr<|AT zr uT<|AT zr oe<|QQ 0 d_ j xf<|aW p1 ?_;refine q_ o λba bb o=>QG 2 j A3 bb λbw j=>QR 0 ba j tw λbx j=>?_;have j:=(((j.dup 6 rfl).dup 6 rfl).dup 5 rfl).pull 5;refine q_ o λah bf o=>QO MF (kn N (i1:=0) j zr bf) ?_;rintro _ w⟨ax,rfl,j⟩;refine mv (.tuple #[ax,vb ah.2])<|Rf ax<|Rf (vb ah.2)<|Rn j pV.z λbz w j=>?_;refine Rj 0 j 1 zr eQ λw j=>?_;refine cA ah.2<|IT<|mv (vp b0 0)<|mv (vp b0 0)<|Q0 zr<|AT zr uT<|AT zr oe<|QQ 2 d_ j xf<|aW p2<|q_ o λbg bh o=>QG 7 j A3 bh λb2 j=>QR 0 bg j tw λb3 j=>?_;have j:=(((j.dup 11 rfl).dup 11 rfl).dup 10 rfl).pull 7;refine q_ o λaj bj o=>QO MF (kn N (i1:=0) j zr bj) ?_;rintro _ w⟨ay,rfl,j⟩;refine mv (.tuple #[ay,vb aj.2])<|Rf ay<|Rf (vb aj.2)<|Rn j pV.z λb4 w j=>?_;refine Rj 0 j 1 zr eQ λw j=>?_;refine cA aj.2<|OF<|w_<|fI ah.2<|Ro ah.2<|fI (!ah.2)<|IN true (!ah.2) (vb aj.2) rfl rfl rfl cF<|IN true (!ah.2) (vb<|!aj.2) rfl rfl rfl (Bw aj.2 rfl (by exact z_ (vb aj.2)))<|Q7 (!ah.2) (vb<|(!ah.2)||(!aj.2)) (l9 true) ?_;refine AI<|dQ o (λo=>?_) λo=>?_;refine w_<|cZ n_<|AI<|Q5 ?_;obtain rfl:=oi o;have j:=j.cG Int 3;exact bX<|j.pk 17 [0,3];refine Ru<|mv (vp b0 0)<|mv (vp b0 0)<|QW 0 j zr eQ λb5 j=>?_;have j:=(j.dup 15 rfl).pull 4;refine q_ o λbk bl o=>QM Om (mc N (i1:=0) j zr bl) λw j=>?_;have j:=((j.dup 17 rfl).dup 17 rfl).pull 2;refine q_ o λao bm o=>QO Oo (mC N (p1:=bk) (p2:=(-1)) j bm) λaf w j=>cZ af<|IT<|mv (vp b0 0)<|QW 9 j zr eQ λb6 j=>?_;have j:=(j.dup 19 rfl).pull 3;refine q_ o λal bn o=>QM Om (mc N (i1:=0) j zr bn) λw j=>aP al<|OF<|w_<|mv af<|aW al<|q_ o λbo az o=>QT 2 j zr zr dE az<|RA 2 j az cJ<|ic bo 0<|AI<|dQ o (λo=>?_) λo=>?_;refine w_<|cZ n_<|AI<|Q5 ?_;obtain rfl:=oi o;have j:=j.cG Int 3;exact bX<|j.pk 23 [0,1];refine Ru<|aW al ?_;have j:=j.sc Int al;refine Ri ([al]:List Int) j [vi al] dE Bh (λM hs g=>⟨(g.sat 0 _ zr).1,zt⟩) λa0 w j=>cZ a0<|OF<|RI E V (λ(ad:Int×List Int)(aq:Value)=>[bc 80 b0 [e_,g_,a_,d_,h_,b_,f_,i_],rd a_ m_,rd d_ s_,rd h_ v_,rd b_ j_,rd i_ t_,own 3 af ao,own 3 aq ad.2]) (λ_ aq=>[(0,vp b0 0),(13,aq)]) (λad _=>[(11,af),(12,vi ad.1)]) o ?_ ?_ ?_;exact⟨a0,j.sp 24 [2,19,20,21,22,23,4,0]⟩;rintro ad fl _ w⟨ak,O,rfl,j⟩o;refine BY<|w_<|mv af<|aW ad.1<|q_ o λbq a1 o=>QT 6 j zr zr dE a1<|RA 6 j a1 cJ<|ic bq 0<|AI<|dQ o (λo=>?_) λo=>?_;refine RM<|Q6<|mv (vp b0 0)<|aW ad.1 ?_;have j:=((j.dup 5 rfl).dup 5 rfl).pull 2;refine q_ o λan br o=>QO On (me N (p1:=ad.1) j br) λai w j=>cZ ai<|IT<|aP (-1)<|OF<|w_<|aP 0<|AI<|R6 E V (λ(aa:Int×Int)=>[bc 80 b0 [e_,g_,a_,d_,h_,b_,f_,i_],rd a_ m_,rd d_ s_,rd h_ v_,rd b_ j_,rd i_ t_,own 3 af ao,own 3 ak ad.2,own 3 ai an]) (λaa=>[(0,vp b0 0),(11,af),(13,ak),(15,vi aa.1)]) (λaa=>[(12,vi ad.1),(14,ai),(16,vi aa.2)]) o ?_ ?_ ?_;exact j.sp 10 [1,3,4,5,6,7,8,9,0];rintro aa fl _ w⟨O,rfl,j⟩o;refine BY<|w_<|aW aa.2<|mv ai<|Rx 8 an j kK<|ic aa.2 ((an.length:Int))<|AI<|dQ o (λo=>?_) λo=>?_;refine QX<|Rq<|BY<|q_ o λar hj o=>QP (λ(ar:Bool)=>SH E V [(0,vp b0 0),(11,af),(12,vi ad.1),(13,ak),(14,ai),(15,vi aa.1),(16,vi aa.2),(102,vb ar)] [bc 80 b0 [e_,g_,a_,d_,h_,b_,f_,i_],rd a_ m_,rd d_ s_,rd h_ v_,rd b_ j_,rd i_ t_,own 3 af ao,own 3 ak ad.2,own 3 ai an]) ar ?_ ?_;refine RG mixed ?_;have j:=j.drew;refine RF<|mv af<|AS<|mv ai<|AS<|aW aa.2<|AS<|q_ hj λb7 a2 hj=>QT 8 j zr zr dE a2<|AS<|RA 8 j a2 cJ<|AS ?_;refine q_ hj λa3 a4 hj=>QT 6 j zr zr dE a4<|AS<|RA 6 j a4 cJ<|AS<|mv af<|AS<|aW ad.1<|AS<|q_ hj λau a5 hj=>QT 6 j zr zr dE a5<|AS<|RA 6 j a5 cJ<|AS<|QF au 1<|AS<|ic a3 (wrap .i64<|au - 1)<|AS<|fI (a3==wrap .i64 (au - 1)) ?_;refine fw hj (λag hj=>?_) λag hj=>?_;refine AS<|QE (vi aa.1) (cg ag)<|AS<|Ry aa.1 0 (cg ag)<|AS<|QE (vb<|decide<|aa.1<0) (cg ag)<|fw hj (λae hj=>?_) λae hj=>?_;refine AS<|bI ae<|AS<|bI ae<|AS<|bI ae<|AS<|bI ae<|AS<|bI ae<|AS<|bI ae<|AS<|fA ae (vb true) (hg:=cg ag)<|AS<|fA ag (vb true)<|Rs ?_;exact oi hj▸⟨rfl,j.sp 9 [0,1,2,3,4,5,6,7,8]⟩;refine AS<|QE ai (cg ae)<|AS<|QE (vi aa.2) (cg ae)<|AS<|q_ hj λav a6 hj=>QT (hg:=cg ae) 8 j zr zr dE a6<|AS<|RA (hg:=cg ae) 8 j a6 cJ<|AS<|QE (vi aa.1) (cg ae)<|AS<|Ry av aa.1 (cg ae)<|AS<|fA ae (vb<|decide<|av<aa.1) (hg:=cg ag) ?_;exact AS<|fA ag (vb<|decide<|av<aa.1)<|Rs<|oi hj▸⟨rfl,j.sp 9 [0,1,2,3,4,5,6,7,8]⟩;refine AS<|bI ag<|AS<|bI ag<|AS<|bI ag<|AS<|sL<|AS<|sL<|AS<|sL<|AS<|sL<|AS<|sL<|AS<|sL ?_;exact AS<|bI ag<|AS<|fA ag (vb false)<|Rs<|oi hj▸⟨rfl,j.sp 9 [0,1,2,3,4,5,6,7,8]⟩;rintro _ w⟨O,rfl,j⟩;refine aD<|q_ o λaw hj o=>QP (λ(aw:Int)=>SH E V [(0,vp b0 0),(11,af),(12,vi ad.1),(13,ak),(14,ai),(15,vi aw),(16,vi aa.2)] [bc 80 b0 [e_,g_,a_,d_,h_,b_,f_,i_],rd a_ m_,rd d_ s_,rd h_ v_,rd b_ j_,rd i_ t_,own 3 af ao,own 3 ak ad.2,own 3 ai an]) aw ?_ ?_;refine dQ hj (λhj=>?_) λhj=>?_;refine IS<|mv ai<|aW aa.2<|q_ hj λbt a7 hj=>QT 8 j zr zr dE a7<|RA 8 j a7 cJ<|aP bt<|By ?_;exact oi hj▸⟨rfl,j.sp 9 [0,1,2,3,4,5,6,7,8]⟩;exact Rb<|oi hj▸⟨rfl,j.sp 9 [0,1,2,3,4,5,6,7,8]⟩;rintro _ w⟨O,rfl,j⟩;refine bO<|aD<|IS<|aW aa.2<|QF aa.2 1<|aP (wrap .i64<|aa.2+1)<|By ?_;exact oi o▸⟨rfl,j.sp 9 [0,1,2,3,4,5,6,7,8]⟩;exact Q3<|oi o▸⟨rfl,j.sp 9 [0,1,2,3,4,5,6,7,8]⟩;rintro aa _ w o⟨O,rfl,j⟩;refine aD<|w_<|aW aa.1<|aP aa.1<|AI<|IS<|mv ak<|aW aa.1 ?_;have j:=j.sc Int aa.1;refine Ri ([aa.1]:List Int) j [vi aa.1] dE Bh (λM hs g=>⟨(g.sat 0 _ zr).1,zt⟩) λb8 w j=>?_;have j:=j.freeze 0;refine q_ o λb9 bu o=>Rl 9 0 j pU bu λa8 w j=>?_;exact cZ a8<|By<|bO<|oi o▸⟨rfl,a8,j.sp 11 [2,3,4,5,6,7,8,9]⟩;exact Q3<|oi o▸⟨rfl,ak,j.sp 8 [0,1,2,3,4,5,6,7]⟩;rintro ad _ w o⟨a9,O,rfl,j⟩;refine aD<|w_<|mv a9<|cZ a9<|AI<|QL ?_;obtain rfl:=oi o;exact bX<|j.pk 8 [7,0]
def sU(E:World)(V:List HP)(b0:Nat)(e_ g_:Value)(a_ d_:Value)(h_ b_:Value)(f_ i_:Value)(res:cL)(v:Value)(w:World):Prop:=Holds E w<|[rd v res,bc 80 b0 [e_,g_,a_,d_,h_,b_,f_,i_]]++V
theorem su{j_:List (List aH)}{res:cL}(j:Holds E w (bc 80 b0 [e_,g_,a_,d_,h_,b_,f_,i_]::rd b_ j_::V))(o:jf N j_ p1=some res):c_ 41 [vp b0 0,vi p1] w<|sU E V b0 e_ g_ a_ d_ h_ b_ f_ i_ res:=by
 unfold jf at o;refine enter Tryz.func41 zr zr<|w_<|Rn j pV.z λaa w j=>?_;refine OF<|w_<|aW p1<|mv (vp b0 0)<|Q0 zr<|AT zr oU<|QQ 1 b_ j ov<|QK 2 j_ j po<|ic p1 ((j_.length:Int))<|AI<|dQ o (λo=>?_) λo=>?_;refine w_<|aW p1 ?_;have j:=j.sc Int p1;refine RH (⟨false,p1⟩:cL) trivial rfl j [(1,vi p1)] rfl C6 rfl (λM hs g=>by have h:=xF M;exact cX.cons (f:=λ(x:cL)y=>{x with Number:=y}) h qz (g.sat 0 _ rfl).1 λ_ h=>cX.nil h) λab j=>?_;refine Rj 2 j 0 zr eQ λw j=>?_;refine AI<|Q5 ?_;obtain rfl:=oi o;exact Iw 2 j eQ λad j=>j.pk 6 [0,4];refine Ru<|aW p1<|mv (vp b0 0)<|Q0 zr<|AT zr oU<|QQ 1 b_ j ov<|QK 2 j_ j po<|QF p1 (j_.length:Int) ?_;have j:=(j.sc Bool true).sc Int<|wrap .i64<|p1 -(j_.length:Int);refine RH (⟨true,wrap .i64<|p1 -(j_.length:Int)⟩:cL) trivial rfl j [(0,vb true),(1,vi<|wrap .i64<|p1 -(j_.length:Int))] rfl C6 rfl (λM hs g=>by have h:=xF M;exact cX.cons (f:=λ(x:cL)y=>{x with cD:=y}) h yW (g.sat 1 _ rfl).1 λ_ h=>cX.cons (f:=λ(x:cL)y=>{x with Number:=y}) h qz (g.sat 0 _ rfl).1 λ_ h=>cX.nil h) λae j=>?_;refine Rj 3 j 0 zr eQ λw j=>?_;refine AI<|QL ?_;obtain rfl:=oi o;exact Iw 3 j eQ λaf j=>j.pk 7 [0,5]
def sw(E:World)(V:List HP)(b0:Nat)(e_ g_:Value)(a_ d_:Value)(h_ b_:Value)(f_ i_:Value)(res:List cL)(v:Value)(w:World):Prop:=Holds E w<|[own 38 v res,bc 80 b0 [e_,g_,a_,d_,h_,b_,f_,i_]]++V
theorem m6{j_:List (List aH)}{p1:List Int}{res:List cL}(j:Holds E w (bc 80 b0 [e_,g_,a_,d_,h_,b_,f_,i_]::rd b_ j_::V))(h1:V[i1]? =some (rd v1 p1))(o:fH N j_ p1=some res):c_ 16 [vp b0 0,v1] w<|sw E V b0 e_ g_ a_ d_ h_ b_ f_ i_ res:=by
 unfold fH at o;refine enter Tryz.func16 zr zr ?_;have j:=j.dup (i1+2) h1;refine w_<|cZ n_<|IT<|cZ n_<|OF<|w_<|aP 0<|AI<|RI E V (λ(aa:List cL×Int)(ab:Value)=>[bc 80 b0 [e_,g_,a_,d_,h_,b_,f_,i_],rd b_ j_,rd v1 p1,own 38 ab aa.1]) (λ_ ab=>[(0,vp b0 0),(5,ab)]) (λaa _=>[(1,v1),(6,vi aa.2)]) o ?_ ?_ ?_;have j:=j.cG cL 38;exact⟨n_,j.sp 4 [2,3,1,0]⟩;rintro aa fl _ w⟨ad,O,rfl,j⟩o;refine BY<|w_<|aW aa.2<|mv v1<|QK 2 p1 j kK<|ic aa.2 ((p1.length:Int))<|AI<|dQ o (λo=>?_) λo=>?_;refine QX<|Rq<|IS<|mv ad<|mv (vp b0 0)<|mv v1<|aW aa.2<|q_ o λae ah o=>QG 2 j dE ah λao j=>QZ ae 0 j cJ ?_;have j:=(j.dup 2 rfl).pull 2;refine q_ o λai aj o=>QO (hZ Tryz.func41) (su N (p1:=ae) j aj) λak w j=>Ri ([ai]:List cL) j [ak] qe pV (λM hs g=>⟨(g.sat 0 _ zr).1,zt⟩) λaq w j=>?_;have j:=j.freeze 0;refine q_ o λar al o=>Rl 7 0 j FB al λaf w j=>?_;refine cZ af<|By<|bO<|aD<|IS<|aW aa.2<|QF aa.2 1<|aP (wrap .i64<|aa.2+1)<|By ?_;exact oi o▸⟨rfl,af,j.sp 8 [2,5,6,7]⟩;exact Q3<|oi o▸⟨rfl,ad,j.sp 4 [0,1,2,3]⟩;rintro aa _ w o⟨ag,O,rfl,j⟩;refine aD<|w_<|mv ag<|cZ ag<|AI<|QL ?_;obtain rfl:=oi o;exact bX<|j.pk 4 [3,0]
theorem wq{p0:jT}{p1 p2:eE}{res:List cL×Bool×Int}(j:Holds E w V)(h0:V[i0]? =some (rd v0 p0))(h1:V[i1]? =some (rd v1 p1))(h2:V[i2]? =some (rd v2 p2))(hb:iB N p0 p1 p2=some res):c_ 5 [v0,v1,v2] w<|y5 E V res:=by
 unfold iB at hb;refine enter Tryz.func5 zr zr ?_;have j:=((j.dup (i0+0) h0).dup (i1+1) h1).dup (i2+2) h2;refine w_<|Q2 2 v0 j zr λak w j=>?_;refine Q2 2 v1 j zr λal w j=>?_;refine Q2 2 v2 j zr λan w j=>?_;refine cZ n_<|cA false<|aP 0<|IT<|QW 2 j zr rY λao j=>QW 2 j zr qC λaq j=>QW 2 j zr qC λar j=>?_;refine q_ hb λo ag hb=>QM Oh (pO N (i0:=2) (i1:=1) (i2:=0) j zr zr zr ag) λw j=>mv (.tuple #[vi o.1,vi o.2.1,vi o.2.2])<|Rf (vi o.1)<|Rf (vi o.2.1)<|Rf (vi o.2.2)<|aP o.1<|aP o.2.1<|aP o.2.2<|OF<|w_<|aW o.2.2<|ic o.2.2 0<|AI<|dQ hb (λhb=>?_) λhb=>?_;refine w_<|aW o.2.2<|cZ n_<|cA false<|aP o.2.2<|AI<|Q5 ?_;obtain rfl:=oi hb;have j:=j.cG cL 38;exact DS ⟨n_,zr,j.pk 10 [0]⟩;refine Ru<|QW 5 j zr rY λau j=>?_;refine q_ hb λav ah hb=>QO Ol (oD N (i0:=0) j zr ah) ?_;rintro _ w⟨ab,aw,ax,ay,az,a0,a1,a2,a3,rfl,j⟩;refine cZ (vp ab 0)<|IT<|mv (vp ab 0)<|aW o.1<|aW o.2.1 ?_;have j:=(((((j.dup 8 rfl).dup 7 rfl).dup 7 rfl).dup 7 rfl).dup 7 rfl).pull 5;refine q_ hb λad ai hb=>QO Oq (nC N (p1:=o.1) (p2:=o.2.1) j ai) λae w j=>cZ ae<|IT<|mv (vp ab 0)<|mv ae ?_;have j:=((j.freeze 0).dup 8 rfl).pull 2;refine q_ hb λa4 aj hb=>QO Ot (m6 N (i1:=0) j zr aj) λaf w j=>mv ae<|QK 2 ad j kK<|ic ((ad.length:Int)) 0<|cZ af<|cA (decide<|(ad.length:Int)>0)<|aP 0<|AI<|QL ?_;exact oi hb▸DS ⟨af,zr,j.pk 23 [0]⟩
theorem xz{r_:List (List Int)}{p1 p2:cL}{res:List (cL×Int)}(j:Holds E w (bc 76 b0 [e_,g_,a_,d_,h_,b_,f_,i_,p_,o_,l_,k_]::rd f_ r_::V))(h1:V[i1]? =some (rd v1 p1))(h2:V[i2]? =some (pt v2 p2))(o:nU N r_ p1 p2=some res):c_ 17 [vp b0 0,v1,v2] w<|pI E V b0 e_ g_ a_ d_ h_ b_ f_ i_ p_ o_ l_ k_ res:=by
 unfold nU at o;refine enter Tryz.func17 zr zr ?_;have j:=(j.dup (i1+2) h1).BB (i:=i2+3) h2;refine w_<|Q2 1 v1 j zr λbf w j=>?_;refine cZ (.map none)<|IT<|SF (κ:=cL) (ν:=Int) zr j λaa w j=>QW 1 j zr eQ λbg j=>?_;have j:=j.sc Int 0;refine Tk 2 0 p1 zt j zr (py 1 j) zr zr zr A5 λw j=>mv aa<|cZ aa<|OF<|w_<|QW 3 j zr eQ λa3 j=>Ri ([p1]:List cL) j [a3] qe pV (λM hs g=>⟨(g.sat 0 _ zr).1,zt⟩) λav w j=>cZ av<|AI<|q_ o λbh hN o=>R7 (λ(ag:List (cL×Int)×List cL)U w=>∃aw:Value,SH E V [(0,vp b0 0),(2,v2),(7,aa),(8,aw)] [bc 76 b0 [e_,g_,a_,d_,h_,b_,f_,i_,p_,o_,l_,k_],rd f_ r_,pt v2 p2,mp aa ag.1,own 38 aw ag.2] U w) (λ(ag:List (cL×Int)×List cL)=>SH E V [(0,vp b0 0),(7,aa)] [bc 76 b0 [e_,g_,a_,d_,h_,b_,f_,i_,p_,o_,l_,k_],rd f_ r_,pt v2 p2,mp aa ag.1]) (λ(r:Empty)_ _=>r.elim) hN ?_ ?_ ?_ ?_;exact⟨av,j.sp 10 [8,9,6,4,0]⟩;rintro ag fl _ w⟨ao,O,rfl,j⟩o;refine BY<|w_<|mv ao<|Rx 4 ag.2 j Ed<|ic ((ag.2.length:Int)) 0<|AI<|dQ o (λo=>?_) λo=>?_;refine QX<|Q6<|mv (vp b0 0)<|mv ao<|q_ o λbk ax o=>QT 4 j zr zr qe ax<|RQ 4 j ax eQ λbl j=>?_;have j:=(j.dup 2 rfl).pull 2;refine q_ o λah a5 o=>QO MC (nz N (i1:=0) j zr a5) λai w j=>Rx 0 ah j Ed<|aW 0<|AI<|RZ E V (λ(ab:List (cL×Int)×List cL)(aq:Value)=>[bc 76 b0 [e_,g_,a_,d_,h_,b_,f_,i_,p_,o_,l_,k_],rd f_ r_,pt v2 p2,mp aa ab.1,own 38 ai ah,own 38 aq ab.2]) (λ_ aq=>[(0,vp b0 0),(2,v2),(7,aa),(8,aq)]) (λaj _ _=>[(27,ai),(28,vi ah.length),(29,vi aj)]) o ?_ ?_ ?_;exact⟨ao,j.sp 8 [1,4,5,6,0,7]⟩;rintro hm aj ab s' _ w hk⟨ak,O,rfl,j⟩o;refine BY<|Q6<|q_ o λad ay o=>QT 4 j zr zr qe ay<|RQ 4 j ay eQ λbm j=>?_;refine Rn j pV.z λaz w j=>?_;refine Rj 0 j 1 zr eQ λw j=>?_;refine IT<|mv aa<|QW 0 j zr eQ λbn j=>Sk 6 ad j (py 0 j) A5<|mv (.tuple #[vi<|eX ab.1 ad (0:Int),vb<|gZ ab.1 ad])<|Rf (vi<|eX ab.1 ad (0:Int))<|Rf (vb<|gZ ab.1 ad)<|aP (eX ab.1 ad (0:Int))<|cA (gZ ab.1 ad) ?_;refine OF<|q_ o λar hj o=>QP (λ(ar:Bool)=>SH E V [(0,vp b0 0),(2,v2),(7,aa),(8,ak),(10,vp az 0),(27,ai),(28,vi ah.length),(29,vi aj),(51,vb ar)] [bc 76 b0 [e_,g_,a_,d_,h_,b_,f_,i_,p_,o_,l_,k_],rd f_ r_,pt v2 p2,mp aa ab.1,own 38 ak ab.2,bx 38 az ad,own 38 ai ah]) ar ?_ ?_;refine RG mixed ?_;have j:=j.drew;refine RF<|fI (gZ ab.1 ad)<|AS<|Ro (gZ ab.1 ad)<|AS<|fI (!(gZ ab.1 ad))<|fw hj (λaf hj=>?_) λaf hj=>?_;refine AS<|QE v2 (cg af)<|AS<|TE (i:=5) (cg af) zr j zr zr zr LK<|AS<|QE (vb false) (cg af)<|AS<|Rk (hg:=⟨_,zr,zr⟩) (f:=(λx=>x)) 1 j zr Fd.self eQ λbo j=>AS<|QE v2 ⟨_,zr,zr⟩<|AS<|TF (i:=6) ⟨_,zr,zr⟩ zr j zr zr<|AS<|QR (hg:=⟨_,zr,zr⟩) 6 p2 j eQ λbp j=>AS<|Sj (hg:=⟨_,zr,zr⟩) 1 0 ad p2 j Du<|AS<|Q7 (hg:=cg af) false (vb<|!(decide<|ad=p2)) zr ?_;exact AS<|fA af (vb<|!(decide<|ad=p2))<|Rs<|oi hj▸⟨rfl,j.sp 11 [5,6,7,8,10,3,9]⟩;refine AS<|bI af<|AS<|bI af<|AS<|bI af<|AS<|sL<|AS<|sL<|AS<|sL<|AS<|sL<|AS<|sL<|AS<|bI af ?_;exact AS<|fA af (vb false)<|Rs<|oi hj▸⟨rfl,j.sp 9 [3,4,5,6,8,1,7]⟩;rintro _ w⟨O,rfl,j⟩;refine aD<|q_ o λal hj o=>QP (λ(al:List (cL×Int)×List cL)U w=>∃an:Value,SH E V [(0,vp b0 0),(2,v2),(7,aa),(8,an),(27,ai),(28,vi ah.length),(29,vi aj)] [bc 76 b0 [e_,g_,a_,d_,h_,b_,f_,i_,p_,o_,l_,k_],rd f_ r_,pt v2 p2,mp aa al.1,own 38 ai ah,own 38 an al.2] U w) al ?_ ?_;refine dQ hj (λhj=>?_) λhj=>?_;refine BY<|Rz mixed [0,0,0,0,0,0,0,0,2] [0,1,2,3,4,5,6,7,8] ?_;have j:=j.drew;refine QN zr<|mv aa<|aY zr<|QW 5 j zr eQ λbq j=>aY zr<|mv aa<|aY zr<|mv ak<|aY zr<|q_ hj λau a0 hj=>QT 5 j zr zr qe a0<|aY zr<|RQ 5 j a0 eQ λbr j=>?_;refine aY zr<|Ss 5 au zr j zr (py 0 j) zr A5<|aY zr<|QF (eX ab.1 au (0:Int)) 1<|pE zr ?_;have j:=j.sc Int<|wrap .i64<|eX ab.1 au (0:Int)+1;refine St 6 0 ad j zr (py 2 j) zr zr zr A5 λw j=>Rc zt<|Rg<|aD<|IS<|mv ak<|QW 8 j zr eQ λa8 j=>Ri ([ad]:List cL) j [a8] qe pV (λM hs g=>⟨(g.sat 0 _ zr).1,zt⟩) λbt w j=>?_;have j:=j.freeze 0;refine q_ hj λbu a9 hj=>Rl 9 0 j FB a9 λa1 w j=>?_;exact cZ a1<|By<|oi hj▸⟨rfl,a1,j.sp 12 [5,6,7,8,11,9]⟩;exact Rb<|oi hj▸⟨rfl,ak,j.sp 7 [0,1,2,3,6,4]⟩;rintro _ w⟨an,O,rfl,j⟩;exact bO<|aD<|IS<|Rv hk hm<|aW ((aj+1:Nat):Int)<|By<|oi o▸⟨rfl,an,j.sp 6 [0,1,2,3,4,5]⟩;rintro ab _ w o⟨ba,O,rfl,j⟩;exact bO<|aD<|IS<|mv ba<|q_ o λbw bb o=>Sr 5 zr j zr zr qe (.inl zr) (.inr ⟨rfl,zr⟩) bb λa2 j=>cZ a2<|By<|oi o▸⟨rfl,a2,j.sp 6 [0,1,2,3,5]⟩;exact Q3<|oi o▸⟨rfl,j.sp 5 [0,1,2,3]⟩;intro r _ _ _ _;exact r.elim;rintro ag _ w rfl⟨O,rfl,j⟩;rw[Fo.yI]at o;refine aD<|w_<|mv aa<|cZ aa<|AI<|QL ?_;obtain rfl:=oi o;exact bX<|j.pk 4 [3,0]
theorem zf{p0:jT}{p1 p2:eE}{res:List cL×Int}(j:Holds E w V)(h0:V[i0]? =some (rd v0 p0))(h1:V[i1]? =some (rd v1 p1))(h2:V[i2]? =some (rd v2 p2))(hb:fG N p0 p1 p2=some res):
    c_ 6 [v0,v1,v2] w<|tR E V res:=by
 unfold fG at hb
 refine enter Tryz.func6 zr zr ?_
 have j:=((j.dup (i0+0) h0).dup (i1+1) h1).dup (i2+2) h2
 refine w_<|Q2 2 v0 j zr λcd w j=>?_
 refine Q2 2 v1 j zr λcf w j=>?_
 refine Q2 2 v2 j zr λch w j=>?_
 refine cZ n_<|aP 0<|IT<|QW 2 j zr rY λcj j=>?_
 obtain⟨ag,b0,hb⟩:=bd hb
 refine QO NU (wk N (i0:=0) j zr b0) ?_
 rintro _ w hK51
 rcases bj:ag.1 with _|o
 ·replace hb:=Nc bj hb
  obtain⟨rfl,j⟩:=Lt bj hK51
  refine mv (.tuple #[(.pointer none),vi ag.2])<|Rf (.pointer none)<|Rf (vi ag.2)<|cZ (.pointer none)<|aP ag.2<|OF<|w_<|aW ag.2<|ic ag.2 0 ?_
  refine AI<|dQ hb (λhb=>?_) λhb=>?_
  rotate_left
  ·cases hb
  refine w_<|aW ag.2<|cZ n_<|aP ag.2<|AI<|Q5 ?_
  obtain rfl:=oi hb
  have j:=j.cG cL 38
  exact qQ ⟨n_,zr,j.pk 8 [0]⟩
 replace hb:=Nd bj hb
 obtain⟨af,au,av,aw,ax,ay,az,a0,a1,a2,a3,a4,a5,rfl,j⟩:=Lu bj hK51
 refine mv (.tuple #[vp af 0,vi ag.2])<|Rf (vp af 0)<|Rf (vi ag.2)<|cZ (vp af 0)<|aP ag.2<|OF<|w_<|aW ag.2<|ic ag.2 0 ?_
 refine AI<|dQ hb (λhb=>?_) λhb=>?_
 ·refine w_<|aW ag.2<|cZ n_<|aP ag.2<|AI<|Q5 ?_
  obtain rfl:=oi hb
  have j:=j.cG cL 38
  exact qQ ⟨n_,zr,j.pk 21 [0]⟩
 refine Ru<|mv (vp af 0)<|QW 15 j zr qC λck j=>QW 15 j zr qC λcm j=>?_
 have j:=((((((((j.freeze 13).freeze 14).dup 14 rfl).dup 14 rfl).dup 8 rfl).dup 8 rfl).dup 8 rfl).dup 8 rfl).pull 8
 obtain⟨aa,b2,hb⟩:=bd hb
 refine QO NX (qJ N (i1:=1) (i2:=0) j zr zr b2) ?_
 rintro _ w⟨bt,bu,rfl,j⟩
 refine mv (.tuple #[bt,bu,vb aa.2.2.1,vi aa.2.2.2])<|Rf bt<|Rf bu<|Rf (vb aa.2.2.1)<|Rf (vi aa.2.2.2)<|Rn j pV.z λa6 w j=>?_
 refine Rn j pV.z λa7 w j=>?_
 refine Rj 1 j 2 zr eQ λw j=>?_
 refine Rj 0 j 3 zr eQ λw j=>?_
 refine cA aa.2.2.1<|aP aa.2.2.2<|OF<|w_<|aW aa.2.2.2<|ic aa.2.2.2 0<|AI<|dQ hb (λhb=>?_) λhb=>?_
 ·refine w_<|aW aa.2.2.2<|cZ n_<|aP aa.2.2.2<|AI<|Q5 ?_
  obtain rfl:=oi hb
  have j:=j.cG cL 38
  exact qQ ⟨n_,zr,j.pk 28 [0]⟩
 refine Ru<|cZ n_<|cA false<|OF<|w_<|fI aa.2.2.1<|AI ?_
 obtain⟨ah,hj,hb⟩:=bd hb
 refine QP (λ(ah:List cL×Bool)U w=>∃aj:Value,SH E V [(8,vp af 0),(10,vp a6 0),(11,vp a7 0),(13,aj),(14,vb ah.2)] [bc 76 af [au,av,aw,ax,ay,az,a0,a1,a2,a3,a4,a5],rd au o.1,rd av o.2.1,rd aw o.2.2.1,rd ax o.2.2.2.1,own 95 ay o.2.2.2.2.1,rd az o.2.2.2.2.2.1,rd a0 o.2.2.2.2.2.2.1,own 117 a1 o.2.2.2.2.2.2.2.1,rd a2 o.2.2.2.2.2.2.2.2.1,rd a3 o.2.2.2.2.2.2.2.2.2.1,rd a4 o.2.2.2.2.2.2.2.2.2.2.1,rd a5 o.2.2.2.2.2.2.2.2.2.2.2,bx 38 a6 aa.1,bx 38 a7 aa.2.1,own 38 aj ah.1] U w) ah ?_ ?_
 ·refine dQ hj (λhj=>?_) λhj=>?_
  rotate_left
  ·refine Rb ?_
   obtain rfl:=oi hj
   have j:=j.cG cL 38
   exact⟨rfl,n_,j.sp 28 [5,9,10,11,12,13,14,15,16,17,18,19,20,2,1,0]⟩
  refine IS<|mv (vp af 0)<|QW 1 j zr eQ λcn j=>QW 1 j zr eQ λcp j=>?_
  have j:=(j.dup 16 rfl).pull 7
  obtain⟨bm,b3,hj⟩:=bd hj
  refine QO N1 (rf N (i1:=1) (i2:=0) j zr zr b3) ?_
  rintro _ w⟨bk,rfl,j⟩
  refine mv (.tuple #[bk,vb bm.2])<|Rf bk<|Rf (vb bm.2)<|cZ bk<|cA bm.2<|By ?_
  obtain rfl:=oi hj
  exact⟨rfl,bk,j.sp 31 [1,12,13,14,15,16,17,18,19,20,21,22,23,5,4,0]⟩
 rintro _ w⟨aj,O,rfl,j⟩
 refine aD<|BY<|w_<|fI ah.2<|Ro ah.2<|AI<|dQ hb (λhb=>?_) λhb=>?_
 ·refine w_<|cZ n_<|aP 9<|AI<|Q5 ?_
  obtain rfl:=oi hb
  have j:=j.cG cL 38
  exact qQ ⟨n_,zr,j.pk 17 [0]⟩
 refine Ru<|cZ n_<|OF<|w_<|mv aj<|Rx 15 ah.1 j Ed<|aW 0<|AI<|RZ E V (λ(bg:List cL)(bn:Value)=>[bc 76 af [au,av,aw,ax,ay,az,a0,a1,a2,a3,a4,a5],rd au o.1,rd av o.2.1,rd aw o.2.2.1,rd ax o.2.2.2.1,own 95 ay o.2.2.2.2.1,rd az o.2.2.2.2.2.1,rd a0 o.2.2.2.2.2.2.1,own 117 a1 o.2.2.2.2.2.2.2.1,rd a2 o.2.2.2.2.2.2.2.2.1,rd a3 o.2.2.2.2.2.2.2.2.2.1,rd a4 o.2.2.2.2.2.2.2.2.2.2.1,rd a5 o.2.2.2.2.2.2.2.2.2.2.2,bx 38 a6 aa.1,bx 38 a7 aa.2.1,own 38 aj ah.1,own 38 bn bg]) (λ_ bn=>[(15,bn)]) (λba _ _=>[(8,vp af 0),(10,vp a6 0),(11,vp a7 0),(50,aj),(51,vi ah.1.length),(52,vi ba)]) hb ?_ ?_ ?_
 ·have j:=j.cG cL 38
  exact⟨n_,j.sp 17 [1,2,3,4,5,6,7,8,9,10,11,12,13,14,15,16,0]⟩
 ·rintro hm ba bg s' _ w hk⟨bb,O,rfl,j⟩hb
  refine BY<|Q6 ?_
  obtain⟨ae,bw,hb⟩:=bd hb
  refine QT 15 j zr zr qe bw<|RQ 15 j bw eQ λb6 j=>?_
  refine Rn j pV.z λbf w j=>?_
  refine Rj 0 j 1 zr eQ λw j=>?_
  refine OF ?_
  obtain⟨ai,b7,hb⟩:=bd hb
  refine RW E V mixed [1,0,0,0,0,1,1,1,1,1] [1,2,3] (λ(x:Value×Value×Value)=>(λao aq ar=>[(0,57,vp af 0),(1,58,ao),(2,59,aq),(3,60,ar),(4,61,(.tuple #[vi<|eX ai aa.1 (0:Int),vb<|gZ ai aa.1])),(5,56,(.tuple #[vi<|eX ai aa.1 (0:Int),vb<|gZ ai aa.1])),(6,62,vi<|eX ai aa.1 (0:Int)),(7,63,vb<|gZ ai aa.1),(8,18,vi<|eX ai aa.1 (0:Int)),(9,19,vb<|gZ ai aa.1)]) x.1 x.2.1 x.2.2) [(8,vp af 0),(10,vp a6 0),(11,vp a7 0),(15,bb),(17,vp bf 0),(50,aj),(51,vi ah.1.length),(52,vi ba)] [] (λ(D:Nat->Bool)(x:Value×Value×Value)=>(λao aq ar=>[bif D 0 then rd ao aa.2.1 else bC,bif D 1 then mp aq ai else bC,bif D 2 then rd ar aa.1 else bC,bif D 1 then pt (vp bf 0) ae else bx 38 bf ae,rd b6 ae,bc 76 af [au,av,aw,ax,ay,az,a0,a1,a2,a3,a4,a5],rd au o.1,rd av o.2.1,rd aw o.2.2.1,rd ax o.2.2.2.1,own 95 ay o.2.2.2.2.1,rd az o.2.2.2.2.2.1,rd a0 o.2.2.2.2.2.2.1,own 117 a1 o.2.2.2.2.2.2.2.1,rd a2 o.2.2.2.2.2.2.2.2.1,rd a3 o.2.2.2.2.2.2.2.2.2.1,rd a4 o.2.2.2.2.2.2.2.2.2.2.1,rd a5 o.2.2.2.2.2.2.2.2.2.2.2,bx 38 a6 aa.1,bx 38 a7 aa.2.1,own 38 aj ah.1,own 38 bb bg]) x.1 x.2.1 x.2.2) (λx=>by kernel_rfl) ?_ ⟨λ_=>g8 gn,?_,?_,?_,?_,λ_=>g8 gn,λ_=>Nh gn rfl,λ_=>Nh gn rfl,λ_=>Fg gn,λ_=>Fg gn,trivial⟩ ?_
  ·have j:=(((j.drew).bC).bC).bC
   exact⟨(undef,undef,undef),eH.none,D9 zr,zt,j⟩
  ·rintro D U w hD ak bo⟨⟨ao,aq,ar⟩,hv,ha,_,j⟩
   obtain⟨O,rfl⟩:=ha.qP
   have j:=j.bZ 0 hD
   refine QW 19 j zr eQ λb8 j=>?_
   have j:=j.nw 0
   exact QH (b8,aq,ar) 1 hv ha j
  ·rintro D U w hD ak bo⟨⟨ao,aq,ar⟩,hv,ha,_,j⟩
   obtain⟨O,rfl⟩:=(ac (hv.at 0 rfl<|ak.1 rfl)<|ac (hv.at 1 rfl<|ak.2.1 rfl) ha).qP
   have j:=(((((j.dZ 0<|ak.2.1 rfl).bZ 1 hD).bZ 3 hD).iD (i:=3) rfl).dup 12 rfl).pull 6
   refine QO N0 (xz N (i1:=0) (i2:=3) j zr zr b7) λb9 w j=>?_
   have j:=(((j.pl 24 [2,0,4,5,6,1,8,9,10,11,12,13,14,15,16,17,18,19,20,21,22,23]).cR 0 (D 1) (ak.2.1 rfl) bC).cR 1 true rfl bC).cR 3 true rfl<|bx 38 bf ae
   exact QH (ao,b9,ar) 2 hv ha j
  ·rintro D U w hD ak bo⟨⟨ao,aq,ar⟩,hv,ha,_,j⟩
   obtain⟨O,rfl⟩:=ha.qP
   have j:=j.bZ 2 hD
   refine QW 18 j zr eQ λca j=>?_
   have j:=j.nw 2
   exact QH (ao,aq,ca) 3 hv ha j
  ·rintro D U w hD ak bo⟨⟨ao,aq,ar⟩,hv,ha,_,j⟩
   obtain⟨O,rfl⟩:=hv.o2 2 3 ak
   have j:=(j.dZ 1<|ak.1 rfl).dZ 2<|ak.2.1 rfl
   refine Sk 1 aa.1 j (py 2 j) A5 ?_
   have j:=(j.cR 1 (D 2) (ak.1 rfl) bC).cR 2 (D 3) (ak.2.1 rfl) bC
   exact QH (ao,aq,ar) 4 hv ha j
  rintro D U w bh⟨⟨ao,aq,ar⟩,hv,ha,_,j⟩
  have j:=(((j.dZ 0<|qx bh 1).dZ 1<|qx bh 2).dZ 2<|qx bh 3).dZ 3<|qx bh 2
  obtain⟨O,rfl⟩:=(ac (hv.at 9 rfl<|qx bh 9) ha).qP
  refine aD<|BY ?_
  obtain⟨bp,hj,hb⟩:=bd hb
  refine QP (λ(bp:Bool)=>SH E V [(8,vp af 0),(10,vp a6 0),(11,vp a7 0),(15,bb),(17,vp bf 0),(50,aj),(51,vi ah.1.length),(52,vi ba),(75,vb bp)] [bc 76 af [au,av,aw,ax,ay,az,a0,a1,a2,a3,a4,a5],rd au o.1,rd av o.2.1,rd aw o.2.2.1,rd ax o.2.2.2.1,own 95 ay o.2.2.2.2.1,rd az o.2.2.2.2.2.1,rd a0 o.2.2.2.2.2.2.1,own 117 a1 o.2.2.2.2.2.2.2.1,rd a2 o.2.2.2.2.2.2.2.2.1,rd a3 o.2.2.2.2.2.2.2.2.2.1,rd a4 o.2.2.2.2.2.2.2.2.2.2.1,rd a5 o.2.2.2.2.2.2.2.2.2.2.2,bx 38 a6 aa.1,bx 38 a7 aa.2.1,own 38 bb bg,pt (vp bf 0) ae,own 38 aj ah.1]) bp ?_ ?_
  ·refine IS<|QR 3 ae j eQ λcq j=>QW 19 j zr eQ λcr j=>SS 1 0 ae aa.1 zt zr j zr zr zr zr Du zr<|fI (decide<|ae=aa.1)<|fw hj (λa8 hj=>?_) λa8 hj=>?_
   ·refine bI a8<|bI a8<|bI a8<|fA a8 (vb true)<|fI true<|jU<|jU<|Q7 true (vb true) zr<|By ?_
    obtain rfl:=oi hj
    exact⟨rfl,j.sp 24 [7,8,9,10,11,12,13,14,15,16,17,18,19,20,21,23,5,22]⟩
   refine QR (hg:=cg a8) 5 ae j eQ λct j=>QW (hg:=cg a8) 22 j rfl eQ λcu j=>SS 1 0 ae aa.2.1 (cg a8) rfl j rfl rfl rfl rfl Du rfl<|fA a8 (vb<|decide<|ae=aa.2.1)<|fI (decide<|ae=aa.2.1)<|IN true (decide<|ae=aa.2.1) (vb<|gZ ai aa.1) rfl rfl rfl cF<|IN true (decide<|ae=aa.2.1) (vb<|!(gZ ai aa.1)) rfl rfl rfl (Bw (gZ ai aa.1) rfl (by exact z_ (vb<|gZ ai aa.1)))<|Q7 (decide<|ae=aa.2.1) (vb<|decide (ae=aa.2.1)||(!(gZ ai aa.1))) (l9 true)<|By ?_
   obtain rfl:=oi hj
   exact⟨rfl,j.sp 26 [9,10,11,12,13,14,15,16,17,18,19,20,21,22,23,25,7,24]⟩
  rintro _ w⟨O,rfl,j⟩
  refine aD ?_
  obtain⟨bq,hj,hb⟩:=bd hb
  refine QP (λ(bq:List cL)U w=>∃bl:Value,SH E V [(8,vp af 0),(10,vp a6 0),(11,vp a7 0),(15,bl),(50,aj),(51,vi ah.1.length),(52,vi ba)] [bc 76 af [au,av,aw,ax,ay,az,a0,a1,a2,a3,a4,a5],rd au o.1,rd av o.2.1,rd aw o.2.2.1,rd ax o.2.2.2.1,own 95 ay o.2.2.2.2.1,rd az o.2.2.2.2.2.1,rd a0 o.2.2.2.2.2.2.1,own 117 a1 o.2.2.2.2.2.2.2.1,rd a2 o.2.2.2.2.2.2.2.2.1,rd a3 o.2.2.2.2.2.2.2.2.2.1,rd a4 o.2.2.2.2.2.2.2.2.2.2.1,rd a5 o.2.2.2.2.2.2.2.2.2.2.2,bx 38 a6 aa.1,bx 38 a7 aa.2.1,own 38 aj ah.1,own 38 bl bq] U w) bq ?_ ?_
  ·refine dQ hj (λhj=>?_) λhj=>?_
   rotate_left
   ·refine Rb ?_
    obtain rfl:=oi hj
    exact⟨rfl,bb,j.sp 18 [0,1,2,3,4,5,6,7,8,9,10,11,12,13,14,17,15]⟩
   refine IS<|mv bb<|QR 16 ae j eQ λcb j=>Ri ([ae]:List cL) j [cb] qe pV (λM hs g=>⟨(g.sat 0 _ zr).1,zt⟩) λcw w j=>?_
   have j:=j.freeze 0
   obtain⟨cx,cc,hj⟩:=bd hj
   refine Rl 17 0 j FB cc λbz w j=>?_
   refine cZ bz<|By ?_
   obtain rfl:=oi hj
   exact⟨rfl,bz,j.sp 20 [2,3,4,5,6,7,8,9,10,11,12,13,14,15,16,19,17]⟩
  rintro _ w⟨bl,O,rfl,j⟩
  refine bO<|aD<|IS<|Rv hk hm<|aW ((ba+1:Nat):Int)<|By ?_
  obtain rfl:=oi hb
  exact⟨rfl,bl,j.sp 17 [0,1,2,3,4,5,6,7,8,9,10,11,12,13,14,15,16]⟩
 rintro bg _ w hb⟨br,O,rfl,j⟩
 refine aD<|w_<|mv br<|cZ br<|aP 0<|AI<|QL ?_
 obtain rfl:=oi hb
 exact qQ ⟨br,zr,j.pk 17 [16]⟩
end Go.Gk
namespace Go.Gk
open Go IntKind Go.Proofs
variable (N:Nat){E w:World}{i0 i1 i2:Nat}{v0 v1 v2:Value}{V:List HP}
theorem tH{p0:jT}{p1 p2:eE}{res:List cL×Int}(j:Holds E w V)(h0:V[i0]? =some (rd v0 p0))(h1:V[i1]? =some (rd v1 p1))(h2:V[i2]? =some (rd v2 p2))(o:fO N p0 p1 p2=some res):c_ 7 [v0,v1,v2] w<|tR E V res:=by
 unfold fO at o;refine enter Tryz.func7 zr zr ?_;have j:=((j.dup (i0+0) h0).dup (i1+1) h1).dup (i2+2) h2;refine w_<|Q2 2 v0 j zr λbl w j=>?_;refine Q2 2 v1 j zr λbm w j=>?_;refine Q2 2 v2 j zr λbn w j=>?_;refine cZ n_<|aP 0<|IT<|QW 2 j zr rY λbo j=>QW 2 j zr qC λbp j=>QW 2 j zr qC λbq j=>?_;refine q_ o λaa a7 o=>QM Oh (pO N (i0:=2) (i1:=1) (i2:=0) j zr zr zr a7) λw j=>mv (.tuple #[vi aa.1,vi aa.2.1,vi aa.2.2])<|Rf (vi aa.1)<|Rf (vi aa.2.1)<|Rf (vi aa.2.2)<|aP aa.1<|aP aa.2.1<|aP aa.2.2<|OF<|w_<|aW aa.2.2<|ic aa.2.2 0<|AI<|dQ o (λo=>?_) λo=>?_;refine w_<|aW aa.2.2<|cZ n_<|aP aa.2.2<|AI<|Q5 ?_;obtain rfl:=oi o;have j:=j.cG cL 38;exact qQ ⟨n_,zr,j.pk 10 [0]⟩;refine Ru<|QW 5 j zr rY λbr j=>?_;refine q_ o λab a8 o=>QO Ol (oD N (i0:=0) j zr a8) ?_;rintro _ w⟨ag,ai,aj,ak,al,an,ao,aq,ar,rfl,j⟩;refine cZ (vp ag 0)<|IT<|mv (vp ag 0)<|aW aa.1<|aW aa.2.1 ?_;have j:=(((((j.dup 8 rfl).dup 7 rfl).dup 7 rfl).dup 7 rfl).dup 7 rfl).pull 5;refine q_ o λah a9 o=>QO Oq (nC N (p1:=aa.1) (p2:=aa.2.1) j a9) λae w j=>cZ ae<|OF<|w_<|mv ae<|Rx 0 ah j kK<|ic ((ah.length:Int)) 0<|AI<|dQ o (λo=>?_) λo=>?_;refine w_<|cZ n_<|aP 9<|AI<|Q5 ?_;obtain rfl:=oi o;have j:=j.cG cL 38;exact qQ ⟨n_,zr,j.pk 22 [0]⟩;refine Ru<|cZ n_<|OF<|w_<|aP 0<|AI<|RI E V (λ(ad:List Int×Int)(av:Value)=>[bc 80 ag [ai,aj,ak,al,an,ao,aq,ar],rd ai ab.1,rd aj ab.2.1,rd ak ab.2.2.1,rd al ab.2.2.2.1,rd an ab.2.2.2.2.1,rd ao ab.2.2.2.2.2.1,own 117 aq ab.2.2.2.2.2.2.1,rd ar ab.2.2.2.2.2.2.2,own 3 ae ah,own 3 av ad.1]) (λ_ av=>[(11,vp ag 0),(13,av)]) (λad _=>[(12,ae),(14,vi ad.2)]) o ?_ ?_ ?_;have j:=j.cG Int 3;exact⟨n_,j.sp 22 [2,4,5,6,7,8,9,10,11,1,0]⟩;rintro ad fl _ w⟨aw,O,rfl,j⟩o;refine BY<|w_<|aW ad.2<|mv ae<|Rx 9 ah j kK<|ic ad.2 ((ah.length:Int))<|AI<|dQ o (λo=>?_) λo=>?_;refine QX<|Rq<|BY<|Rz mixed [0,0,0,0,0,0,0,0,2,0] [0,1,2,3,4,5,6,7,8,9] ?_;have j:=j.drew;refine QN zr<|mv (vp ag 0)<|aY zr<|mv ae<|aY zr<|q_ o λba az o=>QT 9 j zr zr dE az<|aY zr<|RA 9 j az cJ<|aY zr<|mv ae<|aY zr<|aW ad.2<|aY zr ?_;refine q_ o λbb a0 o=>QT 9 j zr zr dE a0<|aY zr<|RA 9 j a0 cJ<|pE zr ?_;have j:=((j.dup 8 rfl).dup 7 rfl).pull 2;refine q_ o λbt bf o=>QO Oo (mC N (p1:=ba) (p2:=bb) j bf) λa1 w j=>tt zr<|cZ a1<|QV<|Rg<|aD<|w_<|mv a1<|mv ae<|mv ae<|Rx 11 ah j kK<|QF (ah.length:Int) 1 ?_;refine q_ o λbu a2 o=>QT 11 j zr zr dE a2<|RA 11 j a2 cJ<|q_ o λbg a3 o=>QT 0 j zr zr dE a3<|RA 0 j a3 cJ<|ic bg 0<|AI<|q_ o λax hj o=>QP (λ(ax:List Int)U w=>∃au:Value,SH E V [(11,vp ag 0),(12,ae),(13,au),(14,vi ad.2)] [bc 80 ag [ai,aj,ak,al,an,ao,aq,ar],rd ai ab.1,rd aj ab.2.1,rd ak ab.2.2.1,rd al ab.2.2.2.1,rd an ab.2.2.2.2.1,rd ao ab.2.2.2.2.2.1,own 117 aq ab.2.2.2.2.2.2.1,rd ar ab.2.2.2.2.2.2.2,own 3 ae ah,own 3 au ax] U w) ax ?_ ?_;refine dQ hj (λhj=>?_) λhj=>?_;refine IS<|mv aw<|mv ae<|aW ad.2<|q_ hj λay a4 hj=>QT 11 j zr zr dE a4<|RA 11 j a4 cJ ?_;have j:=j.sc Int ay;refine Ri ([ay]:List Int) j [vi ay] dE Bh (λM hs g=>⟨(g.sat 0 _ zr).1,zt⟩) λbw w j=>?_;have j:=j.freeze 0;refine q_ hj λbx bh hj=>Rl 14 0 j pU bh λa5 w j=>?_;exact cZ a5<|By<|oi hj▸⟨rfl,a5,j.sp 15 [3,5,6,7,8,9,10,11,12,13,14]⟩;exact Rb<|oi hj▸⟨rfl,aw,j.sp 13 [1,3,4,5,6,7,8,9,10,11,12]⟩;rintro _ w⟨au,O,rfl,j⟩;refine bO<|aD<|IS<|aW ad.2<|QF ad.2 1<|aP (wrap .i64<|ad.2+1)<|By ?_;exact oi o▸⟨rfl,au,j.sp 11 [0,1,2,3,4,5,6,7,8,9,10]⟩;exact Q3<|oi o▸⟨rfl,aw,j.sp 11 [0,1,2,3,4,5,6,7,8,9,10]⟩;rintro ad _ w o⟨bj,O,rfl,j⟩;refine aD<|w_<|mv (vp ag 0)<|mv bj ?_;have j:=((j.freeze 10).dup 6 rfl).pull 1;exact q_ o λbz bk o=>QO Ot (m6 N (i1:=10) j zr bk) λa6 w j=>cZ a6<|aP 0<|AI<|QL<|oi o▸qQ ⟨a6,zr,j.pk 13 [0]⟩
theorem rh{p0:List cL}{p1:List cL}{res:Bool}(j:Holds E w V)(h0:V[i0]? =some (rd v0 p0))(h1:V[i1]? =some (rd v1 p1))(o:lQ N p0 p1=some res):c_ 8 [v0,v1] w<|aU E V res:=by
 unfold lQ at o;refine enter Tryz.func8 zr zr ?_;have j:=(j.dup (i0+0) h0).dup (i1+1) h1;refine w_<|cA false<|OF<|w_<|mv v0<|QK 1 p0 j Ed<|mv v1<|QK 0 p1 j Ed<|ic ((p0.length:Int)) ((p1.length:Int))<|AI<|dQ o (λo=>?_) λo=>?_;exact w_<|cA false<|AI<|Q5<|oi o▸bX ⟨rfl,j.drop 2⟩;refine QX<|w_<|mv v0<|QK 1 p0 j Ed<|aW 0<|AI<|RY E V (λ(ab:Unit)=>[rd v0 p0,rd v1 p1]) (λ_=>[]) (λaa _=>[(0,v0),(1,v1),(12,vi p0.length),(13,vi aa)]) (λr=>l7 bS 26 Tryz.f8 (aU E V r) .ret) o ?_ ?_ ?_ ?_;exact j.sp 2 [1,0];rintro hm aa ab fl _ w hk⟨O,rfl,j⟩o;refine BY<|Q6<|aW (aa:Int)<|aP (aa:Int)<|OF<|RG mixed ?_;have j:=j.drew;refine RF<|mv v0<|AS<|aW (aa:Int)<|AS<|q_ o λad ah o=>QG 0 j qe ah λal j=>AS<|QR 0 ad j eQ λan j=>AS<|mv v1<|AS<|aW (aa:Int)<|AS ?_;refine q_ o λae ai o=>QG 3 j qe ai λao j=>AS<|QR 0 ae j eQ λaq j=>AS<|Sj 2 0 ad ae j Du<|Rs<|aD<|dQ o (λo=>?_) λo=>?_;exact w_<|cA false<|AI<|RB<|bW<|oi o▸⟨rfl,bX ⟨rfl,j.drop 6⟩⟩;exact Rb<|bO<|aD<|IS<|Rv hk hm<|aW ((aa+1:Nat):Int)<|By<|oi o▸⟨rfl,j.sp 6 [4,5]⟩;intro r U w o hK;exact bW<|oi o▸hK;rintro ab _ w o⟨O,rfl,j⟩;exact aD<|w_<|cA true<|AI<|QL<|oi o▸bX ⟨rfl,j.drop 2⟩
theorem u4{res:Bool}(j:Holds E w V)(hb:iq N=some res):c_ 9 [] w<|aU E V res:=by
 unfold iq at hb;refine enter Tryz.func9 zr zr<|w_<|cA false<|IT ?_;have j:=j.sc Int 2;refine RH (⟨⟨0,0⟩,2,0,0,false⟩:cD) trivial rfl j [(1,vi 2)] rfl PZ rfl (λM hs g=>by have h:=Mq M;exact cX.cons (f:=λ(x:cD)y=>{x with dY:=y}) h IA (g.sat 0 _ rfl).1 λ_ h=>cX.nil h) λah j=>?_;refine q_ hb λo ag hb=>QO Nv (tW N (i0:=0) j zr ag) ?_;rintro _ w⟨af,rfl,j⟩;refine mv (.tuple #[af,vi o.2])<|Rf af<|Rf (vi o.2)<|Rn j pH.z λai w j=>?_;refine Rj 0 j 1 zr jg λw j=>?_;refine aP o.2<|OF<|q_ hb λae hj hb=>QP (λ(ae:Bool)=>SH E V [(0,vb ae)] []) ae ?_ ?_;refine IS<|aW o.2<|ic o.2 0<|fI (o.2==0)<|fw hj (λaa hj=>?_) λaa hj=>?_;refine QW (hg:=cg aa) 0 j zr jg λaj j=>?_;have j:=(((j.sc Int<|-1).sc Int<|-1).sc Int 1).sc Int 1;refine RH (⟨(-1),(-1),1,1⟩:aH) (cg aa) rfl j [(0,vi<|-1),(1,vi<|-1),(2,vi 1),(3,vi 1)] rfl Fv rfl (λM hs g=>by have h:=uP M;exact cX.cons (f:=λ(x:aH)y=>{x with X0:=y}) h p9 (g.sat 3 _ rfl).1 λ_ h=>cX.cons (f:=λ(x:aH)y=>{x with Y0:=y}) h rJ (g.sat 2 _ rfl).1 λ_ h=>cX.cons (f:=λ(x:aH)y=>{x with X1:=y}) h qc (g.sat 1 _ rfl).1 λ_ h=>cX.cons (f:=λ(x:aH)y=>{x with Y1:=y}) h rK (g.sat 0 _ rfl).1 λ_ h=>cX.nil h) λak j=>?_;exact SS 5 0 o.1 (⟨(-1),(-1),1,1⟩:aH) (cg aa) zr j zr zr zr zr JE zr<|fA aa (vb<|decide<|o.1=(⟨(-1),(-1),1,1⟩:aH))<|cA (decide<|o.1=(⟨(-1),(-1),1,1⟩:aH))<|By<|oi hj▸⟨rfl,j.sp 10 []⟩;exact bI aa<|bI aa<|bI aa<|fA aa (vb false)<|cA false<|By<|oi hj▸⟨rfl,j.sp 4 []⟩;rintro _ w⟨O,rfl,j⟩;exact aD<|QL<|oi hb▸bX ⟨rfl,j.drop 0⟩
theorem qh{p0:jT}{p1 p2:eE}{res:Bool}(j:Holds E w V)(h0:V[i0]? =some (rd v0 p0))(h1:V[i1]? =some (rd v1 p1))(h2:V[i2]? =some (rd v2 p2))(hb:gE N p0 p1 p2=some res):c_ 3 [v0,v1,v2] w<|aU E V res:=by
 unfold gE at hb;refine enter Tryz.func3 zr zr ?_;have j:=((j.dup (i0+0) h0).dup (i1+1) h1).dup (i2+2) h2;refine w_<|Q2 2 v0 j zr λa2 w j=>?_;refine Q2 2 v1 j zr λa3 w j=>?_;refine Q2 2 v2 j zr λa4 w j=>?_;refine cA false<|IT<|QW 2 j zr rY λa5 j=>QW 2 j zr qC λa6 j=>QW 2 j zr qC λa7 j=>?_;refine q_ hb λo au hb=>QO (hZ Tryz.func4) (C8 N (i0:=2) (i1:=1) (i2:=0) j zr zr zr au) ?_;rintro _ w⟨ak,rfl,j⟩;refine mv (.tuple #[ak,vb o.2.1,vi o.2.2])<|Rf ak<|Rf (vb o.2.1)<|Rf (vi o.2.2)<|cZ ak<|cA o.2.1<|aP o.2.2<|IT<|QW 6 j zr rY λa8 j=>?_;refine QW 6 j zr qC λa9 j=>QW 6 j zr qC λba j=>?_;refine q_ hb λaa av hb=>QO (hZ Tryz.func5) (wq N (i0:=2) (i1:=1) (i2:=0) j zr zr zr av) ?_;rintro _ w⟨al,rfl,j⟩;refine mv (.tuple #[al,vb aa.2.1,vi aa.2.2])<|Rf al<|Rf (vb aa.2.1)<|Rf (vi aa.2.2)<|cZ al<|cA aa.2.1<|aP aa.2.2<|IT<|QW 10 j zr rY λbb j=>?_;refine QW 10 j zr qC λbc j=>QW 10 j zr qC λbf j=>?_;refine q_ hb λae aw hb=>QO (hZ Tryz.func6) (zf N (i0:=2) (i1:=1) (i2:=0) j zr zr zr aw) ?_;rintro _ w⟨an,rfl,j⟩;refine mv (.tuple #[an,vi ae.2])<|Rf an<|Rf (vi ae.2)<|cZ an<|aP ae.2<|IT<|QW 14 j zr rY λbg j=>QW 14 j zr qC λbh j=>QW 14 j zr qC λbj j=>?_;refine q_ hb λaf ax hb=>QO (hZ Tryz.func7) (tH N (i0:=2) (i1:=1) (i2:=0) j zr zr zr ax) ?_;rintro _ w⟨ao,rfl,j⟩;refine mv (.tuple #[ao,vi af.2])<|Rf ao<|Rf (vi af.2)<|cZ ao<|aP af.2<|OF<|q_ hb λaq hj hb=>QP (λ(aq:Bool)=>SH E V [(6,vb aq)] []) aq ?_ ?_;refine IS<|mv ak<|mv al ?_;have j:=(j.freeze 12).freeze 8;refine q_ hj λay az hj=>QM Qi (rh N (i0:=12) (i1:=8) j zr zr az) λw j=>fI ay<|fw hj (λah hj=>?_) λah hj=>?_;refine QE (vb o.2.1) (cg ah)<|QE (vb aa.2.1) (cg ah)<|Tp (a:=o.2.1) (b:=aa.2.1) (cg ah) rfl rfl rfl OO<|fA ah (vb<|o.2.1==aa.2.1)<|fI (o.2.1==aa.2.1)<|IN true (o.2.1==aa.2.1) (vi o.2.2) rfl rfl rfl cF<|IN true (o.2.1==aa.2.1) (vi aa.2.2) rfl rfl rfl cF<|IN true (o.2.1==aa.2.1) (vb<|o.2.2==aa.2.2) rfl rfl rfl (dR .eql .i64 o.2.2 aa.2.2 rfl (by exact z_ (vi o.2.2)) (by exact z_ (vi aa.2.2)) rfl)<|Q7 (o.2.1==aa.2.1) (vb<|(o.2.1==aa.2.1)&&(o.2.2==aa.2.2)) (gL true rfl) ?_;refine fI ((o.2.1==aa.2.1)&&(o.2.2==aa.2.2))<|fw hj (λai hj=>?_) λai hj=>?_;refine QE an (cg ai)<|QE ao (cg ai) ?_;have j:=(j.freeze 4).freeze 0;refine q_ hj λag a0 hj=>QM (hg:=cg ai) Qi (rh N (i0:=4) (i1:=0) j rfl rfl a0) λw j=>fA ai (vb ag)<|fI ag<|IN true ag (vi ae.2) rfl rfl rfl cF<|IN true ag (vi af.2) rfl rfl rfl cF<|IN true ag (vb<|ae.2==af.2) rfl rfl rfl (dR .eql .i64 ae.2 af.2 rfl (by exact z_ (vi ae.2)) (by exact z_ (vi af.2)) rfl)<|Q7 ag (vb<|ag&&(ae.2==af.2)) (gL true rfl)<|fI (ag&&(ae.2==af.2))<|fw hj (λaj hj=>?_) λaj hj=>?_;exact q_ hj λar a1 hj=>QM (hg:=cg aj) (hZ Tryz.func9) (u4 N j a1) λw j=>fA aj (vb ar)<|cA ar<|By<|oi hj▸⟨rfl,j.sp 22 []⟩;exact bI aj<|fA aj (vb false)<|cA false<|By<|oi hj▸⟨rfl,j.sp 22 []⟩;refine bI ai<|bI ai<|bI ai<|fA ai (vb false)<|fI false<|jU<|jU<|jU<|Q7 false (vb false) zr<|fI false<|jU<|Q7 false (vb false) zr<|cA false<|By ?_;exact oi hj▸⟨rfl,j.sp 22 []⟩;refine bI ah<|bI ah<|bI ah<|fA ah (vb false)<|fI false<|jU<|jU<|jU<|Q7 false (vb false) zr<|fI false<|jU<|jU<|jU<|Q7 false (vb false) zr<|fI false<|jU<|jU<|jU ?_;exact Q7 false (vb false) zr<|fI false<|jU<|Q7 false (vb false) zr<|cA false<|By<|oi hj▸⟨rfl,j.sp 22 []⟩;rintro _ w⟨O,rfl,j⟩;exact aD<|QL<|oi hb▸bX ⟨rfl,j.drop 0⟩
end Go.Gk
