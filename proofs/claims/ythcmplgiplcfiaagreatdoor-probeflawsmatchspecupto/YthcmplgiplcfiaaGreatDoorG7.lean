/-
  Printed texts: Go functions as plain functions, and that they are. No statement of the seed is proved here.
-/
import Derived.Test.YthcmplgiplcfiaaGreatDoorG1
import Derived.Test.YthcmplgiplcfiaaGreatDoorG5
import Derived.Test.YthcmplgiplcfiaaGreatDoorG6
import Derived.Test.YthcmplgiplcfiaaGreatDoorG2
import Derived.Test.YthcmplgiplcfiaaGreatDoorG3
import Derived.Test.YthcmplgiplcfiaaGreatDoorG4
import Derived.Test.YthcmplgiplcfiaaGreatDoorA2
set_option linter.unusedVariables false
set_option linter.unusedSimpArgs false
set_option linter.unusedSectionVars false
set_option maxRecDepth 100000
set_option maxHeartbeats 40000000
namespace Go.Gk
open Go IntKind Go.Proofs
variable (N:Nat){E w:World}{b0 i0 i1:Nat}{p0 p1 p2 res:Int}{v0 e_ h_ a_ d_ f_ b_ g_ j_ v1:Value}{V:List HP}
def vn(E:World)(V:List HP)(res:(List (List aI)×List aI×List bT×List cX×List Int×List (List aI)×List cK×List (List Int)))(v:Value)(w:World):Prop:=∃(ub0:Nat)(A_ H_:Value)(I_ O_:Value)(J_ K_:Value)(E_ L_:Value),v=vp ub0 0/\Holds E w ([bc 95 ub0 [A_,H_,I_,O_,J_,K_,E_,L_],rd A_ res.1,rd H_ res.2.1,rd I_ res.2.2.1,rd O_ res.2.2.2.1,rd J_ res.2.2.2.2.1,rd K_ res.2.2.2.2.2.1,own 130 E_ res.2.2.2.2.2.2.1,rd L_ res.2.2.2.2.2.2.2]++V)
theorem pq{p0:jr}{res:(List (List aI)×List aI×List bT×List cX×List Int×List (List aI)×List cK×List (List Int))}(j:Holds E w V)(h0:V[i0]? =some (rd v0 p0))(hb:iK N p0=some res):
    c_ 18 [v0] w<|vn E V res:=by
 unfold iK at hb
 refine enter Tryz.func18 zr zr ?_
 have j:=j.dup (i0+0) h0
 refine w_<|SK 0 v0 j zr λa2 w j=>?_
 refine dV (.pointer none)<|OF<|SY 0 j zr nX λck j=>?_
 obtain⟨cs,hcs,hv37,j⟩:=j.ID (i:=0) rfl rfl
 obtain⟨ax,ay,a0,a1,rfl⟩:=OA hcs
 have j:=(((j.mU (i:=0) (k:=0) (f:=λx=>x.aJ) rfl jN rfl rfl rfl).mU (i:=1) (k:=1) (f:=λx=>x.cN) rfl u4 rfl rfl rfl).mU (i:=2) (k:=2) (f:=λx=>x.aQ) rfl iD rfl rfl rfl).mU (i:=3) (k:=3) (f:=λx=>x.bM) rfl mj rfl rfl rfl
 refine UN (zs:=[n_,n_,n_,n_,n_,n_,n_,n_]) (cs:=[ax,ay,a0,a1,n_,n_,n_,n_]) zt zr [(0,ck)] [(0,[ax,ay,a0,a1])] zr Rb ⟨rfl,congrArg Value.cells hv37,zt⟩ zr<|Ut [ax,ay,a0,a1,n_,n_,n_,n_] zr j zr (zO.all (⟨pB 3 j,pB 2 j,pB 1 j,pB 0 j,zr,zr,zr,zr,zt⟩:zO [ax,ay,a0,a1,n_,n_,n_,n_])) λah w j=>?_
 refine dV (vp ah 0)<|Sm<|w_<|aN 0<|AI<|T6 E V (λ(ai:List Int×List (List aI)×Int)(bw bz:Value)=>[bx 27 a2 p0,bc 95 ah [ax,ay,a0,a1,bw,bz,n_,n_],own 3 bw ai.1,own 23 bz ai.2.1,rd ax p0.aJ,rd ay p0.cN,rd a0 p0.aQ,rd a1 p0.bM]) (λ_ _ _=>[(1,vp a2 0),(3,vp ah 0)]) (λai _ _=>[(4,vi ai.2.2)]) hb ?_ ?_ ?_
 ·have j:=(j.dD Int 3).dD (List aI) 23
  exact⟨n_,n_,j.sp 11 [9,2,1,0,6,5,4,3]⟩
 ·rintro ai fl _ w⟨b0,b2,O,rfl,j⟩hb
  refine IN<|w_<|aY ai.2.2<|AT zr nY<|SS 0 j zr jN qf λdi j=>Sp 0 p0.aJ j qJ<|ic ai.2.2 ((p0.aJ.length:Int))<|AI<|dC hb (λhb=>?_) λhb=>?_
  rotate_left
  ·refine SL ?_
   obtain rfl:=oi hb
   exact⟨rfl,b0,b2,j.sp 9 [1,2,3,4,5,6,7,8]⟩
  refine Sz<|SO<|SY 1 j zr nX λdj j=>aY ai.2.2 ?_
  obtain⟨dk,cm,hb⟩:=bd hb
  refine SB PI (n9 N (p1:=ai.2.2) (i0:=0) j zr cm) λdm w j=>?_
  have j:=j.freeze 0
  obtain⟨bn,cn,hb⟩:=bd hb
  refine SB PK (oU N (i0:=0) j zr cn) λbf w j=>dV bf<|OF<|aN 0<|AI<|T6 E V (λ(a9:List Int×List (List aI)×Int)(b3 b4:Value)=>[bx 27 a2 p0,bc 95 ah [ax,ay,a0,a1,b3,b4,n_,n_],own 3 b3 a9.1,own 23 b4 a9.2.1,rd ax p0.aJ,rd ay p0.cN,rd a0 p0.aQ,rd a1 p0.bM,own 23 bf bn]) (λ_ _ _=>[(1,vp a2 0),(3,vp ah 0),(4,vi ai.2.2)]) (λa9 _ _=>[(5,bf),(6,vi a9.2.2)]) hb ?_ ?_ ?_
  ·exact⟨b0,b2,j.sp 12 [4,5,6,7,8,9,10,11,0]⟩
  ·rintro a9 fl _ w⟨b5,bg,O,rfl,j⟩hb
   refine IN<|w_<|aY a9.2.2<|mv bf<|Tj 8 bn j qJ<|ic a9.2.2 ((bn.length:Int))<|AI<|dC hb (λhb=>?_) λhb=>?_
   rotate_left
   ·refine SL ?_
    obtain rfl:=oi hb
    exact⟨rfl,b5,bg,j.sp 9 [0,1,2,3,4,5,6,7,8]⟩
   refine Sz<|SO<|mv (vp ah 0)<|mv (vp ah 0)<|SE zr<|AT zr CW<|Sx 1 b5 j gh<|aY ai.2.2 ?_
   have j:=j.sc Int ai.2.2
   refine S4 ([ai.2.2]:List Int) j [vi ai.2.2] dQ DU (λM hs g=>⟨(g.sat 0 _ zr).1,zt⟩) λdn w j=>?_
   have j:=j.freeze 0
   obtain⟨dp,cp,hb⟩:=bd hb
   refine S8 4 0 j rq cp λbo w j=>?_
   refine SE zr<|AT zr CW<|Tv 3 bo j zr zr (iU 4 j) gh λw j=>?_
   refine AI ?_
   have j:=j.drew
   refine TT (λw=>Holds E w<|[bc 95 ah [ax,ay,a0,a1,bo,bg,n_,n_]]++V) mixed zr [1,1,1,1,1,0,0,0,0,2,2,0,0,2] [0,1,2,3,4,5,6,7,8,9,10,11,12,13] (j.pk 11 [3])<|SF (vp ah 0) zr (λw=>Si (vp ah 0) zt SC)<|SF (vp ah 0) zr (λw=>Si (vp ah 0) zt SC)<|SF (vp ah 0) zr (λw=>SE zr SC)<|SF (vp ah 5) zr (λw=>AT zr qT SC)<|TP bg zr (λw j=>Sx 0 bg j qf SC)<|Sq zr<|mv bf<|aR zr ?_
   refine aY a9.2.2<|aR zr ?_
   obtain⟨cq,b6,hb⟩:=bd hb
   refine SD 10 j zr zr wQ b6<|aR zr<|TL 10 j b6 wP λcr j=>?_
   refine mW zr<|S4 ([cq]:List (List aI)) j [cr] wQ L8 (λM hs g=>⟨(g.sat 0 _ zr).1,zt⟩) λdq w j=>SM (j.pk 13 [5])<|SX zr ?_
   have j:=j.freeze 0
   obtain⟨dr,ct,hb⟩:=bd hb
   refine S8 7 0 j KH ct λb7 w j=>?_
   refine SM (j.pk 13 [5])<|Sq zr<|SE zr<|aR zr<|AT zr qT<|St<|Ui zr zr<|Tv 5 b7 j zr zr (iU 7 j) qf λw j=>?_
   refine SM zt<|SG<|bN<|aF<|IS<|aY a9.2.2<|Sn a9.2.2 1<|aN (wrap .i64<|a9.2.2+1)<|By ?_
   obtain rfl:=oi hb
   exact⟨rfl,bo,b7,j.sp 13 [4,5,6,7,8,9,10,11,12]⟩
  rintro a9 _ w hb⟨cu,cv,O,rfl,j⟩
  refine bN<|aF<|IS<|aY ai.2.2<|Sn ai.2.2 1<|aN (wrap .i64<|ai.2.2+1)<|By ?_
  obtain rfl:=oi hb
  exact⟨rfl,cu,cv,j.sp 9 [0,1,2,3,4,5,6,7]⟩
 rintro ai _ w hb⟨a3,a5,O,rfl,j⟩
 refine aF<|IN<|w_<|aN 0<|AI<|Tt E V (λ(aw:List (List Int)×Int)(b8:Value)=>[bx 27 a2 p0,bc 95 ah [ax,ay,a0,a1,a3,a5,n_,b8],own 44 b8 aw.1,rd ax p0.aJ,rd ay p0.cN,rd a0 p0.aQ,rd a1 p0.bM,own 3 a3 ai.1,own 23 a5 ai.2.1]) (λ_ _=>[(3,vp ah 0)]) (λaw _=>[(1,vp a2 0),(7,vi aw.2)]) hb ?_ ?_ ?_
 ·have j:=j.dD (List Int) 44
  exact⟨n_,j.sp 9 [1,2,0,5,6,7,8,3,4]⟩
 ·rintro aw fl _ w⟨a7,O,rfl,j⟩hb
  refine IN<|w_<|aY aw.2<|AT zr gz<|SS 0 j zr iD mY λds j=>Sp 0 p0.aQ j u6<|ic aw.2 ((p0.aQ.length:Int))<|AI<|dC hb (λhb=>?_) λhb=>?_
  rotate_left
  ·refine SL ?_
   obtain rfl:=oi hb
   exact⟨rfl,a7,j.sp 10 [1,2,3,4,5,6,7,8,9]⟩
  refine Sz<|SO<|dV n_<|Sm<|w_<|aN 0<|AI<|Tt E V (λ(au:List Int×Int)(bp:Value)=>[bx 27 a2 p0,bc 95 ah [ax,ay,a0,a1,a3,a5,n_,a7],rd ax p0.aJ,rd ay p0.cN,rd a0 p0.aQ,rd a1 p0.bM,own 3 a3 ai.1,own 23 a5 ai.2.1,own 44 a7 aw.1,own 3 bp au.1]) (λ_ bp=>[(1,vp a2 0),(3,vp ah 0),(7,vi aw.2),(8,bp)]) (λau _=>[(9,vi au.2)]) hb ?_ ?_ ?_
  ·have j:=j.dD Int 3
   exact⟨n_,j.sp 11 [2,3,5,6,7,8,9,10,4,0]⟩
  ·rintro au fl _ w⟨ba,O,rfl,j⟩hb
   refine IN<|IN ?_
   obtain⟨bq,hj,hb⟩:=bd hb
   refine Sw (λ(bq:Bool)=>SH E V [(1,vp a2 0),(3,vp ah 0),(7,vi aw.2),(8,ba),(9,vi au.2),(74,vb bq)] [bx 27 a2 p0,bc 95 ah [ax,ay,a0,a1,a3,a5,n_,a7],rd ax p0.aJ,rd ay p0.cN,rd a0 p0.aQ,rd a1 p0.bM,own 3 a3 ai.1,own 23 a5 ai.2.1,own 44 a7 aw.1,own 3 ba au.1]) bq ?_ ?_
   ·refine IS<|aY au.2<|mv (vp ah 0)<|SE zr<|AT zr qT<|Sx 1 a5 j qf<|Tj 7 ai.2.1 j qJ<|ic au.2 ((ai.2.1.length:Int))<|fC (decide<|au.2<(ai.2.1.length:Int)) ?_
    refine eH hj (λa6 hj=>?_) λa6 hj=>?_
    rotate_left
    ·refine aV a6<|aV a6<|aV a6<|aV a6<|aV a6<|aV a6<|eE a6 (vb false)<|By ?_
     obtain rfl:=oi hj
     exact⟨rfl,j.sp 10 [0,1,2,3,4,5,6,7,8,9]⟩
    refine AT zr gz<|SS 0 j zr iD mY λdt j=>Si (vi aw.2) (cg a6) ?_
    obtain⟨b9,cw,hj⟩:=bd hj
    refine Sk 0 j rO cw λdu j=>SN 0 j zr xp pS λdv j=>SA b9.eP 0 j rR<|eE a6 (vb b9.eP)<|By ?_
    obtain rfl:=oi hj
    exact⟨rfl,j.sp 13 [3,4,5,6,7,8,9,10,11,12]⟩
   rintro _ w⟨O,rfl,j⟩
   refine aF<|dC hb (λhb=>?_) λhb=>?_
   rotate_left
   ·refine SL ?_
    obtain rfl:=oi hb
    exact⟨rfl,ba,j.sp 10 [0,1,2,3,4,5,6,7,8,9]⟩
   refine Sz<|S5<|IN ?_
   obtain⟨br,hj,hb⟩:=bd hb
   refine Sw (λ(br:Bool)=>SH E V [(1,vp a2 0),(3,vp ah 0),(7,vi aw.2),(8,ba),(9,vi au.2),(105,vb br)] [bx 27 a2 p0,bc 95 ah [ax,ay,a0,a1,a3,a5,n_,a7],rd ax p0.aJ,rd ay p0.cN,rd a0 p0.aQ,rd a1 p0.bM,own 3 a3 ai.1,own 23 a5 ai.2.1,own 44 a7 aw.1,own 3 ba au.1]) br ?_ ?_
   ·obtain⟨bb,ca,hj⟩:=bd hj
    obtain⟨bh,bj,hj⟩:=bd hj
    obtain⟨bk,cb,hj⟩:=bd hj
    refine eH hj (λav hj=>?_) λav hj=>?_
    rotate_left
    ·refine TF E V mixed [1,0,1,0,0,1,1,1,0,1,0,0,0,1,1,1,1,1,1,1,1,1,1,1,1,1,1,1,1] [1,3,4] (λ(x:Value×Value×Value)=>(λad ae af=>[(0,77,vp a2 2),(1,78,ad),(2,79,vi aw.2),(3,80,ae),(4,81,af),(5,82,vp ah 0),(6,83,vp ah 0),(7,84,vp ah 4),(8,85,a3),(9,86,vi au.2),(10,87,AW a3 (Int.toNat au.2) 1 0),(11,88,vi bh),(12,89,vb bk),(13,90,vb bk),(14,91,undef),(15,92,undef),(16,93,undef),(17,94,undef),(18,95,undef),(19,96,undef),(20,97,undef),(21,98,undef),(22,99,undef),(23,100,undef),(24,101,undef),(25,102,undef),(26,103,undef),(27,104,undef),(28,105,vb false)]) x.1 x.2.1 x.2.2) [(1,vp a2 0),(3,vp ah 0),(7,vi aw.2),(8,ba),(9,vi au.2)] [] (λ(D:Nat->Bool)(x:Value×Value×Value)=>(λad ae af=>[bif D 0 then rd ad p0.aQ else bR,bif D 1 then pt ae bb else bR,bif D 2 then rd af bb else bR,bx 27 a2 p0,bc 95 ah [ax,ay,a0,a1,a3,a5,n_,a7],rd ax p0.aJ,rd ay p0.cN,rd a0 p0.aQ,rd a1 p0.bM,own 3 a3 ai.1,own 23 a5 ai.2.1,own 44 a7 aw.1,own 3 ba au.1]) x.1 x.2.1 x.2.2) (λx=>by kernel_rfl) ?_ ⟨λ_=>oX gn gz,?_,λ_=>kn gn,?_,?_,λ_=>kn gn,λ_=>y6 gn,λ_=>oX gn CW,?_,λ_=>kn gn,?_,?_,?_,λ_=>kn gn,λ_=>uW av,λ_=>uW av,λ_=>uW av,λ_=>uW av,λ_=>uW av,λ_=>uW av,λ_=>uW av,λ_=>uW av,λ_=>uW av,λ_=>uW av,λ_=>uW av,λ_=>uW av,λ_=>uW av,λ_=>uW av,λ_=>OI gn av rfl,trivial⟩ ?_
     ·have j:=(((j.drew).bR).bR).bR
      exact⟨(undef,undef,undef),eR.none,HD zr,zt,j⟩
     ·rintro D U w hD aa a4⟨⟨ad,ae,af⟩,o,ha,_,j⟩
      obtain⟨O,rfl⟩:=o.o1 0 aa
      have j:=j.cH 0 hD
      refine SS 3 j zr iD mY λcx j=>?_
      have j:=j.nw 0
      exact Su (cx,ae,af) 1 o ha j
     ·rintro D U w hD aa a4⟨⟨ad,ae,af⟩,o,ha,_,j⟩
      obtain⟨O,rfl⟩:=o.o2 1 2 aa
      have j:=(j.fA 0<|aa.1 rfl).cH 1 hD
      refine Sk 0 j rO ca λcy j=>?_
      have j:=((j.pl 14 [1,0,3,4,5,6,7,8,9,10,11,12,13]).dL 0 (D 1) (aa.1 rfl) bR).dL 1 true rfl bR
      exact Su (ad,cy,af) 3 o ha j
     ·rintro D U w hD aa a4⟨⟨ad,ae,af⟩,o,ha,_,j⟩
      obtain⟨O,rfl⟩:=o.o1 3 aa
      have j:=(j.fA 1<|aa.1 rfl).cH 2 hD
      refine Sv 1 bb j nA λcz j=>?_
      have j:=((j.pl 14 [1,2,0,4,5,6,7,8,9,10,11,12,13]).dL 1 (D 3) (aa.1 rfl) bR).dL 2 true rfl bR
      exact Su (ad,ae,cz) 4 o ha j
     ·rintro D U w hD aa a4⟨⟨ad,ae,af⟩,o,ha,_,j⟩
      obtain⟨O,rfl⟩:=o.o1 7 aa
      refine Sx 4 a3 j gh ?_
      exact Su (ad,ae,af) 8 o ha j
     ·rintro D U w hD aa a4⟨⟨ad,ae,af⟩,o,ha,_,j⟩
      obtain⟨O,rfl⟩:=o.o2 8 9 aa
      refine SD 9 j zr zr dQ bj ?_
      exact Su (ad,ae,af) 10 o ha j
     ·rintro D U w hD aa a4⟨⟨ad,ae,af⟩,o,ha,_,j⟩
      obtain⟨O,rfl⟩:=o.o1 10 aa
      refine Th 9 j bj cF ?_
      exact Su (ad,ae,af) 11 o ha j
     ·rintro D U w hD aa a4⟨⟨ad,ae,af⟩,o,ha,_,j⟩
      obtain⟨O,rfl⟩:=o.o2 4 11 aa
      have j:=j.fA 2<|aa.1 rfl
      refine So Ma (j9 N (p1:=bh) (i0:=2) j zr cb) λw j=>?_
      have j:=j.dL 2 (D 4) (aa.1 rfl) bR
      exact Su (ad,ae,af) 12 o ha j
     rintro D U w a8⟨⟨ad,ae,af⟩,o,ha,_,j⟩
     have j:=((j.fA 0<|uS a8 1).fA 1<|uS a8 3).fA 2<|uS a8 4
     obtain⟨O,rfl⟩:=(ac (o.at 28 rfl<|uS a8 28) ha).tP
     obtain rfl:=oi hj
     exact⟨rfl,j.sp 13 [3,4,5,6,7,8,9,10,11,12]⟩
    obtain⟨c0,cc,hj⟩:=bd hj
    obtain⟨bt,c1,hj⟩:=bd hj
    obtain⟨c2,c3,hj⟩:=bd hj
    obtain⟨cd,c4,hj⟩:=bd hj
    refine TF E V mixed [1,0,1,0,0,1,1,1,0,1,0,0,0,1,1,1,1,0,1,0,0,1,0,1,0,0,0,0,1] [1,3,4,20,22,24,25,26] (λ(x:Value×Value×Value×Value×Value×Value×Value×Value)=>(λad ae af ak al an ao aq=>[(0,77,vp a2 2),(1,78,ad),(2,79,vi aw.2),(3,80,ae),(4,81,af),(5,82,vp ah 0),(6,83,vp ah 0),(7,84,vp ah 4),(8,85,a3),(9,86,vi au.2),(10,87,AW a3 (Int.toNat au.2) 1 0),(11,88,vi bh),(12,89,vb bk),(13,90,vb bk),(14,91,vp ah 0),(15,92,vp ah 0),(16,93,vp ah 5),(17,94,a5),(18,95,vi au.2),(19,96,AW a5 (Int.toNat au.2) 1 0),(20,97,ak),(21,98,vp a2 2),(22,99,al),(23,100,vi aw.2),(24,101,an),(25,102,ao),(26,103,aq),(27,104,vb cd),(28,105,vb cd)]) x.1 x.2.1 x.2.2.1 x.2.2.2.1 x.2.2.2.2.1 x.2.2.2.2.2.1 x.2.2.2.2.2.2.1 x.2.2.2.2.2.2.2) [(1,vp a2 0),(3,vp ah 0),(7,vi aw.2),(8,ba),(9,vi au.2)] [] (λ(D:Nat->Bool)(x:Value×Value×Value×Value×Value×Value×Value×Value)=>(λad ae af ak al an ao aq=>[bif D 0 then rd ad p0.aQ else bR,bif D 1 then pt ae bb else bR,bif D 2 then rd af bb else bR,bif D 3 then rd ak c0 else bR,bif D 4 then rd al p0.aQ else bR,bif D 5 then pt an bt else bR,bif D 6 then rd ao bt else bR,bif D 7 then rd aq c2 else bR,bx 27 a2 p0,bc 95 ah [ax,ay,a0,a1,a3,a5,n_,a7],rd ax p0.aJ,rd ay p0.cN,rd a0 p0.aQ,rd a1 p0.bM,own 3 a3 ai.1,own 23 a5 ai.2.1,own 44 a7 aw.1,own 3 ba au.1]) x.1 x.2.1 x.2.2.1 x.2.2.2.1 x.2.2.2.2.1 x.2.2.2.2.2.1 x.2.2.2.2.2.2.1 x.2.2.2.2.2.2.2) (λx=>by kernel_rfl) ?_ ⟨λ_=>oX gn gz,?_,λ_=>kn gn,?_,?_,λ_=>kn gn,λ_=>y6 gn,λ_=>oX gn CW,?_,λ_=>kn gn,?_,?_,?_,λ_=>kn gn,λ_=>kn<|gy av,λ_=>y6<|gy av,λ_=>oX (gy av) qT,?_,λ_=>kn<|gy av,?_,?_,λ_=>oX (gy av) gz,?_,λ_=>kn<|gy av,?_,?_,?_,?_,λ_=>OH gn av rfl,trivial⟩ ?_
    ·have j:=((((((((j.drew).bR).bR).bR).bR).bR).bR).bR).bR
     exact⟨(undef,undef,undef,undef,undef,undef,undef,undef),eR.none,HD zr,zt,j⟩
    ·rintro D U w hD aa a4⟨⟨ad,ae,af,ak,al,an,ao,aq⟩,o,ha,_,j⟩
     dsimp only at o j
     obtain⟨O,rfl⟩:=o.o1 0 aa
     have j:=j.cH 0 hD
     refine SS 8 j zr iD mY λc5 j=>?_
     have j:=j.nw 0
     exact Su (c5,ae,af,ak,al,an,ao,aq) 1 o ha j
    ·rintro D U w hD aa a4⟨⟨ad,ae,af,ak,al,an,ao,aq⟩,o,ha,_,j⟩
     dsimp only at o j
     obtain⟨O,rfl⟩:=o.o2 1 2 aa
     have j:=(j.fA 0<|aa.1 rfl).cH 1 hD
     refine Sk 0 j rO ca λc6 j=>?_
     have j:=((j.pl 19 [1,0,3,4,5,6,7,8,9,10,11,12,13,14,15,16,17,18]).dL 0 (D 1) (aa.1 rfl) bR).dL 1 true rfl bR
     exact Su (ad,c6,af,ak,al,an,ao,aq) 3 o ha j
    ·rintro D U w hD aa a4⟨⟨ad,ae,af,ak,al,an,ao,aq⟩,o,ha,_,j⟩
     dsimp only at o j
     obtain⟨O,rfl⟩:=o.o1 3 aa
     have j:=(j.fA 1<|aa.1 rfl).cH 2 hD
     refine Sv 1 bb j nA λc7 j=>?_
     have j:=((j.pl 19 [1,2,0,4,5,6,7,8,9,10,11,12,13,14,15,16,17,18]).dL 1 (D 3) (aa.1 rfl) bR).dL 2 true rfl bR
     exact Su (ad,ae,c7,ak,al,an,ao,aq) 4 o ha j
    ·rintro D U w hD aa a4⟨⟨ad,ae,af,ak,al,an,ao,aq⟩,o,ha,_,j⟩
     dsimp only at o j
     obtain⟨O,rfl⟩:=o.o1 7 aa
     refine Sx 9 a3 j gh ?_
     exact Su (ad,ae,af,ak,al,an,ao,aq) 8 o ha j
    ·rintro D U w hD aa a4⟨⟨ad,ae,af,ak,al,an,ao,aq⟩,o,ha,_,j⟩
     dsimp only at o j
     obtain⟨O,rfl⟩:=o.o2 8 9 aa
     refine SD 14 j zr zr dQ bj ?_
     exact Su (ad,ae,af,ak,al,an,ao,aq) 10 o ha j
    ·rintro D U w hD aa a4⟨⟨ad,ae,af,ak,al,an,ao,aq⟩,o,ha,_,j⟩
     dsimp only at o j
     obtain⟨O,rfl⟩:=o.o1 10 aa
     refine Th 14 j bj cF ?_
     exact Su (ad,ae,af,ak,al,an,ao,aq) 11 o ha j
    ·rintro D U w hD aa a4⟨⟨ad,ae,af,ak,al,an,ao,aq⟩,o,ha,_,j⟩
     dsimp only at o j
     obtain⟨O,rfl⟩:=o.o2 4 11 aa
     have j:=j.fA 2<|aa.1 rfl
     refine So Ma (j9 N (p1:=bh) (i0:=2) j zr cb) λw j=>?_
     have j:=j.dL 2 (D 4) (aa.1 rfl) bR
     exact Su (ad,ae,af,ak,al,an,ao,aq) 12 o ha j
    ·rintro D U w hD aa a4⟨⟨ad,ae,af,ak,al,an,ao,aq⟩,o,ha,_,j⟩
     dsimp only at o j
     obtain⟨O,rfl⟩:=o.o2 16 13 aa
     refine Sx 9 a5 j qf ?_
     exact Su (ad,ae,af,ak,al,an,ao,aq) 17 o ha j
    ·rintro D U w hD aa a4⟨⟨ad,ae,af,ak,al,an,ao,aq⟩,o,ha,_,j⟩
     dsimp only at o j
     obtain⟨O,rfl⟩:=(ac (o.at 13 rfl<|aa.2.2.1 rfl)<|ac (o.at 17 rfl<|aa.1 rfl)<|ac (o.at 18 rfl<|aa.2.1 rfl) az).tP
     refine SD 15 j zr zr wQ cc ?_
     exact Su (ad,ae,af,ak,al,an,ao,aq) 19 o ha j
    ·rintro D U w hD aa a4⟨⟨ad,ae,af,ak,al,an,ao,aq⟩,o,ha,_,j⟩
     dsimp only at o j
     obtain⟨O,rfl⟩:=o.o2 19 13 aa
     have j:=j.cH 3 hD
     refine TL (hg:=cg av) 15 j cc wP λc8 j=>?_
     have j:=j.nw 3
     exact Su (ad,ae,af,c8,al,an,ao,aq) 20 o ha j
    ·rintro D U w hD aa a4⟨⟨ad,ae,af,ak,al,an,ao,aq⟩,o,ha,_,j⟩
     dsimp only at o j
     obtain⟨O,rfl⟩:=o.o2 21 13 aa
     have j:=j.cH 4 hD
     refine SS 8 j zr iD mY λc9 j=>?_
     have j:=j.nw 4
     exact Su (ad,ae,af,ak,c9,an,ao,aq) 22 o ha j
    ·rintro D U w hD aa a4⟨⟨ad,ae,af,ak,al,an,ao,aq⟩,o,ha,_,j⟩
     dsimp only at o j
     obtain⟨O,rfl⟩:=(ac (o.at 13 rfl<|aa.2.2.1 rfl)<|ac (o.at 22 rfl<|aa.1 rfl)<|ac (o.at 23 rfl<|aa.2.1 rfl) az).tP
     have j:=(j.fA 4<|aa.1 rfl).cH 5 hD
     refine Sk 4 j rO c1 λda j=>?_
     have j:=((j.pl 19 [1,2,3,4,5,0,7,8,9,10,11,12,13,14,15,16,17,18]).dL 4 (D 22) (aa.1 rfl) bR).dL 5 true rfl bR
     exact Su (ad,ae,af,ak,al,da,ao,aq) 24 o ha j
    ·rintro D U w hD aa a4⟨⟨ad,ae,af,ak,al,an,ao,aq⟩,o,ha,_,j⟩
     dsimp only at o j
     obtain⟨O,rfl⟩:=o.o2 24 13 aa
     have j:=(j.fA 5<|aa.1 rfl).cH 6 hD
     refine Sv 5 bt j nA λdb j=>?_
     have j:=((j.pl 19 [1,2,3,4,5,6,0,8,9,10,11,12,13,14,15,16,17,18]).dL 5 (D 24) (aa.1 rfl) bR).dL 6 true rfl bR
     exact Su (ad,ae,af,ak,al,an,db,aq) 25 o ha j
    ·rintro D U w hD aa a4⟨⟨ad,ae,af,ak,al,an,ao,aq⟩,o,ha,_,j⟩
     dsimp only at o j
     obtain⟨O,rfl⟩:=o.o2 25 13 aa
     have j:=(j.fA 6<|aa.1 rfl).cH 7 hD
     refine SB JJ (gq N (i0:=6) j zr c3) λdc w j=>?_
     have j:=((j.pl 19 [1,2,3,4,5,6,7,0,9,10,11,12,13,14,15,16,17,18]).dL 6 (D 25) (aa.1 rfl) bR).dL 7 true rfl bR
     exact Su (ad,ae,af,ak,al,an,ao,dc) 26 o ha j
    ·rintro D U w hD aa a4⟨⟨ad,ae,af,ak,al,an,ao,aq⟩,o,ha,_,j⟩
     dsimp only at o j
     obtain⟨O,rfl⟩:=(ac (o.at 13 rfl<|aa.2.2.2.1 rfl)<|ac (o.at 20 rfl<|aa.1 rfl)<|ac (o.at 26 rfl<|aa.2.1 rfl) az).tP
     have j:=(j.fA 3<|aa.1 rfl).fA 7<|aa.2.1 rfl
     refine So (gU Tryz.func51) (wZ N (i0:=3) (i1:=7) j zr zr c4) λw j=>?_
     have j:=(j.dL 3 (D 20) (aa.1 rfl) bR).dL 7 (D 26) (aa.2.1 rfl) bR
     exact Su (ad,ae,af,ak,al,an,ao,aq) 27 o ha j
    rintro D U w a8⟨⟨ad,ae,af,ak,al,an,ao,aq⟩,o,ha,_,j⟩
    simp only[List.getD_cons_zero,List.getD_cons_succ,a8 1 (by decide),a8 3 (by decide),a8 4 (by decide),a8 20 (by decide),a8 22 (by decide),a8 24 (by decide),a8 25 (by decide),a8 26 (by decide),aK]at j
    obtain⟨O,rfl⟩:=(ac (o.at 28 rfl<|uS a8 28) ha).tP
    obtain rfl:=oi hj
    exact⟨rfl,j.sp 18 [8,9,10,11,12,13,14,15,16,17]⟩
   rintro _ w⟨O,rfl,j⟩
   refine aF ?_
   obtain⟨bu,hj,hb⟩:=bd hb
   refine Sw (λ(bu:List Int)U w=>∃bl:Value,SH E V [(1,vp a2 0),(3,vp ah 0),(7,vi aw.2),(8,bl),(9,vi au.2)] [bx 27 a2 p0,bc 95 ah [ax,ay,a0,a1,a3,a5,n_,a7],rd ax p0.aJ,rd ay p0.cN,rd a0 p0.aQ,rd a1 p0.bM,own 3 a3 ai.1,own 23 a5 ai.2.1,own 44 a7 aw.1,own 3 bl bu] U w) bu ?_ ?_
   ·refine dC hj (λhj=>?_) λhj=>?_
    rotate_left
    ·refine SR ?_
     obtain rfl:=oi hj
     exact⟨rfl,ba,j.sp 10 [0,1,2,3,4,5,6,7,8,9]⟩
    refine IS<|mv ba<|aY au.2 ?_
    have j:=j.sc Int au.2
    refine S4 ([au.2]:List Int) j [vi au.2] dQ DU (λM hs g=>⟨(g.sat 0 _ zr).1,zt⟩) λdw w j=>?_
    have j:=j.freeze 0
    obtain⟨dx,dd,hj⟩:=bd hj
    refine S8 11 0 j rq dd λcf w j=>?_
    refine dV cf<|By ?_
    obtain rfl:=oi hj
    exact⟨rfl,cf,j.sp 12 [2,3,4,5,6,7,8,9,10,11]⟩
   rintro _ w⟨bl,O,rfl,j⟩
   refine bN<|aF<|IS<|aY au.2<|Sn au.2 1<|aN (wrap .i64<|au.2+1)<|By ?_
   obtain rfl:=oi hb
   exact⟨rfl,bl,j.sp 10 [0,1,2,3,4,5,6,7,8,9]⟩
  rintro au _ w hb⟨ch,O,rfl,j⟩
  refine aF<|IS<|mv (vp ah 0)<|mv (vp ah 0)<|SE zr<|AT zr uA<|Sx 1 a7 j Aa<|mv ch ?_
  have j:=j.freeze 9
  refine S4 ([au.1]:List (List Int)) j [ch] A6 NP (λM hs g=>⟨(g.sat 9 _ zr).1,zt⟩) λdy w j=>?_
  have j:=j.freeze 0
  obtain⟨dz,de,hb⟩:=bd hb
  refine S8 9 0 j NQ de λcj w j=>?_
  refine SE zr<|AT zr uA<|Tv 2 cj j zr zr (iU 9 j) Aa λw j=>?_
  refine By<|bN<|aF<|IS<|aY aw.2<|Sn aw.2 1<|aN (wrap .i64<|aw.2+1)<|By ?_
  obtain rfl:=oi hb
  exact⟨rfl,cj,j.sp 11 [1,2,9,3,4,5,6,7,8]⟩
 rintro aw _ w hb⟨df,O,rfl,j⟩
 refine aF<|w_<|mv (vp ah 0) ?_
 have j:=((((((((j.freeze 7).freeze 8).freeze 2).dup 2 rfl).dup 9 rfl).dup 9 rfl).dup 9 rfl).dup 9 rfl).pull 6
 obtain⟨d3,dg,hb⟩:=bd hb
 refine SB (gU Tryz.func53) (pM N j dg) ?_
 rintro _ w⟨dh,rfl,j⟩
 refine OF<|mv (vp ah 0)<|dV (vp ah 0)<|AI<|Ss ?_
 obtain rfl:=oi hb
 exact bV ⟨ah,ax,ay,a0,a1,a3,a5,dh,df,zr,j.pk 11 [0,5,6,7,8,9,10,1,4]⟩
theorem ka{res:Bool}(o:Holds E w V)(j:gL N p0 p1 p2=some res):c_ 93 [vi p0,vi p1,vi p2] w<|aX E V res:=by
 unfold gL at j;refine enter Tryz.func93 zr zr<|w_<|bY false<|OF<|aY p0<|aY p1<|ic p0 p1<|fC (decide<|p0>=p1)<|BY true (decide<|p0>=p1) (vi p0) zr zr zr cG ?_;refine BY true (decide<|p0>=p1) (vi p2) rfl rfl rfl cG<|BY true (decide<|p0>=p1) (vb<|decide<|p0<=p2) rfl rfl rfl (dB .leq .i64 p0 p2 rfl (by exact z_ (vi p0)) (by exact z_ (vi p2)) rfl)<|SQ (decide<|p0>=p1) (vb<|decide (p0>=p1)&&decide (p0<=p2)) (fR true)<|bY (decide (p0>=p1)&&decide (p0<=p2))<|AI<|Ss ?_;exact oi j▸bV ⟨rfl,o.drop 0⟩
theorem sI{k_:List bT}{i_:List (List aI)}{p1:fo}(j:Holds E w (bc 95 b0 [e_,h_,a_,d_,f_,b_,g_,j_]::rd a_ k_::rd b_ i_::V))(h1:V[i1]? =some (rd v1 p1))(hb:iO N k_ i_ p1=some res):c_ 58 [vp b0 0,v1] w<|jE E V b0 e_ h_ a_ d_ f_ b_ g_ j_ res:=by
 unfold iO at hb;refine enter Tryz.func58 zr zr ?_;have j:=j.dup (i1+3) h1;refine w_<|SK 0 v1 j zr λah w j=>?_;refine aN 0<|Sm<|IN<|q_ hb λak o hb=>Sw (λ(ak:Bool)=>SH E V [(0,vp b0 0),(3,vp ah 0),(27,vb ak)] [bc 95 b0 [e_,h_,a_,d_,f_,b_,g_,j_],rd a_ k_,rd b_ i_,bx 80 ah p1]) ak ?_ ?_;refine IS<|AT rfl rS<|Sj 0 j rfl lJ rR<|fC p1.Open<|BY true p1.Open (vp ah 3) rfl rfl rfl (dE v8)<|BY true p1.Open (vi p1.A) rfl rfl rfl (bW 0 rfl j (by exact z_ (vp ah 3)) rfl oK cF)<|BY true p1.Open (vb<|p1.A != 0) rfl rfl rfl (dB .neq .i64 p1.A 0 rfl (by exact z_ (vi p1.A)) (λ_=>rfl) rfl)<|BY true p1.Open (vb<|p1.A != 0) rfl rfl rfl (cG (hx:=λh=>by exact(cD h:cv (true&&(p1.Open==true)) (vb<|p1.A != 0)= vb (p1.A != 0))))<|BY (true&&(p1.Open==true)) (p1.A != 0) (vp ah 4) rfl rfl rfl (dE v9) ?_;refine BY (true&&(p1.Open==true)) (p1.A != 0) (vi p1.B) rfl rfl rfl (bW 0 rfl j (by exact z_ (vp ah 4)) rfl oL cF)<|BY (true&&(p1.Open==true)) (p1.A != 0) (vb<|p1.B != 0) rfl rfl rfl (dB .neq .i64 p1.B 0 rfl (by exact z_ (vi p1.B)) (λ_=>rfl) rfl)<|BY true p1.Open (vb<|(p1.A != 0)||(p1.B != 0)) rfl rfl rfl (kr (p1.A != 0) rfl (by exact z_ (vb<|p1.A != 0)) (λh=>by exact mT (h:=h)<|true&&(p1.Open==true)))<|SQ p1.Open (vb<|p1.Open&&((p1.A != 0)||(p1.B != 0))) (fR true)<|fC (p1.Open&&((p1.A != 0)||(p1.B != 0)))<|eH o (λag o=>?_) λag o=>?_;refine aV ag<|aV ag<|aV ag<|aV ag<|q9<|q9<|q9<|q9<|aV ag<|eE ag (vb true)<|By ?_;exact oi o▸⟨rfl,j.sp 5 [2,3,4,0]⟩;refine AT zr rS<|Sj 0 j zr lJ rR<|SW p1.Open<|Si (vb<|!p1.Open) (cg ag)<|eH o (λai o=>?_) λai o=>?_;refine AT rfl qS<|SS 0 j rfl kW qA λa1 j=>Tp (⟨false,0⟩:dP) (cg ai) rfl j [] rfl GN rfl (λM hs g=>by have h:=BN M;exact cV.nil h) λa2 j=>?_;exact T4 1 0 p1.dP (⟨false,0⟩:dP) (cg ai) zr j zr zr zr zr MZ zr<|eE ai (vb<|!(decide<|p1.dP=(⟨false,0⟩:dP))) (hg:=cg ag)<|eE ag (vb<|!(decide<|p1.dP=(⟨false,0⟩:dP)))<|By<|oi o▸⟨rfl,j.sp 7 [4,5,6,2]⟩;exact aV ai<|aV ai<|aV ai<|aV ai<|eE ai (vb false) (hg:=cg ag)<|eE ag (vb false)<|By<|oi o▸⟨rfl,j.sp 5 [2,3,4,0]⟩;rintro _ w⟨O,rfl,j⟩;refine aF<|dC hb (λhb=>?_) λhb=>?_;exact w_<|aN 3<|AI<|SI<|oi hb▸bV ⟨rfl,j.pk 4 [0]⟩;refine Sz<|w_<|AT zr rS<|Sj 3 j zr lJ rR<|SW p1.Open<|AI<|dC hb (λhb=>?_) λhb=>?_;refine IN<|IN<|q_ hb λal o hb=>Sw (λ(al:Bool)=>SH E V [(0,vp b0 0),(3,vp ah 0),(52,vb al)] [bc 95 b0 [e_,h_,a_,d_,f_,b_,g_,j_],rd a_ k_,rd b_ i_,bx 80 ah p1]) al ?_ ?_;refine S9 mixed [0,0,0,0,0,0,0,0,2,0,0,0,0,0,0,0,0,0,0,2,0,0] [0,1,2,3,4,5,6,7,8,9,10,11,12,13,14,15,16,17,18,19,20,21] ?_;have j:=j.drew;refine Sq zr<|AT zr v8<|aR zr<|Sj 3 j zr oK cF<|aR zr<|mv (vp b0 0)<|aR zr<|SE zr<|aR zr<|AT zr qT<|aR zr<|Sx 0 b_ j qf<|aR zr<|Sp 2 i_ j qJ<|aR zr<|Sn (i_.length:Int) 1<|mW zr ?_;refine q_ o λaq aw o=>So Mc (ka N (p0:=p1.A) (p1:=0) (p2:=wrap .i64<|(i_.length:Int) - 1) j aw) λw j=>ql zr<|SW aq<|aR zr<|fC (!aq)<|St<|eH o (λaf o=>?_) λaf o=>?_;refine Sq zr<|aV af<|aR zr<|aV af<|aR zr<|aV af<|aR zr<|aV af<|aR zr<|aV af<|aR zr<|aV af<|aR zr<|aV af<|aR zr<|aV af<|mW zr<|aV af ?_;exact ql zr<|aV af<|aR zr<|eE af (vb true)<|St<|SG<|oi o▸⟨rfl,j.sp 4 [0,1,2,3]⟩;refine Sq zr<|AT zr v9<|aR zr<|Sj 3 j zr oL cF<|aR zr<|Si (vp b0 0) (cg af)<|aR zr<|SE zr<|aR zr<|AT zr qT<|aR zr<|Sx 0 b_ j qf<|aR zr<|Sp 2 i_ j qJ<|aR zr<|Sn (i_.length:Int) 1<|mW zr ?_;exact q_ o λar ax o=>So Mc (ka N (p0:=p1.B) (p1:=0) (p2:=wrap .i64<|(i_.length:Int) - 1) j ax) λw j=>ql zr<|SW ar<|aR zr<|eE af (vb<|!ar)<|St<|SG<|oi o▸⟨rfl,j.sp 4 [0,1,2,3]⟩;rintro _ w⟨O,rfl,j⟩;refine aF<|dC hb (λhb=>?_) λhb=>?_;exact w_<|aN 9<|AI<|SI<|bH<|oi hb▸bV ⟨rfl,j.pk 4 [0]⟩;refine Sz<|w_<|AT zr v9<|Sj 3 j zr oL cF<|AT zr v8<|Sj 3 j zr oK cF<|ic p1.B p1.A<|AI<|dC hb (λhb=>?_) λhb=>?_;exact w_<|aN 8<|AI<|SI<|bH<|oi hb▸bV ⟨rfl,j.pk 4 [0]⟩;exact Tg<|aN 0<|AI<|SI<|oi hb▸bV ⟨rfl,j.pk 4 [0]⟩;refine Sz<|IN<|q_ hb λan o hb=>Sw (λ(an:Bool)=>SH E V [(0,vp b0 0),(3,vp ah 0),(74,vb an)] [bc 95 b0 [e_,h_,a_,d_,f_,b_,g_,j_],rd a_ k_,rd b_ i_,bx 80 ah p1]) an ?_ ?_;refine S9 mixed [0,0,0,0,0,0,0,0,0,0,0,0,0,0,2,0,0] [0,1,2,3,4,5,6,7,8,9,10,11,12,13,14,15,16] ?_;have j:=j.drew;refine Sq zr<|AT zr qS<|aR zr<|AT zr v7<|aR zr<|Sj (f:=(λx=>x.dP.bT)) 3 j zr (Fd.comp (f:=λ(x:fo)=>x.dP) (λ(x:dP)=>x.bT) kW qx) rR<|aR zr<|SW p1.dP.bT<|aR zr<|fC (!p1.dP.bT)<|St<|eH o (λae o=>?_) λae o=>?_;refine Sq zr<|AT zr qS<|aR zr<|AT zr pJ<|aR zr<|Sj (f:=(λx=>x.dP.Number)) 3 j zr (Fd.comp (f:=λ(x:fo)=>x.dP) (λ(x:dP)=>x.Number) kW lk) cF<|aR zr<|Si (vp b0 0) (cg ae)<|aR zr<|SE zr<|aR zr<|AT zr qT<|aR zr<|Sx 0 b_ j qf<|aR zr<|Sp 2 i_ j qJ<|aR zr<|Sn (i_.length:Int) 1 ?_;exact mW zr<|q_ o λau ay o=>So Mc (ka N (p0:=p1.dP.Number) (p1:=0) (p2:=wrap .i64<|(i_.length:Int) - 1) j ay) λw j=>ql zr<|SW au<|aR zr<|eE ae (vb<|!au)<|St<|SG<|oi o▸⟨rfl,j.sp 4 [0,1,2,3]⟩;refine Sq zr<|aV ae<|aR zr<|aV ae<|aR zr<|aV ae<|aR zr<|aV ae<|aR zr<|aV ae<|aR zr<|aV ae<|aR zr<|aV ae<|aR zr<|aV ae<|aR zr<|aV ae ?_;exact mW zr<|aV ae<|ql zr<|aV ae<|aR zr<|eE ae (vb false)<|St<|SG<|oi o▸⟨rfl,j.sp 4 [0,1,2,3]⟩;rintro _ w⟨O,rfl,j⟩;refine aF<|dC hb (λhb=>?_) λhb=>?_;exact w_<|aN 9<|AI<|SI<|oi hb▸bV ⟨rfl,j.pk 4 [0]⟩;refine Sz<|IN<|q_ hb λao o hb=>Sw (λ(ao:Bool)=>SH E V [(0,vp b0 0),(105,vb ao)] [bc 95 b0 [e_,h_,a_,d_,f_,b_,g_,j_],rd a_ k_,rd b_ i_]) ao ?_ ?_;refine S9 mixed [0,0,0,0,0,0,0,0,0,0,0,0,0,0,2,0,0,0,0,0,0,0,0,0,0,0,0,0,0,0,0] [0,1,2,3,4,5,6,7,8,9,10,11,12,13,14,15,16,17,18,19,20,21,22,23,24,25,26,27,28,29,30] ?_;have j:=j.drew;refine Sq zr<|AT zr qS<|aR zr<|AT zr v7<|aR zr<|Sj (f:=(λx=>x.dP.bT)) 3 j zr (Fd.comp (f:=λ(x:fo)=>x.dP) (λ(x:dP)=>x.bT) kW qx) rR<|aR zr<|fC p1.dP.bT<|St<|eH o (λab o=>?_) λab o=>?_;refine Sq zr<|AT zr qS<|aR zr<|AT zr pJ<|aR zr<|Sj (f:=(λx=>x.dP.Number)) 3 j zr (Fd.comp (f:=λ(x:fo)=>x.dP) (λ(x:dP)=>x.Number) kW lk) cF<|aR zr<|Si (vp b0 0) (cg ab)<|aR zr<|SE zr<|aR zr<|AT zr qU<|aR zr<|AT zr gz<|aR zr<|Sx 0 a_ j mY<|aR zr<|Sp 1 k_ j u6 ?_;refine aR zr<|Sn (k_.length:Int) 1<|mW zr<|q_ o λav az o=>So Mc (ka N (p0:=p1.dP.Number) (p1:=0) (p2:=wrap .i64<|(k_.length:Int) - 1) j az) λw j=>ql zr<|SW av<|aR zr<|Si (vb<|!av) (cg ab)<|St<|eH o (λad o=>?_) λad o=>?_;refine Sq zr<|aV ad<|aR zr<|aV ad<|aR zr<|aV ad<|aR zr<|aV ad<|aR zr<|aV ad<|aR zr<|aV ad<|aR zr<|aV ad<|aR zr<|aV ad<|aR zr<|aV ad ?_;refine aR zr<|aV ad<|aR zr<|aV ad<|aR zr<|aV ad<|aR zr<|eE ad (vb true) (hg:=cg ab)<|aR zr<|eE ab (vb true)<|St<|SG ?_;exact oi o▸⟨rfl,j.sp 4 [0,1,2]⟩;refine Sq zr<|Si (vp b0 0) (cg ad)<|aR zr<|SE zr<|aR zr<|AT zr qU<|aR zr<|AT zr gz<|aR zr<|Sx 0 a_ j mY<|aR zr<|AT zr qS<|aR zr<|AT zr pJ<|aR zr<|Sj (f:=(λx=>x.dP.Number)) 3 j zr (Fd.comp (f:=λ(x:fo)=>x.dP) (λ(x:dP)=>x.Number) kW lk) cF<|aR zr ?_;refine q_ o λaj a0 o=>Sk 1 j rO a0 λa3 j=>aR zr<|SN 0 j zr xp pS λa4 j=>aR zr<|SA aj.eP 0 j rR<|aR zr<|SW aj.eP<|aR zr<|eE ad (vb<|!aj.eP) (hg:=cg ab)<|aR zr<|eE ab (vb<|!aj.eP)<|St<|SG ?_;exact oi o▸⟨rfl,j.sp 6 [2,3,4]⟩;refine Sq zr<|aV ab<|aR zr<|aV ab<|aR zr<|aV ab<|aR zr<|aV ab<|aR zr<|aV ab<|aR zr<|aV ab<|aR zr<|aV ab<|aR zr<|aV ab<|aR zr<|aV ab ?_;refine aR zr<|aV ab<|mW zr<|aV ab<|ql zr<|aV ab<|aR zr<|aV ab<|aR zr<|q9<|aR zr<|q9<|aR zr<|q9<|aR zr<|q9<|aR zr<|q9 ?_;refine aR zr<|q9<|aR zr<|q9<|aR zr<|q9<|aR zr<|q9<|aR zr<|q9<|aR zr<|q9<|aR zr<|q9<|aR zr<|aV ab<|aR zr<|eE ab (vb false) ?_;exact St<|SG<|oi o▸⟨rfl,j.sp 4 [0,1,2]⟩;rintro _ w⟨O,rfl,j⟩;refine aF<|dC hb (λhb=>?_) λhb=>?_;exact w_<|aN 9<|AI<|SI<|oi hb▸bV ⟨rfl,j.pk 3 [0]⟩;exact Tg<|aN 0<|AI<|Ss<|oi hb▸bV ⟨rfl,j.pk 3 [0]⟩
def nK(E:World)(V:List HP)(b0:Nat)(e_ h_:Value)(a_ d_:Value)(f_ b_:Value)(g_ j_:Value)(r:Int)(U:Nat->Value)(w:World):Prop:=l3 bO 40 Tryz.f23 (jE E V b0 e_ h_ a_ d_ f_ b_ g_ j_ r) .ret U w
theorem rY{k_:List bT}{i_:List (List aI)}{p1:List fo}(o:Holds E w (bc 95 b0 [e_,h_,a_,d_,f_,b_,g_,j_]::rd a_ k_::rd b_ i_::V))(h1:V[i1]? =some (rd v1 p1))(j:iC N k_ i_ p1=some res):c_ 23 [vp b0 0,v1] w<|jE E V b0 e_ h_ a_ d_ f_ b_ g_ j_ res:=by
 unfold iC at j;refine enter Tryz.func23 zr zr ?_;have o:=o.dup (i1+3) h1;refine w_<|aN 0<|Sm<|w_<|mv v1<|Sp 0 p1 o Fq<|ic ((p1.length:Int)) 20<|AI<|dC j (λj=>?_) λj=>?_;exact w_<|aN 2<|AI<|SI<|oi j▸bV ⟨rfl,o.pk 4 [1]⟩;refine Sz<|w_<|aN 0<|AI<|Tq E V (λ(aa:Int)=>[bc 95 b0 [e_,h_,a_,d_,f_,b_,g_,j_],rd a_ k_,rd b_ i_,rd v1 p1]) (λ_=>[(0,vp b0 0)]) (λaa=>[(1,v1),(5,vi aa)]) (nK E V b0 e_ h_ a_ d_ f_ b_ g_ j_) j ?_ ?_ ?_ ?_;exact o.sp 4 [1,2,3,0];rintro aa fl _ w⟨O,rfl,o⟩j;refine IN<|w_<|aY aa<|mv v1<|Sp 3 p1 o Fq<|ic aa ((p1.length:Int))<|AI<|dC j (λj=>?_) λj=>?_;refine Sz<|S5<|IN<|w_<|mv (vp b0 0)<|mv v1<|aY aa<|q_ j λai aj j=>Sk 3 o zd aj λao o=>Sv 0 ai o A8 λaq o=>?_;have o:=((o.dup 4 rfl).dup 4 rfl).pull 4;refine q_ j λad ak j=>So (gU Tryz.func58) (sI N (i1:=0) o zr ak) λw o=>aN ad<|OF<|aY ad<|ic ad 0<|AI<|dC j (λj=>?_) λj=>?_;exact w_<|aY ad<|aN ad<|AI<|SI<|jQ<|bH<|oi j▸⟨rfl,bV ⟨rfl,o.pk 7 [0]⟩⟩;refine Tg<|aN 0<|AI<|Tq E V (λ(ab:Int)=>[bc 95 b0 [e_,h_,a_,d_,f_,b_,g_,j_],rd a_ k_,rd b_ i_,rd v1 p1]) (λ_=>[(0,vp b0 0),(1,v1),(5,vi aa)]) (λab=>[(7,vi ab)]) (nK E V b0 e_ h_ a_ d_ f_ b_ g_ j_) j ?_ ?_ ?_ ?_;exact o.sp 7 [0,4,5,6];rintro ab fl _ w⟨O,rfl,o⟩j;refine IN<|w_<|aY ab<|aY aa<|ic ab aa<|AI<|dC j (λj=>?_) λj=>?_;refine Sz<|S5<|IN<|Tl mixed ?_;have o:=o.drew;refine Tk<|mv v1<|AS<|aY ab<|AS<|q_ j λaf al j=>Sk 3 o zd al λar o=>AS<|Sv 0 af o A8 λau o=>AS<|mv v1<|AS<|aY aa<|AS ?_;refine q_ j λag an j=>Sk 5 o zd an λav o=>AS<|Sv 0 ag o A8 λaw o=>AS<|Uo 2 0 af ag zt zr o zr zr zr zr M1 zr<|Te<|aF<|dC j (λj=>?_) λj=>?_;exact w_<|aN 7<|AI<|S7<|bH<|oi j▸⟨rfl,bV ⟨rfl,o.pk 8 [4]⟩⟩;refine SR<|bN<|aF<|IS<|aY ab<|Sn ab 1<|aN (wrap .i64<|ab+1)<|By ?_;exact oi j▸⟨rfl,o.sp 8 [4,5,6,7]⟩;exact SL<|oi j▸⟨rfl,o.sp 4 [0,1,2,3]⟩;intro r U w j hK;exact jQ<|bH<|oi j▸⟨rfl,hK⟩;rintro ab _ w j⟨O,rfl,o⟩;refine bN<|aF<|IS<|aY aa<|Sn aa 1<|aN (wrap .i64<|aa+1)<|By ?_;exact oi j▸⟨rfl,o.sp 4 [0,1,2,3]⟩;exact SL<|oi j▸⟨rfl,o.sp 4 [0,1,2,3]⟩;intro r U w j hK;exact bH<|oi j▸hK;rintro aa _ w j⟨O,rfl,o⟩;exact aF<|w_<|aN 0<|AI<|Ss<|oi j▸bV ⟨rfl,o.pk 4 [0]⟩
theorem m6{p0:jr}{p1:List fo}(j:Holds E w V)(h0:V[i0]? =some (rd v0 p0))(h1:V[i1]? =some (rd v1 p1))(o:dF N p0 p1=some res):c_ 9 [v0,v1] w<|aS E V res:=by
 unfold dF at o;refine enter Tryz.func9 zr zr ?_;have j:=(j.dup (i0+0) h0).dup (i1+1) h1;refine w_<|SK 1 v0 j zr λag w j=>?_;refine aN 0<|Sm<|w_<|SY 0 j zr nX λah j=>?_;refine q_ o λaa ab o=>So PL (oV N (i0:=0) j zr ab) λw j=>aN aa<|OF<|aY aa<|ic aa 0<|AI<|dC o (λo=>?_) λo=>?_;exact w_<|aY aa<|aN aa<|AI<|SI<|oi o▸bV ⟨rfl,j.drop 4⟩;refine Tg<|SY 1 j zr nX λai j=>?_;refine q_ o λaj ad o=>SB PQ (pq N (i0:=0) j zr ad) ?_;rintro _ w⟨ak,al,an,ao,aq,ar,au,av,aw,rfl,j⟩;refine mv v1 ?_;have j:=((j.dup 6 rfl).dup 4 rfl).pull 2;exact q_ o λae af o=>So (gU Tryz.func23) (rY N (i1:=12) j zr af) λw j=>aN ae<|AI<|Ss<|oi o▸bV ⟨rfl,j.drop 15⟩
theorem kP{p0:jr}{p1:dO}(j:Holds E w V)(h0:V[i0]? =some (rd v0 p0))(h1:V[i1]? =some (rd v1 p1))(hb:fV N p0 p1=some res):c_ 15 [v0,v1] w<|aS E V res:=by
 unfold fV at hb;refine enter Tryz.func15 zr zr ?_;have j:=(j.dup (i0+0) h0).dup (i1+1) h1;refine w_<|SK 1 v0 j zr λae w j=>?_;refine SK 1 v1 j zr λaf w j=>?_;refine aN 0<|Sm<|w_<|aN 0<|AI<|Tq E V (λ(ab:Int)=>[bx 27 ae p0,bx 31 af p1]) (λ_=>[]) (λab=>[(2,vp ae 0),(3,vp af 0),(5,vi ab)]) (λr=>l3 bO 34 Tryz.f15 (aS E V r) .ret) hb ?_ ?_ ?_ ?_;exact j.sp 4 [1,0];rintro ab fl _ w⟨O,rfl,j⟩hb;refine IN<|w_<|aY ab<|AT zr nZ<|SS 0 j zr mj xn λao j=>Sp 0 p0.bM j D4<|ic ab ((p0.bM.length:Int))<|AI<|dC hb (λhb=>?_) λhb=>?_;refine Sz<|S5<|IN<|q_ hb λag hj hb=>Sw (λ(ag:Bool)=>SH E V [(2,vp ae 0),(3,vp af 0),(5,vi ab),(32,vb ag)] [bx 27 ae p0,bx 31 af p1]) ag ?_ ?_;refine Tl mixed ?_;have j:=j.drew;refine Tk<|AT zr nZ<|AS<|SS 1 j zr mj xn λaq j=>AS<|aY ab<|AS<|q_ hj λah aj hj=>Sk 0 j Cd aj λar j=>AS<|SN 0 j zr vY oJ λau j=>AS<|SA ah.Part 0 j w8<|AS<|AT zr zc<|AS<|Sj 5 j zr ti w8 ?_;refine AS<|T1 ah.Part p1.Part zr zr zr zr<|AS<|fC (ah.Part.o8 p1.Part)<|eH hj (λo hj=>?_) λo hj=>?_;refine AS<|AT zr nZ<|AS<|SS 4 j zr mj xn λav j=>AS<|Si (vi ab) (cg o)<|AS<|q_ hj λai ak hj=>Sk 0 j Cd ak λaw j=>AS<|SN 0 j zr zb qR λax j=>AS<|SA ai.dO 0 j w8<|AS<|AT zr CV<|AS<|Sj 8 j zr xm w8 ?_;exact AS<|T1 (hg:=cg o) ai.dO p1.dO zr zr zr zr<|AS<|eE o (vb<|ai.dO.o8 p1.dO)<|Te<|oi hj▸⟨rfl,j.sp 9 [7,8]⟩;refine AS<|aV o<|AS<|aV o<|AS<|aV o<|AS<|aV o<|AS<|aV o<|AS<|aV o<|AS<|aV o<|AS<|aV o<|AS<|aV o ?_;exact AS<|eE o (vb false)<|Te<|oi hj▸⟨rfl,j.sp 6 [4,5]⟩;rintro _ w⟨O,rfl,j⟩;refine aF<|dC hb (λhb=>?_) λhb=>?_;exact w_<|aY ab<|aN ab<|AI<|S7<|bH<|oi hb▸⟨rfl,bV ⟨rfl,j.drop 2⟩⟩;refine SR<|bN<|aF<|IS<|aY ab<|Sn ab 1<|aN (wrap .i64<|ab+1)<|By ?_;exact oi hb▸⟨rfl,j.sp 2 [0,1]⟩;exact SL<|oi hb▸⟨rfl,j.sp 3 [1,2]⟩;intro r U w hb hK;exact bH<|oi hb▸hK;rintro ab _ w hb⟨O,rfl,j⟩;exact aF<|w_<|aN (-1)<|AI<|Ss<|oi hb▸bV ⟨rfl,j.drop 2⟩
theorem l6{i_:List (List aI)}{p1:dP}(j:Holds E w (bc 95 b0 [e_,h_,a_,d_,f_,b_,g_,j_]::rd b_ i_::V))(h1:V[i1]? =some (rd v1 p1))(o:fU N i_ p1=some res):c_ 44 [vp b0 0,v1] w<|jE E V b0 e_ h_ a_ d_ f_ b_ g_ j_ res:=by
 unfold fU at o;refine enter Tryz.func44 zr zr ?_;have j:=j.dup (i1+2) h1;refine w_<|SK 0 v1 j zr λaa w j=>?_;refine aN 0<|Sm<|w_<|AT zr v7<|Sj 0 j zr qx rR<|AI<|dC o (λo=>?_) λo=>?_;refine IN<|Tl mixed ?_;have j:=j.drew;refine Tk<|mv (vp b0 0)<|AS<|SE zr<|AS<|AT zr qT<|AS<|Sx 2 b_ j qf<|AS<|Sp 3 i_ j qJ<|AS<|AT zr pJ<|AS<|Sj 0 j zr lk cF<|AS<|Sn (i_.length:Int) p1.Number<|AS<|aN (wrap .i64<|(i_.length:Int)+p1.Number) ?_;exact Te<|aF<|SI<|oi o▸bV ⟨rfl,j.pk 4 [2]⟩;exact Tg<|AT zr pJ<|Sj 0 j zr lk cF<|aN p1.Number<|AI<|Ss<|oi o▸bV ⟨rfl,j.pk 4 [2]⟩
def rH(E:World)(V:List HP)(b0:Nat)(e_ h_:Value)(a_ d_:Value)(f_ b_:Value)(g_ j_:Value)(res:List Int)(v:Value)(w:World):Prop:=Holds E w<|[rd v res,bc 95 b0 [e_,h_,a_,d_,f_,b_,g_,j_]]++V
theorem qW{t_:List (List Int)}{res:List Int}(j:Holds E w (bc 95 b0 [e_,h_,a_,d_,f_,b_,g_,j_]::rd j_ t_::V))(o:gO N t_ p1=some res):c_ 45 [vp b0 0,vi p1] w<|rH E V b0 e_ h_ a_ d_ f_ b_ g_ j_ res:=by
 unfold gO at o;refine enter Tryz.func45 zr zr<|w_<|dV n_<|OF<|mv (vp b0 0)<|SE zr<|AT zr uA<|Sx 0 j_ j Aa<|aY p1<|q_ o λaa ab o=>Sk 1 j A6 ab λae j=>Sv 0 aa j gh λad j=>dV ad<|AI<|Ss ?_;obtain rfl:=oi o;exact bV<|j.pk 4 [0,2]
def w5(E:World)(V:List HP)(v0:Value)(res:List Int)(v:Value)(w:World):Prop:=v = .tuple #[]/\Holds E w ([own 3 v0 res]++V)
theorem qE{p0:List Int}{res:List Int}(j:Holds E w (own 3 v0 p0::V))(o:gG N p0 p1 p2=some res):c_ 46 [v0,vi p1,vi p2] w<|w5 E V v0 res:=by
 unfold gG at o;refine enter Tryz.func46 zr zr<|IN<|Tl mixed ?_;have j:=j.drew;refine Tk<|mv v0<|AS<|aY p1<|AS<|q_ o λad ag o=>SD 0 j zr zr dQ ag<|AS<|Th 0 j ag cF<|AS<|mv v0<|AS<|aY p2<|AS ?_;refine q_ o λae ah o=>SD 0 j zr zr dQ ah<|AS<|Th 0 j ah cF<|AS<|aN ad<|AS<|aN ae<|Te<|aF<|w_<|aN 0<|AI<|TA E V (λ(aa:List Int×Int)=>[own 3 v0 aa.1]) (λ_=>[(0,v0)]) (λaa=>[(6,vi ad),(7,vi ae),(8,vi aa.2)]) o ?_ ?_ ?_;exact j.sp 1 [0];rintro aa fl _ w⟨O,rfl,j⟩o;refine IN<|w_<|aY aa.2<|mv v0<|Tj 0 aa.1 j mq<|ic aa.2 ((aa.1.length:Int))<|AI<|dC o (λo=>?_) λo=>?_;refine Sz<|SO<|mv v0<|aY aa.2<|q_ o λak ai o=>SD 0 j zr zr dQ ai<|Th 0 j ai cF<|aY ae<|ic ak ae<|AI<|q_ o λaf hj o=>Sw (λ(af:List Int)=>SH E V [(0,v0),(6,vi ad),(7,vi ae),(8,vi aa.2)] [own 3 v0 af]) af ?_ ?_;refine dC hj (λhj=>?_) λhj=>?_;refine IS<|mv v0<|aY aa.2<|aY ad<|q_ hj λan aj hj=>SD 0 j zr zr dQ aj ?_;have j:=j.sc Int ad;refine Tr 1 0 j aj cF λw j=>?_;exact By<|oi hj▸⟨rfl,j.sp 2 [1]⟩;exact SR<|oi hj▸⟨rfl,j.sp 1 [0]⟩;rintro _ w⟨O,rfl,j⟩;refine bN<|aF<|IS<|aY aa.2<|Sn aa.2 1<|aN (wrap .i64<|aa.2+1)<|By ?_;exact oi o▸⟨rfl,j.sp 1 [0]⟩;exact SL<|oi o▸⟨rfl,j.sp 1 [0]⟩;rintro aa _ w o⟨O,rfl,j⟩;obtain rfl:=oi o;exact Cz<|Jw ⟨rfl,j.pk 1 [0]⟩
def wk(E:World)(V:List HP)(b0:Nat)(e_ h_:Value)(a_ d_:Value)(f_ b_:Value)(g_ j_:Value)(res:List Int)(v:Value)(w:World):Prop:=Holds E w<|[own 3 v res,bc 95 b0 [e_,h_,a_,d_,f_,b_,g_,j_]]++V
theorem vo{k_:List bT}{r_:List cX}{u_:List Int}{i_:List (List aI)}{t_:List (List Int)}{p1:List fo}{res:List Int}(j:Holds E w (bc 95 b0 [e_,h_,a_,d_,f_,b_,g_,j_]::rd a_ k_::rd d_ r_::rd f_ u_::rd b_ i_::rd j_ t_::V))(h1:V[i1]? =some (rd v1 p1))(hb:hZ N k_ r_ u_ i_ t_ p1=some res):c_ 17 [vp b0 0,v1] w<|wk E V b0 e_ h_ a_ d_ f_ b_ g_ j_ res:=by
 unfold hZ at hb;refine enter Tryz.func17 zr zr ?_;have j:=j.dup (i1+6) h1;refine w_<|dV n_<|OF<|mv (vp b0 0)<|SE zr<|AT zr qT<|Sx 1 b_ j qf<|Sp 5 i_ j qJ<|aN (i_.length:Int)<|OF<|aY (i_.length:Int)<|mv (vp b0 0)<|SE zr<|AT zr qU<|AT zr gz<|Sx 1 a_ j mY<|Sp 2 k_ j u6<|Sn (i_.length:Int) (k_.length:Int) ?_;refine q_ hb λc0 b2 hb=>TN (wrap .i64<|(i_.length:Int)+(k_.length:Int)) j Mb Qi b2 λab w j=>?_;refine dV ab<|Sm<|w_<|aN 0<|AI<|TA E V (λ(ae:List Bool×Int)=>[bc 95 b0 [e_,h_,a_,d_,f_,b_,g_,j_],rd a_ k_,rd d_ r_,rd f_ u_,rd b_ i_,rd j_ t_,rd v1 p1,own 4 ab ae.1]) (λ_=>[(0,vp b0 0),(1,v1),(5,vi i_.length),(6,ab)]) (λae=>[(7,vi ae.2)]) hb ?_ ?_ ?_;exact j.sp 8 [2,3,4,5,6,7,1,0];rintro ae fl _ w⟨O,rfl,j⟩hb;refine IN<|w_<|aY ae.2<|mv v1<|Sp 6 p1 j Fq<|ic ae.2 ((p1.length:Int))<|AI<|dC hb (λhb=>?_) λhb=>?_;refine Sz<|SO<|mv v1<|aY ae.2<|q_ hb λb3 b4 hb=>Sk 6 j zd b4 λc1 j=>SN 0 j zr rS lJ λc2 j=>SA b3.Open 0 j rR<|AI<|q_ hb λay o hb=>Sw (λ(ay:List Bool)=>SH E V [(0,vp b0 0),(1,v1),(5,vi i_.length),(6,ab),(7,vi ae.2)] [bc 95 b0 [e_,h_,a_,d_,f_,b_,g_,j_],rd a_ k_,rd d_ r_,rd f_ u_,rd b_ i_,rd j_ t_,rd v1 p1,own 4 ab ay]) ay ?_ ?_;refine dC o (λo=>?_) λo=>?_;refine IS<|mv ab<|mv (vp b0 0)<|mv v1<|aY ae.2<|q_ o λb5 b6 o=>Sk 8 j zd b6 λc3 j=>SN 0 j zr qS kW λc4 j=>Sv 0 b5.dP j qA λc5 j=>?_;have j:=(j.dup 9 rfl).pull 6;refine q_ o λc6 b7 o=>So N0 (l6 N (i1:=0) j zr b7) λw j=>?_;refine q_ o λc7 a9 o=>SD 13 j zr zr yu a9 ?_;have j:=j.sc Bool true;refine Tr 14 0 j a9 rR λw j=>?_;exact By<|oi o▸⟨rfl,j.sp 15 [1,8,9,10,11,12,13,14]⟩;exact SR<|oi o▸⟨rfl,j.sp 10 [2,3,4,5,6,7,8,9]⟩;rintro _ w⟨O,rfl,j⟩;refine bN<|aF<|IS<|aY ae.2<|Sn ae.2 1<|aN (wrap .i64<|ae.2+1)<|By ?_;exact oi hb▸⟨rfl,j.sp 8 [0,1,2,3,4,5,6,7]⟩;exact SL<|oi hb▸⟨rfl,j.sp 8 [0,1,2,3,4,5,6,7]⟩;rintro ae _ w hb⟨O,rfl,j⟩;refine aF<|w_<|mv ab<|Tj 7 ae.1 j Rk<|q_ hb λc8 b8 hb=>TN (ae.1.length:Int) j rq NK b8 λad w j=>?_;refine dV ad<|Sm<|w_<|aN 0<|AI<|TA E V (λ(ak:List Int×Int)=>[bc 95 b0 [e_,h_,a_,d_,f_,b_,g_,j_],rd a_ k_,rd d_ r_,rd f_ u_,rd b_ i_,rd j_ t_,rd v1 p1,own 4 ab ae.1,own 3 ad ak.1]) (λ_=>[(0,vp b0 0),(1,v1),(5,vi i_.length),(6,ab),(8,ad)]) (λak=>[(9,vi ak.2)]) hb ?_ ?_ ?_;exact j.sp 9 [1,2,3,4,5,6,7,8,0];rintro ak fl _ w⟨O,rfl,j⟩hb;refine IN<|w_<|aY ak.2<|mv ad<|Tj 8 ak.1 j mq<|ic ak.2 ((ak.1.length:Int))<|AI<|dC hb (λhb=>?_) λhb=>?_;refine Sz<|S5<|IS<|mv ad<|aY ak.2<|aY ak.2<|q_ hb λc9 ba hb=>SD 8 j zr zr dQ ba ?_;have j:=j.sc Int ak.2;refine Tr 9 0 j ba cF λw j=>?_;refine By<|bN<|aF<|IS<|aY ak.2<|Sn ak.2 1<|aN (wrap .i64<|ak.2+1)<|By ?_;exact oi hb▸⟨rfl,j.sp 10 [1,2,3,4,5,6,7,8,9]⟩;exact SL<|oi hb▸⟨rfl,j.sp 9 [0,1,2,3,4,5,6,7,8]⟩;rintro ak _ w hb⟨O,rfl,j⟩;refine aF<|IN<|w_<|aN 0<|AI<|TA E V (λ(ai:List Int×Int)=>[bc 95 b0 [e_,h_,a_,d_,f_,b_,g_,j_],rd a_ k_,rd d_ r_,rd f_ u_,rd b_ i_,rd j_ t_,rd v1 p1,own 4 ab ae.1,own 3 ad ai.1]) (λ_=>[(0,vp b0 0),(1,v1),(6,ab),(8,ad)]) (λai=>[(5,vi i_.length),(10,vi ai.2)]) hb ?_ ?_ ?_;exact j.sp 9 [0,1,2,3,4,5,6,7,8];rintro ai fl _ w⟨O,rfl,j⟩hb;refine IN<|w_<|aY ai.2<|mv (vp b0 0)<|SE zr<|AT zr qU<|AT zr gz<|Sx 0 a_ j mY<|Sp 1 k_ j u6<|ic ai.2 ((k_.length:Int))<|AI<|dC hb (λhb=>?_) λhb=>?_;refine Sz<|SO<|mv (vp b0 0)<|aY ai.2 ?_;have j:=(j.dup 5 rfl).pull 1;refine q_ hb λav b9 hb=>SB (gU Tryz.func45) (qW N (p1:=ai.2) j b9) λaq w j=>dV aq<|OF<|aN 0<|AI<|TA E V (λ(al:List Int×Int)=>[bc 95 b0 [e_,h_,a_,d_,f_,b_,g_,j_],rd a_ k_,rd d_ r_,rd f_ u_,rd b_ i_,rd j_ t_,rd v1 p1,own 4 ab ae.1,own 3 ad al.1,rd aq av]) (λ_=>[(0,vp b0 0),(1,v1),(5,vi i_.length),(6,ab),(8,ad),(10,vi ai.2)]) (λal=>[(11,aq),(12,vi al.2)]) hb ?_ ?_ ?_;exact j.sp 11 [1,3,4,5,6,7,8,9,10,0];rintro al fl _ w⟨O,rfl,j⟩hb;refine IN<|w_<|aY al.2<|mv aq<|Sp 9 av j mq<|ic al.2 ((av.length:Int))<|AI<|dC hb (λhb=>?_) λhb=>?_;refine Sz<|S5<|IN<|q_ hb λaz o hb=>Sw (λ(az:Bool)=>SH E V [(0,vp b0 0),(1,v1),(5,vi i_.length),(6,ab),(8,ad),(10,vi ai.2),(11,aq),(12,vi al.2),(100,vb az)] [bc 95 b0 [e_,h_,a_,d_,f_,b_,g_,j_],rd a_ k_,rd d_ r_,rd f_ u_,rd b_ i_,rd j_ t_,rd v1 p1,own 4 ab ae.1,own 3 ad al.1,rd aq av]) az ?_ ?_;refine IS<|mv ab<|aY (i_.length:Int)<|aY ai.2<|Sn (i_.length:Int) ai.2<|q_ o λbb bf o=>SD 7 j zr zr yu bf<|Th 7 j bf rR<|SW bb<|fC (!bb)<|eH o (λaj o=>?_) λaj o=>?_;refine Si ab (cg aj)<|Si aq (cg aj)<|Si (vi al.2) (cg aj)<|q_ o λca cb o=>Sk 9 j dQ cb λda j=>SA ca 0 j cF<|q_ o λbg bh o=>SD 8 j zr zr yu bh<|Th 8 j bh rR<|SW bg<|eE aj (vb<|!bg)<|By ?_;exact oi o▸⟨rfl,j.sp 11 [1,2,3,4,5,6,7,8,9,10]⟩;refine aV aj<|aV aj<|aV aj<|aV aj<|aV aj<|aV aj<|aV aj<|aV aj<|eE aj (vb false)<|By ?_;exact oi o▸⟨rfl,j.sp 10 [0,1,2,3,4,5,6,7,8,9]⟩;rintro _ w⟨O,rfl,j⟩;refine aF<|q_ hb λa0 o hb=>Sw (λ(a0:List Int)=>SH E V [(0,vp b0 0),(1,v1),(5,vi i_.length),(6,ab),(8,ad),(10,vi ai.2),(11,aq),(12,vi al.2)] [bc 95 b0 [e_,h_,a_,d_,f_,b_,g_,j_],rd a_ k_,rd d_ r_,rd f_ u_,rd b_ i_,rd j_ t_,rd v1 p1,own 4 ab ae.1,own 3 ad a0,rd aq av]) a0 ?_ ?_;refine dC o (λo=>?_) λo=>?_;refine IS<|mv ad<|aY (i_.length:Int)<|aY ai.2<|Sn (i_.length:Int) ai.2<|mv aq<|aY al.2<|q_ o λbj cc o=>Sk 9 j dQ cc λdb j=>SA bj 0 j cF ?_;have j:=j.pull 9;exact q_ o λdc cd o=>So PR (qE N (p1:=wrap .i64<|(i_.length:Int)+ai.2) (p2:=bj) j cd) λw j=>By<|oi o▸⟨rfl,j.sp 12 [2,3,4,5,6,7,8,9,0,11]⟩;exact SR<|oi o▸⟨rfl,j.sp 10 [0,1,2,3,4,5,6,7,8,9]⟩;rintro _ w⟨O,rfl,j⟩;refine bN<|aF<|IS<|aY al.2<|Sn al.2 1<|aN (wrap .i64<|al.2+1)<|By ?_;exact oi hb▸⟨rfl,j.sp 10 [0,1,2,3,4,5,6,7,8,9]⟩;exact SL<|oi hb▸⟨rfl,j.sp 10 [0,1,2,3,4,5,6,7,8,9]⟩;rintro al _ w hb⟨O,rfl,j⟩;refine bN<|aF<|IS<|aY ai.2<|Sn ai.2 1<|aN (wrap .i64<|ai.2+1)<|By ?_;exact oi hb▸⟨rfl,j.sp 10 [0,1,2,3,4,5,6,7,8]⟩;exact SL<|oi hb▸⟨rfl,j.sp 9 [0,1,2,3,4,5,6,7,8]⟩;rintro ai _ w hb⟨O,rfl,j⟩;refine aF<|IN<|w_<|aN 0<|AI<|TA E V (λ(af:List Int×Int)=>[bc 95 b0 [e_,h_,a_,d_,f_,b_,g_,j_],rd a_ k_,rd d_ r_,rd f_ u_,rd b_ i_,rd j_ t_,rd v1 p1,own 4 ab ae.1,own 3 ad af.1]) (λ_=>[(0,vp b0 0),(6,ab),(8,ad)]) (λaf=>[(1,v1),(13,vi af.2)]) hb ?_ ?_ ?_;exact j.sp 9 [0,1,2,3,4,5,6,7,8];rintro af fl _ w⟨O,rfl,j⟩hb;refine IN<|w_<|aY af.2<|mv v1<|Sp 6 p1 j Fq<|ic af.2 ((p1.length:Int))<|AI<|dC hb (λhb=>?_) λhb=>?_;refine Sz<|S5<|IN<|q_ hb λa1 o hb=>Sw (λ(a1:Bool)=>SH E V [(0,vp b0 0),(1,v1),(6,ab),(8,ad),(13,vi af.2),(143,vb a1)] [bc 95 b0 [e_,h_,a_,d_,f_,b_,g_,j_],rd a_ k_,rd d_ r_,rd f_ u_,rd b_ i_,rd j_ t_,rd v1 p1,own 4 ab ae.1,own 3 ad af.1]) a1 ?_ ?_;refine IS<|mv v1<|aY af.2<|q_ o λa2 cf o=>Sk 6 j zd cf λdd j=>SN 0 j zr rS lJ λde j=>SA a2.Open 0 j rR<|SW a2.Open<|fC (!a2.Open)<|eH o (λag o=>?_) λag o=>?_;refine Si ab (cg ag)<|Si v1 (cg ag)<|Si (vi af.2) (cg ag)<|q_ o λch cj o=>Sk 8 j zd cj λdf j=>SN 0 j zr v8 oK λdg j=>SA ch.A 0 j cF<|q_ o λa3 bk o=>SD 11 j zr zr yu bk<|Th 11 j bk rR<|SW a3<|eE ag (vb<|!a3)<|fC (!a3)<|eH o (λah o=>?_) λah o=>?_;refine Si ab (cg ah)<|Si v1 (cg ah)<|Si (vi af.2) (cg ah)<|q_ o λck cm o=>Sk 10 j zd cm λdh j=>SN 0 j zr v9 oL λdi j=>SA ck.B 0 j cF<|q_ o λbl bm o=>SD 13 j zr zr yu bm<|Th 13 j bm rR<|SW bl<|eE ah (vb<|!bl)<|By ?_;exact oi o▸⟨rfl,j.sp 15 [6,7,8,9,10,11,12,13,14]⟩;refine aV ah<|aV ah<|aV ah<|aV ah<|aV ah<|aV ah<|aV ah<|aV ah<|aV ah<|eE ah (vb false)<|By ?_;exact oi o▸⟨rfl,j.sp 13 [4,5,6,7,8,9,10,11,12]⟩;refine aV ag<|aV ag<|aV ag<|aV ag<|aV ag<|aV ag<|aV ag<|aV ag<|aV ag<|eE ag (vb false)<|fC false<|ke<|ke<|ke<|ke<|ke<|ke<|ke ?_;exact ke<|ke<|SQ false (vb false) zr<|By<|oi o▸⟨rfl,j.sp 11 [2,3,4,5,6,7,8,9,10]⟩;rintro _ w⟨O,rfl,j⟩;refine aF<|q_ hb λa4 o hb=>Sw (λ(a4:List Int)=>SH E V [(0,vp b0 0),(1,v1),(6,ab),(8,ad),(13,vi af.2)] [bc 95 b0 [e_,h_,a_,d_,f_,b_,g_,j_],rd a_ k_,rd d_ r_,rd f_ u_,rd b_ i_,rd j_ t_,rd v1 p1,own 4 ab ae.1,own 3 ad a4]) a4 ?_ ?_;refine dC o (λo=>?_) λo=>?_;refine S9 mixed [0,0,0,0,0,0,0,0,0,0,0,2] [0,1,2,3,4,5,6,7,8,9,10,11] ?_;have j:=j.drew;refine Sq zr<|mv ad<|aR zr<|mv v1<|aR zr<|aY af.2<|aR zr<|q_ o λbn cn o=>Sk 6 j zd cn λdj j=>aR zr<|SN 0 j zr v8 oK λdk j=>aR zr<|SA bn.A 0 j cF<|aR zr<|mv v1<|aR zr<|aY af.2 ?_;refine aR zr<|q_ o λbo cp o=>Sk 8 j zd cp λdm j=>aR zr<|SN 0 j zr v9 oL λdn j=>aR zr<|SA bo.B 0 j cF<|mW zr ?_;have j:=j.pull 12;exact q_ o λdp cq o=>So PR (qE N (p1:=bn.A) (p2:=bo.B) j cq) λw j=>SM zt<|SG<|oi o▸⟨rfl,j.sp 14 [5,6,7,8,9,10,11,12,0]⟩;exact SR<|oi o▸⟨rfl,j.sp 9 [0,1,2,3,4,5,6,7,8]⟩;rintro _ w⟨O,rfl,j⟩;refine bN<|aF<|IS<|aY af.2<|Sn af.2 1<|aN (wrap .i64<|af.2+1)<|By ?_;exact oi hb▸⟨rfl,j.sp 9 [0,1,2,3,4,5,6,7,8]⟩;exact SL<|oi hb▸⟨rfl,j.sp 9 [0,1,2,3,4,5,6,7,8]⟩;rintro af _ w hb⟨O,rfl,j⟩;refine aF<|w_<|dV n_<|Sm<|w_<|aN 0<|AI<|Tt E V (λ(ao:List Int×Int)(a5:Value)=>[bc 95 b0 [e_,h_,a_,d_,f_,b_,g_,j_],rd a_ k_,rd d_ r_,rd f_ u_,rd b_ i_,rd j_ t_,own 4 ab ae.1,own 3 ad af.1,own 3 a5 ao.1]) (λ_ a5=>[(0,vp b0 0),(14,a5)]) (λao _=>[(6,ab),(8,ad),(15,vi ao.2)]) hb ?_ ?_ ?_;have j:=j.dD Int 3;exact⟨n_,j.sp 10 [1,2,3,4,5,6,8,9,0]⟩;rintro ao fl _ w⟨aw,O,rfl,j⟩hb;refine IN<|w_<|aY ao.2<|mv (vp b0 0)<|SE zr<|AT zr qU<|AT zr nZ<|Sx 0 d_ j xn<|Sp 2 r_ j D4<|ic ao.2 ((r_.length:Int))<|AI<|dC hb (λhb=>?_) λhb=>?_;refine Sz<|SO<|mv (vp b0 0)<|mv (vp b0 0)<|SE zr<|AT zr qU<|AT zr nZ<|Sx 0 d_ j xn<|aY ao.2<|q_ hb λcr ct hb=>Sk 2 j Cd ct λdq j=>Sv 0 cr j u7 λdr j=>?_;have j:=(((j.dup 6 rfl).dup 6 rfl).dup 5 rfl).pull 5;refine q_ hb λar cu hb=>SB PN (m0 N (i1:=0) j zr cu) ?_;rintro _ w⟨bp,rfl,j⟩;refine mv (.tuple #[bp,vb ar.2])<|Tf bp<|Tf (vb ar.2)<|S6 j HX.z λbq w j=>?_;refine S3 0 j 1 zr qA λw j=>?_;refine bY ar.2<|Sm<|q_ hb λa6 o hb=>Sw (λ(a6:Bool)=>SH E V [(0,vp b0 0),(6,ab),(8,ad),(14,aw),(15,vi ao.2),(16,vp bq 0),(188,vb a6)] [bc 95 b0 [e_,h_,a_,d_,f_,b_,g_,j_],rd a_ k_,rd d_ r_,rd f_ u_,rd b_ i_,rd j_ t_,own 4 ab ae.1,own 3 ad af.1,own 3 aw ao.1,bx 78 bq ar.1]) a6 ?_ ?_;refine IS<|fC ar.2<|SW ar.2<|fC (!ar.2)<|eH o (λan o=>?_) λan o=>?_;exact aV an<|aV an<|aV an<|aV an<|aV an<|aV an<|eE an (vb true)<|By<|oi o▸⟨rfl,j.sp 14 [2,6,7,8,9,10,11,12,13,0]⟩;refine Si ab (cg an)<|Si (vp b0 0) (cg an)<|SY 0 j zr qA λds j=>?_;have j:=(j.dup 10 rfl).pull 4;refine q_ o λdt cv o=>So N0 (l6 N (i1:=0) j zr cv) λw j=>?_;refine q_ o λcw br o=>SD 13 j zr zr yu br<|Th 13 j br rR<|eE an (vb cw)<|By ?_;exact oi o▸⟨rfl,j.sp 16 [0,8,9,10,11,12,13,14,15,2]⟩;rintro _ w⟨O,rfl,j⟩;refine aF<|q_ hb λa7 o hb=>Sw (λ(a7:List Int)U w=>∃ax:Value,SH E V [(0,vp b0 0),(6,ab),(8,ad),(14,ax),(15,vi ao.2)] [bc 95 b0 [e_,h_,a_,d_,f_,b_,g_,j_],rd a_ k_,rd d_ r_,rd f_ u_,rd b_ i_,rd j_ t_,own 4 ab ae.1,own 3 ad af.1,own 3 ax a7] U w) a7 ?_ ?_;refine dC o (λo=>?_) λo=>?_;refine IS<|mv aw ?_;have j:=j.sc Int<|-1;refine S4 ([(-1)]:List Int) j [vi<|-1] dQ DU (λM hs g=>⟨(g.sat 0 _ zr).1,zt⟩) λdu w j=>?_;have j:=j.freeze 0;refine q_ o λdv cx o=>S8 10 0 j rq cx λbt w j=>?_;exact dV bt<|By<|oi o▸⟨rfl,bt,j.sp 12 [2,3,4,5,6,7,8,9,10]⟩;refine IS<|mv aw<|mv ad<|mv (vp b0 0)<|SY 9 j zr qA λdw j=>?_;have j:=(j.dup 5 rfl).pull 2;refine q_ o λdx cy o=>So N0 (l6 N (i1:=0) j zr cy) λw j=>?_;refine q_ o λa8 bu o=>SD 9 j zr zr dQ bu<|Th 9 j bu cF ?_;have j:=j.sc Int a8;refine S4 ([a8]:List Int) j [vi a8] dQ DU (λM hs g=>⟨(g.sat 0 _ zr).1,zt⟩) λdy w j=>?_;have j:=j.freeze 0;refine q_ o λdz cz o=>S8 12 0 j rq cz λbw w j=>?_;exact dV bw<|By<|oi o▸⟨rfl,bw,j.sp 14 [2,5,6,7,8,9,10,11,12]⟩;rintro _ w⟨ax,O,rfl,j⟩;refine bN<|aF<|IS<|aY ao.2<|Sn ao.2 1<|aN (wrap .i64<|ao.2+1)<|By ?_;exact oi hb▸⟨rfl,ax,j.sp 9 [0,1,2,3,4,5,6,7,8]⟩;exact SL<|oi hb▸⟨rfl,aw,j.sp 9 [0,1,2,3,4,5,6,7,8]⟩;rintro ao _ w hb⟨bz,O,rfl,j⟩;refine aF<|w_<|mv bz<|dV bz<|AI<|Ss ?_;obtain rfl:=oi hb;exact bV<|j.pk 9 [8,0]
theorem sJ{p0:List Int}{res:Bool}(o:Holds E w V)(h0:V[i0]? =some (rd v0 p0))(hb:iP N p0 p1 p2=some res):c_ 16 [v0,vi p1,vi p2] w<|aX E V res:=by
 unfold iP at hb;refine enter Tryz.func16 zr zr ?_;have o:=o.dup (i0+0) h0;refine w_<|bY false<|Sm<|q_ hb λaf hj hb=>Sw (λ(af:Bool)=>SH E V [(6,vb af)] []) af ?_ ?_;refine Tl mixed ?_;have o:=o.drew;refine Tk<|mv v0<|AS<|aY p1<|AS<|q_ hj λag ah hj=>Sk 0 o dQ ah λak o=>AS<|SA ag 0 o cF<|AS<|ic ag 0<|AS<|fC (decide<|ag>=0)<|eH hj (λj hj=>?_) λj hj=>?_;refine AS<|Si v0 (cg j)<|AS<|Si (vi p1) (cg j)<|AS<|q_ hj λad ai hj=>Sk 1 o dQ ai λal o=>AS<|SA ad 0 o cF<|AS<|Si v0 (cg j)<|AS<|Si (vi p2) (cg j)<|AS ?_;refine q_ hj λae aj hj=>Sk 2 o dQ aj λan o=>AS<|SA ae 0 o cF<|AS<|Tc ad ae (cg j)<|AS<|eE j (vb<|ad==ae)<|AS<|bY (ad==ae)<|Te ?_;exact oi hj▸⟨rfl,o.sp 4 []⟩;refine AS<|aV j<|AS<|aV j<|AS<|aV j<|AS<|aV j<|AS<|aV j<|AS<|aV j<|AS<|aV j<|AS<|aV j<|AS<|aV j ?_;exact AS<|eE j (vb false)<|AS<|bY false<|Te<|oi hj▸⟨rfl,o.sp 2 []⟩;rintro _ w⟨O,rfl,o⟩;exact aF<|Ss<|oi hb▸bV ⟨rfl,o.drop 0⟩
end Go.Gk
namespace Go.Gk
open Go IntKind Go.Proofs
variable (N:Nat){E w:World}{i0 i1 i2 i3 i4:Nat}{res:Int}{v0 v1 v2 v3 v4:Value}{V:List HP}
theorem sK{p0:jr}{p1:List fo}{p2 p3:dO}{res:Bool×Int}(j:Holds E w V)(h0:V[i0]? =some (rd v0 p0))(h1:V[i1]? =some (rd v1 p1))(h2:V[i2]? =some (rd v2 p2))(h3:V[i3]? =some (rd v3 p3))(o:eB N p0 p1 p2 p3=some res):c_ 5 [v0,v1,v2,v3] w<|uc E V res:=by
 unfold eB at o;refine enter Tryz.func5 zr zr ?_;have j:=(((j.dup (i0+0) h0).dup (i1+1) h1).dup (i2+2) h2).dup (i3+3) h3;refine w_<|SK 3 v0 j zr λal w j=>?_;have j:=j.fM (i:=0) rfl;refine SK 2 v2 j zr λan w j=>?_;have j:=j.fM (i:=0) rfl;refine SK 2 v3 j zr λao w j=>?_;have j:=j.fM (i:=0) rfl;refine bY false<|aN 0<|Sm<|w_<|Sv 2 p0 j nX λaq j=>mv v1<|q_ o λad ae o=>So RX (m6 N (i0:=0) (i1:=6) j zr zr ae) λw j=>aN ad<|OF<|aY ad<|ic ad 0<|AI<|dC o (λo=>?_) λo=>?_;exact w_<|aY ad<|bY false<|aN ad<|AI<|SI<|oi o▸oC ⟨rfl,j.drop 8⟩;refine Sz<|S9 mixed [0,0,2,1,1,2,0,0] [0,1,3,4,2,5,6,7] ?_;have j:=j.drew;refine Sq zr<|Sv 3 p0 j nX λar j=>aR zr<|Sv 3 p2 j nO λau j=>St<|Tx p0 5 zr j nX λav a39 aw j=>Tx p3 5 zr j nO λax a42 ay j=>SX zr<|q_ o λaa af o=>So Md (kP N (i0:=5) (i1:=4) j zr zr af) λw j=>SM (⟨⟨zt,j.eU 2⟩,j.eU 0⟩)<|SX zr<|q_ o λab ag o=>So Md (kP N (i0:=3) (i1:=1) j zr zr ag) λw j=>SM (⟨⟨zt,j.eU 2⟩,j.eU 0⟩)<|Sq zr<|aN aa<|aR zr<|aN ab<|St ?_;have j:=j.pl 14 [1,3,4,5,6,7,8,9,10,11,12,13];refine SG<|aF<|IN<|w_<|aY aa<|ic aa 0<|fC (decide<|aa<0)<|BY true (decide<|aa<0) (vi ab) rfl rfl rfl cG<|BY true (decide<|aa<0) (vb<|decide<|ab<0) rfl rfl rfl (dB .lss .i64 ab 0 rfl (by exact z_ (vi ab)) (λ_=>rfl) rfl) ?_;refine SQ (decide<|aa<0) (vb<|decide (aa<0)||decide (ab<0)) (mT true)<|AI<|dC o (λo=>?_) λo=>?_;exact w_<|bY false<|aN 9<|AI<|SI<|oi o▸oC ⟨rfl,j.drop 12⟩;refine Tg<|Sv 7 p0 j nX λaz j=>?_;refine q_ o λa0 ah o=>SB PQ (pq N (i0:=0) j zr ah) ?_;rintro _ w⟨a1,a2,a3,a4,a5,a6,a7,a8,a9,rfl,j⟩;refine mv v1 ?_;have j:=(((((j.dup 8 rfl).dup 7 rfl).dup 7 rfl).dup 7 rfl).dup 7 rfl).pull 5;refine q_ o λba ai o=>SB (gU Tryz.func17) (vo N (i1:=20) j zr ai) λbb w j=>aY aa<|aY ab ?_;have j:=j.freeze 0;exact q_ o λaj ak o=>So (gU Tryz.func16) (sJ N (p1:=aa) (p2:=ab) (i0:=0) j zr ak) λw j=>bY aj<|aN 0<|AI<|Ss<|oi o▸oC ⟨rfl,j.drop 24⟩
theorem D9{p0:List Int}(o:Holds E w V)(h0:V[i0]? =some (rd v0 p0))(j:tf N p0=some res):c_ 88 [v0] w<|aS E V res:=by
 unfold tf at j;refine enter Tryz.func88 zr zr ?_;have o:=o.dup (i0+0) h0;refine w_<|aN 0<|OF<|aN 0<|Sm<|w_<|mv v0<|Sp 0 p0 o mq<|aY 0<|AI<|Tz E V (λ(ad:Unit)=>[rd v0 p0]) (λ_=>[(3,vi 0)]) (λab _=>[(6,v0),(7,vi p0.length),(8,vi ab)]) (λr=>l3 bO 18 Tryz.f88 (aS E V r) .ret) j ?_ ?_ ?_ ?_;exact o.sp 1 [0];rintro hm ab ad fl _ w hk⟨O,rfl,o⟩j;refine IN<|SO<|q_ j λaa ag j=>Sk 0 o dQ ag λaj o=>SA aa 0 o cF<|aN aa<|OF<|aY aa<|aY 0<|ic aa 0<|AI<|dC j (λj=>?_) λj=>?_;exact w_<|aY aa<|aN aa<|AI<|S7<|bH<|oi j▸⟨rfl,bV ⟨rfl,o.drop 2⟩⟩;exact SR<|bN<|aF<|IS<|Ta hk hm<|aY ((ab+1:Nat):Int)<|By<|oi j▸⟨rfl,o.sp 2 [1]⟩;intro r U w j hK;exact bH<|oi j▸hK;rintro ad _ w j⟨O,rfl,o⟩;exact aF<|w_<|aY 0<|aN 0<|AI<|Ss<|oi j▸bV ⟨rfl,o.drop 1⟩
theorem qO{p0 p1:Test}(j:Holds E w V)(h0:V[i0]? =some (rd v0 p0))(h1:V[i1]? =some (rd v1 p1))(o:iY N p0 p1=some res):c_ 54 [v0,v1] w<|aS E V res:=by
 unfold iY at o;refine enter Tryz.func54 zr zr ?_;have j:=(j.dup (i0+0) h0).dup (i1+1) h1;refine w_<|SK 1 v0 j zr λah w j=>?_;have j:=j.fM (i:=0) rfl;refine SK 1 v1 j zr λai w j=>?_;have j:=j.fM (i:=0) rfl;refine aN 0<|Sm<|S9 mixed [0,0,0,0,2,1,1,1,1,2,2,2,0] [0,1,2,3,5,6,7,8,4,9,10,11,12] ?_;have j:=j.drew;refine Sq zr<|SN 1 j zr rT lI λaj j=>aR zr<|Sv 0 p0.A j nO λak j=>aR zr<|SN 2 j zr rT lI λal j=>aR zr<|Sv 0 p1.A j nO λan j=>St<|TO 5 zr j zr uC np λao j=>Tx p0.B 0 zr j nO λaq a39 ar j=>TO 7 zr j zr uC np λau j=>Tx p1.B 0 zr j nO λav a43 aw j=>SX zr<|q_ o λaa ad o=>So JF (iz N (i0:=8) (i1:=6) j zr zr ad) λw j=>SM (⟨⟨zt,j.eU 3⟩,j.eU 0⟩)<|SX zr<|q_ o λab ae o=>So JF (iz N (i0:=4) (i1:=1) j zr zr ae) λw j=>SM (⟨⟨zt,j.eU 3⟩,j.eU 0⟩)<|SX zr ?_;have j:=(j.sc Int aa).sc Int ab;refine S4 ([aa,ab]:List Int) j [vi aa,vi ab] dQ DU (λM hs g=>⟨(g.sat 1 _ zr).1,⟨(g.sat 0 _ zr).1,zt⟩⟩) λax w j=>SM (⟨⟨zt,j.eU 6⟩,j.eU 3⟩)<|SX zr ?_;have j:=j.freeze 0;refine q_ o λaf ag o=>So (gU Tryz.func88) (D9 N (i0:=0) j zr ag) λw j=>SM (⟨⟨zt,j.eU 6⟩,j.eU 3⟩)<|Sq zr<|aN af<|St ?_;have j:=j.pl 17 [0,1,2,4,5,7,8,9,10,11,12,13,14,15,16];exact SG<|aF<|Ss<|oi o▸bV ⟨rfl,j.drop 15⟩
def Ao(E:World)(V:List HP)(r:Option (List (List aI)×List aI×List bT×List cX×List (List aA)×List aH×List (List Int)×List cK×List Int×List Int×List Int×List dP)×Int)(U:Nat->Value)(w:World):Prop:=l3 bO 63 Tryz.f19 (re E V r) .ret U w
theorem Ea{p0:jr}{p1:List Test}{res:Option (List (List aI)×List aI×List bT×List cX×List (List aA)×List aH×List (List Int)×List cK×List Int×List Int×List Int×List dP)×Int}(j:Holds E w V)(h0:V[i0]? =some (rd v0 p0))(h1:V[i1]? =some (rd v1 p1))(o:mJ N p0 p1=some res):
    c_ 19 [v0,v1] w<|re E V res:=by
 unfold mJ at o
 refine enter Tryz.func19 zr zr ?_
 have j:=(j.dup (i0+0) h0).dup (i1+1) h1
 refine w_<|SK 1 v0 j zr λak w j=>?_
 refine dV (.pointer none)<|aN 0<|OF<|SY 0 j zr nX λcc j=>?_
 obtain⟨af,br,o⟩:=bd o
 refine SB NU (tu N (i0:=0) j zr br) ?_
 rintro _ w hK49
 rcases a2:af.1 with _|ab
 ·replace o:=L1 a2 o
  obtain⟨rfl,j⟩:=IB a2 hK49
  refine mv (.tuple #[(.pointer none),vi af.2])<|Tf (.pointer none)<|Tf (vi af.2)<|dV (.pointer none)<|aN af.2<|Sm<|w_<|aY af.2<|ic af.2 0 ?_
  refine AI<|dC o (λo=>?_) λo=>?_
  ·refine w_<|aY af.2<|dV (.pointer none)<|aN af.2<|AI<|SI ?_
   obtain rfl:=oi o
   exact oC ⟨rfl,j.drop 4⟩
  refine Sz<|w_<|mv v1<|Sp 2 p1 j JK<|ic ((p1.length:Int)) 2000<|AI<|dC o (λo=>?_) λo=>?_
  ·refine w_<|dV (.pointer none)<|aN 2<|AI<|SI ?_
   obtain rfl:=oi o
   exact oC ⟨rfl,j.drop 4⟩
  refine Sz<|w_<|mv v1<|Sp 2 p1 j JK<|aY 0<|AI<|Tz E V (λ(bh:Unit)=>[rd v1 p1,bx 27 ak p0]) (λ_=>[(6,(.pointer none))]) (λag _=>[(1,v1),(2,vp ak 0),(21,v1),(22,vi p1.length),(23,vi ag)]) (Ao E V) o ?_ ?_ ?_ ?_
  ·exact j.sp 4 [2,1]
  ·rintro hm ag bh fl _ w hk⟨O,rfl,j⟩o
   refine IN<|SO<|aY (ag:Int) ?_
   obtain⟨bj,bu,o⟩:=bd o
   refine Sk 0 j D6 bu λcd j=>Sv 0 bj j D7 λcf j=>S6 j PT.z λbk w j=>?_
   refine aN (ag:Int)<|S3 0 j 1 zr D7 λw j=>?_
   refine AI<|S5<|IN ?_
   obtain⟨a5,hj,o⟩:=bd o
   refine Sw (λ(a5:Bool)=>SH E V [(1,v1),(2,vp ak 0),(6,(.pointer none)),(8,vi ag),(9,vp bk 0),(21,v1),(22,vi p1.length),(23,vi ag),(28,vb a5)] [rd v1 p1,bx 27 ak p0,bx 53 bk bj]) a5 ?_ ?_
   ·refine IS<|SY 4 j zr nX λch j=>AT zr rT<|SS 1 j zr lI nO λcj j=>?_
    obtain⟨bl,bw,hj⟩:=bd hj
    refine So JI (kY N (i0:=1) (i1:=0) j zr zr bw) λw j=>ic bl 0<|fC (decide<|bl<0)<|eH hj (λah hj=>?_) λah hj=>?_
    ·refine aV ah<|aV ah<|aV ah<|aV ah<|aV ah<|eE ah (vb true)<|bY true<|By ?_
     obtain rfl:=oi hj
     exact⟨rfl,j.sp 7 [5,6,2]⟩
    refine SY 6 j zr nX λck j=>AT zr uC<|SS 3 j zr np nO λcm j=>?_
    obtain⟨a6,bz,hj⟩:=bd hj
    refine So JI (kY N (i0:=1) (i1:=0) j zr zr bz) λw j=>Tc a6 0 (cg ah)<|eE ah (vb<|decide<|a6<0)<|bY (decide<|a6<0)<|By ?_
    obtain rfl:=oi hj
    exact⟨rfl,j.sp 9 [7,8,4]⟩
   rintro _ w⟨O,rfl,j⟩
   refine aF<|dC o (λo=>?_) λo=>?_
   ·refine w_<|dV (.pointer none)<|aN 9<|AI<|S7<|jQ<|bH ?_
    obtain rfl:=oi o
    exact⟨rfl,oC ⟨rfl,j.drop 3⟩⟩
   refine w_<|AT zr uC<|SS 2 j zr np nO λcn j=>AT zr rT<|SS 3 j zr lI nO λcp j=>?_
   obtain⟨Fb,b0,o⟩:=bd o
   refine So JF (iz N (i0:=1) (i1:=0) j zr zr b0) λw j=>ic Fb 0<|bY (decide<|Fb<=0)<|AI<|dC o (λo=>?_) λo=>?_
   ·refine w_<|dV (.pointer none)<|aN 8<|AI<|S7<|jQ<|bH ?_
    obtain rfl:=oi o
    exact⟨rfl,oC ⟨rfl,j.drop 5⟩⟩
   refine IN ?_
   obtain⟨a7,hj,o⟩:=bd o
   refine Sw (λ(a7:Bool)=>SH E V [(1,v1),(2,vp ak 0),(6,(.pointer none)),(21,v1),(22,vi p1.length),(23,vi ag),(48,vb a7)] [rd v1 p1,bx 27 ak p0]) a7 ?_ ?_
   ·refine S9 mixed [0,0,0,0,0,0,0,0,0,2,0,0,0] [0,1,2,3,4,5,6,7,8,9,10,11,12] ?_
    have j:=j.drew
    refine Sq zr<|aY (ag:Int)<|aR zr<|ic ((ag:Int)) 0<|aR zr<|fC (decide<|(ag:Int)>0)<|St<|eH hj (λad hj=>?_) λad hj=>?_
    rotate_left
    ·refine Sq zr<|aV ad<|aR zr<|aV ad<|aR zr<|aV ad<|aR zr<|aV ad<|aR zr ?_
     refine aV ad<|aR zr<|aV ad<|mW zr<|aV ad<|ql zr<|aV ad<|aR zr<|eE ad (vb false) ?_
     refine aR zr<|bY false<|St<|SG ?_
     obtain rfl:=oi hj
     exact⟨rfl,j.sp 5 [2,3]⟩
    refine Sq zr<|SY 4 j zr D7 λcq j=>aR zr<|Si v1 (cg ad)<|aR zr<|Si (vi ag) (cg ad)<|aR zr<|Sn (ag:Int) 1<|aR zr ?_
    obtain⟨b2,b3,hj⟩:=bd hj
    refine Sk 3 j D6 b3 λcr j=>aR zr<|Sv 0 b2 j D7 λct j=>mW zr ?_
    obtain⟨a8,b4,hj⟩:=bd hj
    refine So PU (qO N (i0:=2) (i1:=0) j zr zr b4) λw j=>ql zr<|Tc a8 0 (cg ad)<|aR zr<|eE ad (vb<|decide<|a8<=0)<|aR zr<|bY (decide<|a8<=0)<|St<|SG ?_
    obtain rfl:=oi hj
    exact⟨rfl,j.sp 8 [5,6]⟩
   rintro _ w⟨O,rfl,j⟩
   refine aF<|dC o (λo=>?_) λo=>?_
   rotate_left
   ·refine SR<|bN<|bN<|aF<|IS<|Ta hk hm<|aY ((ag+1:Nat):Int)<|By ?_
    obtain rfl:=oi o
    exact⟨rfl,j.sp 2 [0,1]⟩
   refine w_<|dV (.pointer none)<|aN 8<|AI<|S7<|jQ<|bH ?_
   obtain rfl:=oi o
   exact⟨rfl,oC ⟨rfl,j.drop 2⟩⟩
  ·intro r U w o hK
   refine bH ?_
   obtain rfl:=oi o
   exact hK
  rintro bh _ w o⟨O,rfl,j⟩
  refine aF<|w_<|mv (.pointer none)<|dV (.pointer none)<|aN 0<|AI<|Ss ?_
  obtain rfl:=oi o
  exact oC ⟨rfl,j.drop 2⟩
 replace o:=L2 a2 o
 obtain⟨al,an,ao,aq,ar,au,av,aw,ax,ay,az,a0,a1,rfl,j⟩:=IC a2 hK49
 refine mv (.tuple #[vp al 0,vi af.2])<|Tf (vp al 0)<|Tf (vi af.2)<|dV (vp al 0)<|aN af.2<|Sm<|w_<|aY af.2<|ic af.2 0 ?_
 refine AI<|dC o (λo=>?_) λo=>?_
 ·refine w_<|aY af.2<|dV (.pointer none)<|aN af.2<|AI<|SI ?_
  obtain rfl:=oi o
  exact oC ⟨rfl,j.drop 17⟩
 refine Sz<|w_<|mv v1<|Sp 15 p1 j JK<|ic ((p1.length:Int)) 2000<|AI<|dC o (λo=>?_) λo=>?_
 ·refine w_<|dV (.pointer none)<|aN 2<|AI<|SI ?_
  obtain rfl:=oi o
  exact oC ⟨rfl,j.drop 17⟩
 refine Sz<|w_<|mv v1<|Sp 15 p1 j JK<|aY 0<|AI<|Tz E V (λ(bm:Unit)=>[rd v1 p1,bx 27 ak p0,bc 74 al [an,ao,aq,ar,au,av,aw,ax,ay,az,a0,a1],rd an ab.1,rd ao ab.2.1,rd aq ab.2.2.1,rd ar ab.2.2.2.1,own 112 au ab.2.2.2.2.1,rd av ab.2.2.2.2.2.1,rd aw ab.2.2.2.2.2.2.1,own 130 ax ab.2.2.2.2.2.2.2.1,rd ay ab.2.2.2.2.2.2.2.2.1,rd az ab.2.2.2.2.2.2.2.2.2.1,own 3 a0 ab.2.2.2.2.2.2.2.2.2.2.1,own 78 a1 ab.2.2.2.2.2.2.2.2.2.2.2]) (λ_=>[(6,vp al 0)]) (λai _=>[(1,v1),(2,vp ak 0),(21,v1),(22,vi p1.length),(23,vi ai)]) (Ao E V) o ?_ ?_ ?_ ?_
 ·exact j.sp 17 [15,14,0,1,2,3,4,5,6,7,8,9,10,11,12]
 ·rintro hm ai bm fl _ w hk⟨O,rfl,j⟩o
  refine IN<|SO<|aY (ai:Int) ?_
  obtain⟨bn,b5,o⟩:=bd o
  refine Sk 0 j D6 b5 λcu j=>Sv 0 bn j D7 λcv j=>S6 j PT.z λbo w j=>?_
  refine aN (ai:Int)<|S3 0 j 1 zr D7 λw j=>?_
  refine AI<|S5<|IN ?_
  obtain⟨ba,hj,o⟩:=bd o
  refine Sw (λ(ba:Bool)=>SH E V [(1,v1),(2,vp ak 0),(6,vp al 0),(8,vi ai),(9,vp bo 0),(21,v1),(22,vi p1.length),(23,vi ai),(28,vb ba)] [rd v1 p1,bx 27 ak p0,bc 74 al [an,ao,aq,ar,au,av,aw,ax,ay,az,a0,a1],rd an ab.1,rd ao ab.2.1,rd aq ab.2.2.1,rd ar ab.2.2.2.1,own 112 au ab.2.2.2.2.1,rd av ab.2.2.2.2.2.1,rd aw ab.2.2.2.2.2.2.1,own 130 ax ab.2.2.2.2.2.2.2.1,rd ay ab.2.2.2.2.2.2.2.2.1,rd az ab.2.2.2.2.2.2.2.2.2.1,own 3 a0 ab.2.2.2.2.2.2.2.2.2.2.1,own 78 a1 ab.2.2.2.2.2.2.2.2.2.2.2,bx 53 bo bn]) ba ?_ ?_
  ·refine IS<|SY 4 j zr nX λcw j=>AT zr rT<|SS 1 j zr lI nO λcx j=>?_
   obtain⟨bp,b6,hj⟩:=bd hj
   refine So JI (kY N (i0:=1) (i1:=0) j zr zr b6) λw j=>ic bp 0<|fC (decide<|bp<0)<|eH hj (λaj hj=>?_) λaj hj=>?_
   ·refine aV aj<|aV aj<|aV aj<|aV aj<|aV aj<|eE aj (vb true)<|bY true<|By ?_
    obtain rfl:=oi hj
    exact⟨rfl,j.sp 20 [5,6,7,8,9,10,11,12,13,14,15,16,17,18,19,2]⟩
   refine SY 6 j zr nX λcy j=>AT zr uC<|SS 3 j zr np nO λcz j=>?_
   obtain⟨bb,b7,hj⟩:=bd hj
   refine So JI (kY N (i0:=1) (i1:=0) j zr zr b7) λw j=>Tc bb 0 (cg aj)<|eE aj (vb<|decide<|bb<0)<|bY (decide<|bb<0)<|By ?_
   obtain rfl:=oi hj
   exact⟨rfl,j.sp 22 [7,8,9,10,11,12,13,14,15,16,17,18,19,20,21,4]⟩
  rintro _ w⟨O,rfl,j⟩
  refine aF<|dC o (λo=>?_) λo=>?_
  ·refine w_<|dV (.pointer none)<|aN 9<|AI<|S7<|jQ<|bH ?_
   obtain rfl:=oi o
   exact⟨rfl,oC ⟨rfl,j.drop 16⟩⟩
  refine w_<|AT zr uC<|SS 15 j zr np nO λc0 j=>AT zr rT<|SS 16 j zr lI nO λc1 j=>?_
  obtain⟨bq,b8,o⟩:=bd o
  refine So JF (iz N (i0:=1) (i1:=0) j zr zr b8) λw j=>ic bq 0<|bY (decide<|bq<=0)<|AI<|dC o (λo=>?_) λo=>?_
  ·refine w_<|dV (.pointer none)<|aN 8<|AI<|S7<|jQ<|bH ?_
   obtain rfl:=oi o
   exact⟨rfl,oC ⟨rfl,j.drop 18⟩⟩
  refine IN ?_
  obtain⟨bf,hj,o⟩:=bd o
  refine Sw (λ(bf:Bool)=>SH E V [(1,v1),(2,vp ak 0),(6,vp al 0),(21,v1),(22,vi p1.length),(23,vi ai),(48,vb bf)] [rd v1 p1,bx 27 ak p0,bc 74 al [an,ao,aq,ar,au,av,aw,ax,ay,az,a0,a1],rd an ab.1,rd ao ab.2.1,rd aq ab.2.2.1,rd ar ab.2.2.2.1,own 112 au ab.2.2.2.2.1,rd av ab.2.2.2.2.2.1,rd aw ab.2.2.2.2.2.2.1,own 130 ax ab.2.2.2.2.2.2.2.1,rd ay ab.2.2.2.2.2.2.2.2.1,rd az ab.2.2.2.2.2.2.2.2.2.1,own 3 a0 ab.2.2.2.2.2.2.2.2.2.2.1,own 78 a1 ab.2.2.2.2.2.2.2.2.2.2.2]) bf ?_ ?_
  ·refine S9 mixed [0,0,0,0,0,0,0,0,0,2,0,0,0] [0,1,2,3,4,5,6,7,8,9,10,11,12] ?_
   have j:=j.drew
   refine Sq zr<|aY (ai:Int)<|aR zr<|ic ((ai:Int)) 0<|aR zr<|fC (decide<|(ai:Int)>0)<|St<|eH hj (λae hj=>?_) λae hj=>?_
   rotate_left
   ·refine Sq zr<|aV ae<|aR zr<|aV ae<|aR zr<|aV ae<|aR zr<|aV ae<|aR zr ?_
    refine aV ae<|aR zr<|aV ae<|mW zr<|aV ae<|ql zr<|aV ae<|aR zr<|eE ae (vb false) ?_
    refine aR zr<|bY false<|St<|SG ?_
    obtain rfl:=oi hj
    exact⟨rfl,j.sp 18 [2,3,4,5,6,7,8,9,10,11,12,13,14,15,16]⟩
   refine Sq zr<|SY 17 j zr D7 λc2 j=>aR zr<|Si v1 (cg ae)<|aR zr<|Si (vi ai) (cg ae)<|aR zr<|Sn (ai:Int) 1<|aR zr ?_
   obtain⟨b9,ca,hj⟩:=bd hj
   refine Sk 3 j D6 ca λc3 j=>aR zr<|Sv 0 b9 j D7 λc4 j=>mW zr ?_
   obtain⟨bg,cb,hj⟩:=bd hj
   refine So PU (qO N (i0:=2) (i1:=0) j zr zr cb) λw j=>ql zr<|Tc bg 0 (cg ae)<|aR zr<|eE ae (vb<|decide<|bg<=0)<|aR zr<|bY (decide<|bg<=0)<|St<|SG ?_
   obtain rfl:=oi hj
   exact⟨rfl,j.sp 21 [5,6,7,8,9,10,11,12,13,14,15,16,17,18,19]⟩
  rintro _ w⟨O,rfl,j⟩
  refine aF<|dC o (λo=>?_) λo=>?_
  rotate_left
  ·refine SR<|bN<|bN<|aF<|IS<|Ta hk hm<|aY ((ai+1:Nat):Int)<|By ?_
   obtain rfl:=oi o
   exact⟨rfl,j.sp 15 [0,1,2,3,4,5,6,7,8,9,10,11,12,13,14]⟩
  refine w_<|dV (.pointer none)<|aN 8<|AI<|S7<|jQ<|bH ?_
  obtain rfl:=oi o
  exact⟨rfl,oC ⟨rfl,j.drop 15⟩⟩
 ·intro r U w o hK
  refine bH ?_
  obtain rfl:=oi o
  exact hK
 rintro bm _ w o⟨O,rfl,j⟩
 refine aF<|w_<|mv (vp al 0)<|dV (vp al 0)<|aN 0<|AI<|Ss ?_
 obtain rfl:=oi o
 exact oC ⟨al,an,ao,aq,ar,au,av,aw,ax,ay,az,a0,a1,zr,j.pk 15 [2,3,4,5,6,7,8,9,10,11,12,13,14]⟩
theorem yG{p0:jr}{p1:List Test}(j:Holds E w V)(h0:V[i0]? =some (rd v0 p0))(h1:V[i1]? =some (rd v1 p1))(hb:kV N p0 p1=some res):
    c_ 6 [v0,v1] w<|aS E V res:=by
 unfold kV at hb
 refine enter Tryz.func6 zr zr ?_
 have j:=(j.dup (i0+0) h0).dup (i1+1) h1
 refine w_<|SK 1 v0 j zr λaf w j=>?_
 refine aN 0<|OF<|SY 0 j zr nX λag j=>mv v1 ?_
 obtain⟨o,ae,hb⟩:=bd hb
 refine SB (gU Tryz.func19) (Ea N (i0:=0) (i1:=2) j zr zr ae) ?_
 rintro _ w hK49
 rcases ab:o.1 with _|ah
 ·replace hb:=L1 ab hb
  obtain⟨rfl,j⟩:=IB ab hK49
  refine mv (.tuple #[(.pointer none),vi o.2])<|Tf (.pointer none)<|Tf (vi o.2)<|dV (.pointer none)<|aN o.2<|OF<|aY o.2<|aN o.2<|AI ?_
  refine Ss ?_
  obtain rfl:=oi hb
  exact bV ⟨rfl,j.drop 4⟩
 replace hb:=L2 ab hb
 obtain⟨ad,ai,aj,ak,al,an,ao,aq,ar,au,av,aw,ax,rfl,j⟩:=IC ab hK49
 refine mv (.tuple #[vp ad 0,vi o.2])<|Tf (vp ad 0)<|Tf (vi o.2)<|dV (vp ad 0)<|aN o.2<|OF<|aY o.2<|aN o.2<|AI ?_
 refine Ss ?_
 obtain rfl:=oi hb
 exact bV ⟨rfl,j.drop 17⟩
theorem mM{p0 p1:dO}{res:Bool}(j:Holds E w V)(h0:V[i0]? =some (rd v0 p0))(h1:V[i1]? =some (rd v1 p1))(hb:iF N p0 p1=some res):c_ 21 [v0,v1] w<|aX E V res:=by
 unfold iF at hb;refine enter Tryz.func21 zr zr ?_;have j:=(j.dup (i0+0) h0).dup (i1+1) h1;refine w_<|SK 1 v0 j zr λo w j=>?_;refine SK 1 v1 j zr λaa w j=>?_;refine bY false<|OF<|AT zr zc<|Sj 1 j zr ti w8<|AT zr zc<|Sj 0 j zr ti w8<|T1 p0.Part p1.Part zr zr zr zr<|fC (p0.Part.nM p1.Part)<|BY true (p0.Part.nM p1.Part) (vp o 0) zr zr zr (dE zc) ?_;refine BY true (p0.Part.nM p1.Part) (str p0.Part) rfl rfl rfl (bW 1 rfl j (by exact z_ (vp o 0)) rfl ti w8)<|BY true (p0.Part.nM p1.Part) (vp aa 0) rfl rfl rfl (dE zc)<|BY true (p0.Part.nM p1.Part) (str p1.Part) rfl rfl rfl (bW 0 rfl j (by exact z_ (vp aa 0)) rfl ti w8)<|BY true (p0.Part.nM p1.Part) (vb<|p0.Part.o8 p1.Part) rfl rfl rfl (zF .eql p0.Part p1.Part rfl (by exact z_ (str p0.Part)) (by exact z_ (str p1.Part)) rfl)<|BY true (p0.Part.nM p1.Part) (vb<|p0.Part.o8 p1.Part) rfl rfl rfl (cG (hx:=λh=>by exact(cD h:cv (true&&(p0.Part.nM p1.Part==false)) (vb<|p0.Part.o8 p1.Part)= vb (p0.Part.o8 p1.Part))))<|BY (true&&(p0.Part.nM p1.Part==false)) (p0.Part.o8 p1.Part) (vp o 1) rfl rfl rfl (dE CV)<|BY (true&&(p0.Part.nM p1.Part==false)) (p0.Part.o8 p1.Part) (str p0.dO) rfl rfl rfl (bW 1 rfl j (by exact z_ (vp o 1)) rfl xm w8)<|BY (true&&(p0.Part.nM p1.Part==false)) (p0.Part.o8 p1.Part) (vp aa 1) rfl rfl rfl (dE CV)<|BY (true&&(p0.Part.nM p1.Part==false)) (p0.Part.o8 p1.Part) (str p1.dO) rfl rfl rfl (bW 0 rfl j (by exact z_ (vp aa 1)) rfl xm w8) ?_;refine BY (true&&(p0.Part.nM p1.Part==false)) (p0.Part.o8 p1.Part) (vb<|p0.dO.nM p1.dO) rfl rfl rfl (zF .lss p0.dO p1.dO rfl (by exact z_ (str p0.dO)) (by exact z_ (str p1.dO)) rfl)<|BY true (p0.Part.nM p1.Part) (vb<|p0.Part.o8 p1.Part&&p0.dO.nM p1.dO) rfl rfl rfl (kr (p0.Part.o8 p1.Part) rfl (by exact z_ (vb<|p0.Part.o8 p1.Part)) (λh=>by exact fR (h:=h)<|true&&(p0.Part.nM p1.Part==false)))<|SQ (p0.Part.nM p1.Part) (vb<|p0.Part.nM p1.Part||(p0.Part.o8 p1.Part&&p0.dO.nM p1.dO)) (mT true)<|bY (p0.Part.nM p1.Part||(p0.Part.o8 p1.Part&&p0.dO.nM p1.dO))<|AI<|Ss ?_;exact oi hb▸bV ⟨rfl,j.drop 4⟩
theorem tB{p0 p1:Test}{res:Bool}(j:Holds E w V)(h0:V[i0]? =some (rd v0 p0))(h1:V[i1]? =some (rd v1 p1))(hb:jf N p0 p1=some res):c_ 22 [v0,v1] w<|aX E V res:=by
 unfold jf at hb;refine enter Tryz.func22 zr zr ?_;have j:=(j.dup (i0+0) h0).dup (i1+1) h1;refine w_<|SK 1 v0 j zr λaj w j=>?_;refine SK 1 v1 j zr λak w j=>?_;refine bY false<|Sm<|q_ hb λae hj hb=>Sw (λ(ae:Bool)=>SH E V [(4,vb ae)] []) ae ?_ ?_;refine IS<|AT zr rT<|SS 1 j zr lI nO λal j=>AT zr rT<|SS 1 j zr lI nO λan j=>?_;refine q_ hj λag ah hj=>So N1 (mM N (i0:=1) (i1:=0) j zr zr ah) λw j=>fC ag<|eH hj (λo hj=>?_) λo hj=>?_;refine aV o<|aV o<|aV o<|aV o<|aV o<|aV o<|q9<|q9<|q9<|q9<|q9<|aV o<|eE o (vb true)<|bY true<|By ?_;exact oi hj▸⟨rfl,j.sp 6 []⟩;refine AT zr rT<|SS 3 j zr lI nO λao j=>AT zr rT<|SS 3 j zr lI nO λaq j=>Uo 1 0 p0.A p1.A (cg o) zr j zr zr zr zr PV zr<|Si (vb<|decide<|p0.A=p1.A) (cg o)<|eH hj (λab hj=>?_) λab hj=>?_;refine AT zr uC<|SS 5 j zr np nO λar j=>AT zr uC<|SS 5 j zr np nO λau j=>?_;exact q_ hj λaf ai hj=>So N1 (mM N (i0:=1) (i1:=0) j zr zr ai) λw j=>eE ab (vb af) (hg:=cg o)<|eE o (vb af)<|bY af<|By<|oi hj▸⟨rfl,j.sp 10 []⟩;exact aV ab<|aV ab<|aV ab<|aV ab<|aV ab<|eE ab (vb false) (hg:=cg o)<|eE o (vb false)<|bY false<|By<|oi hj▸⟨rfl,j.sp 8 []⟩;rintro _ w⟨O,rfl,j⟩;exact aF<|Ss<|oi hb▸bV ⟨rfl,j.drop 0⟩
theorem rZ{p0:jr}{p1:List Test}(j:Holds E w V)(h0:V[i0]? =some (rd v0 p0))(h1:V[i1]? =some (rd v1 p1))(hb:fB N p0 p1=some res):c_ 7 [v0,v1] w<|aS E V res:=by
 unfold fB at hb;refine enter Tryz.func7 zr zr ?_;have j:=(j.dup (i0+0) h0).dup (i1+1) h1;refine w_<|SK 1 v0 j zr λag w j=>?_;refine aN 0<|Sm<|w_<|SY 0 j zr nX λba j=>?_;refine q_ hb λah aq hb=>So PL (oV N (i0:=0) j zr aq) λw j=>aN ah<|OF<|aY ah<|ic ah 0<|AI<|dC hb (λhb=>?_) λhb=>?_;exact w_<|aY ah<|aN ah<|AI<|SI<|oi hb▸bV ⟨rfl,j.drop 4⟩;refine Sz<|w_<|mv v1<|Sp 2 p1 j JK<|ic ((p1.length:Int)) 2000<|AI<|dC hb (λhb=>?_) λhb=>?_;exact w_<|aN 2<|AI<|SI<|oi hb▸bV ⟨rfl,j.drop 4⟩;refine Sz<|w_<|aN 0<|AI<|Tq E V (λ(ad:Int)=>[rd v1 p1,bx 27 ag p0]) (λ_=>[]) (λad=>[(1,v1),(2,vp ag 0),(6,vi ad)]) (λr=>l3 bO 68 Tryz.f7 (aS E V r) .ret) hb ?_ ?_ ?_ ?_;exact j.sp 4 [2,1];rintro ad fl _ w⟨O,rfl,j⟩hb;refine IN<|w_<|aY ad<|mv v1<|Sp 0 p1 j JK<|ic ad ((p1.length:Int))<|AI<|dC hb (λhb=>?_) λhb=>?_;refine Sz<|S5<|IN<|IN<|q_ hb λai o hb=>Sw (λ(ai:Bool)=>SH E V [(1,v1),(2,vp ag 0),(6,vi ad),(38,vb ai)] [rd v1 p1,bx 27 ag p0]) ai ?_ ?_;refine S9 mixed [0,0,0,0,0,0,2,0,0,0,0,0,0,0,0,2,0,0] [0,1,2,3,4,5,6,7,8,9,10,11,12,13,14,15,16,17] ?_;have j:=j.drew;refine Sq zr<|SY 1 j zr nX λbc j=>aR zr<|mv v1<|aR zr<|aY ad<|aR zr<|q_ o λar au o=>Sk 1 j D6 au λbf j=>aR zr<|SN 0 j zr rT lI λbg j=>aR zr<|Sv 0 ar.A j nO λbh j=>mW zr<|q_ o λal av o=>So Md (kP N (i0:=3) (i1:=0) j zr zr av) λw j=>ql zr<|ic al 0<|aR zr<|fC (decide<|al<0)<|St<|eH o (λae o=>?_) λae o=>?_;refine Sq zr<|aV ae<|aR zr<|aV ae<|aR zr<|aV ae<|aR zr<|aV ae<|aR zr<|aV ae<|aR zr<|aV ae<|mW zr<|aV ae<|ql zr<|aV ae<|aR zr<|eE ae (vb true) ?_;exact St<|SG<|oi o▸⟨rfl,j.sp 6 [4,5]⟩;refine Sq zr<|SY 5 j zr nX λbj j=>aR zr<|Si v1 (cg ae)<|aR zr<|Si (vi ad) (cg ae)<|aR zr<|q_ o λaw ax o=>Sk 5 j D6 ax λbk j=>aR zr<|SN 0 j zr uC np λbl j=>aR zr<|Sv 0 aw.B j nO λbm j=>mW zr<|q_ o λan ay o=>So Md (kP N (i0:=3) (i1:=0) j zr zr ay) λw j=>ql zr<|Tc an 0 (cg ae)<|aR zr<|eE ae (vb<|decide<|an<0)<|St<|SG ?_;exact oi o▸⟨rfl,j.sp 10 [8,9]⟩;rintro _ w⟨O,rfl,j⟩;refine aF<|dC hb (λhb=>?_) λhb=>?_;exact w_<|aN 9<|AI<|SI<|jQ<|bH<|oi hb▸⟨rfl,bV ⟨rfl,j.drop 2⟩⟩;refine Sz<|q_ hb λaj o hb=>Sw (λ(aj:Bool)=>SH E V [(1,v1),(2,vp ag 0),(6,vi ad),(67,vb aj)] [rd v1 p1,bx 27 ag p0]) aj ?_ ?_;refine S9 mixed [0,0,0,0,0,0,0,0,0,0,2,0,0,0,0,0,0,0,0,0,0,0,0,0,0,2,0,0,0] [0,1,2,3,4,5,6,7,8,9,10,11,12,13,14,15,16,17,18,19,20,21,22,23,24,25,26,27,28] ?_;have j:=j.drew;refine Sq zr<|mv v1<|aR zr<|aY ad<|aR zr<|q_ o λaz a0 o=>Sk 0 j D6 a0 λbn j=>aR zr<|SN 0 j zr rT lI λbo j=>aR zr<|Sv 0 az.A j nO λbp j=>aR zr<|mv v1<|aR zr<|aY ad ?_;refine aR zr<|q_ o λa1 a2 o=>Sk 3 j D6 a2 λbq j=>aR zr<|SN 0 j zr uC np λbr j=>aR zr<|Sv 0 a1.B j nO λbs j=>mW zr<|q_ o λao a3 o=>So N1 (mM N (i0:=3) (i1:=0) j zr zr a3) λw j=>ql zr<|SW ao<|aR zr<|fC (!ao)<|St<|eH o (λaf o=>?_) λaf o=>?_;refine Sq zr<|aV af<|aR zr<|aV af<|aR zr<|aV af<|aR zr<|q9<|aR zr<|q9<|aR zr<|q9<|aR zr<|q9<|aR zr<|q9<|aR zr<|q9 ?_;refine aR zr<|q9<|aR zr<|q9<|aR zr<|q9<|mW zr<|q9<|ql zr<|q9<|aR zr<|aV af<|aR zr<|eE af (vb true)<|St<|SG ?_;exact oi o▸⟨rfl,j.sp 8 [6,7]⟩;refine Sq zr<|Si (vi ad) (cg af)<|aR zr<|Tc ad 0 (cg af)<|aR zr<|Si (vb<|decide<|ad>0) (cg af)<|St<|eH o (λab o=>?_) λab o=>?_;refine Sq zr<|Si v1 (cg ab)<|aR zr<|Si (vi ad) (cg ab)<|aR zr<|Sn ad 1<|aR zr<|q_ o λa4 a5 o=>Sk 6 j D6 a5 λbt j=>aR zr<|Sv 0 a4 j D7 λbu j=>aR zr<|Si v1 (cg ab)<|aR zr<|Si (vi ad) (cg ab)<|aR zr ?_;refine q_ o λa6 a7 o=>Sk 8 j D6 a7 λbw j=>aR zr<|Sv 0 a6 j D7 λbz j=>mW zr<|q_ o λak a8 o=>So (gU Tryz.func22) (tB N (i0:=2) (i1:=0) j zr zr a8) λw j=>ql zr<|SW ak<|aR zr<|eE ab (vb<|!ak) (hg:=cg af)<|aR zr<|eE af (vb<|!ak)<|St<|SG ?_;exact oi o▸⟨rfl,j.sp 12 [10,11]⟩;refine Sq zr<|aV ab<|aR zr<|aV ab<|aR zr<|aV ab<|aR zr<|aV ab<|aR zr<|aV ab<|aR zr<|aV ab<|aR zr<|aV ab<|aR zr<|aV ab<|aR zr<|aV ab ?_;refine mW zr<|aV ab<|ql zr<|aV ab<|aR zr<|eE ab (vb false) (hg:=cg af)<|aR zr<|eE af (vb false)<|St<|SG ?_;exact oi o▸⟨rfl,j.sp 8 [6,7]⟩;rintro _ w⟨O,rfl,j⟩;refine aF<|dC hb (λhb=>?_) λhb=>?_;exact w_<|aN 8<|AI<|S7<|bH<|oi hb▸⟨rfl,bV ⟨rfl,j.drop 2⟩⟩;refine SR<|bN<|aF<|IS<|aY ad<|Sn ad 1<|aN (wrap .i64<|ad+1)<|By ?_;exact oi hb▸⟨rfl,j.sp 2 [0,1]⟩;exact SL<|oi hb▸⟨rfl,j.sp 2 [0,1]⟩;intro r U w hb hK;exact bH<|oi hb▸hK;rintro ad _ w hb⟨O,rfl,j⟩;exact aF<|w_<|aN 0<|AI<|Ss<|oi hb▸bV ⟨rfl,j.drop 2⟩
theorem yH{p0:jr}{p1:List fo}(o:Holds E w V)(h0:V[i0]? =some (rd v0 p0))(h1:V[i1]? =some (rd v1 p1))(j:jW N p0 p1=some res):
    c_ 8 [v0,v1] w<|aS E V res:=by
 unfold jW at j
 refine enter Tryz.func8 zr zr ?_
 have o:=(o.dup (i0+0) h0).dup (i1+1) h1
 refine w_<|SK 1 v0 o zr λah w o=>?_
 refine aN 0<|OF<|SY 0 o zr nX λai o=>?_
 obtain⟨aa,ae,j⟩:=bd j
 refine SB NU (tu N (i0:=0) o zr ae) ?_
 rintro _ w hK49
 rcases ab:aa.1 with _|aj
 ·replace j:=L1 ab j
  obtain⟨rfl,o⟩:=IB ab hK49
  refine mv (.tuple #[(.pointer none),vi aa.2])<|Tf (.pointer none)<|Tf (vi aa.2)<|dV (.pointer none)<|aN aa.2<|Sm<|w_<|aY aa.2<|ic aa.2 0 ?_
  refine AI<|dC j (λj=>?_) λj=>?_
  rotate_left
  ·cases j
  refine w_<|aY aa.2<|aN aa.2<|AI<|SI ?_
  obtain rfl:=oi j
  exact bV ⟨rfl,o.drop 4⟩
 replace j:=L2 ab j
 obtain⟨ad,ak,al,an,ao,aq,ar,au,av,aw,ax,ay,az,rfl,o⟩:=IC ab hK49
 refine mv (.tuple #[vp ad 0,vi aa.2])<|Tf (vp ad 0)<|Tf (vi aa.2)<|dV (vp ad 0)<|aN aa.2<|Sm<|w_<|aY aa.2<|ic aa.2 0 ?_
 refine AI<|dC j (λj=>?_) λj=>?_
 ·refine w_<|aY aa.2<|aN aa.2<|AI<|SI ?_
  obtain rfl:=oi j
  exact bV ⟨rfl,o.drop 17⟩
 refine Tg<|mv (vp ad 0)<|mv v1 ?_
 have o:=((((((((((((o.freeze 5).freeze 8).freeze 11).freeze 12).dup 12 rfl).dup 12 rfl).dup 12 rfl).dup 12 rfl).dup 12 rfl).dup 12 rfl).dup 12 rfl).dup 12 rfl).dup 12 rfl
 have o:=(((o.dup 12 rfl).dup 12 rfl).dup 12 rfl).pull 12
 obtain⟨af,ag,j⟩:=bd j
 refine So Ps (sg N (i1:=15) o zr ag) λw o=>aN af<|AI<|Ss ?_
 obtain rfl:=oi j
 exact bV ⟨rfl,o.drop 18⟩
theorem vq{res:Bool}(j:Holds E w V)(hb:km N=some res):c_ 10 [] w<|aX E V res:=by
 unfold km at hb;refine enter Tryz.func10 zr zr<|w_<|bY false<|OF ?_;have j:=(j.sc Int 1).sc Int 1;refine Tp (⟨0,0,1,1⟩:aI) trivial rfl j [(2,vi 1),(3,vi 1)] rfl GH rfl (λM hs g=>by have h:=vX M;exact cV.cons (f:=λ(x:aI)y=>{x with X1:=y}) h qQ (g.sat 1 _ rfl).1 λ_ h=>cV.cons (f:=λ(x:aI)y=>{x with Y1:=y}) h sV (g.sat 0 _ rfl).1 λ_ h=>cV.nil h) λae j=>?_;refine S4 ([(⟨0,0,1,1⟩:aI)]:List aI) j [ae] jO qz (λM hs g=>⟨(g.sat 0 _ zr).1,zt⟩) λaf w j=>?_;have j:=j.freeze 0;refine S4 ([([(⟨0,0,1,1⟩:aI)]:List aI)]:List (List aI)) j [af] wQ L8 (λM hs g=>⟨(g.sat 0 _ zr).1,zt⟩) λad w j=>?_;have j:=(j.sc eQ ⟨[97]⟩).sc eQ ⟨[49]⟩;refine Tp (⟨⟨[97]⟩,⟨[49]⟩,0,⟨0,0⟩⟩:cX) trivial rfl j [(0,str ⟨[97]⟩),(1,str ⟨[49]⟩)] rfl Rr rfl (λM hs g=>by have h:=NJ M;exact cV.cons (f:=λ(x:cX)y=>{x with Part:=y}) h JA (g.sat 1 _ rfl).1 λ_ h=>cV.cons (f:=λ(x:cX)y=>{x with dO:=y}) h JB (g.sat 0 _ rfl).1 λ_ h=>cV.nil h) λag j=>?_;refine S4 ([(⟨⟨[97]⟩,⟨[49]⟩,0,⟨0,0⟩⟩:cX)]:List cX) j [ag] Cd JE (λM hs g=>⟨(g.sat 0 _ zr).1,zt⟩) λaa w j=>Uf [n_,n_,n_,n_] [ad,n_,n_,aa] zr [(0,ad),(3,aa)] zr Rs ⟨iU 4 j,iU 0 j,zt⟩ zr<|S6 j Ru.z λai w j=>?_;have j:=((((j.freeze 5).vO aI).vO bT).freeze 3).E9 (cs:=[ad,n_,n_,aa]) (x:=(⟨([([(⟨0,0,1,1⟩:aI)]:List aI)]:List (List aI)),([]:List aI),([]:List bT),([(⟨⟨[97]⟩,⟨[49]⟩,0,⟨0,0⟩⟩:cX)]:List cX)⟩:jr)) (λM hs g=>⟨[ad],[n_,n_,aa],rfl,qo (g.sat 7 _ rfl).1,⟨[n_],[n_,aa],rfl,qo (g.sat 1 _ rfl).1,⟨[n_],[aa],rfl,qo (g.sat 0 _ rfl).1,qo (g.sat 3 _ rfl).1⟩⟩⟩) rfl;refine S3 3 j 0 zr nX λw j=>?_;refine OF<|SY 3 j zr nX λaj j=>?_;have j:=(j.sc eQ ⟨[97]⟩).sc eQ ⟨[49]⟩;refine Tp (⟨⟨[97]⟩,⟨[49]⟩⟩:dO) trivial rfl j [(0,str ⟨[97]⟩),(1,str ⟨[49]⟩)] rfl L6 rfl (λM hs g=>by have h:=IK M;exact cV.cons (f:=λ(x:dO)y=>{x with Part:=y}) h zW (g.sat 1 _ rfl).1 λ_ h=>cV.cons (f:=λ(x:dO)y=>{x with dO:=y}) h zX (g.sat 0 _ rfl).1 λ_ h=>cV.nil h) λak j=>?_;have j:=(j.sc eQ ⟨[97]⟩).sc eQ ⟨[49]⟩;refine Tp (⟨⟨[97]⟩,⟨[49]⟩⟩:dO) trivial rfl j [(0,str ⟨[97]⟩),(1,str ⟨[49]⟩)] rfl L6 rfl (λM hs g=>by have h:=IK M;exact cV.cons (f:=λ(x:dO)y=>{x with Part:=y}) h zW (g.sat 1 _ rfl).1 λ_ h=>cV.cons (f:=λ(x:dO)y=>{x with dO:=y}) h zX (g.sat 0 _ rfl).1 λ_ h=>cV.nil h) λal j=>?_;have j:=j.vO fo;refine q_ hb λo ah hb=>So RW (tv N (i0:=7) (i1:=0) (i2:=4) (i3:=1) j zr zr zr zr ah) λw j=>mv (.tuple #[vb o.1,vi o.2])<|Tf (vb o.1)<|Tf (vi o.2)<|bY o.1<|aN o.2<|OF<|aY o.2<|ic o.2 0<|fC (o.2==0)<|BY true (o.2==0) (vb o.1) zr zr zr cG<|SQ (o.2==0) (vb<|(o.2==0)&&o.1) (fR true)<|bY ((o.2==0)&&o.1)<|AI<|Ss ?_;exact oi hb▸bV ⟨rfl,j.drop 21⟩
theorem oQ{p0:jr}{p1:List Test}{p2:List fo}{p3 p4:dO}{res:Bool}(j:Holds E w V)(h0:V[i0]? =some (rd v0 p0))(h1:V[i1]? =some (rd v1 p1))(h2:V[i2]? =some (rd v2 p2))(h3:V[i3]? =some (rd v3 p3))(h4:V[i4]? =some (rd v4 p4))(hb:gv N p0 p1 p2 p3 p4=some res):c_ 3 [v0,v1,v2,v3,v4] w<|aX E V res:=by
 unfold gv at hb;refine enter Tryz.func3 zr zr ?_;have j:=((((j.dup (i0+0) h0).dup (i1+1) h1).dup (i2+2) h2).dup (i3+3) h3).dup (i4+4) h4;refine w_<|SK 4 v0 j zr λay w j=>?_;have j:=j.fM (i:=0) rfl;refine SK 2 v3 j zr λaz w j=>?_;have j:=j.fM (i:=0) rfl;refine SK 2 v4 j zr λa0 w j=>?_;have j:=j.fM (i:=0) rfl;refine bY false<|OF<|Sv 2 p0 j nX λa1 j=>mv v2<|Sv 2 p3 j nO λa2 j=>Sv 2 p4 j nO λa3 j=>?_;refine q_ hb λo ao hb=>So RW (tv N (i0:=2) (i1:=8) (i2:=1) (i3:=0) j zr zr zr zr ao) λw j=>mv (.tuple #[vb o.1,vi o.2])<|Tf (vb o.1)<|Tf (vi o.2)<|bY o.1<|aN o.2<|OF<|Sv 5 p0 j nX λa4 j=>mv v2<|Sv 5 p3 j nO λa5 j=>Sv 5 p4 j nO λa6 j=>?_;refine q_ hb λaa aq hb=>So (gU Tryz.func5) (sK N (i0:=2) (i1:=11) (i2:=1) (i3:=0) j zr zr zr zr aq) λw j=>mv (.tuple #[vb aa.1,vi aa.2])<|Tf (vb aa.1)<|Tf (vi aa.2)<|bY aa.1<|aN aa.2<|Sm<|q_ hb λah hj hb=>Sw (λ(ah:Bool)=>SH E V [(10,vb ah)] []) ah ?_ ?_;refine S9 mixed [0,0,2,1,1,2,0,0,0,0,2,1,1,2,0,0,0,0,0,0,0,0,0,0,0,0,0,2,0,0] [0,1,3,4,2,5,6,7,8,9,11,12,10,13,14,15,16,17,18,19,20,21,22,23,24,25,26,27,28,29] ?_;have j:=j.drew;refine Sq zr<|Sv 8 p0 j nX λa7 j=>aR zr<|mv v1<|St<|Tx p0 9 zr j nX λa8 a94 a9 j=>SF v1 zr (λw=>Si v1 zt SC)<|SX zr<|q_ hj λak ar hj=>So (gU Tryz.func6) (yG N (i0:=2) (i1:=15) j zr zr ar) λw j=>SM (⟨zt,j.eU 0⟩)<|SX zr<|q_ hj λal au hj=>So (gU Tryz.func7) (rZ N (i0:=1) (i1:=15) j zr zr au) λw j=>SM (⟨zt,j.eU 0⟩)<|Sq zr<|ic ak al<|aR zr<|fC (ak==al)<|St<|eH hj (λad hj=>?_) λad hj=>?_;refine Sq zr<|Sv 11 p0 j nX λba j=>aR zr<|Si v2 (cg ad)<|St<|Tx (hg:=cg ad) p0 12 zr j nX λbb a101 bc j=>SF v2 zr (λw=>Si v2 (cg ad) SC)<|SX zr<|q_ hj λai av hj=>So (gU Tryz.func8) (yH N (i0:=2) (i1:=17) j zr zr av) λw j=>SM (⟨⟨zt,j.eU 3⟩,j.eU 0⟩)<|SX zr<|q_ hj λaj aw hj=>So RX (m6 N (i0:=1) (i1:=17) j zr zr aw) λw j=>SM (⟨⟨zt,j.eU 3⟩,j.eU 0⟩)<|Sq zr<|Tc ai aj (cg ad)<|aR zr<|eE ad (vb<|ai==aj)<|aR zr<|fC (ai==aj)<|St ?_;refine eH hj (λae hj=>?_) λae hj=>?_;refine Sq zr<|Si (vb o.1) (cg ae)<|aR zr<|Si (vb aa.1) (cg ae)<|aR zr<|UU (a:=o.1) (b:=aa.1) (cg ae) zr zr zr Pc<|aR zr<|eE ae (vb<|o.1==aa.1)<|aR zr ?_;refine fC (o.1==aa.1)<|aR rfl<|BY true (o.1==aa.1) (vi o.2) rfl rfl rfl cG<|aR rfl<|BY true (o.1==aa.1) (vi aa.2) rfl rfl rfl cG<|aR rfl<|BY true (o.1==aa.1) (vb<|o.2==aa.2) rfl rfl rfl (dB .eql .i64 o.2 aa.2 rfl (by exact z_ (vi o.2)) (by exact z_ (vi aa.2)) rfl)<|aR rfl<|SQ (o.1==aa.1) (vb<|(o.1==aa.1)&&(o.2==aa.2)) (fR true) ?_;refine aR zr<|fC ((o.1==aa.1)&&(o.2==aa.2))<|St<|eH hj (λag hj=>?_) λag hj=>?_;refine SX zr<|q_ hj λan ax hj=>So (gU Tryz.func10) (vq N j ax) λw j=>SM (⟨⟨zt,j.eU 3⟩,j.eU 0⟩)<|Sq zr<|eE ag (vb an)<|aR zr<|bY an<|St ?_;have j:=j.pl 20 [1,2,4,5,6,7,8,9,10,11,12,13,14,15,16,17,18,19];exact SG<|oi hj▸⟨rfl,j.sp 18 []⟩;refine SX zr<|aV ag<|SM (⟨⟨zt,j.eU 3⟩,j.eU 0⟩)<|Sq zr<|eE ag (vb false)<|aR zr<|bY false<|St ?_;have j:=j.pl 20 [1,2,4,5,6,7,8,9,10,11,12,13,14,15,16,17,18,19];exact SG<|oi hj▸⟨rfl,j.sp 18 []⟩;refine Sq zr<|aV ae<|aR zr<|aV ae<|aR zr<|aV ae<|aR zr<|eE ae (vb false)<|aR zr<|fC false<|aR zr<|ke<|aR zr<|ke<|aR zr<|ke<|aR zr<|SQ false (vb false) zr ?_;refine aR zr<|fC false<|mW zr<|ke<|SM (⟨⟨zt,j.eU 3⟩,j.eU 0⟩)<|Sq zr<|SQ false (vb false) zr<|aR zr<|bY false<|St ?_;have j:=j.pl 20 [1,2,4,5,6,7,8,9,10,11,12,13,14,15,16,17,18,19];exact SG<|oi hj▸⟨rfl,j.sp 18 []⟩;refine Sq zr<|aV ad<|aR zr<|aV ad<|St<|SF undef zr (λw=>aV ad SC)<|SF undef zr (λw=>aV ad SC)<|SX zr<|aV ad<|SM (⟨zt,j.eU 0⟩)<|SX zr<|aV ad<|SM (⟨zt,j.eU 0⟩)<|Sq zr<|aV ad<|aR zr<|eE ad (vb false)<|aR zr ?_;refine fC false<|aR zr<|ke<|aR zr<|ke<|aR zr<|ke<|aR zr<|SQ false (vb false) zr<|aR zr<|fC false<|aR zr<|ke<|aR zr<|ke<|aR zr<|ke<|aR zr ?_;refine SQ false (vb false) zr<|aR zr<|fC false<|mW zr<|ke<|SM (⟨zt,j.eU 0⟩)<|Sq zr<|SQ false (vb false) zr<|aR zr<|bY false<|St ?_;have j:=j.pl 17 [1,2,3,4,5,6,7,8,9,10,11,12,13,14,15,16];exact SG<|oi hj▸⟨rfl,j.sp 16 []⟩;rintro _ w⟨O,rfl,j⟩;exact aF<|Ss<|oi hb▸bV ⟨rfl,j.drop 0⟩
end Go.Gk
