/-
  Printed texts: Go functions as plain functions, and that they are. No statement of the seed is proved here.
-/
import Derived.Test.YtfidohbopcdgdaaGreatDoorG1
import Derived.Test.YtfidohbopcdgdaaGreatDoorG2
import Derived.Test.YtfidohbopcdgdaaGreatDoorG4
import Derived.Test.YtfidohbopcdgdaaGreatDoorG3
import Derived.Test.YtfidohbopcdgdaaGreatDoorA2
set_option linter.unusedVariables false
set_option linter.unusedSimpArgs false
set_option linter.unusedSectionVars false
set_option maxRecDepth 100000
set_option maxHeartbeats 40000000
namespace Go.Gk
open Go IntKind Go.Proofs
variable (N:Nat){E w:World}{b0 i0 i3:Nat}{p1 res:Int}{v0 b_ a_ f_ e_ g_ h_ v3:Value}{V:List HP}
def eU(E:World)(V:List HP)(b0:Nat)(b_ a_:Value)(res:List Part×List aN×List (List Pin)×List Int)(v:Value)(w:World):Prop:=∃(r_ s_ o_:Value)(uw0_4:List RV)(t_:Value),v = .tuple #[]/\Holds E w ([bc 54 b0 [b_,a_,r_,s_,o_,t_],own 77 r_ res.1,own 9 s_ res.2.1,own 78 o_ uw0_4,jV (XS 83 Pin) uw0_4 res.2.2.1 none,own 3 t_ res.2.2.2]++V)
theorem lT(rc:List aF->List Part->List aN->List (List Pin)->List Int->Int->aN->List Int->Option (List Part×List aN×List (List Pin)×List Int))(ih:∀{E w:World}{V:List HP}{b0:Nat}{b_ a_:Value}{j_:List aF}{f_:Value}{i_:List Part}{e_:Value}{d_:List aN}{g_:Value}{us0_4:List RV}{k_:List (List Pin)}{h_:Value}{l_:List Int}{p1:Int}{p2:aN}{i3:Nat}{v3:Value}{p3:List Int}{res:List Part×List aN×List (List Pin)×List Int}(hw:Holds E w (bc 54 b0 [b_,a_,f_,e_,g_,h_]::rd a_ j_::own 77 f_ i_::own 9 e_ d_::own 78 g_ us0_4::jV (XS 83 Pin) us0_4 k_ none::own 3 h_ l_::V))(h3:V[i3]? =some (rd v3 p3))(hb:rc j_ i_ d_ k_ l_ p1 p2 p3=some res),Calls bE 18 [vp b0 0,vi p1,str p2,v3].toArray w<|fD<|eU E V b0 b_ a_ res){j_:List aF}{i_:List Part}{d_:List aN}{us0_4:List RV}{k_:List (List Pin)}{l_:List Int}{p2:aN}{p3:List Int}{res:List Part×List aN×List (List Pin)×List Int}(hw:Holds E w (bc 54 b0 [b_,a_,f_,e_,g_,h_]::rd a_ j_::own 77 f_ i_::own 9 e_ d_::own 78 g_ us0_4::jV (XS 83 Pin) us0_4 k_ none::own 3 h_ l_::V))(h3:V[i3]? =some (rd v3 p3))(hb:dE N rc j_ i_ d_ k_ l_ p1 p2 p3=some res):
    c_ 18 [vp b0 0,vi p1,str p2,v3] w<|eU E V b0 b_ a_ res:=by
 unfold dE at hb
 refine enter Tryz.func18 zr zr ?_
 have hw:=hw.dup (i3+7) h3
 refine u_<|mv (vp b0 0)<|Kt zt zr zr<|y_ zr yI<|Kh 1 a_ hw yE<|bA p1 ?_
 obtain⟨aj,d8,hb⟩:=bd hb
 refine BY 2 hw rJ d8 λf6 hw=>D_ 0 aj hw rK λf7 hw=>J_ hw B0.z λaw w hw=>?_
 refine IS 0 hw 1 zr rK λw hw=>?_
 refine AS<|u_<|y_ zr oA<|H_ 0 hw zr iZ m7 λdi hw=>B_ 0 aj.bB hw rL<|bA 0<|v_<|KR E V (λ(bw:List Part)(dj:Value)=>[bc 54 b0 [b_,a_,dj,e_,g_,h_],own 77 dj bw,rd a_ j_,own 9 e_ d_,own 78 g_ us0_4,jV (XS 83 Pin) us0_4 k_ none,own 3 h_ l_,rd v3 p3,bx 57 aw aj,rd di aj.bB]) (λ_ _=>[(0,vp b0 0),(2,str p2),(3,v3),(8,vp aw 0)]) (λc7 _ _=>[(36,di),(37,vi aj.bB.length),(38,vi c7)]) hb ?_ ?_ ?_
 ·exact⟨f_,hw.sp 12 [5,7,6,8,9,10,11,4,1,0]⟩
 ·rintro hm c7 bw s' _ w hk⟨c8,O,rfl,hw⟩hb
  refine A_<|F_ ?_
  obtain⟨cc,d9,hb⟩:=bd hb
  refine BY 9 hw oB d9 λf8 hw=>D_ 0 cc hw nC λf9 hw=>J_ hw vT.z λga w hw=>?_
  refine IS 0 hw 1 zr nC λw hw=>?_
  refine v_ ?_
  have hw:=hw.drew
  refine Lc (λw=>Holds E w<|[bc 54 b0 [b_,a_,c8,e_,g_,h_]]++V) mixed [1,1,1,1,1,0,0,0,0,0,0,0,2,2,0,0,2] [0,1,2,3,4,5,6,7,8,9,10,11,12,13,14,15,16] (hw.pk 13 [3])<|Kw (vp b0 0) zr (λw=>IN (vp b0 0) zt Kp)<|Kw (vp b0 0) zr (λw=>IN (vp b0 0) zt Kp)<|Kw (vp b0 0) zr (λw=>Kt zt zr zr Kp)<|Kw (vp b0 2) zr (λw=>y_ zr AG Kp)<|K5 c8 zr (λw hw=>Kh 0 c8 hw m7 Kp)<|Kf zr zr<|mv (str p2)<|cI zr ?_
  refine y_ zr kV<|cI zr<|C_ 0 hw zr gD dP<|cI zr ?_
  obtain⟨cp,ea,hb⟩:=bd hb
  refine K3 p2 cc.Name ea<|cI zr<|y_ zr tQ<|cI zr<|C_ 0 hw zr mJ dP<|cI zr ?_
  have hw:=(hw.sc aN cp).sc aN cc.eD
  refine KS (⟨cp,cc.eD⟩:Part) trivial rfl hw [(0,str cp),(1,str cc.eD)] rfl FX rfl (λM hs g=>by have h:=yC M;exact dQ.cons (f:=λ(x:Part)y=>{x with Name:=y}) h u6 (g.sat 1 _ rfl).1 λ_ h=>dQ.cons (f:=λ(x:Part)y=>{x with eD:=y}) h u7 (g.sat 0 _ rfl).1 λ_ h=>dQ.nil h) λeb hw=>?_
  refine u3 zr<|KD ([(⟨cp,cc.eD⟩:Part)]:List Part) hw [eb] oB vT (λM hs g=>⟨(g.sat 0 _ zr).1,zt⟩) λgb w hw=>Kx (hw.pk 17 [7])<|KQ zr zr ?_
  have hw:=hw.freeze 0
  obtain⟨gd,ec,hb⟩:=bd hb
  refine KE 8 0 zt zr hw zr zr zr zr FY ec λdk w hw=>?_
  refine Kx (hw.pk 17 [7])<|Kf zr zr<|Kt zt zr zr<|cI zr<|y_ zr AG<|Kq<|Ma zr zr<|K4 7 dk hw zr zr (j4 8 hw) m7 λw hw=>?_
  refine Kx zt<|KC<|bF<|aD<|By<|IT hk hm<|bA ((c7+1:Nat):Int)<|x_ ?_
  obtain rfl:=oi hb
  exact⟨rfl,dk,hw.sp 17 [7,8,9,10,11,12,13,14,15,16]⟩
 rintro bw _ w hb⟨al,O,rfl,hw⟩
 refine aD<|u_<|mv (vp b0 0)<|Kt zt zr zr<|y_ zr so<|Kh 0 e_ hw lH<|KM 3 d_ hw n0<|aK (d_.length:Int)<|AS ?_
 refine u_<|y_ zr nD<|H_ 8 hw zr iz ly λbm hw=>B_ 0 aj.aM hw qn<|bA 0<|v_ ?_
 obtain⟨a5,hN,hb⟩:=bd hb
 refine Lt (λ(ak:Nat)(a5:List aN×List (List Pin)×List Int)U w=>∃(dm dn:Value)(us596:List RV)(dp:Value),SH E V [(0,vp b0 0),(2,str p2),(3,v3),(8,vp aw 0),(11,vi d_.length),(65,bm),(66,vi aj.aM.length),(67,vi ak)] [bc 54 b0 [b_,a_,al,dm,dn,dp],own 9 dm a5.1,own 78 dn us596,jV (XS 83 Pin) us596 a5.2.1 none,own 3 dp a5.2.2,rd a_ j_,own 77 al bw,rd v3 p3,bx 57 aw aj,rd bm aj.aM] U w) (λ(a5:List aN×List (List Pin)×List Int)U w=>∃(cq cr:Value)(us600:List RV)(ct:Value),SH E V [(0,vp b0 0),(2,str p2),(8,vp aw 0),(11,vi d_.length)] [bc 54 b0 [b_,a_,al,cq,cr,ct],own 9 cq a5.1,own 78 cr us600,jV (XS 83 Pin) us600 a5.2.1 none,own 3 ct a5.2.2,rd a_ j_,own 77 al bw,rd v3 p3,bx 57 aw aj,rd bm aj.aM] U w) hN ?_ ?_ ?_ ?_
 ·exact⟨e_,g_,us0_4,h_,hw.sp 11 [1,4,5,6,7,3,2,8,9,0]⟩
 ·rintro hm a5 _ w⟨ed,ee,us864,ef,O,rfl,hw⟩
  refine u_<|ic ((aj.aM.length:Int)) ((aj.aM.length:Int))<|AS<|Lk Gm<|KF ?_
  exact⟨rfl,ed,ee,us864,ef,hw.sp 10 [0,1,2,3,4,5,6,7,8,9]⟩
 ·rintro hm ak a5 s' _ w hk⟨b1,bf,us604,a1,O,rfl,hw⟩hb
  refine u_<|ic ((ak:Int)) ((aj.aM.length:Int))<|AS<|K0 (Gl hk)<|Kb<|F_<|bA (ak:Int) ?_
  obtain⟨a4,eg,hb⟩:=bd hb
  refine BY 9 hw n4 eg λeh hw=>D_ 0 a4 hw mx λei hw=>J_ hw tT.z λb8 w hw=>?_
  refine aK (ak:Int)<|IS 0 hw 1 zr mx λw hw=>?_
  refine AS ?_
  obtain⟨b4,ej,hb⟩:=bd hb
  obtain⟨cd,ek,hb⟩:=bd hb
  obtain⟨da,el,hb⟩:=bd hb
  obtain⟨en,er,hb⟩:=bd hb
  refine Lb E V mixed [1,1,1,1,1,1,0,1,1,0,0,0,0,1,1,1,0,0,0,1,1,1,0,1,1,1,0,0,1,1,0,1,1,0,1,1,0] [11,12,17,18,26,27,30,33,36] (λ(x:Value×Value×Value×Value×Value×Value)=>(λar au av ai ah an=>[(0,72,vp b0 0),(1,73,vp b0 0),(2,74,vp b0 0),(3,75,vp b0 0),(4,76,vp b0 0),(5,77,vp b0 3),(6,78,b1),(7,79,str p2),(8,80,vp b8 0),(9,81,str a4.Name),(10,82,str b4),(11,83,ar),(12,84,ai),(13,85,vp b0 0),(14,86,vp b0 0),(15,87,vp b0 4),(16,88,bf),(17,89,au),(18,90,ah),(19,91,vp b0 0),(20,92,vp b0 0),(21,93,vp b0 5),(22,94,a1),(23,95,vi d_.length),(24,96,vi ak),(25,97,vi<|wrap .i64<|(d_.length:Int)+(ak:Int)),(26,98,av),(27,99,an),(28,100,vp b0 0),(29,101,vp b0 3),(31,102,vp b0 0),(32,103,vp b0 4),(34,104,vp b0 0),(35,105,vp b0 5)]) x.1 x.2.1 x.2.2.1 x.2.2.2.1 x.2.2.2.2.1 x.2.2.2.2.2) [(0,vp b0 0),(2,str p2),(3,v3),(8,vp aw 0),(11,vi d_.length),(12,vi ak),(13,vp b8 0),(65,bm),(66,vi aj.aM.length),(67,vi ak)] [] (λ(D:Nat->Bool)(x:Value×Value×Value×Value×Value×Value)=>(λar au av ai ah an=>[bif D 1 then rd ar ([b4]:List aN)else(bif D 0 then own 9 ar ([b4]:List aN)else cN),bif D 3 then rd au ([rv<|.slice none 0 0]:List RV)else(bif D 2 then own 78 au ([rv<|.slice none 0 0]:List RV)else cN),bif D 3 then cN else(bif D 2 then own 83 n_ ([]:List Pin)else cN),bif D 5 then rd av ([wrap .i64<|(d_.length:Int)+(ak:Int)]:List Int)else(bif D 4 then own 3 av ([wrap .i64<|(d_.length:Int)+(ak:Int)]:List Int)else cN),bx 80 b8 a4,rd ei a4,pt eh a4,bif D 8 then bc 54 b0 [b_,a_,al,ai,ah,an]else(bif D 7 then bc 54 b0 [b_,a_,al,ai,ah,a1]else(bif D 6 then bc 54 b0 [b_,a_,al,ai,bf,a1]else bc 54 b0 [b_,a_,al,b1,bf,a1])),bif D 1 then own 9 ai cd else own 9 b1 a5.1,bif D 3 then own 78 ah (us604++[rv<|.slice none 0 0])else own 78 bf us604,bif D 3 then jV (XS 83 Pin) (us604++[rv<|.slice none 0 0]) da none else jV (XS 83 Pin) us604 a5.2.1 none,bif D 5 then own 3 an en else own 3 a1 a5.2.2,rd a_ j_,own 77 al bw,rd v3 p3,bx 57 aw aj,rd bm aj.aM]) x.1 x.2.1 x.2.2.1 x.2.2.2.1 x.2.2.2.2.1 x.2.2.2.2.2) (λx=>by kernel_rfl) ?_ ⟨λ_=>j6 gn,λ_=>j6 gn,λ_=>j6 gn,λ_=>j6 gn,λ_=>sd gn,λ_=>nB gn so,?_,λ_=>j6 gn,λ_=>nB gn jP,?_,?_,?_,?_,λ_=>j6 gn,λ_=>sd gn,λ_=>nB gn wO,?_,?_,?_,λ_=>j6 gn,λ_=>sd gn,λ_=>nB gn tV,?_,λ_=>j6 gn,λ_=>j6 gn,λ_=>ER gn rfl,?_,?_,λ_=>sd gn,λ_=>nB gn so,?_,λ_=>sd gn,λ_=>nB gn wO,?_,λ_=>sd gn,λ_=>nB gn tV,?_,trivial⟩ ?_
  ·have hw:=((((hw.drew).cN).cN).cN).cN
   exact⟨(undef,undef,undef,undef,undef,undef),cH.none,Dn zr,zt,hw⟩
  ·rintro D U w hD af ae⟨⟨ar,au,av,ai,ah,an⟩,hv,ha,_,hw⟩
   obtain⟨O,rfl⟩:=hv.o1 5 af
   have hw:=((hw.cG 7<|nh ae hD 36).cG 7<|nh ae hD 33).cG 7<|nh ae hD 30
   refine Kh 7 b1 hw lH ?_
   have hw:=((hw.hY 7 (D 30) (nh ae hD 30)<|bc 54 b0 [b_,a_,al,ai,bf,a1]).hY 7 (D 33) (nh ae hD 33)<|bc 54 b0 [b_,a_,al,ai,ah,a1]).hY 7 (D 36) (nh ae hD 36)<|bc 54 b0 [b_,a_,al,ai,ah,an]
   exact Kd (ar,au,av,ai,ah,an) 6 hv ha hw
  ·rintro D U w hD af ae⟨⟨ar,au,av,ai,ah,an⟩,hv,ha,_,hw⟩
   obtain⟨O,rfl⟩:=hv.o1 8 af
   refine C_ 4 hw zr gE dP ?_
   exact Kd (ar,au,av,ai,ah,an) 9 hv ha hw
  ·rintro D U w hD af ae⟨⟨ar,au,av,ai,ah,an⟩,hv,ha,_,hw⟩
   obtain⟨O,rfl⟩:=hv.o2 7 9 af
   refine K3 p2 a4.Name ej ?_
   exact Kd (ar,au,av,ai,ah,an) 10 hv ha hw
  ·rintro D U w hD af ae⟨⟨ar,au,av,ai,ah,an⟩,hv,ha,_,hw⟩
   obtain⟨O,rfl⟩:=hv.o1 10 af
   have hw:=((hw.cG 0<|nh ae hD 12).cG 0 hD).sc aN b4
   refine KD ([b4]:List aN) hw [str b4] m6 JP (λM hs g=>⟨(g.sat 0 _ zr).1,zt⟩) λdq w hw=>?_
   have hw:=((hw.pl 19 [0,3,4,5,6,7,8,9,10,11,12,13,14,15,16,17,18] rfl).fS 0 true cN).hY 0 (D 12) (nh ae hD 12)<|rd dq ([b4]:List aN)
   exact Kd (dq,au,av,ai,ah,an) 11 hv ha hw
  ·rintro D U w hD af ae⟨⟨ar,au,av,ai,ah,an⟩,hv,ha,_,hw⟩
   obtain⟨O,rfl⟩:=hv.o2 6 11 af
   have hw:=((((((hw.cG 0 hD).jg 0<|af.2.1 rfl).cG 7<|nh ae hD 36).cG 7<|nh ae hD 33).cG 7<|nh ae hD 30).cG 8 hD).freeze 0
   refine KE 8 0 zt zr hw zr zr zr zr F6 ek λcu w hw=>?_
   dsimp only[List.cons_append,List.nil_append,List.set_cons_zero,List.set_cons_succ]at hw
   have hw:=((hw.fS 0 true (bif D 11 then own 9 ar ([b4]:List aN)else cN)).hY 7 (D 30) (nh ae hD 30)<|bc 54 b0 [b_,a_,al,cu,bf,a1]).hY 7 (D 33) (nh ae hD 33)<|bc 54 b0 [b_,a_,al,cu,ah,a1]
   have hw:=(hw.hY 7 (D 36) (nh ae hD 36)<|bc 54 b0 [b_,a_,al,cu,ah,an]).fS 8 true<|own 9 b1 a5.1
   exact Kd (ar,au,av,cu,ah,an) 12 hv ha hw
  ·rintro D U w hD af ae⟨⟨ar,au,av,ai,ah,an⟩,hv,ha,_,hw⟩
   obtain⟨O,rfl⟩:=hv.o1 15 af
   have hw:=((hw.cG 7<|nh ae hD 36).cG 7<|nh ae hD 33).cG 7<|nh ae hD 30
   refine Kh 7 bf hw zM ?_
   have hw:=((hw.hY 7 (D 30) (nh ae hD 30)<|bc 54 b0 [b_,a_,al,ai,bf,a1]).hY 7 (D 33) (nh ae hD 33)<|bc 54 b0 [b_,a_,al,ai,ah,a1]).hY 7 (D 36) (nh ae hD 36)<|bc 54 b0 [b_,a_,al,ai,ah,an]
   exact Kd (ar,au,av,ai,ah,an) 16 hv ha hw
  ·rintro D U w hD af ae⟨⟨ar,au,av,ai,ah,an⟩,hv,ha,_,hw⟩
   obtain⟨O,rfl⟩:=H3 U
   have hw:=(((((hw.cG 1<|nh ae hD 18).cG 1 hD).cG 2<|nh ae hD 18).cG 2 hD).gL Pin 83).C5 (i:=0) rfl
   refine KD ([rv<|.slice none 0 0]:List RV) hw [n_] xu Hb (λM hs g=>⟨(g.sat 0 _ zr).1,zt⟩) λdr w hw=>?_
   dsimp only[List.cons_append,List.nil_append,List.set_cons_zero,List.set_cons_succ]at hw
   have hw:=((((hw.pl 20 [3,0,2,6,7,8,9,10,11,12,13,14,15,16,17,18,19] rfl).fS 1 true cN).hY 1 (D 18) (nh ae hD 18)<|rd dr ([rv<|.slice none 0 0]:List RV)).fS 2 true cN).hY 2 (D 18) (nh ae hD 18) cN
   exact Kd (ar,dr,av,ai,ah,an) 17 hv ha hw
  ·rintro D U w hD af ae⟨⟨ar,au,av,ai,ah,an⟩,hv,ha,_,hw⟩
   obtain⟨O,rfl⟩:=hv.o2 16 17 af
   have hw:=(((((((hw.cG 1 hD).jg 1<|af.2.1 rfl).cG 2 hD).jg 2<|af.2.1 rfl).cG 7<|nh ae hD 36).cG 7<|nh ae hD 33).cG 7<|nh ae hD 30).cG 9 hD
   have hw:=(hw.cG 10 hD).freeze 1
   refine Mm (i:=9) (j:=1) (b:=10) (o:=2) trivial rfl hw rfl rfl rfl rfl rfl rfl (by decide) (by decide) (by decide) F0 el λdb w hw=>?_
   dsimp only[List.cons_append,List.nil_append,List.set_cons_zero,List.set_cons_succ]at hw
   have hw:=((hw.fS 1 true (bif D 17 then own 78 au ([rv<|.slice none 0 0]:List RV)else cN)).fS 2 true (bif D 17 then own 83 n_ ([]:List Pin)else cN)).hY 7 (D 30) (nh ae hD 30)<|bc 54 b0 [b_,a_,al,ai,bf,a1]
   have hw:=(((hw.hY 7 (D 33) (nh ae hD 33)<|bc 54 b0 [b_,a_,al,ai,db,a1]).hY 7 (D 36) (nh ae hD 36)<|bc 54 b0 [b_,a_,al,ai,db,an]).fS 9 true<|own 78 bf us604).fS 10 true<|jV (XS 83 Pin) us604 a5.2.1 none
   exact Kd (ar,au,av,ai,db,an) 18 hv ha hw
  ·rintro D U w hD af ae⟨⟨ar,au,av,ai,ah,an⟩,hv,ha,_,hw⟩
   obtain⟨O,rfl⟩:=hv.o1 21 af
   have hw:=((hw.cG 7<|nh ae hD 36).cG 7<|nh ae hD 33).cG 7<|nh ae hD 30
   refine Kh 7 a1 hw tU ?_
   have hw:=((hw.hY 7 (D 30) (nh ae hD 30)<|bc 54 b0 [b_,a_,al,ai,bf,a1]).hY 7 (D 33) (nh ae hD 33)<|bc 54 b0 [b_,a_,al,ai,ah,a1]).hY 7 (D 36) (nh ae hD 36)<|bc 54 b0 [b_,a_,al,ai,ah,an]
   exact Kd (ar,au,av,ai,ah,an) 22 hv ha hw
  ·rintro D U w hD af ae⟨⟨ar,au,av,ai,ah,an⟩,hv,ha,_,hw⟩
   obtain⟨O,rfl⟩:=hv.o1 25 af
   have hw:=((hw.cG 3<|nh ae hD 27).cG 3 hD).sc Int<|wrap .i64<|(d_.length:Int)+(ak:Int)
   refine KD ([wrap .i64<|(d_.length:Int)+(ak:Int)]:List Int) hw [vi<|wrap .i64<|(d_.length:Int)+(ak:Int)] m8 Gq (λM hs g=>⟨(g.sat 0 _ zr).1,zt⟩) λds w hw=>?_
   have hw:=((hw.pl 19 [2,3,4,0,6,7,8,9,10,11,12,13,14,15,16,17,18] rfl).fS 3 true cN).hY 3 (D 27) (nh ae hD 27)<|rd ds ([wrap .i64<|(d_.length:Int)+(ak:Int)]:List Int)
   exact Kd (ar,au,ds,ai,ah,an) 26 hv ha hw
  ·rintro D U w hD af ae⟨⟨ar,au,av,ai,ah,an⟩,hv,ha,_,hw⟩
   obtain⟨O,rfl⟩:=hv.o2 22 26 af
   have hw:=((((((hw.cG 3 hD).jg 3<|af.2.1 rfl).cG 7<|nh ae hD 36).cG 7<|nh ae hD 33).cG 7<|nh ae hD 30).cG 11 hD).freeze 3
   refine KE 11 3 zt zr hw zr zr zr zr B2 er λdt w hw=>?_
   dsimp only[List.cons_append,List.nil_append,List.set_cons_zero,List.set_cons_succ]at hw
   have hw:=(hw.fS 3 true (bif D 26 then own 3 av ([wrap .i64<|(d_.length:Int)+(ak:Int)]:List Int)else cN)).hY 7 (D 30) (nh ae hD 30)<|bc 54 b0 [b_,a_,al,ai,bf,a1]
   have hw:=((hw.hY 7 (D 33) (nh ae hD 33)<|bc 54 b0 [b_,a_,al,ai,ah,a1]).hY 7 (D 36) (nh ae hD 36)<|bc 54 b0 [b_,a_,al,ai,ah,dt]).fS 11 true<|own 3 a1 a5.2.2
   exact Kd (ar,au,av,ai,ah,dt) 27 hv ha hw
  ·rintro D U w hD af ae⟨⟨ar,au,av,ai,ah,an⟩,hv,ha,_,hw⟩
   obtain⟨O,rfl⟩:=hv.o2 29 12 af
   have hw:=(((hw.cG 7<|nh ae hD 36).cG 7<|nh ae hD 33).cG 7 hD).jg 8<|af.2.1 rfl
   refine K4 7 ai hw zr zr (j4 8 hw) lH λw hw=>?_
   have hw:=(((hw.fS 7 true<|bc 54 b0 [b_,a_,al,b1,bf,a1]).hY 7 (D 33) (nh ae hD 33)<|bc 54 b0 [b_,a_,al,ai,ah,a1]).hY 7 (D 36) (nh ae hD 36)<|bc 54 b0 [b_,a_,al,ai,ah,an]).fS (hb:=af.2.1 rfl) 8 (D 12)<|own 9 b1 a5.1
   exact K7 (ar,au,av,ai,ah,an) hv ha hw
  ·rintro D U w hD af ae⟨⟨ar,au,av,ai,ah,an⟩,hv,ha,_,hw⟩
   obtain⟨O,rfl⟩:=hv.o2 31 18 af
   have hw:=((((hw.cG 7<|nh ae hD 36).cG 7 hD).jg 7<|af.2.2.1 rfl).jg 9<|af.2.1 rfl).jg 10<|af.2.1 rfl
   refine K4 7 ah hw zr zr (j4 9 hw) zM λw hw=>?_
   dsimp only[List.cons_append,List.nil_append,List.set_cons_zero,List.set_cons_succ]at hw
   have hw:=(((hw.fS 7 true (bif D 30 then bc 54 b0 [b_,a_,al,ai,bf,a1]else bc 54 b0 [b_,a_,al,b1,bf,a1])).hY 7 (D 36) (nh ae hD 36)<|bc 54 b0 [b_,a_,al,ai,ah,an]).fS (hb:=af.2.1 rfl) 9 (D 18)<|own 78 bf us604).fS (hb:=af.2.1 rfl) 10 (D 18)<|jV (XS 83 Pin) us604 a5.2.1 none
   exact K7 (ar,au,av,ai,ah,an) hv ha hw
  ·rintro D U w hD af ae⟨⟨ar,au,av,ai,ah,an⟩,hv,ha,_,hw⟩
   obtain⟨O,rfl⟩:=hv.o2 33 27 af
   have hw:=((hw.cG 7 hD).jg 7<|af.2.2.1 rfl).jg 11<|af.2.1 rfl
   refine K4 7 an hw zr zr (j4 11 hw) tU λw hw=>?_
   have hw:=(hw.fS 7 true (bif D 33 then bc 54 b0 [b_,a_,al,ai,ah,a1]else(bif D 30 then bc 54 b0 [b_,a_,al,ai,bf,a1]else bc 54 b0 [b_,a_,al,b1,bf,a1]))).fS (hb:=af.2.1 rfl) 11 (D 27)<|own 3 a1 a5.2.2
   exact K7 (ar,au,av,ai,ah,an) hv ha hw
  rintro D U w ay⟨⟨ar,au,av,ai,ah,an⟩,hv,ha,_,hw⟩
  simp only[List.getD_cons_zero,List.getD_cons_succ,ay 12 (by decide),ay 18 (by decide),ay 18 (by decide),ay 27 (by decide),ay 36 (by decide),ay 12 (by decide),ay 18 (by decide),ay 18 (by decide),ay 27 (by decide),bK]at hw
  obtain⟨O,rfl⟩:=ha.sV
  refine aD<|A_<|u_<|y_ zr mK<|H_ 4 hw zr jO lH λcv hw=>B_ 0 a4.aO hw n0<|bA 0<|v_<|KR E V (λ(cf:List Int)(du:Value)=>[bc 54 b0 [b_,a_,al,ai,ah,du],own 3 du cf,rd a_ j_,own 77 al bw,own 9 ai cd,own 78 ah<|us604++[rv<|.slice none 0 0],jV (XS 83 Pin) (us604++[rv<|.slice none 0 0]) da none,rd v3 p3,bx 57 aw aj,bx 80 b8 a4,rd bm aj.aM,rd cv a4.aO]) (λ_ _=>[(0,vp b0 0),(2,str p2),(3,v3),(8,vp aw 0),(11,vi d_.length),(12,vi ak),(13,vp b8 0),(65,bm),(66,vi aj.aM.length),(67,vi ak)]) (λcw _ _=>[(107,cv),(108,vi a4.aO.length),(109,vi cw)]) hb ?_ ?_ ?_
  ·exact⟨an,hw.sp 18 [8,12,13,14,9,10,11,15,16,5,17,0]⟩
  ·rintro hm cw cf s' _ w hk⟨et,O,rfl,hw⟩hb
   refine A_<|F_ ?_
   obtain⟨cx,eu,hb⟩:=bd hb
   refine BY 11 hw m6 eu λgf hw=>Ki cx 0 hw dP<|iT (str cx)<|AI<|mv v3<|y_ zr pW<|H_ 9 hw zr jy lH λgg hw=>mv (str cx) ?_
   obtain⟨gh,ev,hb⟩:=bd hb
   refine AT GX (mf N (p1:=cx) (i0:=0) hw zr ev) λw hw=>?_
   obtain⟨cg,ew,hb⟩:=bd hb
   refine BY 9 hw m8 ew λgi hw=>Ki cg 0 hw oZ<|aK cg<|AI<|bA cg<|ic cg 0<|v_ ?_
   obtain⟨dc,hj,hb⟩:=bd hb
   refine Ke (λ(dc:List Int)U w=>∃cy:Value,SH E V [(0,vp b0 0),(2,str p2),(3,v3),(8,vp aw 0),(11,vi d_.length),(12,vi ak),(13,vp b8 0),(65,bm),(66,vi aj.aM.length),(67,vi ak),(107,cv),(108,vi a4.aO.length),(109,vi cw)] [bc 54 b0 [b_,a_,al,ai,ah,cy],own 3 cy dc,rd a_ j_,own 77 al bw,own 9 ai cd,own 78 ah<|us604++[rv<|.slice none 0 0],jV (XS 83 Pin) (us604++[rv<|.slice none 0 0]) da none,rd v3 p3,bx 57 aw aj,bx 80 b8 a4,rd bm aj.aM,rd cv a4.aO] U w) dc ?_ ?_
   ·refine cV hj (λhj=>?_) λhj=>?_
    rotate_left
    ·refine Kc ?_
     obtain rfl:=oi hj
     exact⟨rfl,et,hw.sp 15 [3,4,5,6,7,8,9,10,11,12,13,14]⟩
    refine By<|mv (vp b0 0)<|bA (d_.length:Int)<|bA (ak:Int)<|J9 (d_.length:Int) (ak:Int)<|bA cg ?_
    have hw:=(hw.pull 4).pull 4
    obtain⟨gj,ey,hj⟩:=bd hj
    refine Kz (hL Tryz.func54) (oO N (p1:=wrap .i64<|(d_.length:Int)+(ak:Int)) (p2:=cg) hw ey) ?_
    rintro _ w⟨ez,rfl,hw⟩
    refine x_ ?_
    obtain rfl:=oi hj
    exact⟨rfl,ez,hw.sp 17 [0,1,7,8,9,10,11,12,13,14,15,16]⟩
   rintro _ w⟨cy,O,rfl,hw⟩
   refine bF<|aD<|By<|IT hk hm<|bA ((cw+1:Nat):Int)<|x_ ?_
   obtain rfl:=oi hb
   exact⟨rfl,cy,hw.sp 12 [0,1,2,3,4,5,6,7,8,9,10,11]⟩
  rintro cf _ w hb⟨b9,O,rfl,hw⟩
  refine aD<|u_<|y_ zr md<|H_ 9 hw zr jt o4 λch hw=>B_ 0 a4.aU hw pY<|bA 0<|v_<|KR E V (λ(bj:List (List Pin))(us796:List RV)=>[bc 54 b0 [b_,a_,al,ai,ah,b9],rd a_ j_,own 77 al bw,own 9 ai cd,own 78 ah us796,jV (XS 83 Pin) us796 bj none,own 3 b9 cf,rd v3 p3,bx 57 aw aj,rd bm aj.aM,rd ch a4.aU]) (λ_ _=>[(0,vp b0 0),(2,str p2),(3,v3),(8,vp aw 0),(11,vi d_.length),(65,bm),(66,vi aj.aM.length),(67,vi ak)]) (λcj _ _=>[(12,vi ak),(130,ch),(131,vi a4.aU.length),(132,vi cj)]) hb ?_ ?_ ?_
  ·exact⟨us604++[rv<|.slice none 0 0],hw.sp 13 [1,3,4,5,6,7,2,8,9,11,0]⟩
  ·rintro hm cj bj s' _ w hk⟨us798,O,rfl,hw⟩hb
   refine A_<|F_ ?_
   obtain⟨bg,e3,hb⟩:=bd hb
   refine BY 10 hw pZ e3 λe4 hw=>D_ 0 bg hw jz λe5 hw=>J_ hw vc.z λcz w hw=>?_
   refine IS 0 hw 1 zr jz λw hw=>?_
   refine AI<|y_ zr oA<|H_ 11 hw zr iZ m7 λe6 hw=>y_ zr mc<|C_ 1 hw zr jr dP ?_
   obtain⟨e7,e8,hb⟩:=bd hb
   refine AT F5 (jS N (p1:=bg.Part) (i0:=0) hw zr e8) λw hw=>ic e7 0<|v_ ?_
   obtain⟨dd,hj,hb⟩:=bd hb
   refine Ke (λ(dd:List (List Pin))U w=>∃(us832:List RV),SH E V [(0,vp b0 0),(2,str p2),(3,v3),(8,vp aw 0),(11,vi d_.length),(12,vi ak),(65,bm),(66,vi aj.aM.length),(67,vi ak),(130,ch),(131,vi a4.aU.length),(132,vi cj)] [bc 54 b0 [b_,a_,al,ai,ah,b9],rd a_ j_,own 77 al bw,own 9 ai cd,own 78 ah us832,jV (XS 83 Pin) us832 dd none,own 3 b9 cf,rd v3 p3,bx 57 aw aj,rd bm aj.aM,rd ch a4.aU] U w) dd ?_ ?_
   ·refine cV hj (λhj=>?_) λhj=>?_
    rotate_left
    ·refine Kc ?_
     obtain rfl:=oi hj
     exact⟨rfl,us798,hw.sp 15 [4,5,6,7,8,9,10,11,12,13,14]⟩
    obtain⟨gk,c0,hj⟩:=bd hj
    obtain⟨bz,e9,hj⟩:=bd hj
    obtain⟨ca,fa,hj⟩:=bd hj
    obtain⟨gl,de,hj⟩:=bd hj
    refine Lb E V mixed [1,1,1,0,1,1,1,1,1,1,0,1,1,1,0,0,1,1,0,0,1,0,0,0,0,0,0] [22,23,24,26] (λ(x:Value×Value×Value)=>(λa0 ax ao=>[(0,142,vp b0 0),(1,143,vp b0 0),(2,144,vp b0 4),(3,145,ah),(4,146,vi d_.length),(5,147,vi ak),(6,148,vi<|wrap .i64<|(d_.length:Int)+(ak:Int)),(7,149,vp b0 0),(8,150,vp b0 0),(9,151,vp b0 4),(10,152,ah),(11,153,vi d_.length),(12,154,vi ak),(13,155,vi<|wrap .i64<|(d_.length:Int)+(ak:Int)),(14,156,Bb ah (Int.toNat<|wrap .i64<|(d_.length:Int)+(ak:Int)) 1 0),(15,157,(us798.getD (Int.toNat<|wrap .i64<|(d_.length:Int)+(ak:Int)) ue).v),(16,158,str p2),(17,159,vp cz 0),(18,160,str bg.Part),(19,161,str bz),(20,162,vp cz 1),(21,163,str bg.Pin),(22,164,a0),(23,165,ax),(24,166,ao),(25,167,Bb ah (Int.toNat<|wrap .i64<|(d_.length:Int)+(ak:Int)) 1 0)]) x.1 x.2.1 x.2.2) [(0,vp b0 0),(2,str p2),(3,v3),(8,vp aw 0),(11,vi d_.length),(12,vi ak),(18,vp cz 0),(65,bm),(66,vi aj.aM.length),(67,vi ak),(130,ch),(131,vi a4.aU.length),(132,vi cj)] [] (λ(D:Nat->Bool)(x:Value×Value×Value)=>(λa0 ax ao=>[bif D 0 then rd a0 (⟨bz,bg.Pin⟩:Pin)else cN,bif D 2 then rd ax ([(⟨bz,bg.Pin⟩:Pin)]:List Pin)else(bif D 1 then own 83 ax ([(⟨bz,bg.Pin⟩:Pin)]:List Pin)else cN),bif D 3 then cN else(bif D 2 then own 83 ao ca else cN),rd e6 aj.bB,bx 83 cz bg,rd e5 bg,pt e4 bg,bc 54 b0 [b_,a_,al,ai,ah,b9],rd a_ j_,own 77 al bw,own 9 ai cd,bif D 3 then own 78 ah (us798.set (Int.toNat<|wrap .i64<|(d_.length:Int)+(ak:Int))<|rv ao)else own 78 ah us798,bif D 3 then jV (XS 83 Pin) (us798.set (Int.toNat<|wrap .i64<|(d_.length:Int)+(ak:Int))<|rv ao) (bj.set (Int.toNat<|wrap .i64<|(d_.length:Int)+(ak:Int)) ca) none else(bif D 2 then jV (XS 83 Pin) us798 bj (some<|Int.toNat<|wrap .i64<|(d_.length:Int)+(ak:Int))else jV (XS 83 Pin) us798 bj none),own 3 b9 cf,rd v3 p3,bx 57 aw aj,rd bm aj.aM,rd ch a4.aU]) x.1 x.2.1 x.2.2) (λx=>by kernel_rfl) ?_ ⟨λ_=>j6 gn,λ_=>sd gn,λ_=>nB gn wO,?_,λ_=>j6 gn,λ_=>j6 gn,λ_=>ER gn rfl,λ_=>j6 gn,λ_=>sd gn,λ_=>nB gn wO,?_,λ_=>j6 gn,λ_=>j6 gn,λ_=>ER gn rfl,?_,?_,λ_=>j6 gn,λ_=>nB gn mc,?_,?_,λ_=>nB gn pX,?_,?_,?_,?_,?_,?_,trivial⟩ ?_
    ·have hw:=(((hw.drew).cN).cN).cN
     exact⟨(undef,undef,undef),cH.none,Dn zr,zt,hw⟩
    ·rintro D U w hD af ae⟨⟨a0,ax,ao⟩,hv,ha,_,hw⟩
     obtain⟨O,rfl⟩:=hv.o1 2 af
     refine Kh 7 ah hw zM ?_
     exact Kd (a0,ax,ao) 3 hv ha hw
    ·rintro D U w hD af ae⟨⟨a0,ax,ao⟩,hv,ha,_,hw⟩
     obtain⟨O,rfl⟩:=hv.o1 9 af
     refine Kh 7 ah hw zM ?_
     exact Kd (a0,ax,ao) 10 hv ha hw
    ·rintro D U w hD af ae⟨⟨a0,ax,ao⟩,hv,ha,_,hw⟩
     obtain⟨O,rfl⟩:=hv.o2 10 13 af
     have hw:=((hw.cG 11<|nh ae hD 26).cG 12<|nh ae hD 26).cG 12<|nf<|λh=>ft hD<|(ae 15 _ rfl<|(ae 24 _ rfl h).1 rfl).1 rfl
     have hl848:=hw.kC 12 rfl
     have hr849:=nX ue hl848 c0
     refine Ks 11 hw zr zr xu hr849 ?_
     have hw:=(hw.hY 11 (D 26) (nh ae hD 26)<|own 78 ah<|us798.set (Int.toNat<|wrap .i64<|(d_.length:Int)+(ak:Int))<|rv ao).hY 12 (D 24) (nf<|λh=>ft hD<|(ae 15 _ rfl<|(ae 24 _ rfl h).1 rfl).1 rfl)<|jV (XS 83 Pin) us798 bj<|some<|Int.toNat<|wrap .i64<|(d_.length:Int)+(ak:Int)
     have hw:=hw.hY 12 (D 26) (nh ae hD 26)<|jV (XS 83 Pin) (us798.set (Int.toNat<|wrap .i64<|(d_.length:Int)+(ak:Int))<|rv ao) (bj.set (Int.toNat<|wrap .i64<|(d_.length:Int)+(ak:Int)) ca) none
     exact Kd (a0,ax,ao) 14 hv ha hw
    ·rintro D U w hD af ae⟨⟨a0,ax,ao⟩,hv,ha,_,hw⟩
     obtain⟨O,rfl⟩:=hv.o1 14 af
     have hw:=((hw.cG 11<|nh ae hD 26).cG 12<|nh ae hD 26).cG 12<|nh ae hD 24
     have hl850:=hw.kC 12 rfl
     have hr851:=nX ue hl850 c0
     refine Mt (i:=11) (b:=12) (jj:=wrap .i64<|(d_.length:Int)+(ak:Int)) (zo 83 Pin) ue zt zr hw zr (BK 11 hw zr hr851 0) zr zr c0 o4 ?_
     have hw:=(hw.hY 11 (D 26) (nh ae hD 26)<|own 78 ah<|us798.set (Int.toNat<|wrap .i64<|(d_.length:Int)+(ak:Int))<|rv ao).hY 12 (D 24) (nh ae hD 24)<|jV (XS 83 Pin) us798 bj<|some<|Int.toNat<|wrap .i64<|(d_.length:Int)+(ak:Int)
     have hw:=hw.hY 12 (D 26) (nh ae hD 26)<|jV (XS 83 Pin) (us798.set (Int.toNat<|wrap .i64<|(d_.length:Int)+(ak:Int))<|rv ao) (bj.set (Int.toNat<|wrap .i64<|(d_.length:Int)+(ak:Int)) ca) none
     exact Kd (a0,ax,ao) 15 hv ha hw
    ·rintro D U w hD af ae⟨⟨a0,ax,ao⟩,hv,ha,_,hw⟩
     obtain⟨O,rfl⟩:=hv.o1 17 af
     refine C_ 4 hw zr jr dP ?_
     exact Kd (a0,ax,ao) 18 hv ha hw
    ·rintro D U w hD af ae⟨⟨a0,ax,ao⟩,hv,ha,_,hw⟩
     obtain⟨O,rfl⟩:=hv.o2 16 18 af
     refine K3 p2 bg.Part e9 ?_
     exact Kd (a0,ax,ao) 19 hv ha hw
    ·rintro D U w hD af ae⟨⟨a0,ax,ao⟩,hv,ha,_,hw⟩
     obtain⟨O,rfl⟩:=hv.o1 20 af
     refine C_ 4 hw zr lx dP ?_
     exact Kd (a0,ax,ao) 21 hv ha hw
    ·rintro D U w hD af ae⟨⟨a0,ax,ao⟩,hv,ha,_,hw⟩
     obtain⟨O,rfl⟩:=hv.o2 19 21 af
     have hw:=((hw.cG 0 hD).sc aN bz).sc aN bg.Pin
     refine KS (⟨bz,bg.Pin⟩:Pin) trivial rfl hw [(0,str bz),(1,str bg.Pin)] rfl B3 rfl (λM hs g=>by have h:=wJ M;exact dQ.cons (f:=λ(x:Pin)y=>{x with Part:=y}) h qj (g.sat 1 _ rfl).1 λ_ h=>dQ.cons (f:=λ(x:Pin)y=>{x with Pin:=y}) h ql (g.sat 0 _ rfl).1 λ_ h=>dQ.nil h) λfb hw=>?_
     have hw:=(hw.pl 21 [0,4,5,6,7,8,9,10,11,12,13,14,15,16,17,18,19,20] rfl).fS 0 true cN
     exact Kd (fb,ax,ao) 22 hv ha hw
    ·rintro D U w hD af ae⟨⟨a0,ax,ao⟩,hv,ha,_,hw⟩
     obtain⟨O,rfl⟩:=hv.o1 22 af
     have hw:=((hw.jg 0<|af.1 rfl).cG 1<|nh ae hD 24).cG 1 hD
     refine KD ([(⟨bz,bg.Pin⟩:Pin)]:List Pin) hw [a0] pZ vc (λM hs g=>⟨(g.sat 0 _ zr).1,zt⟩) λdv w hw=>?_
     have hw:=(((hw.pl 19 [1,0,3,4,5,6,7,8,9,10,11,12,13,14,15,16,17,18] rfl).fS (hb:=af.1 rfl) 0 (D 22) cN).fS 1 true cN).hY 1 (D 24) (nh ae hD 24)<|rd dv ([(⟨bz,bg.Pin⟩:Pin)]:List Pin)
     exact Kd (a0,dv,ao) 23 hv ha hw
    ·rintro D U w hD af ae⟨⟨a0,ax,ao⟩,hv,ha,_,hw⟩
     obtain⟨O,rfl⟩:=hv.o2 15 23 af
     have hw:=(((((((hw.cG 1 hD).jg 1<|af.2.1 rfl).cG 2<|nh ae hD 26).cG 2 hD).cG 11<|nh ae hD 26).cG 12<|nh ae hD 26).cG 12 hD).Ar (j:=12) (jj:=wrap .i64<|(d_.length:Int)+(ak:Int)) (zo 83 Pin) ue rfl c0
     have hw:=hw.freeze 2
     refine KE 0 2 zt zr hw zr zr zr zr AB fa λdf w hw=>?_
     dsimp only[List.cons_append,List.nil_append,List.set_cons_zero,List.set_cons_succ]at hw
     have hw:=((((hw.pl 19 [1,2,0,4,5,6,7,8,9,10,11,12,13,14,15,16,17,18] rfl).fS 1 true (bif D 23 then own 83 ax ([(⟨bz,bg.Pin⟩:Pin)]:List Pin)else cN)).fS 2 true cN).hY 2 (D 26) (nh ae hD 26) cN).hY 11 (D 26) (nh ae hD 26)<|own 78 ah<|us798.set (Int.toNat<|wrap .i64<|(d_.length:Int)+(ak:Int))<|rv df
     have hw:=(hw.fS 12 true<|jV (XS 83 Pin) us798 bj none).hY 12 (D 26) (nh ae hD 26)<|jV (XS 83 Pin) (us798.set (Int.toNat<|wrap .i64<|(d_.length:Int)+(ak:Int))<|rv df) (bj.set (Int.toNat<|wrap .i64<|(d_.length:Int)+(ak:Int)) ca) none
     exact Kd (a0,ax,df) 24 hv ha hw
    ·rintro D U w hD af ae⟨⟨a0,ax,ao⟩,hv,ha,_,hw⟩
     obtain⟨O,rfl⟩:=hv.o2 3 6 af
     have hw:=((hw.cG 11<|nh ae hD 26).cG 12<|nh ae hD 26).jg 12<|af.2.2.2.2.2.2.2.2.2.2.2.2.2.2.2.2.2.2.2.2.2.2.2.2.2.2.1 rfl
     have hl855:=hw.kC 12 rfl
     have hr856:=nX ue hl855 de
     refine Ks 11 hw zr zr xu hr856 ?_
     have hw:=(hw.hY 11 (D 26) (nh ae hD 26)<|own 78 ah<|us798.set (Int.toNat<|wrap .i64<|(d_.length:Int)+(ak:Int))<|rv ao).fS (hb:=af.2.2.2.2.2.2.2.2.2.2.2.2.2.2.2.2.2.2.2.2.2.2.2.2.2.2.1 rfl) 12 (D 24)<|jV (XS 83 Pin) us798 bj none
     have hw:=hw.hY 12 (D 26) (nh ae hD 26)<|jV (XS 83 Pin) (us798.set (Int.toNat<|wrap .i64<|(d_.length:Int)+(ak:Int))<|rv ao) (bj.set (Int.toNat<|wrap .i64<|(d_.length:Int)+(ak:Int)) ca) none
     exact Kd (a0,ax,ao) 25 hv ha hw
    ·rintro D U w hD af ae⟨⟨a0,ax,ao⟩,hv,ha,_,hw⟩
     obtain⟨O,rfl⟩:=hv.o2 25 24 af
     have hw:=((((hw.cG 2 hD).jg 2<|af.2.1 rfl).cG 11 hD).cG 12 hD).jg 12<|af.2.1 rfl
     have hl857:=hw.kC 12 rfl
     have hr858:=nX ue hl857 de
     refine L8 (jj:=wrap .i64<|(d_.length:Int)+(ak:Int)) 11 12 2 (zo 83 Pin) ue zt hw zr zr (BK 11 hw zr hr858 0) zr zr zr de o4 λw hw=>?_
     have hw:=((hw.fS 2 true (bif D 24 then own 83 ao ca else cN)).fS 11 true<|own 78 ah us798).fS 12 true (bif D 24 then jV (XS 83 Pin) us798 bj (some<|Int.toNat<|wrap .i64<|(d_.length:Int)+(ak:Int))else jV (XS 83 Pin) us798 bj none)
     exact K7 (a0,ax,ao) hv ha hw
    rintro D U w ay⟨⟨a0,ax,ao⟩,hv,ha,_,hw⟩
    simp only[List.getD_cons_zero,List.getD_cons_succ,ay 22 (by decide),ay 24 (by decide),ay 26 (by decide),ay 26 (by decide),ay 26 (by decide),bK]at hw
    obtain⟨O,rfl⟩:=ha.sV
    obtain rfl:=oi hj
    exact⟨rfl,us798.set (Int.toNat<|wrap .i64<|(d_.length:Int)+(ak:Int))<|rv ao,hw.sp 18 [7,8,9,10,11,12,13,14,15,16,17]⟩
   rintro _ w⟨us832,O,rfl,hw⟩
   refine bF<|aD<|By<|IT hk hm<|bA ((cj+1:Nat):Int)<|x_ ?_
   obtain rfl:=oi hb
   exact⟨rfl,us832,hw.sp 11 [0,1,2,3,4,5,6,7,8,9,10]⟩
  rintro bj _ w hb⟨us797,O,rfl,hw⟩
  refine bF<|aD<|By<|IT hk hm<|bA ((ak+1:Nat):Int)<|x_ ?_
  obtain rfl:=oi hb
  exact⟨rfl,ai,ah,us797,b9,hw.sp 11 [0,3,4,5,6,1,2,7,8,9]⟩
 rintro _ w⟨cq,cr,us600,ct,O,rfl,hw⟩
 refine aD<|u_<|y_ zr lj<|H_ 8 hw zr fG ti λbn hw=>B_ 0 aj.Uses hw vU<|bA 0<|v_ ?_
 obtain⟨aq,hN,hb⟩:=bd hb
 refine Lt (λ(b2:Nat)(aq:List Part×List aN×List (List Pin)×List Int)U w=>∃(dw dx dy:Value)(us1154:List RV)(dz:Value),SH E V [(0,vp b0 0),(2,str p2),(8,vp aw 0),(11,vi d_.length),(171,bn),(172,vi aj.Uses.length),(173,vi b2)] [bc 54 b0 [b_,a_,dw,dx,dy,dz],own 77 dw aq.1,own 9 dx aq.2.1,own 78 dy us1154,jV (XS 83 Pin) us1154 aq.2.2.1 none,own 3 dz aq.2.2.2,rd a_ j_,bx 57 aw aj,rd bn aj.Uses] U w) (λ(aq:List Part×List aN×List (List Pin)×List Int)U w=>∃(c1 c2 c3:Value)(us1159:List RV)(c4:Value),SH E V [(0,vp b0 0)] [bc 54 b0 [b_,a_,c1,c2,c3,c4],own 77 c1 aq.1,own 9 c2 aq.2.1,own 78 c3 us1159,jV (XS 83 Pin) us1159 aq.2.2.1 none,own 3 c4 aq.2.2.2,rd a_ j_,bx 57 aw aj,rd bn aj.Uses] U w) hN ?_ ?_ ?_ ?_
 ·exact⟨al,cq,cr,us600,ct,hw.sp 11 [1,7,2,3,4,5,6,9,0]⟩
 ·rintro hm aq _ w⟨fc,fe,ff,us1305,fg,O,rfl,hw⟩
  refine u_<|ic ((aj.Uses.length:Int)) ((aj.Uses.length:Int))<|AS<|Lk Gm<|KF ?_
  exact⟨rfl,fc,fe,ff,us1305,fg,hw.sp 9 [0,1,2,3,4,5,6,7,8]⟩
 ·rintro hm b2 aq s' _ w hk⟨bq,br,bt,us1164,bu,O,rfl,hw⟩hb
  refine u_<|ic ((b2:Int)) ((aj.Uses.length:Int))<|AS<|K0 (Gl hk)<|Kb<|F_ ?_
  obtain⟨bh,fh,hb⟩:=bd hb
  refine BY 8 hw va fh λfi hw=>D_ 0 bh hw qW λfj hw=>J_ hw yD.z λbo w hw=>?_
  refine IS 0 hw 1 zr qW λw hw=>?_
  refine AS ?_
  obtain⟨fk,fl,hb⟩:=bd hb
  obtain⟨bp,fm,hb⟩:=bd hb
  refine Lb E V mixed [1,1,1,0,1,1,1,0,1,0,0,0,0,0,0] [11,12,13,14] (λ(x:Value×Value×Nat)=>(λa6 a7 a3=>[(0,177,vp b0 0),(1,178,vp b0 0),(2,179,vp b0 1),(3,180,a_),(4,181,vp b0 0),(5,182,vp b0 0),(6,183,vp b0 1),(7,184,a_),(8,185,vp bo 1),(9,186,str bh.aF),(10,187,vi fk),(11,188,a6),(12,189,a7),(13,21,vp a3 0)]) x.1 x.2.1 x.2.2) [(0,vp b0 0),(2,str p2),(8,vp aw 0),(11,vi d_.length),(20,vp bo 0),(171,bn),(172,vi aj.Uses.length),(173,vi b2)] [] (λ(D:Nat->Bool)(x:Value×Value×Nat)=>(λa6 a7 a3=>[bif D 0 then pt a6 bp else cN,bif D 1 then rd a7 bp else cN,bif D 3 then bx 57 a3 bp else(bif D 2 then raw 57 a3 5 else cN),bx 93 bo bh,rd fj bh,pt fi bh,bc 54 b0 [b_,a_,bq,br,bt,bu],own 77 bq aq.1,own 9 br aq.2.1,own 78 bt us1164,jV (XS 83 Pin) us1164 aq.2.2.1 none,own 3 bu aq.2.2.2,rd a_ j_,bx 57 aw aj,rd bn aj.Uses]) x.1 x.2.1 x.2.2) (λx=>by kernel_rfl) ?_ ⟨λ_=>j6 gn,λ_=>sd gn,λ_=>nB gn yI,?_,λ_=>j6 gn,λ_=>sd gn,λ_=>nB gn yI,?_,λ_=>nB gn oC,?_,?_,?_,?_,?_,?_,trivial⟩ ?_
  ·have hw:=(((hw.drew).cN).cN).cN
   exact⟨(undef,undef,0),cH.none,Dn zr,zt,hw⟩
  ·rintro D U w hD af ae⟨⟨a6,a7,a3⟩,hv,ha,_,hw⟩
   obtain⟨O,rfl⟩:=hv.o1 2 af
   refine Kh 6 a_ hw yE ?_
   exact Kd (a6,a7,a3) 3 hv ha hw
  ·rintro D U w hD af ae⟨⟨a6,a7,a3⟩,hv,ha,_,hw⟩
   obtain⟨O,rfl⟩:=hv.o1 6 af
   refine Kh 6 a_ hw yE ?_
   exact Kd (a6,a7,a3) 7 hv ha hw
  ·rintro D U w hD af ae⟨⟨a6,a7,a3⟩,hv,ha,_,hw⟩
   obtain⟨O,rfl⟩:=hv.o1 8 af
   refine C_ 3 hw zr kT dP ?_
   exact Kd (a6,a7,a3) 9 hv ha hw
  ·rintro D U w hD af ae⟨⟨a6,a7,a3⟩,hv,ha,_,hw⟩
   obtain⟨O,rfl⟩:=hv.o2 7 9 af
   refine AT AF (cZ N (p1:=bh.aF) (i0:=12) hw zr fl) λw hw=>?_
   exact Kd (a6,a7,a3) 10 hv ha hw
  ·rintro D U w hD af ae⟨⟨a6,a7,a3⟩,hv,ha,_,hw⟩
   obtain⟨O,rfl⟩:=hv.o2 3 10 af
   have hw:=hw.cG 0 hD
   refine BY 12 hw rJ fm λfo hw=>?_
   have hw:=hw.nw 0
   exact Kd (fo,a7,a3) 11 hv ha hw
  ·rintro D U w hD af ae⟨⟨a6,a7,a3⟩,hv,ha,_,hw⟩
   obtain⟨O,rfl⟩:=hv.o1 11 af
   have hw:=(hw.jg 0<|af.1 rfl).cG 1 hD
   refine D_ 0 bp hw rK λfp hw=>?_
   have hw:=((hw.pl 16 [1,0,3,4,5,6,7,8,9,10,11,12,13,14,15] rfl).fS (hb:=af.1 rfl) 0 (D 11) cN).fS 1 true cN
   exact Kd (a6,fp,a3) 12 hv ha hw
  ·rintro D U w hD af ae⟨⟨a6,a7,a3⟩,hv,ha,_,hw⟩
   obtain⟨O,rfl⟩:=H3 U
   have hw:=(hw.cG 2<|nh ae hD 14).cG 2 hD
   refine J_ hw B0.z λd3 w hw=>?_
   have hw:=(hw.nw 2).hY 2 (D 14) (nh ae hD 14)<|bx 57 d3 bp
   exact Kd (a6,a7,d3) 13 hv ha hw
  ·rintro D U w hD af ae⟨⟨a6,a7,a3⟩,hv,ha,_,hw⟩
   obtain⟨O,rfl⟩:=hv.o2 13 12 af
   have hw:=((hw.jg 1<|af.2.1 rfl).cG 2 hD).jg 2<|af.1 rfl
   refine IS 2 hw 1 zr rK λw hw=>?_
   have hw:=(hw.fS (hb:=af.2.1 rfl) 1 (D 12) cN).fS 2 true (bif D 13 then raw 57 a3 5 else cN)
   exact K7 (a6,a7,a3) hv ha hw
  rintro D U w ay⟨⟨a6,a7,a3⟩,hv,ha,_,hw⟩
  have hw:=((hw.jg 0<|vE ay 11).jg 1<|vE ay 12).jg 2<|vE ay 14
  obtain⟨O,rfl⟩:=(ac (hv.at 13 rfl<|vE ay 13) ha).sV
  refine aD<|u_<|iT n_<|AS<|u_<|y_ zr pW<|H_ 2 hw zr jy lH λcb hw=>B_ 0 bp.aO hw n0<|bA 0 ?_
  refine v_<|KR E V (λ(b5:List Int)(dg:Value)=>[bc 54 b0 [b_,a_,bq,br,bt,bu],rd a_ j_,own 77 bq aq.1,own 9 br aq.2.1,own 78 bt us1164,jV (XS 83 Pin) us1164 aq.2.2.1 none,own 3 bu aq.2.2.2,bx 57 aw aj,bx 93 bo bh,rd bn aj.Uses,rd cb bp.aO,own 3 dg b5]) (λ_ dg=>[(0,vp b0 0),(2,str p2),(8,vp aw 0),(11,vi d_.length),(20,vp bo 0),(22,dg),(171,bn),(172,vi aj.Uses.length),(173,vi b2)]) (λck _ _=>[(191,cb),(192,vi bp.aO.length),(193,vi ck)]) hb ?_ ?_ ?_
  ·have hw:=hw.gL Int 3
   exact⟨n_,hw.sp 17 [8,14,9,10,11,12,13,15,5,16,1,0]⟩
  ·rintro hm ck b5 s' _ w hk⟨cm,O,rfl,hw⟩hb
   refine A_<|F_ ?_
   obtain⟨b6,fq,hb⟩:=bd hb
   refine BY 10 hw m6 fq λgm hw=>Ki b6 0 hw dP<|iT (str b6)<|AI<|aK (-1)<|AS<|u_<|y_ zr nD<|H_ 8 hw zr iz ly λc5 hw=>?_
   refine B_ 0 aj.aM hw qn<|bA 0<|v_<|Ll E V (λ(b7:Int)=>[bc 54 b0 [b_,a_,bq,br,bt,bu],rd a_ j_,own 77 bq aq.1,own 9 br aq.2.1,own 78 bt us1164,jV (XS 83 Pin) us1164 aq.2.2.1 none,own 3 bu aq.2.2.2,bx 57 aw aj,bx 93 bo bh,own 3 cm b5,rd bn aj.Uses,rd cb bp.aO,rd c5 aj.aM]) (λb7=>[(0,vp b0 0),(2,str p2),(8,vp aw 0),(11,vi d_.length),(20,vp bo 0),(22,cm),(25,vi b7),(171,bn),(172,vi aj.Uses.length),(173,vi b2),(191,cb),(192,vi bp.aO.length),(193,vi ck)]) (λb3 _=>[(24,str b6),(198,c5),(199,vi aj.aM.length),(200,vi b3)]) hb ?_ ?_ ?_
   ·exact hw.sp 14 [2,3,4,5,6,7,8,9,10,13,11,12,0]
   ·rintro hm b3 b7 s' _ w hk⟨O,rfl,hw⟩hb
    refine A_<|F_<|bA (b3:Int) ?_
    obtain⟨fr,fs,hb⟩:=bd hb
    refine BY 12 hw n4 fs λgp hw=>D_ 0 fr hw mx λgq hw=>J_ hw tT.z λgr w hw=>?_
    refine aK (b3:Int)<|IS 0 hw 1 zr mx λw hw=>?_
    refine AI<|y_ zr md<|H_ 0 hw zr jt o4 λgu hw=>y_ zr mb<|C_ 12 hw zr jq dP<|mv (str b6) ?_
    have hw:=(hw.sc aN bh.Name).sc aN b6
    refine KS (⟨bh.Name,b6⟩:Pin) trivial rfl hw [(0,str bh.Name),(1,str b6)] rfl B3 rfl (λM hs g=>by have h:=wJ M;exact dQ.cons (f:=λ(x:Pin)y=>{x with Part:=y}) h qj (g.sat 1 _ rfl).1 λ_ h=>dQ.cons (f:=λ(x:Pin)y=>{x with Pin:=y}) h ql (g.sat 0 _ rfl).1 λ_ h=>dQ.nil h) λgv hw=>?_
    obtain⟨gw,fu,hb⟩:=bd hb
    refine AT Hk (ml N (i0:=3) (i1:=0) hw zr zr fu) λw hw=>v_ ?_
    obtain⟨dh,hj,hb⟩:=bd hb
    refine Ke (λ(dh:Int)=>SH E V [(0,vp b0 0),(2,str p2),(8,vp aw 0),(11,vi d_.length),(20,vp bo 0),(22,cm),(24,str b6),(25,vi dh),(171,bn),(172,vi aj.Uses.length),(173,vi b2),(191,cb),(192,vi bp.aO.length),(193,vi ck),(198,c5),(199,vi aj.aM.length),(200,vi b3)] [bc 54 b0 [b_,a_,bq,br,bt,bu],rd a_ j_,own 77 bq aq.1,own 9 br aq.2.1,own 78 bt us1164,jV (XS 83 Pin) us1164 aq.2.2.1 none,own 3 bu aq.2.2.2,bx 57 aw aj,bx 93 bo bh,own 3 cm b5,rd bn aj.Uses,rd cb bp.aO,rd c5 aj.aM]) dh ?_ ?_
    ·refine cV hj (λhj=>?_) λhj=>?_
     rotate_left
     ·refine Kc ?_
      obtain rfl:=oi hj
      exact⟨rfl,hw.sp 20 [7,8,9,10,11,12,13,14,15,16,17,18,19]⟩
     refine By<|bA (d_.length:Int)<|bA (b3:Int)<|J9 (d_.length:Int) (b3:Int)<|aK (wrap .i64<|(d_.length:Int)+(b3:Int))<|x_ ?_
     obtain rfl:=oi hj
     exact⟨rfl,hw.sp 20 [7,8,9,10,11,12,13,14,15,16,17,18,19]⟩
    rintro _ w⟨O,rfl,hw⟩
    refine bF<|aD<|By<|IT hk hm<|bA ((b3+1:Nat):Int)<|x_ ?_
    obtain rfl:=oi hb
    exact⟨rfl,hw.sp 13 [0,1,2,3,4,5,6,7,8,9,10,11,12]⟩
   rintro b7 _ w hb⟨O,rfl,hw⟩
   refine aD<|By<|mv cm<|bA b7 ?_
   have hw:=hw.sc Int b7
   refine KD ([b7]:List Int) hw [vi b7] m8 Gq (λM hs g=>⟨(g.sat 0 _ zr).1,zt⟩) λgx w hw=>?_
   have hw:=hw.freeze 0
   obtain⟨gy,fv,hb⟩:=bd hb
   refine KE 11 0 zt zr hw zr zr zr zr B2 fv λd4 w hw=>?_
   refine iT d4<|x_<|bF<|aD<|By<|IT hk hm<|bA ((ck+1:Nat):Int)<|x_ ?_
   obtain rfl:=oi hb
   exact⟨rfl,d4,hw.sp 15 [2,3,4,5,6,7,8,9,10,12,13,11]⟩
  rintro b5 _ w hb⟨cn,O,rfl,hw⟩
  refine aD ?_
  obtain⟨d5,fw,hb⟩:=bd hb
  obtain⟨d6,fx,hb⟩:=bd hb
  obtain⟨d7,fy,hb⟩:=bd hb
  obtain⟨c6,fz,hb⟩:=bd hb
  refine Lb E V mixed [1,1,1,1,0,1,0,0,1,1,0,0,0,1,0] [14] (λ(x:Value×Value×Value×List RV×Value)=>(λa8 a9 ba us1294 bb=>[(0,221,vp b0 0),(1,222,vp b0 0),(2,223,vp b0 0),(3,224,vp b0 1),(4,225,a_),(5,226,vp bo 1),(6,227,str bh.aF),(7,228,vi d5),(8,229,str p2),(9,230,vp bo 0),(10,231,str bh.Name),(11,232,str d6),(12,233,str d7),(13,234,cn)]) x.1 x.2.1 x.2.2.1 x.2.2.2.1 x.2.2.2.2) [(0,vp b0 0),(2,str p2),(8,vp aw 0),(11,vi d_.length),(20,vp bo 0),(22,cn),(171,bn),(172,vi aj.Uses.length),(173,vi b2)] [] (λ(D:Nat->Bool)(x:Value×Value×Value×List RV×Value)=>(λa8 a9 ba us1294 bb=>[bif D 0 then bc 54 b0 [b_,a_,a8,a9,ba,bb]else bc 54 b0 [b_,a_,bq,br,bt,bu],rd a_ j_,bif D 0 then own 77 a8 c6.1 else own 77 bq aq.1,bif D 0 then own 9 a9 c6.2.1 else own 9 br aq.2.1,bif D 0 then own 78 ba us1294 else own 78 bt us1164,bif D 0 then jV (XS 83 Pin) us1294 c6.2.2.1 none else jV (XS 83 Pin) us1164 aq.2.2.1 none,bif D 0 then own 3 bb c6.2.2.2 else own 3 bu aq.2.2.2,bx 57 aw aj,bx 93 bo bh,rd bn aj.Uses,rd cb bp.aO,bif D 0 then rd cn b5 else own 3 cn b5]) x.1 x.2.1 x.2.2.1 x.2.2.2.1 x.2.2.2.2) (λx=>by kernel_rfl) ?_ ⟨λ_=>j6 gn,λ_=>j6 gn,λ_=>sd gn,λ_=>nB gn yI,?_,λ_=>nB gn oC,?_,?_,λ_=>j6 gn,λ_=>nB gn mb,?_,?_,?_,λ_=>j6 gn,?_,trivial⟩ ?_
  ·have hw:=hw.drew
   exact⟨(undef,undef,undef,[],undef),cH.none,Dn zr,zt,hw⟩
  ·rintro D U w hD af ae⟨⟨a8,a9,ba,us1294,bb⟩,hv,ha,_,hw⟩
   obtain⟨O,rfl⟩:=hv.o1 3 af
   have hw:=hw.cG 0<|nf<|λh=>ft hD<|(ae 7 _ rfl<|(ae 14 _ rfl h).2.1 rfl).1 rfl
   refine Kh 0 a_ hw yE ?_
   have hw:=hw.hY 0 (D 14) (nf<|λh=>ft hD<|(ae 7 _ rfl<|(ae 14 _ rfl h).2.1 rfl).1 rfl)<|bc 54 b0 [b_,a_,a8,a9,ba,bb]
   exact Kd (a8,a9,ba,us1294,bb) 4 hv ha hw
  ·rintro D U w hD af ae⟨⟨a8,a9,ba,us1294,bb⟩,hv,ha,_,hw⟩
   obtain⟨O,rfl⟩:=hv.o1 5 af
   refine C_ 8 hw zr kT dP ?_
   exact Kd (a8,a9,ba,us1294,bb) 6 hv ha hw
  ·rintro D U w hD af ae⟨⟨a8,a9,ba,us1294,bb⟩,hv,ha,_,hw⟩
   obtain⟨O,rfl⟩:=hv.o2 4 6 af
   refine AT AF (cZ N (p1:=bh.aF) (i0:=1) hw zr fw) λw hw=>?_
   exact Kd (a8,a9,ba,us1294,bb) 7 hv ha hw
  ·rintro D U w hD af ae⟨⟨a8,a9,ba,us1294,bb⟩,hv,ha,_,hw⟩
   obtain⟨O,rfl⟩:=hv.o1 9 af
   refine C_ 8 hw zr jq dP ?_
   exact Kd (a8,a9,ba,us1294,bb) 10 hv ha hw
  ·rintro D U w hD af ae⟨⟨a8,a9,ba,us1294,bb⟩,hv,ha,_,hw⟩
   obtain⟨O,rfl⟩:=hv.o2 8 10 af
   refine K3 p2 bh.Name fx ?_
   exact Kd (a8,a9,ba,us1294,bb) 11 hv ha hw
  ·rintro D U w hD af ae⟨⟨a8,a9,ba,us1294,bb⟩,hv,ha,_,hw⟩
   obtain⟨O,rfl⟩:=hv.o1 11 af
   refine K3 d6 ⟨[47]⟩ fy ?_
   exact Kd (a8,a9,ba,us1294,bb) 12 hv ha hw
  ·rintro D U w hD af ae⟨⟨a8,a9,ba,us1294,bb⟩,hv,ha,_,hw⟩
   obtain⟨O,rfl⟩:=(ac (hv.at 0 rfl<|af.1 rfl)<|ac (hv.at 7 rfl<|af.2.1 rfl)<|ac (hv.at 12 rfl<|af.2.2.1 rfl)<|ac (hv.at 13 rfl<|af.2.2.2.1 rfl) az).sV
   have hw:=((((((((((((hw.cG 0 hD).cG 2 hD).cG 3 hD).cG 4 hD).cG 5 hD).cG 6 hD).cG 11 hD).freeze 11).pull 6).pull 6).pull 6).pull 6).pull 6
   have hw:=(hw.dup 6 rfl).pull 6
   refine Kz Hn (ih (p1:=d5) (p2:=d7) (i3:=11) hw zr fz) ?_
   rintro _ w⟨f2,f3,f4,us1299,f5,rfl,hw⟩
   have hw:=((((((hw.pl 18 [0,7,1,2,3,4,5,13,14,15,16,17] rfl).fS 0 true<|bc 54 b0 [b_,a_,bq,br,bt,bu]).fS 2 true<|own 77 bq aq.1).fS 3 true<|own 9 br aq.2.1).fS 4 true<|own 78 bt us1164).fS 5 true<|jV (XS 83 Pin) us1164 aq.2.2.1 none).fS 6 true<|own 3 bu aq.2.2.2
   have hw:=hw.fS 11 true<|own 3 cn b5
   exact x_ ⟨rfl,(f2,f3,f4,us1299,f5),hv.up zr,ha.u,zt,hw⟩
  rintro D U w ay⟨⟨a8,a9,ba,us1294,bb⟩,hv,ha,_,hw⟩
  simp only[List.getD_cons_zero,List.getD_cons_succ,ay 14 (by decide),ay 14 (by decide),ay 14 (by decide),ay 14 (by decide),ay 14 (by decide),ay 14 (by decide),ay 14 (by decide),bK]at hw
  obtain⟨O,rfl⟩:=ha.sV
  refine bF<|aD<|By<|IT hk hm<|bA ((b2+1:Nat):Int)<|x_ ?_
  obtain rfl:=oi hb
  exact⟨rfl,a8,a9,ba,us1294,bb,hw.sp 12 [0,2,3,4,5,6,1,7,9]⟩
 rintro _ w⟨c1,c2,c3,us1159,c4,O,rfl,hw⟩
 obtain rfl:=oi hb
 refine CT ?_
 exact Gv zr ⟨c1,c2,c3,us1159,c4,zr,hw.pk 9 [0,1,2,3,4,5]⟩
theorem lU:∀(d:Nat){E w:World}{V:List HP}{b0:Nat}{b_ a_:Value}{j_:List aF}{f_:Value}{i_:List Part}{e_:Value}{d_:List aN}{g_:Value}{us0_4:List RV}{k_:List (List Pin)}{h_:Value}{l_:List Int}{p1:Int}{p2:aN}{i3:Nat}{v3:Value}{p3:List Int}{res:List Part×List aN×List (List Pin)×List Int}(o:Holds E w (bc 54 b0 [b_,a_,f_,e_,g_,h_]::rd a_ j_::own 77 f_ i_::own 9 e_ d_::own 78 g_ us0_4::jV (XS 83 Pin) us0_4 k_ none::own 3 h_ l_::V))(h3:V[i3]? =some (rd v3 p3))(j:dF N d j_ i_ d_ k_ l_ p1 p2 p3=some res),c_ 18 [vp b0 0,vi p1,str p2,v3] w<|eU E V b0 b_ a_ res:=by
 intro d;induction d with
 |zero=>intros;rename_i j;cases j
 |succ d ih=>exact λo h3 j=>lT N _ (@ih) o h3 j
theorem mA{j_:List aF}{i_:List Part}{d_:List aN}{us0_4:List RV}{k_:List (List Pin)}{l_:List Int}{p2:aN}{p3:List Int}{res:List Part×List aN×List (List Pin)×List Int}(j:Holds E w (bc 54 b0 [b_,a_,f_,e_,g_,h_]::rd a_ j_::own 77 f_ i_::own 9 e_ d_::own 78 g_ us0_4::jV (XS 83 Pin) us0_4 k_ none::own 3 h_ l_::V))(h3:V[i3]? =some (rd v3 p3))(o:iy N j_ i_ d_ k_ l_ p1 p2 p3=some res):
    Calls bE 18 [vp b0 0,vi p1,str p2,v3].toArray w (fD<|eU E V b0 b_ a_ res):=lU N N j h3 o
theorem rm{p0:List aN}{res:List aN}(j:Holds E w V)(h0:V[i0]? =some (rd v0 p0))(o:iF N p0=some res):
    c_ 57 [v0] w<|ku E V res:=by
 unfold iF at o
 refine enter Tryz.func57 zr zr ?_
 have j:=j.dup (i0+0) h0
 refine u_<|iT n_<|AS<|u_<|mv v0<|Mk (i:=0) zt zr j zr zr zr n0<|v_<|KT (b:=EF v0) zr (λhc=>?_)<|λhc=>?_
 ·have hx:=j.HS (i:=0) rfl hc
  rw[hx]at o
  replace o:some ([]:List aN)=_:=o
  refine u_<|iT n_<|v_<|G_ ?_
  obtain rfl:=oi o
  have j:=j.gL aN 9
  exact aX<|j.pk 2 [0]
 refine Kv<|KD ([]:List aN) j [] m6 JP (λM hs g=>zt) λae w j=>mv v0 ?_
 obtain⟨af,ab,o⟩:=bd o
 refine KE 0 1 zt zr j zr zr zr zr F6 ab λad w j=>?_
 refine iT ad<|v_<|E_ ?_
 obtain rfl:=oi o
 exact aX<|j.pk 2 [0]
theorem sG{p0 p1:aN}(o:Holds E w V)(j:l4 N p0 p1=some res):c_ 161 [str p0,str p1] w<|aB E V res:=by
 unfold l4 at j;refine enter Tryz.func161 zr zr<|u_<|aK 0<|AI<|mv (str p1)<|KN p1 tB<|aK (p1.bL.length:Int)<|AS<|F_<|bA (p1.bL.length:Int)<|ic ((p1.bL.length:Int)) 0<|jU ((p1.bL.length:Int)==0)<|Km (str p1) zr zr u4<|Km (str p0) zr zr u4<|Km (vb<|p1.fY p0) zr zr (HL .eql)<|Ky (b:=(p1.bL.length:Int)==0) (v:=vb<|((p1.bL.length:Int)==0)||p1.fY p0) zt zr zr (vA true)<|bN (((p1.bL.length:Int)==0)||p1.fY p0)<|v_ ?_;refine cV j (λj=>?_) λj=>?_;exact u_<|aK 0<|v_<|I_<|aI<|oi j▸aX ⟨rfl,o.drop 0⟩;refine u_<|bA (p1.bL.length:Int)<|ic ((p1.bL.length:Int)) 1<|bN ((p1.bL.length:Int)==1)<|v_<|cV j (λj=>?_) λj=>?_;exact u_<|mv (str p0)<|mv (str p1)<|q_ j λaa ab j=>Lz p1 0 aa zr zr zr tB ab<|q_ j λad ae j=>AT GP (lA N (p0:=p0) (p1:=(aa.toNat:Int)) o ae) λw o=>aK ad<|v_<|I_<|aI<|oi j▸aX ⟨rfl,o.drop 0⟩;refine u_<|bA (p1.bL.length:Int)<|mv (str p0)<|KN p0 tB<|ic ((p1.bL.length:Int)) ((p0.bL.length:Int))<|bN (decide<|(p1.bL.length:Int)>=(p0.bL.length:Int))<|v_<|cV j (λj=>?_) λj=>?_;exact u_<|aK (-1)<|v_<|I_<|aI<|oi j▸aX ⟨rfl,o.drop 0⟩;cases j
theorem qB{p0 p1:aN}(o:Holds E w V)(j:m0 N p0 p1=some res):c_ 138 [str p0,str p1] w<|aB E V res:=by
 unfold m0 at j;exact enter Tryz.func138 zr zr<|u_<|aK 0<|AI<|mv (str p0)<|mv (str p1)<|q_ j λaa ab j=>AT (hL Tryz.func161) (sG N (p0:=p0) (p1:=p1) o ab) λw o=>aK aa<|v_<|E_<|oi j▸aX ⟨rfl,o.drop 0⟩
theorem mQ{p0 p1:aN}(hw:Holds E w V)(j:jw N p0 p1=some res):c_ 91 [str p0,str p1] w<|aB E V res:=by
 unfold jw at j;refine enter Tryz.func91 zr zr<|u_<|aK 0<|AS<|u_<|mv (str p1)<|KN p1 tB<|ic ((p1.bL.length:Int)) 0<|v_<|cV j (λj=>?_) λj=>?_;cases j;refine Kb<|u_<|mv (str p1)<|KN p1 tB<|ic ((p1.bL.length:Int)) 1<|v_<|cV j (λj=>?_) λj=>?_;exact u_<|mv (str p0)<|mv (str p1)<|q_ j λab ae j=>Lz p1 0 ab zr zr zr tB ae<|Lo (vi ((Lib.countByte p0.bL (Int.toNat (ab.toNat:Int)).toUInt8:Nat):Int)) zt zr [str p0,(.int .u8 (ab.toNat:Int))] zr (lh p0 (ab.toNat:Int) w)<|aK ((Lib.countByte p0.bL (Int.toNat (ab.toNat:Int)).toUInt8:Nat):Int)<|v_<|G_<|oi j▸aX ⟨rfl,hw.drop 0⟩;refine Kv<|aK 0<|v_<|Me E V (λ(o:aN×Int)=>[]) (λ_=>[(4,vi 0)]) (λo=>[(0,str o.1),(1,str p1),(5,vi o.2)]) (λr=>iD bE 34 Tryz.f91 (aB E V r) .ret) j ?_ ?_ ?_ ?_;exact hw.sp 0 [];rintro o fl _ w⟨O,rfl,hw⟩j;refine F_<|mv (str o.1)<|mv (str p1)<|q_ j λad af j=>AT FC (qB N (p0:=o.1) (p1:=p1) hw af) λw hw=>aK ad<|AS<|u_<|bA ad<|ic ad ((-1))<|v_<|cV j (λj=>?_) λj=>?_;exact u_<|bA o.2<|aK o.2<|v_<|G_<|bW<|oi j▸⟨rfl,aX ⟨rfl,hw.drop 0⟩⟩;refine Kv<|bA o.2<|J9 o.2 1<|aK (wrap .i64<|o.2+1)<|v_<|By<|mv (str o.1)<|bA ad<|mv (str p1) ?_;refine KN p1 tB<|J9 ad (p1.bL.length:Int)<|q_ j λag ah j=>LI o.1 zr zr tB (.inl zr) (.inr ⟨rfl,zr⟩) ah<|iT (str ag)<|x_<|bF ?_;exact oi j▸⟨rfl,hw.sp 0 []⟩;intro r U w j hK;exact oi j▸hK;rintro o _ w j⟨O,rfl,hw⟩;obtain rfl:=oi j;exact CT<|aX ⟨rfl,hw.drop 0⟩
theorem qC{p0 p1:aN}{res:Bool}(hw:Holds E w V)(hb:gB N p0 p1=some res):c_ 59 [str p0,str p1] w<|aQ E V res:=by
 unfold gB at hb;refine enter Tryz.func59 zr zr<|u_<|bN false<|AI<|mv (str p0)<|q_ hb λj ad hb=>AT F8 (mQ N (p0:=p0) (p1:=⟨[47]⟩) hw ad) λw hw=>mv (str p1)<|q_ hb λo ae hb=>AT F8 (mQ N (p0:=p1) (p1:=⟨[47]⟩) hw ae) λw hw=>aK j<|aK o<|AI<|bA j<|bA o<|ic j o<|jU (decide<|j<o)<|Km (vi j) zr zr u4 ?_;refine Km (vi o) zr zr u4<|Km (vb<|j==o) zr zr (yZ .eql)<|Km (vb<|j==o) zr zr u4<|KP (str p0) zr zr u4<|KP (str p1) zr zr u4<|KP (vb<|p0.jc p1) zr zr (HL .lss)<|Km (vb<|(j==o)&&p0.jc p1) zr zr JJ<|Ky (b:=decide<|j<o) (v:=vb<|decide (j<o)||((j==o)&&p0.jc p1)) zt zr zr (vA true)<|bN (decide (j<o)||((j==o)&&p0.jc p1)) ?_;exact v_<|E_<|oi hb▸aX ⟨rfl,hw.drop 0⟩
def oc(E:World)(V:List HP)(res:List Part)(v:Value)(w:World):Prop:=Holds E w<|[own 77 v res]++V
theorem nL{p0:List Part}{res:List Part}(j:Holds E w V)(h0:V[i0]? =some (rd v0 p0))(hb:dL N p0=some res):c_ 60 [v0] w<|oc E V res:=by
 unfold dL at hb;refine enter Tryz.func60 zr zr ?_;have j:=j.dup (i0+0) h0;refine u_<|iT n_<|AI<|iT n_<|AS<|u_<|mv v0<|B_ 0 p0 j rL<|bA 0<|v_<|KR E V (λ(ad:List Part)(ak:Value)=>[rd v0 p0,own 77 ak ad]) (λ_ ak=>[(3,ak)]) (λah _ _=>[(7,v0),(8,vi p0.length),(9,vi ah)]) hb ?_ ?_ ?_;have j:=j.gL Part 77;exact⟨n_,j.sp 2 [1,0]⟩;rintro hm ah ad s' _ w hk⟨ae,O,rfl,j⟩hb;refine A_<|F_<|q_ hb λaf av hb=>BY 0 j oB av λay j=>D_ 0 af j nC λaz j=>J_ j vT.z λai w j=>?_;refine IS 0 j 1 zr nC λw j=>?_;refine AI<|mv ae<|KM 4 ad j rL<|aK (ad.length:Int)<|AS<|K6 E V (λ(ab:Int)=>[own 77 ae ad,bx 77 ai af,rd v0 p0]) (λab=>[(3,ae),(5,vp ai 0),(6,vi ab),(7,v0),(8,vi p0.length),(9,vi ah)]) (λ_=>[]) hb ?_ ?_ ?_;exact j.sp 5 [4,0,3];rintro ab fl _ w⟨O,rfl,j⟩hb;refine A_<|A_<|q_ hb λal hj hb=>Ke (λ(al:Bool)=>SH E V [(3,ae),(5,vp ai 0),(6,vi ab),(7,v0),(8,vi p0.length),(9,vi ah),(27,vb al)] [own 77 ae ad,bx 77 ai af,rd v0 p0]) al ?_ ?_;refine KL mixed ?_;have j:=j.drew;refine KK<|bA ab<|w_<|ic ab 0<|w_<|jU (decide<|ab>0)<|je hj (λo hj=>?_) λo hj=>?_;refine w_<|IN ae (cg o)<|w_<|IN (vi ab) (cg o)<|w_<|J9 (hg:=cg o) ab 1<|w_<|q_ hj λan aj hj=>Ks (hg:=cg o) 0 j zr zr oB aj<|w_<|L0 (α:=Part) (cg o) zr zr (BK 0 j zr aj 0) kV<|w_<|Lu (i:=0) (cg o) zr j zr (BK 0 j zr aj 0) zr (kc aj).2.1 gD dP<|w_<|y_ (hg:=cg o) zr kV<|w_<|C_ (hg:=cg o) 1 j zr gD dP ?_;exact w_<|Ku an.Name af.Name (cg o)<|w_<|jl o (vb<|!(an.Name.jc af.Name||an.Name.fY af.Name))<|Kr<|oi hj▸⟨rfl,j.sp 3 [0,1,2]⟩;refine w_<|bS o<|w_<|bS o<|w_<|bS o<|w_<|bS o<|w_<|bS o<|w_<|bS o<|w_<|bS o<|w_<|bS o<|w_<|bS o ?_;exact w_<|jl o (vb false)<|Kr<|oi hj▸⟨rfl,j.sp 3 [0,1,2]⟩;rintro _ w⟨O,rfl,j⟩;refine aD<|cV hb (λhb=>?_) λhb=>?_;refine KO<|KZ<|By<|bA ab<|J9 ab 1<|aK (wrap .i64<|ab - 1)<|x_<|bF ?_;exact oi hb▸⟨rfl,j.sp 3 [0,1,2]⟩;exact KF<|oi hb▸⟨rfl,j.sp 3 [0,1,2]⟩;rintro ab _ w hb⟨O,rfl,j⟩;refine aD<|By<|mv ae<|bA ab<|Kl 1 j zr nC λaw j=>KD ([af]:List Part) j [aw] oB vT (λM hs g=>⟨(g.sat 0 _ zr).1,zt⟩) λa1 w j=>?_;obtain⟨a2,ax,hb⟩:=bd hb;have j:=(j.pull 0).pull 3;exact Kz (hL Tryz.func92) (Dx oB FY IW j ax) λao w j=>iT ao<|x_<|bF<|aD<|By<|IT hk hm<|bA ((ah+1:Nat):Int)<|x_<|oi hb▸⟨rfl,ao,j.sp 6 [5,0]⟩;rintro ad _ w hb⟨aq,O,rfl,j⟩;refine aD<|u_<|mv aq<|iT aq<|v_<|E_ ?_;obtain rfl:=oi hb;exact aX<|j.pk 2 [1]
theorem oe{p0:List Pin}{res:List Pin}(j:Holds E w V)(h0:V[i0]? =some (rd v0 p0))(o:cY N p0=some res):c_ 61 [v0] w<|i7 E V res:=by
 unfold cY at o;refine enter Tryz.func61 zr zr ?_;have j:=j.dup (i0+0) h0;refine u_<|iT n_<|AI<|iT n_<|AS<|u_<|mv v0<|B_ 0 p0 j pY<|bA 0<|v_<|KR E V (λ(ae:List Pin)(aj:Value)=>[rd v0 p0,own 83 aj ae]) (λ_ aj=>[(3,aj)]) (λag _ _=>[(7,v0),(8,vi p0.length),(9,vi ag)]) o ?_ ?_ ?_;have j:=j.gL Pin 83;exact⟨n_,j.sp 2 [1,0]⟩;rintro hm ag ae s' _ w hk⟨af,O,rfl,j⟩o;refine A_<|F_<|q_ o λah au o=>BY 0 j pZ au λaz j=>D_ 0 ah j jz λa0 j=>J_ j vc.z λai w j=>?_;refine IS 0 j 1 zr jz λw j=>?_;refine AI<|mv af<|KM 4 ae j pY<|aK (ae.length:Int)<|AS<|K6 E V (λ(ab:Int)=>[own 83 af ae,bx 83 ai ah,rd v0 p0]) (λab=>[(3,af),(5,vp ai 0),(6,vi ab),(7,v0),(8,vi p0.length),(9,vi ag)]) (λ_=>[]) o ?_ ?_ ?_;exact j.sp 5 [4,0,3];rintro ab fl _ w⟨O,rfl,j⟩o;refine A_<|A_<|q_ o λak hj o=>Ke (λ(ak:Bool)=>SH E V [(3,af),(5,vp ai 0),(6,vi ab),(7,v0),(8,vi p0.length),(9,vi ag),(25,vb ak)] [own 83 af ae,bx 83 ai ah,rd v0 p0]) ak ?_ ?_;refine KY mixed [0,0,0,0,0,0,0,0,0,2,0] [0,1,2,3,4,5,6,7,8,9,10] ?_;have j:=j.drew;refine Kf zr zr<|bA ab<|cI zr<|ic ab 0<|cI zr<|jU (decide<|ab>0)<|Kq<|je hj (λaa hj=>?_) λaa hj=>?_;refine Kf zr zr<|Kl (hg:=cg aa) 1 j zr jz λa2 j=>cI zr<|IN af (cg aa)<|cI zr<|IN (vi ab) (cg aa)<|cI zr<|J9 (hg:=cg aa) ab 1<|cI zr<|q_ hj λa3 al hj=>Ks (hg:=cg aa) 1 j zr zr pZ al<|cI zr<|Lx (hg:=cg aa) 1 j al jz λa4 j=>?_;exact u3 zr<|q_ hj λav aw hj=>AT (hg:=cg aa) Hj (lR N (i0:=1) (i1:=0) j zr zr aw) λw j=>Bo zr<|jl aa (vb av)<|Kq<|KC<|oi hj▸⟨rfl,j.sp 5 [2,3,4]⟩;refine Kf zr zr<|bS aa<|cI zr<|bS aa<|cI zr<|bS aa<|cI zr<|bS aa<|cI zr<|bS aa<|cI zr<|bS aa<|u3 zr<|bS aa<|Bo zr<|jl aa (vb false)<|Kq<|KC ?_;exact oi hj▸⟨rfl,j.sp 3 [0,1,2]⟩;rintro _ w⟨O,rfl,j⟩;refine aD<|cV o (λo=>?_) λo=>?_;refine KO<|KZ<|By<|bA ab<|J9 ab 1<|aK (wrap .i64<|ab - 1)<|x_<|bF ?_;exact oi o▸⟨rfl,j.sp 3 [0,1,2]⟩;exact KF<|oi o▸⟨rfl,j.sp 3 [0,1,2]⟩;rintro ab _ w o⟨O,rfl,j⟩;refine aD<|By<|mv af<|bA ab<|Kl 1 j zr jz λax j=>KD ([ah]:List Pin) j [ax] pZ vc (λM hs g=>⟨(g.sat 0 _ zr).1,zt⟩) λa5 w j=>?_;obtain⟨a6,ay,o⟩:=bd o;have j:=(j.pull 0).pull 3;exact Kz (hL Tryz.func93) (Dy pZ AB IZ j ay) λan w j=>iT an<|x_<|bF<|aD<|By<|IT hk hm<|bA ((ag+1:Nat):Int)<|x_<|oi o▸⟨rfl,an,j.sp 6 [5,0]⟩;rintro ae _ w o⟨ao,O,rfl,j⟩;refine aD<|u_<|mv ao<|iT ao<|v_<|E_ ?_;obtain rfl:=oi o;exact aX<|j.pk 2 [1]
end Go.Gk
namespace Go.Gk
open Go IntKind Go.Proofs
variable (N:Nat){E w:World}{b0 i0 i1 i2:Nat}{p2 p3 res:Int}{v0 b_ a_ f_ e_ g_ h_ v1 v2:Value}{V:List HP}
def pd(E:World)(V:List HP)(b0:Nat)(b_ a_:Value)(f_ e_:Value)(g_ h_:Value)(res:bG)(v:Value)(w:World):Prop:=Holds E w<|[rd v res,bc 54 b0 [b_,a_,f_,e_,g_,h_]]++V
theorem oP{i_:List Part}{d_:List aN}{k_:List (List Pin)}{l_:List Int}{res:bG}(o:Holds E w (bc 54 b0 [b_,a_,f_,e_,g_,h_]::rd f_ i_::rd e_ d_::rd g_ k_::rd h_ l_::V))(hb:gC N i_ d_ k_ l_=some res):c_ 19 [vp b0 0] w<|pd E V b0 b_ a_ f_ e_ g_ h_ res:=by
 unfold gC at hb;refine enter Tryz.func19 zr zr<|u_<|J_ o zI.z λau w o=>?_;refine AS ?_;obtain⟨bz,b2,hb⟩:=bd hb;refine q_ hb λb3 b4 hb=>Lb E V mixed [1,1,1,0,0,1,1,1,0,0,0,1,1] [4,10] (λ(x:Value×Value×List RV)=>(λad ab us36=>[(0,11,vp b0 0),(1,12,vp b0 0),(2,13,vp b0 3),(3,14,e_),(4,15,ad),(5,16,vp b0 0),(6,17,vp b0 0),(7,18,vp b0 3),(8,19,e_),(9,20,vi d_.length),(10,21,ab),(11,3,ad),(12,4,ab)]) x.1 x.2.1 x.2.2) [(0,vp b0 0),(2,vp au 0)] [] (λ(D:Nat->Bool)(x:Value×Value×List RV)=>(λad ab us36=>[bif D 0 then own 9 ad bz else cN,bif D 1 then own 78 ab us36 else cN,bif D 1 then jV (XS 83 Pin) us36 b3 none else cN,raw 27 au 2,bc 54 b0 [b_,a_,f_,e_,g_,h_],rd f_ i_,rd e_ d_,rd g_ k_,rd h_ l_]) x.1 x.2.1 x.2.2) (λx=>by kernel_rfl) ?_ ⟨λ_=>j6 gn,λ_=>sd gn,λ_=>nB gn so,?_,?_,λ_=>j6 gn,λ_=>sd gn,λ_=>nB gn so,?_,?_,?_,λ_=>EP gn rfl,λ_=>EP gn rfl,trivial⟩ ?_;have o:=(((o.drew).cN).cN).cN;exact⟨(undef,undef,[]),cH.none,Dn zr,zt,o⟩;rintro D U w hD ae ak⟨⟨ad,ab,us36⟩,hv,ha,_,o⟩;obtain⟨O,rfl⟩:=hv.o1 2 ae;exact Kh 4 e_ o lH<|Kd (ad,ab,us36) 3 hv ha o;rintro D U w hD ae ak⟨⟨ad,ab,us36⟩,hv,ha,_,o⟩;obtain⟨O,rfl⟩:=hv.o1 3 ae;have o:=o.cG 0 hD;refine Kz (hL Tryz.func57) (rm N (i0:=6) o zr b2) λbj w o=>?_;have o:=o.nw 0;have hv:=hv.re 11 rfl (v':=bj)<|λh=>ft hD<|(ak 11 _ rfl h).1 rfl;exact Kd (bj,ab,us36) 4 hv ha o;rintro D U w hD ae ak⟨⟨ad,ab,us36⟩,hv,ha,_,o⟩;obtain⟨O,rfl⟩:=hv.o1 7 ae;exact Kh 4 e_ o lH<|Kd (ad,ab,us36) 8 hv ha o;rintro D U w hD ae ak⟨⟨ad,ab,us36⟩,hv,ha,_,o⟩;obtain⟨O,rfl⟩:=hv.o1 8 ae;exact B_ 6 d_ o n0<|Kd (ad,ab,us36) 9 hv ha o;rintro D U w hD ae ak⟨⟨ad,ab,us36⟩,hv,ha,_,o⟩;obtain⟨O,rfl⟩:=hv.o1 9 ae;have o:=(o.cG 1 hD).cG 2 hD;refine Mn (β:=Pin) (e':=83) (k:=(d_.length:Int)) zt zr o zr zr F0 Ho b4 λbk w us39 o=>?_;have o:=((o.pl 11 [2,0,1,5,6,7,8,9,10] rfl).fS 1 true cN).fS 2 true cN;have hv:=hv.re 12 rfl (v':=bk)<|λh=>ft hD<|(ak 12 _ rfl h).1 rfl;exact Kd (ad,bk,us39) 10 hv ha o;rintro D U w az⟨⟨ad,ab,us36⟩,hv,ha,_,o⟩;have o:=((o.jg 0<|vE az 4).jg 1<|vE az 10).jg 2<|vE az 10;obtain⟨O,rfl⟩:=(ac (hv.at 11 rfl<|vE az 11)<|ac (hv.at 12 rfl<|vE az 12) ha).sV;refine aD<|A_<|u_<|mv (vp b0 0)<|Kt zt zr zr<|y_ zr so<|Kh 4 e_ o lH<|B_ 6 d_ o n0<|bA 0<|v_<|KR E V (λ(an:List aN×List (List Pin))(us102:List RV)=>[bc 54 b0 [b_,a_,f_,e_,g_,h_],rd f_ i_,rd e_ d_,rd g_ k_,rd h_ l_,raw 27 au 2,own 9 ad an.1,own 78 ab us102,jV (XS 83 Pin) us102 an.2 none]) (λ_ _=>[(0,vp b0 0),(2,vp au 0),(3,ad),(4,ab)]) (λay _ _=>[(26,vi d_.length),(27,vi ay)]) hb ?_ ?_ ?_;exact⟨us36,o.sp 9 [4,5,6,7,8,3,0,1,2]⟩;rintro hm ay an s' _ w hk⟨us104,O,rfl,o⟩hb;refine A_<|F_<|bA (ay:Int)<|aK (ay:Int)<|AI<|mv (vp b0 0)<|bA (ay:Int) ?_;have o:=(o.dup 4 rfl).pull 1;refine q_ hb λa0 b5 hb=>AT F7 (oN N (p1:=(ay:Int)) o b5) λw o=>aK a0<|AS<|A_<|KY mixed [0,0,0,0,0,0,0,0,0,0,0,2] [0,1,2,3,4,5,6,7,8,9,10,11] ?_;have o:=o.drew;refine Kf zr zr<|mv (vp b0 0)<|cI zr<|Kt zt zr zr<|cI zr<|y_ zr so<|cI zr<|Kh 0 e_ o lH<|cI zr<|bA (ay:Int)<|cI zr ?_;refine q_ hb λbl b6 hb=>BY 3 o m6 b6 λcr o=>cI zr<|Ki bl 0 o dP<|cI zr<|mv ad<|cI zr<|bA a0<|cI zr<|q_ hb λb7 bm hb=>Ks 8 o zr zr m6 bm<|cI zr<|KX 8 o bm dP<|u3 zr ?_;refine q_ hb λct b8 hb=>AT (hL Tryz.func59) (qC N (p0:=bl) (p1:=b7) o b8) λw o=>Kx zt<|KC<|aD<|q_ hb λa8 hj hb=>Ke (λ(a8:List aN)=>SH E V [(0,vp b0 0),(2,vp au 0),(3,ad),(4,ab),(5,vi ay),(6,vi a0),(26,vi d_.length),(27,vi ay)] [bc 54 b0 [b_,a_,f_,e_,g_,h_],rd f_ i_,rd e_ d_,rd g_ k_,rd h_ l_,raw 27 au 2,own 9 ad a8,own 78 ab us104,jV (XS 83 Pin) us104 an.2 none]) a8 ?_ ?_;refine cV hj (λhj=>?_) λhj=>?_;refine By<|mv ad<|bA a0<|mv (vp b0 0)<|Kt zt zr zr<|y_ zr so<|Kh 1 e_ o lH<|bA (ay:Int)<|q_ hj λbn b9 hj=>BY 4 o m6 b9 λcu o=>Ki bn 0 o dP<|q_ hj λcv bo hj=>Ks 9 o zr zr m6 bo ?_;have o:=o.sc aN bn;refine K8 10 0 o bo dP λw o=>?_;exact x_<|oi hj▸⟨rfl,o.sp 13 [3,5,6,7,8,9,10,11,12]⟩;exact Kc<|oi hj▸⟨rfl,o.sp 11 [1,3,4,5,6,7,8,9,10]⟩;rintro _ w⟨O,rfl,o⟩;refine aD<|KY mixed [1,1,0,0,0,0,0,0,0,0,0,0,0,2,0,2] [0,1,2,3,4,5,6,7,8,9,10,11,12,13,14,15] ?_;have o:=o.drew;refine Kw ab zr (λw=>IN ab zt Kp)<|Kw (vi a0) zr (λw=>IN (vi a0) zt Kp)<|Kf zr zr<|mv ab<|cI zr<|bA a0<|cI zr ?_;obtain⟨cw,a9,hb⟩:=bd hb;have hl118:=o.kC 8 rfl;have hr119:=nX ue hl118 a9;have hq120:=BK 7 o rfl hr119 0;refine Ks 7 o zr zr xu hr119<|cI zr ?_;have hl121:=o.kC 8 rfl;have hr122:=nX ue hl121 a9;refine Ml (i:=7) (b:=8) (jj:=a0) (zo 83 Pin) ue zt zr o zr (BK 7 o zr hr122 0) zr zr a9 o4 λo=>cI zr<|mv (vp b0 0)<|cI zr<|Kt zt zr zr<|cI zr<|y_ zr wO<|cI zr<|Kh 1 g_ o zM<|cI zr<|bA (ay:Int)<|cI zr ?_;refine q_ hb λca cb hb=>BY 4 o xu cb λcx o=>cI zr<|D_ 0 ca o o4 λcy o=>u3 zr<|q_ hb λcz cc hb=>KE 2 0 zt zr o zr zr zr zr AB cc λcd w o=>?_;refine Bo zr ?_;obtain⟨c0,ba,hb⟩:=bd hb;have hl129:=o.kC 11 rfl;have hr130:=nX ue hl129 ba;have hq131:=BK 10 o rfl hr130 0;refine Ks 10 o zr zr xu hr130<|u3 zr ?_;have hl132:=o.kC 11 rfl;have hr133:=nX ue hl132 ba;refine L8 (jj:=a0) 10 11 2 (zo 83 Pin) ue zt o zr zr (BK 10 o zr hr133 0) zr zr zr ba o4 λw o=>?_;refine Kx zt<|KC<|bF<|aD<|By<|IT hk hm<|bA ((ay+1:Nat):Int)<|x_ ?_;obtain rfl:=oi hb;exact⟨rfl,us104.set (Int.toNat a0)<|rv cd,o.sp 12 [3,4,5,6,7,8,9,10,11]⟩;rintro an _ w hb⟨us103,O,rfl,o⟩;refine aD<|u_<|mv (vp b0 0)<|Kt zt zr zr<|y_ zr AG<|Kh 0 f_ o m7<|q_ hb λa4 cf hb=>Kz (hL Tryz.func60) (nL N (i0:=1) o zr cf) λax w o=>KU (h1:=⟨j4 0 o,zt⟩) [n_,n_] [ax,n_] [(0,ax)] wM<|L5 zt zr o Hd zr λa3 w o=>?_;refine L6 (cs:=[ax,n_]) 0 zt o zr zr zr (vP.all (⟨j4 1 o,zr,zt⟩:vP [ax,n_])) jF zr zr λw o=>?_;refine AS<|u_<|mv ad<|KM 8 an.1 o n0<|bA 0<|v_ ?_;have o:=o.Bi (X:=XS 83 Pin) (b:=10) (j:=9) rfl (λM h u x cs=>(Ft 83) M h u x cs) rfl rfl (by decide);refine KR E V (λ(a2:List Net)(bp:Value)=>[bc 54 b0 [b_,a_,f_,e_,g_,h_],rd f_ i_,rd e_ d_,rd g_ k_,rd h_ l_,raw 27 au 2,own 9 ad an.1,own 78 ab an.2,bc 27 a3 [ax,bp],own 80 bp a2,own 77 ax a4]) (λ_ _=>[(0,vp b0 0),(2,vp au 0),(7,vp a3 0)]) (λar _ _=>[(3,ad),(4,ab),(78,vi an.1.length),(79,vi ar)]) hb ?_ ?_ ?_;have o:=o.gL Net 80;exact⟨n_,o.sp 12 [3,4,5,6,7,8,9,10,1,0,2]⟩;rintro hm ar a2 s' _ w hk⟨a1,O,rfl,o⟩hb;refine A_<|F_<|bA (ar:Int)<|aK (ar:Int)<|AS<|u_<|mv ab<|bA (ar:Int)<|q_ hb λbb bq hb=>Ks 7 o zr zr xu bq<|Lx 7 o bq o4 λch o=>?_;refine B_ 0 bb o pY<|ic ((bb.length:Int)) 0<|v_<|cV hb (λhb=>?_) λhb=>?_;exact KF<|yg<|aD<|By<|IT hk hm<|bA ((ar+1:Nat):Int)<|x_<|oi hb▸⟨rfl,a1,o.sp 12 [1,2,3,4,5,6,7,8,9,10,11]⟩;refine Kb ?_;obtain⟨aq,br,hb⟩:=bd hb;obtain⟨cj,bt,hb⟩:=bd hb;refine q_ hb λav ck hb=>Lb E V mixed [1,1,0,0,1,1,0,0,0,0,0,0] [7,8,10,11] (λ(x:Value×Value×Nat)=>(λal ah ai=>[(0,88,ad),(1,89,vi ar),(2,90,Bb ad (Int.toNat (ar:Int)) 1 0),(3,91,str aq),(4,92,ab),(5,93,vi ar),(6,94,Bb ab (Int.toNat (ar:Int)) 1 0),(7,95,al),(8,96,ah),(9,97,(.agg ([str aq,ah,n_]:List Value).toArray)),(10,9,vp ai 0)]) x.1 x.2.1 x.2.2) [(0,vp b0 0),(2,vp au 0),(3,ad),(4,ab),(7,vp a3 0),(8,vi ar),(78,vi an.1.length),(79,vi ar)] [] (λ(D:Nat->Bool)(x:Value×Value×Nat)=>(λal ah ai=>[bif D 0 then rd al cj else cN,bif D 3 then rd ah av else(bif D 1 then own 83 ah av else cN),bif D 3 then bx 80 ai (⟨aq,av,([]:List aN)⟩:Net)else(bif D 2 then raw 80 ai 3 else cN),rd ch bb,bc 54 b0 [b_,a_,f_,e_,g_,h_],rd f_ i_,rd e_ d_,rd g_ k_,rd h_ l_,raw 27 au 2,own 9 ad an.1,own 78 ab an.2,bc 27 a3 [ax,a1],own 80 a1 a2,own 77 ax a4]) x.1 x.2.1 x.2.2) (λx=>by kernel_rfl) ?_ ⟨λ_=>j6 gn,λ_=>j6 gn,?_,?_,λ_=>j6 gn,λ_=>j6 gn,?_,?_,?_,?_,?_,?_,trivial⟩ ?_;have o:=(((o.drew).cN).cN).cN;exact⟨(undef,undef,0),cH.none,Dn zr,zt,o⟩;rintro D U w hD ae ak⟨⟨al,ah,ai⟩,hv,ha,_,o⟩;obtain⟨O,rfl⟩:=hv.o2 0 1 ae;exact Ks 10 o zr zr m6 br<|Kd (al,ah,ai) 2 hv ha o;rintro D U w hD ae ak⟨⟨al,ah,ai⟩,hv,ha,_,o⟩;obtain⟨O,rfl⟩:=hv.o1 2 ae;exact KX 10 o br dP<|Kd (al,ah,ai) 3 hv ha o;rintro D U w hD ae ak⟨⟨al,ah,ai⟩,hv,ha,_,o⟩;obtain⟨O,rfl⟩:=hv.o2 4 5 ae;exact Ks 11 o zr zr xu bt<|Kd (al,ah,ai) 6 hv ha o;rintro D U w hD ae ak⟨⟨al,ah,ai⟩,hv,ha,_,o⟩;obtain⟨O,rfl⟩:=hv.o1 6 ae;have o:=o.cG 0 hD;refine Lx 11 o bt o4 λcm o=>?_;have o:=o.nw 0;exact Kd (cm,ah,ai) 7 hv ha o;rintro D U w hD ae ak⟨⟨al,ah,ai⟩,hv,ha,_,o⟩;obtain⟨O,rfl⟩:=hv.o1 7 ae;have o:=((o.jg 0<|ae.1 rfl).cG 1<|nh ak hD 11).cG 1 hD;refine Kz (hL Tryz.func61) (oe N (i0:=0) o zr ck) λbf w o=>?_;have o:=(((o.pl 16 [1,0,3,4,5,6,7,8,9,10,11,12,13,14,15] rfl).fS (hb:=ae.1 rfl) 0 (D 7) cN).fS 1 true cN).hY 1 (D 11) (nh ak hD 11)<|rd bf av;have hv:=hv.re 9 rfl (v':=(.agg ([str aq,bf,n_]:List Value).toArray))<|λh=>ft hD<|(ak 9 _ rfl h).2.1 rfl;exact Kd (al,bf,ai) 8 hv ha o;rintro D U w hD ae ak⟨⟨al,ah,ai⟩,hv,ha,_,o⟩;obtain⟨O,rfl⟩:=hv.o2 3 8 ae;have o:=(o.cG 1<|nh ak hD 11).jg 1<|ae.2.1 rfl;refine KU (h1:=⟨rfl,j4 1 o,zt⟩) [(.string ⟨#[]⟩),n_,n_] [str aq,ah,n_] [(0,str aq),(1,ah)] Hf ?_;have o:=(o.fS (hb:=ae.2.1 rfl) 1 (D 8) cN).hY 1 (D 11) (nh ak hD 11)<|rd ah av;exact Kd (al,ah,ai) 9 hv ha o;rintro D U w hD ae ak⟨⟨al,ah,ai⟩,hv,ha,_,o⟩;obtain⟨O,rfl⟩:=H3 U;have o:=(o.cG 2<|nh ak hD 11).cG 2 hD;refine J_ o tT.z λbu w o=>?_;have o:=(o.nw 2).hY 2 (D 11) (nh ak hD 11)<|bx 80 bu (⟨aq,av,([]:List aN)⟩:Net);exact Kd (al,ah,bu) 10 hv ha o;rintro D U w hD ae ak⟨⟨al,ah,ai⟩,hv,ha,_,o⟩;obtain⟨O,rfl⟩:=hv.o2 10 9 ae;have o:=((((((o.cG 1 hD).jg 1<|ae.2.2.1 rfl).cG 2 hD).jg 2<|ae.1 rfl).freeze 1).kN aN).qN (cs:=[str aq,ah,n_]) (x:=(⟨aq,av,([]:List aN)⟩:Net)) (λM hs g=>⟨[str aq],[ah,n_],rfl,rfl,⟨[ah],[n_],rfl,jh (g.sat 2 _ rfl).1,jh (g.sat 0 _ rfl).1⟩⟩) rfl;refine IS 4 o 0 zr mx λw o=>?_;have o:=((o.pl 17 [2,3,4,5,6,7,8,9,10,11,12,13,14,15,16] rfl).fS 1 true (bif D 8 then own 83 ah av else cN)).fS 2 true (bif D 10 then raw 80 ai 3 else cN);exact K7 (al,ah,ai) hv ha o;rintro D U w az⟨⟨al,ah,ai⟩,hv,ha,_,o⟩;have o:=((o.jg 0<|vE az 7).jg 1<|vE az 11).jg 2<|vE az 11;obtain⟨O,rfl⟩:=(ac (hv.at 10 rfl<|vE az 10) ha).sV;refine aD<|u_<|y_ zr jQ<|Kh 12 a1 o ly<|KM 13 a2 o qn<|aK (a2.length:Int)<|AS<|K6 E V (λ(aw:Int)=>[bc 54 b0 [b_,a_,f_,e_,g_,h_],rd f_ i_,rd e_ d_,rd g_ k_,rd h_ l_,raw 27 au 2,own 9 ad an.1,own 78 ab an.2,bc 27 a3 [ax,a1],own 77 ax a4,own 80 a1 a2,bx 80 ai (⟨aq,av,([]:List aN)⟩:Net)]) (λaw=>[(0,vp b0 0),(2,vp au 0),(3,ad),(4,ab),(7,vp a3 0),(9,vp ai 0),(10,vi aw),(78,vi an.1.length),(79,vi ar)]) (λ_=>[]) hb ?_ ?_ ?_;exact o.sp 15 [4,5,6,7,8,9,10,11,12,14,13,2];rintro aw fl _ w⟨O,rfl,o⟩hb;refine A_<|A_<|q_ hb λbg hj hb=>Ke (λ(bg:Bool)=>SH E V [(0,vp b0 0),(2,vp au 0),(3,ad),(4,ab),(7,vp a3 0),(9,vp ai 0),(10,vi aw),(78,vi an.1.length),(79,vi ar),(114,vb bg)] [bc 54 b0 [b_,a_,f_,e_,g_,h_],rd f_ i_,rd e_ d_,rd g_ k_,rd h_ l_,raw 27 au 2,own 9 ad an.1,own 78 ab an.2,bc 27 a3 [ax,a1],own 77 ax a4,own 80 a1 a2,bx 80 ai (⟨aq,av,([]:List aN)⟩:Net)]) bg ?_ ?_;refine KL mixed ?_;have o:=o.drew;refine KK<|bA aw<|w_<|ic aw 0<|w_<|jU (decide<|aw>0)<|je hj (λaj hj=>?_) λaj hj=>?_;refine w_<|y_ (hg:=cg aj) zr jQ<|w_<|Kh (hg:=cg aj) 8 a1 o ly<|w_<|IN (vi aw) (cg aj)<|w_<|J9 (hg:=cg aj) aw 1<|w_<|q_ hj λbh a7 hj=>Ks (hg:=cg aj) 10 o zr zr n4 a7<|w_<|L0 (α:=Net) (cg aj) zr zr (BK 10 o zr a7 0) jP<|w_<|Lu (i:=10) (cg aj) zr o zr (BK 10 o zr a7 0) zr (kc a7).2.1 gE dP<|w_<|y_ (hg:=cg aj) zr jP<|w_<|C_ (hg:=cg aj) 11 o zr gE dP ?_;exact w_<|Ku bh.Name ((⟨aq,av,([]:List aN)⟩:Net).Name) (cg aj)<|w_<|jl aj (vb<|!(bh.Name.jc ((⟨aq,av,([]:List aN)⟩:Net).Name)||bh.Name.fY ((⟨aq,av,([]:List aN)⟩:Net).Name)))<|Kr<|oi hj▸⟨rfl,o.sp 12 [0,1,2,3,4,5,6,7,8,9,10,11]⟩;refine w_<|bS aj<|w_<|bS aj<|w_<|bS aj<|w_<|bS aj<|w_<|bS aj<|w_<|bS aj<|w_<|bS aj<|w_<|bS aj<|w_<|bS aj ?_;exact w_<|bS aj<|w_<|jl aj (vb false)<|Kr<|oi hj▸⟨rfl,o.sp 12 [0,1,2,3,4,5,6,7,8,9,10,11]⟩;rintro _ w⟨O,rfl,o⟩;refine aD<|cV hb (λhb=>?_) λhb=>?_;refine KO<|KZ<|By<|bA aw<|J9 aw 1<|aK (wrap .i64<|aw - 1)<|x_<|bF ?_;exact oi hb▸⟨rfl,o.sp 12 [0,1,2,3,4,5,6,7,8,9,10,11]⟩;exact KF<|oi hb▸⟨rfl,o.sp 12 [0,1,2,3,4,5,6,7,8,9,10,11]⟩;rintro aw _ w hb⟨O,rfl,o⟩;refine aD<|By<|y_ zr jQ<|Kh 8 a1 o ly<|bA aw<|Kl 11 o zr mx λcn o=>KD ([(⟨aq,av,([]:List aN)⟩:Net)]:List Net) o [cn] n4 tT (λM hs g=>⟨(g.sat 0 _ zr).1,zt⟩) λc2 w o=>?_;obtain⟨c3,cp,hb⟩:=bd hb;have o:=(o.pull 0).pull 13;refine Kz (hL Tryz.func62) (Dz n4 Hg I2 o cp) λbw w o=>y_ zr jQ<|K4 11 bw o zr zr (j4 0 o) ly λw o=>?_;exact x_<|bF<|aD<|By<|IT hk hm<|bA ((ar+1:Nat):Int)<|x_<|oi hb▸⟨rfl,bw,o.sp 15 [3,4,5,6,7,8,9,10,11,0,12]⟩;rintro a2 _ w hb⟨cq,O,rfl,o⟩;refine aD<|u_ ?_;have o:=((o.freeze 10).freeze 9).zi (i:=8) (x:=(⟨a4,a2⟩:bG)) rfl<|λM hs g=>⟨[ax],[cq],rfl,jh (g.sat 10 _ rfl).1,jh (g.sat 9 _ rfl).1⟩;refine Kl 8 o zr jF λc4 o=>IS 6 o 0 zr jF λw o=>?_;refine v_<|E_ ?_;obtain rfl:=oi hb;exact FM 6 zr o zr zr jF λc5 o=>o.pk 13 [0,2]
def mm(E:World)(V:List HP)(r:Bool)(U:Nat->Value)(w:World):Prop:=iD bE 47 Tryz.f20 (aQ E V r) .ret U w
theorem qD{p0:bG}{res:Bool}(j:Holds E w V)(h0:V[i0]? =some (rd v0 p0))(o:ie N p0=some res):c_ 20 [v0] w<|aQ E V res:=by
 unfold ie at o;refine enter Tryz.func20 zr zr ?_;have j:=j.dup (i0+0) h0;refine u_<|Kk 0 v0 j zr λaf w j=>?_;refine bN false<|AS<|u_<|y_ zr qX<|H_ 0 j zr j8 m7 λar j=>B_ 0 p0.bB j rL<|bA 0<|v_<|Kg E V (λ(au:Unit)=>[bx 27 af p0,rd ar p0.bB]) (λ_=>[(1,vp af 0)]) (λai _=>[(8,ar),(9,vi p0.bB.length),(10,vi ai)]) (mm E V) o ?_ ?_ ?_ ?_;exact j.sp 3 [1,0];rintro hm ai au fl _ w hk⟨O,rfl,j⟩o;refine A_<|F_<|q_ o λal ax o=>BY 1 j oB ax λaz j=>D_ 0 al j nC λa0 j=>J_ j vT.z λa1 w j=>?_;refine IS 0 j 1 zr nC λw j=>?_;refine AI<|y_ zr kV<|C_ 0 j zr gD dP<|KN al.Name tB<|ic ((al.Name.bL.length:Int)) 200<|v_<|cV o (λo=>?_) λo=>?_;exact u_<|bN false<|v_<|I_<|aI<|oi o▸⟨rfl,aX ⟨rfl,j.drop 5⟩⟩;exact Kc<|bF<|aD<|By<|IT hk hm<|bA ((ai+1:Nat):Int)<|x_<|oi o▸⟨rfl,j.sp 5 [3,4]⟩;intro r U w o hK;exact aI<|oi o▸hK;rintro au _ w o⟨O,rfl,j⟩;refine aD<|A_<|u_<|y_ zr jQ<|H_ 0 j zr eT ly λag j=>B_ 0 p0.aM j qn<|bA 0<|v_<|Kg E V (λ(av:Unit)=>[bx 27 af p0,rd ag p0.aM]) (λ_=>[(1,vp af 0)]) (λah _=>[(20,ag),(21,vi p0.aM.length),(22,vi ah)]) (mm E V) o ?_ ?_ ?_ ?_;exact j.sp 3 [1,0];rintro hm ah av fl _ w hk⟨O,rfl,j⟩o;refine A_<|F_<|q_ o λae ay o=>BY 1 j n4 ay λa2 j=>D_ 0 ae j mx λa3 j=>J_ j tT.z λa4 w j=>?_;refine IS 0 j 1 zr mx λw j=>?_;refine AS<|q_ o λao hj o=>Ke (λ(ao:Bool)=>SH E V [(1,vp af 0),(20,ag),(21,vi p0.aM.length),(22,vi ah),(35,vb ao)] [bx 27 af p0,rd ag p0.aM]) ao ?_ ?_;refine By<|y_ zr jP<|C_ 0 j zr gE dP<|KN ae.Name tB<|ic ((ae.Name.bL.length:Int)) 200<|jU (decide<|(ae.Name.bL.length:Int)>200)<|je hj (λab hj=>?_) λab hj=>?_;exact bS ab<|bS ab<|bS ab<|bS ab<|jl ab (vb true)<|x_<|oi hj▸⟨rfl,j.sp 5 [3,4]⟩;refine y_ (hg:=cg ab) zr md<|H_ (hg:=cg ab) 0 j zr jt o4 λa5 j=>B_ (hg:=cg ab) 0 ae.aU j pY<|KH (ae.aU.length:Int) 500 (cg ab)<|jl ab (vb<|decide<|(ae.aU.length:Int)>500)<|x_ ?_;exact oi hj▸⟨rfl,j.sp 6 [4,5]⟩;rintro _ w⟨O,rfl,j⟩;refine aD<|cV o (λo=>?_) λo=>?_;exact u_<|bN false<|v_<|I_<|aI<|oi o▸⟨rfl,aX ⟨rfl,j.drop 2⟩⟩;exact Kc<|bF<|aD<|By<|IT hk hm<|bA ((ah+1:Nat):Int)<|x_<|oi o▸⟨rfl,j.sp 2 [0,1]⟩;intro r U w o hK;exact aI<|oi o▸hK;rintro av _ w o⟨O,rfl,j⟩;refine aD<|A_<|q_ o λaq hj o=>Ke (λ(aq:Bool)=>SH E V [(2,vb aq)] []) aq ?_ ?_;refine By<|y_ zr qX<|H_ 0 j zr j8 m7 λa6 j=>B_ 0 p0.bB j rL<|ic ((p0.bB.length:Int)) 1000<|jU (decide<|(p0.bB.length:Int)<=1000)<|je hj (λad hj=>?_) λad hj=>?_;refine y_ (hg:=cg ad) zr jQ<|H_ (hg:=cg ad) 1 j zr eT ly λa7 j=>B_ (hg:=cg ad) 0 p0.aM j qn<|KH (p0.aM.length:Int) 1000 (cg ad)<|jl ad (vb<|decide<|(p0.aM.length:Int)<=1000)<|bN (decide<|(p0.aM.length:Int)<=1000)<|x_ ?_;exact oi hj▸⟨rfl,j.sp 4 []⟩;exact bS ad<|bS ad<|bS ad<|bS ad<|jl ad (vb false)<|bN false<|x_<|oi hj▸⟨rfl,j.sp 3 []⟩;rintro _ w⟨O,rfl,j⟩;exact aD<|E_<|oi o▸aX ⟨rfl,j.drop 0⟩
theorem rR{p0:List aG}{p1:List aF}{p2:aN}{res:bG×Int}(o:Holds E w V)(h0:V[i0]? =some (rd v0 p0))(h1:V[i1]? =some (rd v1 p1))(hb:cM N p0 p1 p2=some res):c_ 5 [v0,v1,str p2] w<|sq E V res:=by
 unfold cM at hb;refine enter Tryz.func5 zr zr ?_;have o:=(o.dup (i0+0) h0).dup (i1+1) h1;refine u_<|J_ o zI.z λaj w o=>?_;refine aK 0<|AS<|u_<|mv v0<|mv v1<|q_ hb λaf an hb=>AT JO (kj N (i0:=2) (i1:=1) o zr zr an) λw o=>aK af<|AI<|bA af<|ic af 0<|v_<|cV hb (λhb=>?_) λhb=>?_;refine u_<|KU [n_,n_] [n_,n_] [] wM<|bA af ?_;have o:=((o.kN Part).kN Net).qN (cs:=[n_,n_]) (x:=(⟨([]:List Part),([]:List Net)⟩:bG)) (λM hs g=>⟨[n_],[n_],rfl,jh (g.sat 1 _ rfl).1,jh (g.sat 0 _ rfl).1⟩) rfl;refine IS 3 o 0 zr jF λw o=>?_;refine aK af<|v_<|G_ ?_;obtain rfl:=oi hb;exact rX 3 o jF λao o=>⟨ao,zr,o.pk 7 [0]⟩;refine Kv<|mv v1<|mv (str p2)<|q_ hb λab aq hb=>AT AF (cZ N (p1:=p2) (i0:=1) o zr aq) λw o=>aK ab<|AS<|u_<|bA ab<|ic ab 0<|v_<|cV hb (λhb=>?_) λhb=>?_;refine u_<|KU [n_,n_] [n_,n_] [] wM ?_;have o:=((o.kN Part).kN Net).qN (cs:=[n_,n_]) (x:=(⟨([]:List Part),([]:List Net)⟩:bG)) (λM hs g=>⟨[n_],[n_],rfl,jh (g.sat 1 _ rfl).1,jh (g.sat 0 _ rfl).1⟩) rfl;refine IS 3 o 0 zr jF λw o=>?_;refine aK 9<|v_<|G_ ?_;obtain rfl:=oi hb;exact rX 3 o jF λar o=>⟨ar,zr,o.pk 7 [0]⟩;refine Kb<|u_<|mv v1<|bA ab<|q_ hb λau av hb=>AT Hm (oM N (p1:=ab) (i0:=1) o zr av) λw o=>ic au 2000<|v_<|cV hb (λhb=>?_) λhb=>?_;refine u_<|KU [n_,n_] [n_,n_] [] wM ?_;have o:=((o.kN Part).kN Net).qN (cs:=[n_,n_]) (x:=(⟨([]:List Part),([]:List Net)⟩:bG)) (λM hs g=>⟨[n_],[n_],rfl,jh (g.sat 1 _ rfl).1,jh (g.sat 0 _ rfl).1⟩) rfl;refine IS 3 o 0 zr jF λw o=>?_;refine aK 2<|v_<|G_ ?_;obtain rfl:=oi hb;exact rX 3 o jF λaw o=>⟨aw,zr,o.pk 7 [0]⟩;refine Kv<|mv v0<|mv v1<|KU (h1:=⟨sW 2 o,sW 1 o,zt⟩) [n_,n_,n_,n_,n_,n_] [v0,v1,n_,n_,n_,n_] [(0,v0),(1,v1)] IP<|L9 (cs:=[v0,v1,n_,n_,n_,n_]) zt zr o zr (vP.all (⟨sW 2 o,sW 1 o,zr,zr,zr,zr,zt⟩:vP [v0,v1,n_,n_,n_,n_])) λag w o=>?_;refine iT (vp ag 0)<|AI<|mv v1<|bA ab<|q_ hb λah ax hb=>BY 2 o rJ ax λa7 o=>Kj 0 o zr pW jy λa8 o=>D_ 0 ah.aO o lH λa9 o=>B_ 0 ah.aO o n0<|q_ hb λak ay hb=>Lv (ah.aO.length:Int) zr o zr zr B2 JK ay λad w o=>?_;refine iT ad<|AS<|u_<|mv ad<|KM 0 ak o F3<|bA 0<|v_<|Ll E V (λ(ai:List Int)=>[raw 27 aj 2,bc 54 ag [v0,v1,n_,n_,n_,n_],rd v0 p0,rd v1 p1,own 3 ad ai]) (λ_=>[(6,vp aj 0),(9,vi ab),(10,vp ag 0),(11,ad)]) (λae _=>[(44,vi ak.length),(45,vi ae)]) hb ?_ ?_ ?_;exact o.sp 8 [5,4,7,6,0];rintro hm ae ai s' _ w hk⟨O,rfl,o⟩hb;refine A_<|F_<|bA (ae:Int)<|aK (ae:Int)<|v_<|By<|mv ad<|bA (ae:Int)<|q_ hb λba al hb=>Ks 4 o zr zr m8 al ?_;have o:=o.sc Int<|-1;refine K8 5 0 o al oZ λw o=>?_;exact x_<|bF<|aD<|By<|IT hk hm<|bA ((ae+1:Nat):Int)<|x_<|oi hb▸⟨rfl,o.sp 6 [1,2,3,4,5]⟩;rintro ai _ w hb⟨O,rfl,o⟩;refine aD<|u_<|mv (vp ag 0)<|bA ab<|mv ad ?_;have o:=(((((((((((o.gL Part 77).gL aN 9).Bh<|XS 83 Pin).gL RV 78).gL Int 3).freeze 9).pull 0).pull 3).pull 3).pull 6).pull 8).dup 13 rfl;have o:=o.pull 12;refine q_ hb λbb a1 hb=>Kz Hn (mA N (p1:=ab) (p2:=⟨[]⟩) (i3:=9) o zr a1) ?_;rintro _ w⟨bf,bg,bh,us54,bj,rfl,o⟩;refine AI<|mv (vp ag 0) ?_;have o:=((o.freeze 1).freeze 2).Bi (X:=XS 83 Pin) (b:=4) (j:=3) rfl (λM h u x cs=>(Ft 83) M h u x cs) rfl rfl (by decide);have o:=((((((o.freeze 3).freeze 5).dup 5 rfl).dup 4 rfl).dup 4 rfl).dup 4 rfl).pull 4;refine q_ hb λbk a2 hb=>Kz (hL Tryz.func19) (oP N o a2) λbl w o=>J_ o zI.z λbm w o=>?_;refine IS 0 o 1 zr jF λw o=>?_;refine AS<|u_<|Kl 0 o zr jF λbn o=>?_;refine q_ hb λa3 a4 hb=>AT (hL Tryz.func20) (qD N (i0:=0) o zr a4) λw o=>Ko a3<|v_<|cV hb (λhb=>?_) λhb=>?_;refine u_<|KU [n_,n_] [n_,n_] [] wM ?_;have o:=((o.kN Part).kN Net).qN (cs:=[n_,n_]) (x:=(⟨([]:List Part),([]:List Net)⟩:bG)) (λM hs g=>⟨[n_],[n_],rfl,jh (g.sat 1 _ rfl).1,jh (g.sat 0 _ rfl).1⟩) rfl;refine IS 18 o 0 zr jF λw o=>?_;refine aK 2<|v_<|G_ ?_;obtain rfl:=oi hb;exact rX 18 o jF λa6 o=>⟨a6,zr,o.pk 24 [0]⟩;refine Kv<|Kl 1 o zr jF λbo o=>IS 16 o 0 zr jF λw o=>?_;refine aK 0<|v_<|E_ ?_;obtain rfl:=oi hb;exact rX 16 o jF λa5 o=>⟨a5,zr,o.pk 22 [0]⟩
theorem sH{p0:List Part}{p1:List Part}{res:Bool}(j:Holds E w V)(h0:V[i0]? =some (rd v0 p0))(h1:V[i1]? =some (rd v1 p1))(o:kD N p0 p1=some res):c_ 35 [v0,v1] w<|aQ E V res:=by
 unfold kD at o;refine enter Tryz.func35 zr zr ?_;have j:=(j.dup (i0+0) h0).dup (i1+1) h1;refine u_<|bN false<|AS<|u_<|mv v0<|B_ 1 p0 j rL<|mv v1<|B_ 0 p1 j rL<|ic ((p0.length:Int)) ((p1.length:Int))<|v_<|cV o (λo=>?_) λo=>?_;exact u_<|bN false<|v_<|G_<|oi o▸aX ⟨rfl,j.drop 2⟩;refine Kb<|u_<|mv v0<|B_ 1 p0 j rL<|bA 0<|v_<|Kg E V (λ(ab:Unit)=>[rd v0 p0,rd v1 p1]) (λ_=>[]) (λaa _=>[(0,v0),(1,v1),(12,vi p0.length),(13,vi aa)]) (λr=>iD bE 26 Tryz.f35 (aQ E V r) .ret) o ?_ ?_ ?_ ?_;exact j.sp 2 [1,0];rintro hm aa ab fl _ w hk⟨O,rfl,j⟩o;refine A_<|F_<|bA (aa:Int)<|aK (aa:Int)<|AS<|KL mixed ?_;have j:=j.drew;refine KK<|mv v0<|w_<|bA (aa:Int)<|w_<|q_ o λad ah o=>BY 0 j oB ah λal j=>w_<|D_ 0 ad j nC λan j=>w_<|mv v1<|w_<|bA (aa:Int)<|w_ ?_;refine q_ o λae ai o=>BY 3 j oB ai λao j=>w_<|D_ 0 ae j nC λaq j=>w_<|LZ 2 0 ad ae zt zr j zr zr zr zr Hq zr<|Kr<|aD<|cV o (λo=>?_) λo=>?_;exact u_<|bN false<|v_<|I_<|aI<|oi o▸⟨rfl,aX ⟨rfl,j.drop 6⟩⟩;exact Kc<|bF<|aD<|By<|IT hk hm<|bA ((aa+1:Nat):Int)<|x_<|oi o▸⟨rfl,j.sp 6 [4,5]⟩;intro r U w o hK;exact aI<|oi o▸hK;rintro ab _ w o⟨O,rfl,j⟩;exact aD<|u_<|bN true<|v_<|E_<|oi o▸aX ⟨rfl,j.drop 2⟩
theorem tp{p0:List Pin}{p1:List Pin}{res:Bool}(j:Holds E w V)(h0:V[i0]? =some (rd v0 p0))(h1:V[i1]? =some (rd v1 p1))(o:ld N p0 p1=some res):c_ 36 [v0,v1] w<|aQ E V res:=by
 unfold ld at o;refine enter Tryz.func36 zr zr ?_;have j:=(j.dup (i0+0) h0).dup (i1+1) h1;refine u_<|bN false<|AS<|u_<|mv v0<|B_ 1 p0 j pY<|mv v1<|B_ 0 p1 j pY<|ic ((p0.length:Int)) ((p1.length:Int))<|v_<|cV o (λo=>?_) λo=>?_;exact u_<|bN false<|v_<|G_<|oi o▸aX ⟨rfl,j.drop 2⟩;refine Kb<|u_<|mv v0<|B_ 1 p0 j pY<|bA 0<|v_<|Kg E V (λ(ab:Unit)=>[rd v0 p0,rd v1 p1]) (λ_=>[]) (λaa _=>[(0,v0),(1,v1),(12,vi p0.length),(13,vi aa)]) (λr=>iD bE 26 Tryz.f36 (aQ E V r) .ret) o ?_ ?_ ?_ ?_;exact j.sp 2 [1,0];rintro hm aa ab fl _ w hk⟨O,rfl,j⟩o;refine A_<|F_<|bA (aa:Int)<|aK (aa:Int)<|AS<|KL mixed ?_;have j:=j.drew;refine KK<|mv v0<|w_<|bA (aa:Int)<|w_<|q_ o λad ah o=>BY 0 j pZ ah λal j=>w_<|D_ 0 ad j jz λan j=>w_<|mv v1<|w_<|bA (aa:Int)<|w_ ?_;refine q_ o λae ai o=>BY 3 j pZ ai λao j=>w_<|D_ 0 ae j jz λaq j=>w_<|LZ 2 0 ad ae zt zr j zr zr zr zr Bp zr<|Kr<|aD<|cV o (λo=>?_) λo=>?_;exact u_<|bN false<|v_<|I_<|aI<|oi o▸⟨rfl,aX ⟨rfl,j.drop 6⟩⟩;exact Kc<|bF<|aD<|By<|IT hk hm<|bA ((aa+1:Nat):Int)<|x_<|oi o▸⟨rfl,j.sp 6 [4,5]⟩;intro r U w o hK;exact aI<|oi o▸hK;rintro ab _ w o⟨O,rfl,j⟩;exact aD<|u_<|bN true<|v_<|E_<|oi o▸aX ⟨rfl,j.drop 2⟩
theorem rn{p0:List aN}{p1:List aN}{res:Bool}(j:Holds E w V)(h0:V[i0]? =some (rd v0 p0))(h1:V[i1]? =some (rd v1 p1))(o:fF N p0 p1=some res):c_ 37 [v0,v1] w<|aQ E V res:=by
 unfold fF at o;refine enter Tryz.func37 zr zr ?_;have j:=(j.dup (i0+0) h0).dup (i1+1) h1;refine u_<|bN false<|AS<|u_<|mv v0<|B_ 1 p0 j n0<|mv v1<|B_ 0 p1 j n0<|ic ((p0.length:Int)) ((p1.length:Int))<|v_<|cV o (λo=>?_) λo=>?_;exact u_<|bN false<|v_<|G_<|oi o▸aX ⟨rfl,j.drop 2⟩;refine Kb<|u_<|mv v0<|B_ 1 p0 j n0<|bA 0<|v_<|Kg E V (λ(ab:Unit)=>[rd v0 p0,rd v1 p1]) (λ_=>[]) (λaa _=>[(0,v0),(1,v1),(12,vi p0.length),(13,vi aa)]) (λr=>iD bE 26 Tryz.f37 (aQ E V r) .ret) o ?_ ?_ ?_ ?_;exact j.sp 2 [1,0];rintro hm aa ab fl _ w hk⟨O,rfl,j⟩o;refine A_<|F_<|bA (aa:Int)<|aK (aa:Int)<|AS<|KL mixed ?_;have j:=j.drew;refine KK<|mv v0<|w_<|bA (aa:Int)<|w_<|q_ o λad ah o=>BY 0 j m6 ah λal j=>w_<|Ki ad 0 j dP<|w_<|mv v1<|w_<|bA (aa:Int)<|w_ ?_;refine q_ o λae ai o=>BY 2 j m6 ai λan j=>w_<|Ki ae 0 j dP<|w_<|Ku ad ae zt<|Kr<|aD<|cV o (λo=>?_) λo=>?_;exact u_<|bN false<|v_<|I_<|aI<|oi o▸⟨rfl,aX ⟨rfl,j.drop 4⟩⟩;exact Kc<|bF<|aD<|By<|IT hk hm<|bA ((aa+1:Nat):Int)<|x_<|oi o▸⟨rfl,j.sp 4 [2,3]⟩;intro r U w o hK;exact aI<|oi o▸hK;rintro ab _ w o⟨O,rfl,j⟩;exact aD<|u_<|bN true<|v_<|E_<|oi o▸aX ⟨rfl,j.drop 2⟩
theorem rT{p0 p1:bG}{res:Bool}(j:Holds E w V)(h0:V[i0]? =some (rd v0 p0))(h1:V[i1]? =some (rd v1 p1))(hb:iX N p0 p1=some res):c_ 10 [v0,v1] w<|aQ E V res:=by
 unfold iX at hb;refine enter Tryz.func10 zr zr ?_;have j:=(j.dup (i0+0) h0).dup (i1+1) h1;refine u_<|Kk 1 v0 j zr λao w j=>?_;refine Kk 1 v1 j zr λag w j=>?_;refine bN false<|AS<|A_<|q_ hb λai o hb=>Ke (λ(ai:Bool)=>SH E V [(2,vp ao 0),(3,vp ag 0),(21,vb ai)] [bx 27 ao p0,bx 27 ag p1]) ai ?_ ?_;refine By<|y_ zr qX<|H_ 1 j zr j8 m7 λa7 j=>y_ zr qX<|H_ 1 j zr j8 m7 λa8 j=>?_;refine q_ o λaq av o=>AT (hL Tryz.func35) (sH N (i0:=1) (i1:=0) j zr zr av) λw j=>Ko aq<|jU (!aq)<|je o (λae o=>?_) λae o=>?_;exact bS ae<|bS ae<|bS ae<|bS ae<|bS ae<|bS ae<|bS ae<|jl ae (vb true)<|x_<|oi o▸⟨rfl,j.sp 6 [3,2]⟩;refine y_ (hg:=cg ae) zr jQ<|H_ (hg:=cg ae) 3 j zr eT ly λa9 j=>B_ (hg:=cg ae) 0 p0.aM j qn<|y_ (hg:=cg ae) zr jQ<|H_ (hg:=cg ae) 3 j zr eT ly λba j=>B_ (hg:=cg ae) 0 p1.aM j qn<|KH (p0.aM.length:Int) (p1.aM.length:Int) (cg ae)<|jl ae (vb<|(p0.aM.length:Int) != (p1.aM.length:Int))<|x_ ?_;exact oi o▸⟨rfl,j.sp 8 [5,4]⟩;rintro _ w⟨O,rfl,j⟩;refine aD<|cV hb (λhb=>?_) λhb=>?_;exact u_<|bN false<|v_<|G_<|oi hb▸aX ⟨rfl,j.drop 2⟩;refine Kb<|u_<|y_ zr jQ<|H_ 0 j zr eT ly λah j=>B_ 0 p0.aM j qn<|bA 0<|v_<|Kg E V (λ(ar:Unit)=>[bx 27 ag p1,rd ah p0.aM]) (λ_=>[]) (λaf _=>[(3,vp ag 0),(23,ah),(24,vi p0.aM.length),(25,vi af)]) (λr=>iD bE 64 Tryz.f10 (aQ E V r) .ret) hb ?_ ?_ ?_ ?_;exact j.sp 3 [2,0];rintro hm af ar fl _ w hk⟨O,rfl,j⟩hb;refine A_<|F_<|bA (af:Int)<|q_ hb λaj ay hb=>BY 1 j n4 ay λbc j=>D_ 0 aj j mx λbf j=>J_ j tT.z λbg w j=>?_;refine aK (af:Int)<|IS 0 j 1 zr mx λw j=>?_;refine AS<|q_ hb λak o hb=>Ke (λ(ak:Bool)=>SH E V [(3,vp ag 0),(23,ah),(24,vi p0.aM.length),(25,vi af),(62,vb ak)] [bx 27 ag p1,rd ah p0.aM]) ak ?_ ?_;refine KY mixed [0,0,0,0,0,0,0,0,0,0,0,0,0,0,0,0,0,0,2,0,0,0,0,0,0,0,0,0,0,0,2,0,0] [0,1,2,3,4,5,6,7,8,9,10,11,12,13,14,15,16,17,18,19,20,21,22,23,24,25,26,27,28,29,30,31,32] ?_;have j:=j.drew;refine Kf zr zr<|y_ zr jP<|cI zr<|C_ 0 j zr gE dP<|cI zr<|y_ zr jQ<|cI zr<|H_ 3 j zr eT ly λbh j=>cI zr<|bA (af:Int)<|cI zr ?_;refine q_ o λal az o=>BY 0 j n4 az λbj j=>cI zr<|Kj 0 j zr jP gE λbk j=>cI zr<|Ki al.Name 0 j dP<|cI zr<|Ku aj.Name al.Name zt<|cI zr<|jU (!aj.Name.fY al.Name)<|Kq<|je o (λaa o=>?_) λaa o=>?_;refine Kf zr zr<|bS aa<|cI zr<|bS aa<|cI zr<|bS aa<|cI zr<|bS aa<|cI zr<|bS aa<|cI zr<|bS aa<|cI zr<|bS aa<|cI zr<|bS aa<|u3 zr<|bS aa ?_;refine Bo zr<|bS aa<|cI zr<|jl aa (vb true)<|cI zr<|jU true<|cI zr<|tM<|cI zr<|tM<|cI zr<|tM<|cI zr<|tM<|cI zr<|tM<|cI zr<|tM ?_;refine cI zr<|tM<|cI zr<|tM<|u3 zr<|tM<|Bo zr<|tM<|cI zr<|Ky (b:=true) (v:=vb true) zt zr zr zr<|Kq<|KC ?_;exact oi o▸⟨rfl,j.sp 8 [6,7]⟩;refine Kf zr zr<|y_ (hg:=cg aa) zr md<|cI zr<|H_ (hg:=cg aa) 3 j zr jt o4 λbl j=>cI zr<|y_ (hg:=cg aa) zr jQ<|cI zr<|H_ (hg:=cg aa) 7 j zr eT ly λbm j=>cI zr<|IN (vi af) (cg aa)<|cI zr<|q_ o λa0 a1 o=>BY (hg:=cg aa) 0 j n4 a1 λbn j=>cI zr<|Kj (hg:=cg aa) 0 j zr md jt λbo j=>cI zr<|D_ (hg:=cg aa) 0 a0.aU j o4 λbp j=>u3 zr ?_;refine q_ o λan a2 o=>AT (hg:=cg aa) (hL Tryz.func36) (tp N (i0:=4) (i1:=0) j zr zr a2) λw j=>Bo zr<|Ko (hg:=cg aa) an<|cI zr<|jl aa (vb<|!an)<|cI zr<|jU (!an)<|Kq<|je o (λab o=>?_) λab o=>?_;refine Kf zr zr<|bS ab<|cI zr<|bS ab<|cI zr<|bS ab<|cI zr<|bS ab<|cI zr<|bS ab<|cI zr<|bS ab<|cI zr<|bS ab<|cI zr<|bS ab<|u3 zr<|bS ab ?_;exact Bo zr<|bS ab<|cI zr<|jl ab (vb true)<|Kq<|KC<|oi o▸⟨rfl,j.sp 13 [11,12]⟩;refine Kf zr zr<|y_ (hg:=cg ab) zr mK<|cI zr<|H_ (hg:=cg ab) 8 j zr jO lH λbq j=>cI zr<|y_ (hg:=cg ab) zr jQ<|cI zr<|H_ (hg:=cg ab) 12 j zr eT ly λbr j=>cI zr<|IN (vi af) (cg ab)<|cI zr<|q_ o λa3 a4 o=>BY (hg:=cg ab) 0 j n4 a4 λbt j=>cI zr<|Kj (hg:=cg ab) 0 j zr mK jO λbu j=>cI zr<|D_ (hg:=cg ab) 0 a3.aO j lH λbw j=>u3 zr ?_;exact q_ o λau a5 o=>AT (hg:=cg ab) (hL Tryz.func37) (rn N (i0:=4) (i1:=0) j zr zr a5) λw j=>Bo zr<|Ko (hg:=cg ab) au<|cI zr<|jl ab (vb<|!au)<|Kq<|KC<|oi o▸⟨rfl,j.sp 18 [16,17]⟩;rintro _ w⟨O,rfl,j⟩;refine aD<|cV hb (λhb=>?_) λhb=>?_;exact u_<|bN false<|v_<|I_<|aI<|oi hb▸⟨rfl,aX ⟨rfl,j.drop 2⟩⟩;exact Kc<|bF<|aD<|By<|IT hk hm<|bA ((af+1:Nat):Int)<|x_<|oi hb▸⟨rfl,j.sp 2 [0,1]⟩;intro r U w hb hK;exact aI<|oi hb▸hK;rintro ar _ w hb⟨O,rfl,j⟩;exact aD<|u_<|bN true<|v_<|E_<|oi hb▸aX ⟨rfl,j.drop 2⟩
theorem tq{p0 p1:aN}{res:List aN}(o:Holds E w V)(j:mI N p0 p1 p2 p3=some res):c_ 166 [str p0,str p1,vi p2,vi p3] w<|ku E V res:=by
 unfold mI at j;refine enter Tryz.func166 zr zr<|u_<|iT n_<|AS<|u_<|bA p3<|ic p3 0<|v_<|cV j (λj=>?_) λj=>?_;refine u_<|iT n_<|v_<|G_ ?_;obtain rfl:=oi j;have o:=o.gL aN 9;exact aX<|o.pk 1 [0];refine Kb<|u_<|mv (str p1)<|Ku p1 ⟨[]⟩ zt<|v_<|cV j (λj=>?_) λj=>?_;cases j;refine Kb<|u_<|bA p3<|ic p3 0<|v_<|q_ j λaa hj j=>Ke (λ(aa:Int)=>SH E V [(0,str p0),(1,str p1),(2,vi p2),(3,vi aa)] []) aa ?_ ?_;refine cV hj (λhj=>?_) λhj=>?_;refine By<|mv (str p0)<|mv (str p1)<|q_ hj λag aj hj=>AT F8 (mQ N (p0:=p0) (p1:=p1) o aj) λw o=>J9 ag 1<|aK (wrap .i64<|ag+1)<|x_ ?_;exact oi hj▸⟨rfl,o.sp 0 []⟩;exact Kc<|oi hj▸⟨rfl,o.sp 0 []⟩;rintro _ w⟨O,rfl,o⟩;refine aD<|u_<|bA aa<|mv (str p0)<|KN p0 tB<|J9 (p0.bL.length:Int) 1<|Lp aa (wrap .i64<|(p0.bL.length:Int)+1)<|aK (if wrap .i64 ((p0.bL.length:Int)+1)<aa then wrap .i64 ((p0.bL.length:Int)+1)else aa)<|AI ?_;refine bA (if wrap .i64 ((p0.bL.length:Int)+1)<aa then wrap .i64 ((p0.bL.length:Int)+1)else aa)<|q_ j λaw ak j=>Lv (if wrap .i64 ((p0.bL.length:Int)+1)<aa then wrap .i64 ((p0.bL.length:Int)+1)else aa) zr o zr zr F6 J3 ak λaf w o=>?_;refine iT af<|AI<|bA (if wrap .i64 ((p0.bL.length:Int)+1)<aa then wrap .i64 ((p0.bL.length:Int)+1)else aa)<|J9 (if wrap .i64 ((p0.bL.length:Int)+1)<aa then wrap .i64 ((p0.bL.length:Int)+1)else aa) 1<|aK (wrap .i64<|(if wrap .i64 ((p0.bL.length:Int)+1)<aa then wrap .i64 ((p0.bL.length:Int)+1)else aa) - 1)<|AI<|aK 0<|AS<|K6 E V (λ(ab:aN×List aN×Int)=>[own 9 af ab.2.1]) (λab=>[(0,str ab.1),(9,af),(10,vi ab.2.2)]) (λ_=>[(1,str p1),(2,vi p2),(3,vi<|wrap .i64<|(if wrap .i64 ((p0.bL.length:Int)+1)<aa then wrap .i64 ((p0.bL.length:Int)+1)else aa) - 1)]) j ?_ ?_ ?_;exact o.sp 1 [0];rintro ab fl _ w⟨O,rfl,o⟩j;refine A_<|u_<|bA ab.2.2<|bA (wrap .i64<|(if wrap .i64 ((p0.bL.length:Int)+1)<aa then wrap .i64 ((p0.bL.length:Int)+1)else aa) - 1)<|ic ab.2.2 (wrap .i64<|(if wrap .i64 ((p0.bL.length:Int)+1)<aa then wrap .i64 ((p0.bL.length:Int)+1)else aa) - 1)<|v_<|cV j (λj=>?_) λj=>?_;refine KO<|F_<|mv (str ab.1)<|mv (str p1)<|q_ j λae al j=>AT FC (qB N (p0:=ab.1) (p1:=p1) o al) λw o=>aK ae<|AS<|u_<|bA ae<|ic ae 0<|v_<|cV j (λj=>?_) λj=>?_;refine KF<|FL (by decide) ?_;exact oi j▸⟨rfl,o.sp 1 [0]⟩;refine Kv<|mv af<|bA ab.2.2<|mv (str ab.1)<|bA ae<|bA p2<|J9 ae p2<|q_ j λan ao j=>LI ab.1 zr zr tB (.inr ⟨rfl,zr⟩) (.inl zr) ao<|q_ j λay ah j=>Ks 0 o zr zr m6 ah ?_;have o:=o.sc aN an;refine K8 1 0 o ah dP λw o=>?_;refine AI<|mv (str ab.1)<|bA ae<|mv (str p1)<|KN p1 tB<|J9 ae (p1.bL.length:Int)<|q_ j λaq ar j=>LI ab.1 zr zr tB (.inl zr) (.inr ⟨rfl,zr⟩) ar<|iT (str aq)<|v_<|By<|bA ab.2.2<|J9 ab.2.2 1<|aK (wrap .i64<|ab.2.2+1)<|x_<|bF ?_;exact oi j▸⟨rfl,o.sp 2 [1]⟩;exact KF<|oi j▸⟨rfl,o.sp 1 [0]⟩;rintro ab _ w j⟨O,rfl,o⟩;refine aD<|u_<|mv af<|bA ab.2.2<|mv (str ab.1)<|q_ j λaz ai j=>Ks 0 o zr zr m6 ai ?_;have o:=o.sc aN ab.1;refine K8 1 0 o ai dP λw o=>?_;refine AI<|mv af<|bA ab.2.2<|J9 ab.2.2 1<|q_ j λa0 au j=>L3 1 zt zr o zr zr m6 (.inr ⟨rfl,zr⟩) (.inl zr) au λav o=>iT av<|v_<|E_ ?_;obtain rfl:=oi j;exact aX<|o.pk 2 [1]
theorem vj{p0 p1:aN}{res:List aN}(o:Holds E w V)(j:pO N p0 p1=some res):c_ 148 [str p0,str p1] w<|ku E V res:=by
 unfold pO at j;refine enter Tryz.func148 zr zr<|u_<|iT n_<|AI<|mv (str p0)<|mv (str p1)<|q_ j λad aa j=>Kz (hL Tryz.func166) (tq N (p0:=p0) (p1:=p1) (p2:=0) (p3:=(-1)) o aa) λab w o=>iT ab<|v_<|E_ ?_;obtain rfl:=oi j;exact aX<|o.pk 1 [0]
theorem oQ{p0:List aN}{p1:aN->Option Bool}(j:Holds E w V)(h0:V[i0]? =some (rd v0 p0))(h1:Am bE E V v1 p1 (λ(r:Bool)=>Value.bool r))(o:jN N p0 p1=some res):c_ 165 [v0,v1] w<|aB E V res:=by
 unfold jN at o;refine enter Tryz.func165 zr zr ?_;have j:=j.dup (i0+0) h0;refine u_<|aK 0<|AS<|u_<|mv v0<|B_ 0 p0 j n0<|bA 0<|v_<|Kg E V (λ(ab:Unit)=>[rd v0 p0]) (λ_=>[]) (λaa _=>[(0,v0),(1,v1),(7,vi p0.length),(8,vi aa)]) (λr=>iD bE 19 Tryz.f165 (aB E V r) .ret) o ?_ ?_ ?_ ?_;exact j.sp 1 [0];rintro hm aa ab fl _ w hk⟨O,rfl,j⟩o;refine A_<|F_<|bA (aa:Int)<|aK (aa:Int)<|AI<|mv v1<|mv v0<|bA (aa:Int)<|q_ o λad ag o=>BY 0 j m6 ag λak j=>Ki ad 0 j dP ?_;have j:=j.sc aN ad;refine q_ o λal ah o=>Le 0 j h1 3 ah λw j=>v_<|cV o (λo=>?_) λo=>?_;exact u_<|bA (aa:Int)<|aK (aa:Int)<|v_<|I_<|aI<|oi o▸⟨rfl,aX ⟨rfl,j.drop 3⟩⟩;exact Kc<|bF<|aD<|By<|IT hk hm<|bA ((aa+1:Nat):Int)<|x_<|oi o▸⟨rfl,j.sp 3 [2]⟩;intro r U w o hK;exact aI<|oi o▸hK;rintro ab _ w o⟨O,rfl,j⟩;exact aD<|u_<|aK (-1)<|v_<|E_<|oi o▸aX ⟨rfl,j.drop 1⟩
theorem ng{p0:List aN}{p1:aN->Option Bool}{res:Bool}(j:Holds E w V)(h0:V[i0]? =some (rd v0 p0))(h1:Am bE E V v1 p1 (λ(r:Bool)=>Value.bool r))(o:iY N p0 p1=some res):c_ 147 [v0,v1] w<|aQ E V res:=by
 unfold iY at o;refine enter Tryz.func147 zr zr ?_;have j:=j.dup (i0+0) h0;refine u_<|bN false<|AI<|mv v0<|mv v1<|q_ o λaa ab o=>AT (hL Tryz.func165) (oQ N (i0:=0) j zr (h1.lift 1 zr) ab) λw j=>ic aa 0<|bN (decide<|aa>=0)<|v_<|E_ ?_;exact oi o▸aX ⟨rfl,j.drop 1⟩
theorem sJ{p0:aN}{res:Bool}(o:Holds E w V)(j:l5 N p0=some res):c_ 149 [str p0] w<|aQ E V res:=by
 unfold l5 at j;exact enter Tryz.func149 zr zr<|u_<|bN false<|AI<|mv (str p0)<|q_ j λaa ab j=>AT zJ (fL N (p0:=p0) o ab) λw o=>Ko aa<|bN (!aa)<|v_<|E_<|oi j▸aX ⟨rfl,o.drop 0⟩
theorem px{p0:aN}{res:Bool}(j:Holds E w V)(hb:l6 N p0=some res):c_ 104 [str p0] w<|aQ E V res:=by
 unfold l6 at hb;refine enter Tryz.func104 zr zr<|u_<|bN false<|AS<|q_ hb λad hj hb=>Ke (λ(ad:Bool)=>SH E V [(2,vb ad)] []) ad ?_ ?_;refine By<|mv (str p0)<|KN p0 tB<|ic ((p0.bL.length:Int)) 200<|jU (decide<|(p0.bL.length:Int)<=200)<|je hj (λo hj=>?_) λo hj=>?_;refine IN (str p0) (cg o)<|q_ hj λah af hj=>Kz (hg:=cg o) (hL Tryz.func148) (vj N (p0:=p0) (p1:=⟨[47]⟩) j af) λai w j=>?_;have j:=j.freeze 0;refine q_ hj λae ag hj=>AT (hg:=cg o) (hL Tryz.func147) (ng N (i0:=0) j rfl ⟨149,[],rfl,(hL Tryz.func149),λw Γl v y0 r i j hi hr=>by obtain rfl:=j.ug (γ:=aN) hi;exact gO (sJ N (p0:=y0) j hr) λ_ _ h=>h⟩ ag) λw j=>Ko (hg:=cg o) ae<|jl o (vb<|!ae)<|bN (!ae)<|x_ ?_;exact oi hj▸⟨rfl,j.sp 1 []⟩;exact bS o<|bS o<|bS o<|bS o<|jl o (vb false)<|bN false<|x_<|oi hj▸⟨rfl,j.sp 0 []⟩;rintro _ w⟨O,rfl,j⟩;exact aD<|E_<|oi hb▸aX ⟨rfl,j.drop 0⟩
theorem qE{p0:Pin}{p1:List aG}{p2:bG}{res:Bool}(j:Holds E w V)(h0:V[i0]? =some (rd v0 p0))(h1:V[i1]? =some (pt v1 p1))(h2:V[i2]? =some (pt v2 p2))(o:kS N p0 p1 p2=some res):c_ 105 [v0,v1,v2] w<|aQ E V res:=by
 unfold kS at o;refine enter Tryz.func105 zr zr ?_;have j:=((j.dup (i0+0) h0).r3 (i:=i1+1) h1).r3 (i:=i2+2) h2;refine u_<|Kk 2 v0 j zr λad w j=>?_;refine bN false<|AI<|D_ 2 p1 j EX λae j=>Kj 2 j zr qX j8 λaf j=>D_ 0 p2.bB j m7 λag j=>Kl 3 j zr jz λah j=>?_;exact q_ o λaa ab o=>AT G1 (pw N (i0:=3) (i1:=1) (i2:=0) j zr zr zr ab) λw j=>bN aa<|v_<|E_<|oi o▸aX ⟨rfl,j.drop 8⟩
theorem sK{p0:List aG}{p1:bG}(j:Holds E w V)(h0:V[i0]? =some (rd v0 p0))(h1:V[i1]? =some (rd v1 p1))(o:l7 N p0 p1=some res):c_ 78 [v0,v1] w<|aB E V res:=by
 unfold l7 at o;refine enter Tryz.func78 zr zr ?_;have j:=(j.dup (i0+0) h0).dup (i1+1) h1;refine u_<|Kk 1 v0 j zr λaf w j=>?_;have j:=j.lb (i:=0) rfl;refine Kk 1 v1 j zr λag w j=>?_;have j:=j.lb (i:=0) rfl;refine aK 0<|AS<|u_<|D_ 1 p0 j EX λa3 j=>?_;refine q_ o λaj ar o=>AT H9 (kx N (i0:=0) j zr ar) λw j=>aK aj<|AI<|bA aj<|ic aj 0<|v_<|cV o (λo=>?_) λo=>?_;exact u_<|bA aj<|aK aj<|v_<|G_<|oi o▸aX ⟨rfl,j.drop 5⟩;refine Kb<|u_<|D_ 2 p0 j EX λa4 j=>Kj 2 j zr qX j8 λa5 j=>D_ 0 p1.bB j m7 λa6 j=>?_;refine q_ o λak au o=>AT GR (mC N (i0:=2) (i1:=0) j rfl rfl ⟨104,[],rfl,FD,λw Γl v y0 r i j hi hr=>by obtain rfl:=j.ug (γ:=aN) hi;exact gO (px N (p0:=y0) j hr) λ_ _ h=>h⟩ au) λw j=>aK ak<|AI<|bA ak<|ic ak 0<|v_<|cV o (λo=>?_) λo=>?_;exact u_<|bA ak<|aK ak<|v_<|G_<|oi o▸aX ⟨rfl,j.drop 8⟩;refine Kb<|u_<|Kj 4 j zr jQ eT λa7 j=>D_ 0 p1.aM j ly λa8 j=>B_ 0 p1.aM j qn<|ic ((p1.aM.length:Int)) 1000<|v_<|cV o (λo=>?_) λo=>?_;exact u_<|aK 2<|v_<|G_<|oi o▸aX ⟨rfl,j.drop 10⟩;refine Kv<|K_ (κ:=Pin) (ν:=Bool) j λah w j=>iT ah<|AS<|u_<|Kj 7 j zr jQ eT λa9 j=>D_ 0 p1.aM j ly λal j=>B_ 0 p1.aM j qn<|bA 0<|v_<|Kg E V (λ(ao:List (Pin×Bool))=>[pt (vp af 0) p0,pt (vp ag 0) p1,mp ah ao,rd al p1.aM]) (λ_=>[]) (λab _=>[(2,vp af 0),(3,vp ag 0),(7,ah),(29,al),(30,vi p1.aM.length),(31,vi ab)]) (λr=>iD bE 71 Tryz.f78 (aB E V r) .ret) o ?_ ?_ ?_ ?_;exact j.sp 13 [10,9,2,0];rintro hm ab ao fl _ w hk⟨O,rfl,j⟩o;refine A_<|F_<|bA (ab:Int)<|q_ o λad ax o=>BY 3 j n4 ax λbb j=>D_ 0 ad j mx λbc j=>J_ j tT.z λbf w j=>?_;refine aK (ab:Int)<|IS 0 j 1 zr mx λw j=>?_;refine AS<|u_<|y_ zr jP<|C_ 0 j zr gE dP<|q_ o λay az o=>AT FD (px N (p0:=ad.Name) j az) λw j=>Ko ay<|v_<|cV o (λo=>?_) λo=>?_;exact u_<|aK 5<|v_<|G_<|bW<|aI<|oi o▸⟨rfl,aX ⟨rfl,j.drop 7⟩⟩;refine Kb<|u_<|y_ zr md<|H_ 0 j zr jt o4 λbg j=>B_ 0 ad.aU j pY<|ic ((ad.aU.length:Int)) 0<|v_<|cV o (λo=>?_) λo=>?_;exact u_<|aK 9<|v_<|G_<|bW<|aI<|oi o▸⟨rfl,aX ⟨rfl,j.drop 8⟩⟩;refine Kb<|u_<|y_ zr md<|H_ 1 j zr jt o4 λbh j=>Lw zr [vp af 0,vp ag 0] zr<|mv ah ?_;have j:=j.pull 7;refine q_ o λai a0 o=>AT G3 (lP N (i0:=0) j rfl ⟨105,[vp af 0,vp ag 0],rfl,(hL Tryz.func105),λw Γl v y0 r i j hi hr=>by exact gO (qE N (i0:=i) (i1:=Γl.length+5) (i2:=Γl.length+6) j hi rY rY hr) λ_ _ h=>h⟩ a0) λw j=>aK ai.1<|AI<|bA ai.1<|ic ai.1 0<|v_<|cV o (λo=>?_) λo=>?_;exact u_<|bA ai.1<|aK ai.1<|v_<|G_<|bW<|aI<|oi o▸⟨rfl,aX ⟨rfl,j.drop 10⟩⟩;refine Kb<|u_<|y_ zr mK<|H_ 3 j zr jO lH λbj j=>B_ 0 ad.aO j n0<|ic ((ad.aO.length:Int)) 0<|v_<|cV o (λo=>?_) λo=>?_;exact u_<|aK 3<|v_<|G_<|bW<|aI<|oi o▸⟨rfl,aX ⟨rfl,j.drop 11⟩⟩;refine Kb<|q_ o λaq hj o=>Ke (λ(aq:Bool)=>SH E V [(2,vp af 0),(3,vp ag 0),(7,ah),(29,al),(30,vi p1.aM.length),(31,vi ab),(69,vb aq)] [pt (vp af 0) p0,pt (vp ag 0) p1,mp ah ai.2,rd al p1.aM]) aq ?_ ?_;refine KL mixed ?_;have j:=j.drew;refine KK<|bA (ab:Int)<|w_<|ic ((ab:Int)) 0<|w_<|jU (decide<|(ab:Int)>0)<|je hj (λaa hj=>?_) λaa hj=>?_;refine w_<|y_ (hg:=cg aa) zr jP<|w_<|C_ (hg:=cg aa) 4 j zr gE dP<|w_<|Kj (hg:=cg aa) 8 j zr jQ eT λbk j=>w_<|D_ (hg:=cg aa) 0 p1.aM j ly λbl j=>w_<|IN (vi ab) (cg aa)<|w_<|J9 (hg:=cg aa) (ab:Int) 1<|w_ ?_;refine q_ hj λan a1 hj=>BY (hg:=cg aa) 0 j n4 a1 λbm j=>w_<|Kj (hg:=cg aa) 0 j zr jP gE λbn j=>w_<|Ki (hg:=cg aa) an.Name 0 j dP<|w_<|Ku ad.Name an.Name (cg aa)<|w_<|jl aa (vb<|ad.Name.jc an.Name||ad.Name.fY an.Name)<|Kr ?_;exact oi hj▸⟨rfl,j.sp 15 [11,12,5,14]⟩;refine w_<|bS aa<|w_<|bS aa<|w_<|bS aa<|w_<|bS aa<|w_<|bS aa<|w_<|bS aa<|w_<|bS aa<|w_<|bS aa<|w_<|bS aa ?_;exact w_<|bS aa<|w_<|jl aa (vb false)<|Kr<|oi hj▸⟨rfl,j.sp 11 [7,8,1,10]⟩;rintro _ w⟨O,rfl,j⟩;refine aD<|cV o (λo=>?_) λo=>?_;exact u_<|aK 8<|v_<|I_<|aI<|oi o▸⟨rfl,aX ⟨rfl,j.drop 4⟩⟩;exact Kc<|bF<|aD<|By<|IT hk hm<|bA ((ab+1:Nat):Int)<|x_<|oi o▸⟨rfl,j.sp 4 [0,1,2,3]⟩;intro r U w o hK;exact aI<|oi o▸hK;rintro ao _ w o⟨O,rfl,j⟩;exact aD<|u_<|aK 0<|v_<|E_<|oi o▸aX ⟨rfl,j.drop 4⟩
def wT(E:World)(V:List HP)(res:List (Pin×Int))(v:Value)(w:World):Prop:=Holds E w<|[mp v res]++V
theorem vZ{p0:bG}{res:List (Pin×Int)}(j:Holds E w V)(h0:V[i0]? =some (rd v0 p0))(o:qQ N p0=some res):c_ 106 [v0] w<|wT E V res:=by
 unfold qQ at o;refine enter Tryz.func106 zr zr ?_;have j:=j.dup (i0+0) h0;refine u_<|Kk 0 v0 j zr λaq w j=>?_;refine iT (.map none)<|AI<|K_ (κ:=Pin) (ν:=Int) j λab w j=>iT ab<|AS<|u_<|y_ zr jQ<|H_ 1 j zr eT ly λad j=>B_ 0 p0.aM j qn<|bA 0<|v_<|Ll E V (λ(af:List (Pin×Int))=>[mp ab af,rd ad p0.aM]) (λ_=>[(3,ab)]) (λaa _=>[(10,ad),(11,vi p0.aM.length),(12,vi aa)]) o ?_ ?_ ?_;exact j.sp 4 [1,0];rintro hm aa af s' _ w hk⟨O,rfl,j⟩o;refine A_<|F_<|bA (aa:Int)<|q_ o λae an o=>BY 1 j n4 an λar j=>D_ 0 ae j mx λau j=>J_ j tT.z λav w j=>?_;refine aK (aa:Int)<|IS 0 j 1 zr mx λw j=>?_;refine AI<|y_ zr md<|H_ 0 j zr jt o4 λak j=>B_ 0 ae.aU j pY<|bA 0<|v_<|Ll E V (λ(ai:List (Pin×Int))=>[mp ab ai,rd ad p0.aM,rd ak ae.aU]) (λ_=>[(3,ab),(10,ad),(11,vi p0.aM.length),(12,vi aa)]) (λaj _=>[(4,vi aa),(18,ak),(19,vi ae.aU.length),(20,vi aj)]) o ?_ ?_ ?_;exact j.sp 6 [4,5,0];rintro hm aj ai s' _ w hk⟨O,rfl,j⟩o;refine A_<|F_<|q_ o λal ao o=>BY 2 j pZ ao λaw j=>D_ 0 al j jz λax j=>J_ j vc.z λay w j=>?_;refine IS 0 j 1 zr jz λw j=>?_;refine v_<|By<|mv ab<|Kl 0 j zr jz λaz j=>bA (aa:Int) ?_;have j:=j.sc Int (aa:Int);exact Lg 5 0 al j zr (r7 1 j zr) zr zr zr EZ λw j=>x_<|bF<|aD<|By<|IT hk hm<|bA ((aj+1:Nat):Int)<|x_<|oi o▸⟨rfl,j.sp 8 [5,6,7]⟩;rintro ai _ w o⟨O,rfl,j⟩;exact bF<|aD<|By<|IT hk hm<|bA ((aa+1:Nat):Int)<|x_<|oi o▸⟨rfl,j.sp 3 [0,1]⟩;rintro af _ w o⟨O,rfl,j⟩;refine aD<|u_<|mv ab<|iT ab<|v_<|E_ ?_;obtain rfl:=oi o;exact aX<|j.pk 2 [0]
theorem uE{p0:List aG}{p1:Part}{res:List Pin}(j:Holds E w V)(h0:V[i0]? =some (rd v0 p0))(h1:V[i1]? =some (rd v1 p1))(o:oy N p0 p1=some res):c_ 107 [v0,v1] w<|i7 E V res:=by
 unfold oy at o;refine enter Tryz.func107 zr zr ?_;have j:=(j.dup (i0+0) h0).dup (i1+1) h1;refine u_<|Kk 0 v1 j zr λag w j=>?_;refine iT n_<|AI<|iT n_<|AS<|u_<|mv v0<|mv v0<|y_ zr tQ<|C_ 0 j zr mJ dP<|q_ o λaw ak o=>AT FV (me N (p1:=p1.eD) (i0:=2) j zr ak) λw j=>?_;refine q_ o λab al o=>BY 2 j wK al λax j=>Kj 0 j zr pV gJ λay j=>D_ 0 ab.aU j xr λah j=>B_ 0 ab.aU j u9<|bA 0<|v_<|KR E V (λ(ad:List Pin)(ae:Value)=>[bx 77 ag p1,rd ah ab.aU,own 83 ae ad]) (λ_ ae=>[(5,ae)]) (λaf _ _=>[(3,vp ag 0),(15,ah),(16,vi ab.aU.length),(17,vi af)]) o ?_ ?_ ?_;have j:=j.gL Pin 83;exact⟨n_,j.sp 7 [4,1,0]⟩;rintro hm af ad s' _ w hk⟨aq,O,rfl,j⟩o;refine A_<|F_<|q_ o λaa ar o=>BY 1 j tO ar λaz j=>D_ 0 aa j sg λa0 j=>J_ j zK.z λa1 w j=>?_;refine IS 0 j 1 zr sg λw j=>?_;refine v_<|By<|mv aq<|y_ zr kV<|C_ 3 j zr gD dP<|y_ zr qU<|C_ 0 j zr iJ dP ?_;have j:=(j.sc aN p1.Name).sc aN aa.Name;refine KS (⟨p1.Name,aa.Name⟩:Pin) trivial rfl j [(0,str p1.Name),(1,str aa.Name)] rfl B3 rfl (λM hs g=>by have h:=wJ M;exact dQ.cons (f:=λ(x:Pin)y=>{x with Part:=y}) h qj (g.sat 1 _ rfl).1 λ_ h=>dQ.cons (f:=λ(x:Pin)y=>{x with Pin:=y}) h ql (g.sat 0 _ rfl).1 λ_ h=>dQ.nil h) λau j=>?_;refine KD ([(⟨p1.Name,aa.Name⟩:Pin)]:List Pin) j [au] pZ vc (λM hs g=>⟨(g.sat 0 _ zr).1,zt⟩) λa2 w j=>?_;have j:=j.freeze 0;refine q_ o λa3 av o=>KE 9 0 zt zr j zr zr zr zr AB av λai w j=>?_;exact iT ai<|x_<|bF<|aD<|By<|IT hk hm<|bA ((af+1:Nat):Int)<|x_<|oi o▸⟨rfl,ai,j.sp 10 [7,8,9]⟩;rintro ad _ w o⟨aj,O,rfl,j⟩;refine aD<|u_<|mv aj<|iT aj<|v_<|E_ ?_;obtain rfl:=oi o;exact aX<|j.pk 3 [2]
theorem t5{p0:List aG}{p1:bG}{res:List Pin}(j:Holds E w V)(h0:V[i0]? =some (rd v0 p0))(h1:V[i1]? =some (rd v1 p1))(o:ny N p0 p1=some res):c_ 79 [v0,v1] w<|i7 E V res:=by
 unfold ny at o;refine enter Tryz.func79 zr zr ?_;have j:=(j.dup (i0+0) h0).dup (i1+1) h1;refine u_<|Kk 0 v1 j zr λa8 w j=>?_;refine iT n_<|AI<|Kl 0 j zr jF λa9 j=>?_;refine q_ o λaa a0 o=>Kz (hL Tryz.func106) (vZ N (i0:=0) j zr a0) λad w j=>iT ad<|AI<|iT n_<|AS<|u_<|y_ zr qX<|H_ 2 j zr j8 m7 λaf j=>B_ 0 p1.bB j rL<|bA 0<|v_<|KR E V (λ(al:List Pin)(an:Value)=>[rd v0 p0,mp ad aa,rd af p1.bB,own 83 an al]) (λ_ an=>[(6,an)]) (λag _ _=>[(0,v0),(5,ad),(16,af),(17,vi p1.bB.length),(18,vi ag)]) o ?_ ?_ ?_;have j:=j.gL Pin 83;exact⟨n_,j.sp 7 [6,2,1,0]⟩;rintro hm ag al s' _ w hk⟨a1,O,rfl,j⟩o;refine A_<|F_<|q_ o λa2 a3 o=>BY 2 j oB a3 λba j=>D_ 0 a2 j nC λbb j=>J_ j vT.z λbc w j=>?_;refine IS 0 j 1 zr nC λw j=>?_;refine AI<|mv v0<|Kl 0 j zr nC λbf j=>?_;refine q_ o λah a4 o=>Kz (hL Tryz.func107) (uE N (i0:=4) (i1:=0) j zr zr a4) λai w j=>KM 0 ah j pY<|bA 0<|v_<|KR E V (λ(ar:List Pin)(au:Value)=>[rd v0 p0,mp ad aa,rd af p1.bB,own 83 ai ah,own 83 au ar]) (λ_ au=>[(0,v0),(5,ad),(6,au),(16,af),(17,vi p1.bB.length),(18,vi ag)]) (λaj _ _=>[(24,ai),(25,vi ah.length),(26,vi aj)]) o ?_ ?_ ?_;exact⟨a1,j.sp 9 [5,6,7,0,8]⟩;rintro hm aj ar s' _ w hk⟨aw,O,rfl,j⟩o;refine A_<|F_<|q_ o λab ax o=>Ks 3 j zr zr pZ ax<|Lx 3 j ax jz λbg j=>?_;refine J_ j vc.z λbh w j=>?_;refine IS 0 j 1 zr jz λw j=>?_;refine AI<|mv ad<|Kl 0 j zr jz λbj j=>L4 4 ab zt zr j zr (r7 0 j zr) zr EZ<|mv (.tuple #[vi<|cP aa ab (0:Int),vb<|iP aa ab])<|KB (vi<|cP aa ab (0:Int))<|KB (vb<|iP aa ab)<|aK (cP aa ab (0:Int))<|bN (iP aa ab) ?_;refine AI<|jU (iP aa ab)<|Ko (iP aa ab)<|v_<|q_ o λav hj o=>Ke (λ(av:List Pin)U w=>∃ak:Value,SH E V [(0,v0),(5,ad),(6,ak),(16,af),(17,vi p1.bB.length),(18,vi ag),(24,ai),(25,vi ah.length),(26,vi aj)] [rd v0 p0,mp ad aa,rd af p1.bB,own 83 ai ah,own 83 ak av] U w) av ?_ ?_;refine cV hj (λhj=>?_) λhj=>?_;refine By<|mv aw<|Kl 1 j zr jz λa5 j=>KD ([ab]:List Pin) j [a5] pZ vc (λM hs g=>⟨(g.sat 0 _ zr).1,zt⟩) λbk w j=>?_;have j:=j.freeze 0;refine q_ hj λbl a6 hj=>KE 9 0 zt zr j zr zr zr zr AB a6 λay w j=>?_;exact iT ay<|x_<|oi hj▸⟨rfl,ay,j.sp 10 [5,6,7,8,9]⟩;exact Kc<|oi hj▸⟨rfl,aw,j.sp 8 [3,4,5,6,7]⟩;rintro _ w⟨ak,O,rfl,j⟩;exact bF<|aD<|By<|IT hk hm<|bA ((aj+1:Nat):Int)<|x_<|oi o▸⟨rfl,ak,j.sp 5 [0,1,2,3,4]⟩;rintro ar _ w o⟨a7,O,rfl,j⟩;exact bF<|aD<|By<|IT hk hm<|bA ((ag+1:Nat):Int)<|x_<|oi o▸⟨rfl,a7,j.sp 5 [0,1,2,4]⟩;rintro al _ w o⟨az,O,rfl,j⟩;refine aD<|u_<|mv az<|iT az<|v_<|E_ ?_;obtain rfl:=oi o;exact aX<|j.pk 4 [3]
def v5(E:World)(V:List HP)(res:List Pin×Int)(v:Value)(w:World):Prop:=∃u0:Value,v = .tuple #[u0,vi res.2]/\Holds E w ([own 83 u0 res.1]++V)
theorem vk{p0:List aG}{p1:bG}{res:List Pin×Int}(j:Holds E w V)(h0:V[i0]? =some (rd v0 p0))(h1:V[i1]? =some (rd v1 p1))(o:pR N p0 p1=some res):c_ 38 [v0,v1] w<|v5 E V res:=by
 unfold pR at o;refine enter Tryz.func38 zr zr ?_;have j:=(j.dup (i0+0) h0).dup (i1+1) h1;refine u_<|Kk 0 v1 j zr λaf w j=>?_;refine iT n_<|aK 0<|AS<|u_<|mv v0<|Kl 0 j zr jF λag j=>?_;refine q_ o λaa ad o=>AT (hL Tryz.func78) (sK N (i0:=3) (i1:=0) j zr zr ad) λw j=>aK aa<|AI<|bA aa<|ic aa 0<|v_<|cV o (λo=>?_) λo=>?_;refine u_<|bA aa<|iT n_<|aK aa<|v_<|G_ ?_;obtain rfl:=oi o;have j:=j.gL Pin 83;exact CS zr zr zr ⟨n_,zr,j.pk 5 [0]⟩;refine Kv<|mv v0<|Kl 1 j zr jF λah j=>?_;exact q_ o λai ae o=>Kz (hL Tryz.func79) (t5 N (i0:=4) (i1:=0) j zr zr ae) λab w j=>iT ab<|aK 0<|v_<|E_<|oi o▸CS zr zr zr ⟨ab,zr,j.pk 6 [0]⟩
end Go.Gk
