/-
  Printed texts: Go functions as plain functions, and that they are. No statement of the seed is proved here.
-/
import Derived.Test.YtaadpbkoidcoeaaGreatDoorG1
import Derived.Test.YtaadpbkoidcoeaaGreatDoorG2
import Derived.Test.YtaadpbkoidcoeaaGreatDoorG3
import Derived.Test.YtaadpbkoidcoeaaGreatDoorG4
import Derived.Test.YtaadpbkoidcoeaaGreatDoorA2
set_option linter.unusedVariables false
set_option linter.unusedSimpArgs false
set_option linter.unusedSectionVars false
set_option maxRecDepth 100000
set_option maxHeartbeats 40000000
namespace Go.Gk
open Go IntKind Go.Proofs
variable (N:Nat){E w:aW}{b0 i0 i1 i2:Nat}{p0 p1 p2 p3 res:Int}{v0 e_ i_ j_ g_ a_ d_ k_ b_ f_ p_ o_ l_ v1 v2:aV}{V:aL HP}
def qd(E:aW)(V:aL HP)(b0:Nat)(e_ i_:aV)(a_ d_:aV)(k_ b_:aV)(f_ p_:aV)(o_ l_:aV)(j_ g_:aV)(res:fN×Bool)(v:aV)(w:aW):Prop:=∃u0:aV,v = .tuple #[u0,vb res.2]/\Holds E w ([rd u0 res.1,bc 94 b0 [e_,i_,a_,d_,k_,b_,f_,p_,o_,l_,j_,g_]]++V)
def qe(E:aW)(V:aL HP)(b0:Nat)(e_ i_:aV)(a_ d_:aV)(k_ b_:aV)(f_ p_:aV)(o_ l_:aV)(j_ g_:aV)(r:fN×Bool)(U:Nat->aV)(w:aW):Prop:=ml aX 66 Tryz.f108 (qd E V b0 e_ i_ a_ d_ k_ b_ f_ p_ o_ l_ j_ g_ r) .ret U w
theorem uT{m_:aL cL}{h_:aL aI}{p1:cW}{res:fN×Bool}(j:Holds E w (bc 94 b0 [e_,i_,a_,d_,k_,b_,f_,p_,o_,l_,j_,g_]::rd a_ m_::rd b_ h_::V))(h1:fC V i1 v1 p1)(o:jX N m_ h_ p1=some res):c_ 108 [vp b0 0,v1] w<|qd E V b0 e_ i_ a_ d_ k_ b_ f_ p_ o_ l_ j_ g_ res:=by
 unfold jX at o;refine enter Tryz.func108 zr zr ?_;have j:=j.dup (i1+3) h1;refine w_<|V7 0 v1 j zr λah w j=>?_;have j:=j.fM (i:=0) rfl;refine V9 j Jx.z λai w j=>?_;refine bV false<|IT<|w_<|mv (vp b0 0)<|Wg zt zr zr<|AT zr qz<|AT zr py<|VY 3 a_ j Ah<|VP 4 m_ j Co<|aO 0<|AS<|WJ E V (λ(ar:Unit)=>[bc 94 b0 [e_,i_,a_,d_,k_,b_,f_,p_,o_,l_,j_,g_],rd a_ m_,rd b_ h_,pt (vp ah 0) p1,raw 150 ai 2]) (λ_=>[(0,vp b0 0),(3,vp ah 0),(4,vp ai 0)]) (λae _=>[(14,a_),(15,vi m_.length),(16,vi ae)]) (qe E V b0 e_ i_ a_ d_ k_ b_ f_ p_ o_ l_ j_ g_) o ?_ ?_ ?_ ?_;exact j.sp 6 [3,4,5,1,0];rintro hm ae ar fl _ w hk⟨O,rfl,j⟩o;refine IS<|VW<|aO (ae:Int)<|q_ o λau ay o=>VO 1 j Fe ay λbb j=>VS 0 au j na λbf j=>V9 j Ej.z λbg w j=>?_;refine aJ (ae:Int)<|V5 0 j 1 zr na λw j=>?_;refine IT<|q_ o λal hj o=>VR (λ(al:Bool)=>SH E V [(0,vp b0 0),(3,vp ah 0),(4,vp ai 0),(6,vi ae),(14,a_),(15,vi m_.length),(16,vi ae),(36,vb al)] [bc 94 b0 [e_,i_,a_,d_,k_,b_,f_,p_,o_,l_,j_,g_],rd a_ m_,rd b_ h_,pt (vp ah 0) p1,raw 150 ai 2]) al ?_ ?_;refine WA mixed (ix 16 211220002000000) (fR 0 10 [12,13,10,11,14,15]) ?_;have j:=j.drew;refine VU zr zr<|AT zr BH<|bF zr<|VL 0 j zr wK BJ<|bF zr<|fY au.jo<|VZ<|fx hj (λaf hj=>?_) λaf hj=>?_;refine VU zr zr<|V1 0 j zr na λbh j=>bF zr<|Wo 7 j zr Ic Ae λbj j=>bF zr<|Wd p1.dI 0 j cV<|rW zr<|q_ hj λav az hj=>VM Me (oS N (p1:=p1.dI) (i0:=1) j zr az) λw j=>u7 zr<|fw af (vb av)<|bF zr<|fY av<|VZ<|fx hj (λab hj=>?_) λab hj=>?_;refine VU zr zr<|V1 2 j zr na λbk j=>VZ<|XI 9 zr zr (cg ab) zr j zr zr yg po λbl j=>W6 (hg:=cg ab) p1.At 0 zr j xk λbm a105 bn j=>Wq zr zr<|q_ hj λa0 a1 hj=>V2 Ky (iP N (i0:=3) j zr a1) λa2 w j=>Wj (⟨zt,j.kP 1⟩)<|Wq zr zr<|Wv (hg:=cg ab) ([a0]:aL aK) j [a2] mD px (λ_ _=>jn) λbo w j=>Wj (⟨zt,j.kP 2⟩)<|Wq zr zr ?_;have j:=j.freeze 0;refine q_ hj λa3 a4 hj=>VM Pj (rM N (i0:=0) (i1:=3) j zr zr a4) λw j=>Wj (⟨zt,j.kP 2⟩)<|VU zr zr<|fw ab (vb a3)<|VZ ?_;have j:=j.pl 16 [0,1,3,4,5,6,7,8,9,10,11,12,13,14,15] rfl;exact Wi<|oi hj▸⟨rfl,j.sp 15 (fR 10 5 [])⟩;refine VU zr zr<|bH ab<|VZ<|V8 undef zr (λw=>bH ab V0)<|V8 undef zr (λw=>bH ab V0)<|Wq zr zr<|bH ab<|N6 zr<|bH ab<|N6 zr<|bH ab<|u7 zr<|fw ab (vb false)<|VZ<|Wi ?_;exact oi hj▸⟨rfl,j.sp 10 [5,6,7,8,9]⟩;refine VU zr zr<|bH af<|bF zr<|bH af<|bF zr<|bH af<|rW zr<|bH af<|u7 zr<|fw af (vb false)<|bF zr<|fY false<|bF zr<|kH<|VZ<|V8 undef zr (λw=>kH V0)<|V8 undef zr (λw=>kH V0)<|Wq zr zr ?_;exact kH<|N6 zr<|kH<|N6 zr<|kH<|u7 zr<|Wl (b:=false) (v:=vb false) zt zr zr zr<|VZ<|Wi<|oi hj▸⟨rfl,j.sp 8 [3,4,5,6,7]⟩;rintro _ w⟨O,rfl,j⟩;refine aD<|dM o (λo=>?_) λo=>?_;refine w_<|aO (ae:Int) ?_;have j:=(j.sc Bool true).sc Int (ae:Int);refine WN (⟨true,(ae:Int)⟩:fN) trivial rfl j [(0,vb true),(1,vi ae)] rfl Jy rfl (λM hs g=>by have h:=Jt M;exact cI.cons (f:=λ(x:fN)y=>{x with cL:=y}) h L1 (g.sat 1 _ rfl).1 λ_ h=>cI.cons (f:=λ(x:fN)y=>{x with Number:=y}) h GK (g.sat 0 _ rfl).1 λ_ h=>cI.nil h) λbp j=>?_;refine V5 7 j 0 zr qI λw j=>?_;refine bV true<|AS<|Wm<|bJ ?_;obtain rfl:=oi o;exact⟨rfl,D1 7 j qI λa5 j=>⟨a5,zr,j.pk 9 [0,4]⟩⟩;exact Wc<|bI<|aD<|BY<|Wa hk hm<|aO ((ae+1:Nat):Int)<|By<|oi o▸⟨rfl,j.sp 5 [0,1,2,3,4]⟩;intro r U w o hK;exact bJ<|oi o▸hK;rintro ar _ w o⟨O,rfl,j⟩;refine aD<|IS<|w_<|mv (vp b0 0)<|Wg zt zr zr<|AT zr ng<|VY 0 b_ j xl<|VP 2 h_ j DC<|aO 0<|AS<|WJ E V (λ(aw:Unit)=>[bc 94 b0 [e_,i_,a_,d_,k_,b_,f_,p_,o_,l_,j_,g_],rd a_ m_,rd b_ h_,pt (vp ah 0) p1,raw 150 ai 2]) (λ_=>[(0,vp b0 0),(4,vp ai 0)]) (λag _=>[(3,vp ah 0),(43,b_),(44,vi h_.length),(45,vi ag)]) (qe E V b0 e_ i_ a_ d_ k_ b_ f_ p_ o_ l_ j_ g_) o ?_ ?_ ?_ ?_;exact j.sp 5 [0,1,2,3,4];rintro hm ag aw fl _ w hk⟨O,rfl,j⟩o;refine IS<|VW<|aO (ag:Int)<|q_ o λao a6 o=>VO 2 j Fi a6 λbq j=>VS 0 ao j GR λbr j=>V9 j Mi.z λbt w j=>?_;refine aJ (ag:Int)<|V5 0 j 1 zr GR λw j=>?_;refine IT<|q_ o λaq hj o=>VR (λ(aq:Bool)=>SH E V [(0,vp b0 0),(3,vp ah 0),(4,vp ai 0),(8,vi ag),(43,b_),(44,vi h_.length),(45,vi ag),(61,vb aq)] [bc 94 b0 [e_,i_,a_,d_,k_,b_,f_,p_,o_,l_,j_,g_],rd a_ m_,rd b_ h_,pt (vp ah 0) p1,raw 150 ai 2]) aq ?_ ?_;refine BY<|AT zr Ai<|VL 0 j zr jg cV<|Wo 6 j zr Ic Ae λbu j=>Wd p1.dI 0 j cV<|ic ao.dI p1.dI<|fY (ao.dI==p1.dI)<|fx hj (λad hj=>?_) λad hj=>?_;refine AT zr Aj<|Wh 1 j zr jh Ag λbw j=>Wo 8 j zr yg po λbx j=>VS 0 p1.At j xk λbz j=>?_;exact q_ hj λa7 a8 hj=>VM Pj (rM N (i0:=2) (i1:=0) j zr zr a8) λw j=>fw ad (vb a7)<|By<|oi hj▸⟨rfl,j.sp 12 (fR 7 5 [])⟩;exact bH ad<|bH ad<|bH ad<|bH ad<|bH ad<|fw ad (vb false)<|By<|oi hj▸⟨rfl,j.sp 9 [4,5,6,7,8]⟩;rintro _ w⟨O,rfl,j⟩;refine aD<|dM o (λo=>?_) λo=>?_;refine w_<|aO (ag:Int) ?_;have j:=j.sc Int (ag:Int);refine WN (⟨false,(ag:Int)⟩:fN) trivial rfl j [(1,vi ag)] rfl Jy rfl (λM hs g=>by have h:=Jt M;exact cI.cons (f:=λ(x:fN)y=>{x with Number:=y}) h GK (g.sat 0 _ rfl).1 λ_ h=>cI.nil h) λb2 j=>?_;refine V5 6 j 0 zr qI λw j=>?_;refine bV true<|AS<|Wm<|bJ ?_;obtain rfl:=oi o;exact⟨rfl,D1 6 j qI λa9 j=>⟨a9,zr,j.pk 8 [0,3]⟩⟩;exact Wc<|bI<|aD<|BY<|Wa hk hm<|aO ((ag+1:Nat):Int)<|By<|oi o▸⟨rfl,j.sp 5 [0,1,2,3,4]⟩;intro r U w o hK;exact bJ<|oi o▸hK;rintro aw _ w o⟨O,rfl,j⟩;refine aD<|w_<|WN (⟨false,0⟩:fN) trivial rfl j [] rfl Jy rfl (λM hs g=>by have h:=Jt M;exact cI.nil h) λb3 j=>?_;refine V5 5 j 0 zr qI λw j=>?_;refine bV false<|AS<|VN ?_;obtain rfl:=oi o;exact D1 5 j qI λba j=>⟨ba,zr,j.pk 7 [0,2]⟩
theorem rN{O_:aL Int}{P_:aL Int}{p1:fN}(j:Holds E w (bc 94 b0 [e_,i_,a_,d_,k_,b_,f_,p_,o_,l_,j_,g_]::rd o_ O_::rd l_ P_::V))(h1:fC V i1 v1 p1)(o:gU N O_ P_ p1=some res):c_ 109 [vp b0 0,v1] w<|kd E V b0 e_ i_ a_ d_ k_ b_ f_ p_ o_ l_ j_ g_ res:=by
 unfold gU at o;refine enter Tryz.func109 zr zr ?_;have j:=j.dup (i1+3) h1;refine w_<|V7 0 v1 j zr λaf w j=>?_;refine aJ 0<|IT<|w_<|AT zr Fq<|VL 0 j zr Cj BJ<|AS<|dM o (λo=>?_) λo=>?_;refine IS<|WD mixed ?_;have j:=j.drew;refine WC<|mv (vp b0 0)<|AI<|Wg zt zr zr<|AI<|AT zr Fk<|AI<|VY 2 l_ j gm<|AI<|AT zr t7<|AI<|VL 0 j zr rE cV<|AI ?_;refine q_ o λaa ad o=>VO 4 j fH ad λag j=>AI<|Wd aa 0 j cV<|AI<|aJ aa<|Wt<|aD<|V4 ?_;exact oi o▸bT ⟨rfl,j.pk 6 [3]⟩;refine We<|WD mixed ?_;have j:=j.drew;refine WC<|mv (vp b0 0)<|AI<|Wg zt zr zr<|AI<|AT zr rG<|AI<|VY 2 o_ j gm<|AI<|AT zr t7<|AI<|VL 0 j zr rE cV<|AI ?_;refine q_ o λab ae o=>VO 3 j fH ae λah j=>AI<|Wd ab 0 j cV<|AI<|aJ ab<|Wt<|aD<|VN ?_;exact oi o▸bT ⟨rfl,j.pk 6 [3]⟩
def qC(E:aW)(V:aL HP)(b0:Nat)(e_ i_:aV)(a_ d_:aV)(k_ b_ f_:aV)(res:aL bM×aL Int×aL Int×aL Int×aL fN)(v:aV)(w:aW):Prop:=∃a0_ a1_ a2_ a3_ a4_:aV,v = .tuple #[]/\Holds E w ([bc 94 b0 [e_,i_,a_,d_,k_,b_,f_,a0_,a1_,a2_,a3_,a4_],own 104 a0_ res.1,rd a1_ res.2.1,rd a2_ res.2.2.1,own 3 a3_ res.2.2.2.1,own 150 a4_ res.2.2.2.2]++V)
theorem qf{m_:aL cL}{v_:aL cW}{h_:aL aI}{x_:aL (aL Int)}{O_:aL Int}{P_:aL Int}{C_:aL Int}{B_:aL fN}{res:aL bM×aL Int×aL Int×aL Int×aL fN}(hw:Holds E w (bc 94 b0 [e_,i_,a_,d_,k_,b_,f_,n_,o_,l_,j_,g_]::rd a_ m_::rd d_ v_::rd b_ h_::rd f_ x_::own 3 o_ O_::own 3 l_ P_::own 3 j_ C_::own 150 g_ B_::V))(hb:gl N m_ v_ h_ x_ O_ P_ C_ B_=some res):
    c_ 71 [vp b0 0] w<|qC E V b0 e_ i_ a_ d_ k_ b_ f_ res:=by
 unfold gl at hb
 refine enter Tryz.func71 zr zr<|w_<|mv (vp b0 0)<|Wg zt zr zr<|AT zr ng<|VY 0 b_ hw xl<|VP 3 h_ hw DC<|aJ (h_.length:Int)<|IN ?_
 refine aO (h_.length:Int)<|mv (vp b0 0)<|Wg zt zr zr<|AT zr qz<|AT zr py<|VY 0 a_ hw Ah<|VP 1 m_ hw Co<|OF (h_.length:Int) (m_.length:Int) ?_
 obtain⟨e4,dp,hb⟩:=bd hb
 refine V2 P5 (nj N (p0:=cE<|(h_.length:Int)+(m_.length:Int)) hw dp) ?_
 rintro _ w⟨bl,dq,rfl,hw⟩
 refine dN (vp bl 0)<|IT<|w_<|mv (vp b0 0)<|Wg zt zr zr<|AT zr Fj<|VY 2 f_ hw Og<|VP 6 x_ hw Oh<|aO 0 ?_
 refine AS<|WT E V (λ(b7:aL Int)(cz:aV)=>[bc 94 b0 [e_,i_,a_,d_,k_,b_,f_,n_,o_,l_,j_,g_],rd a_ m_,rd d_ v_,rd b_ h_,rd f_ x_,own 3 o_ O_,own 3 l_ P_,own 3 j_ C_,own 150 g_ B_,bc 124 bl [cz],own 3 cz b7]) (λ_ _=>[(0,vp b0 0),(2,vi h_.length),(3,vp bl 0)]) (λbg _ _=>[(35,f_),(36,vi x_.length),(37,vi bg)]) hb ?_ ?_ ?_
 ·exact⟨dq,hw.sp 11 (fR 2 9 [0,1])⟩
 ·rintro hm bg b7 s' _ w hk⟨dr,O,rfl,hw⟩hb
  refine IS<|VW<|aO (bg:Int) ?_
  obtain⟨b8,ds,hb⟩:=bd hb
  refine VO 4 hw Ie ds λe5 hw=>VS 0 b8 hw gm λb9 hw=>aJ (bg:Int)<|dN b9<|IN<|mv b9<|VP 0 b8 hw pd<|aO 0<|AS ?_
  refine WT E V (λ(cq:aL Int)(c0:aV)=>[bc 94 b0 [e_,i_,a_,d_,k_,b_,f_,n_,o_,l_,j_,g_],rd a_ m_,rd d_ v_,rd b_ h_,rd f_ x_,own 3 o_ O_,own 3 l_ P_,own 3 j_ C_,own 150 g_ B_,bc 124 bl [c0],own 3 c0 cq,rd b9 b8]) (λ_ _=>[(0,vp b0 0),(2,vi h_.length),(3,vp bl 0),(35,f_),(36,vi x_.length),(37,vi bg)]) (λcr _ _=>[(4,vi bg),(42,b9),(43,vi b8.length),(44,vi cr)]) hb ?_ ?_ ?_
  ·exact⟨dr,hw.sp 13 (fR 2 11 [0])⟩
  ·rintro hm cr cq s' _ w hk⟨e6,O,rfl,hw⟩hb
   refine IS<|VW ?_
   obtain⟨ca,dt,hb⟩:=bd hb
   refine VO 11 hw fH dt λe7 hw=>Wd ca 0 hw cV<|aJ ca<|AS<|BY<|mv (vp bl 0)<|aO ca<|aO (h_.length:Int)<|aO (bg:Int) ?_
   refine OF (h_.length:Int) (bg:Int) ?_
   have hw:=(hw.pull 11).pull 11
   obtain⟨e8,du,hb⟩:=bd hb
   refine V2 P6 (ma N (p1:=ca) (p2:=cE<|(h_.length:Int)+(bg:Int)) hw du) ?_
   rintro _ w⟨dv,rfl,hw⟩
   refine By<|bI<|aD<|BY<|Wa hk hm<|aO ((cr+1:Nat):Int)<|By ?_
   obtain rfl:=oi hb
   exact⟨rfl,dv,hw.sp 15 (fR 3 9 [0,1,14])⟩
  rintro cq _ w hb⟨dw,O,rfl,hw⟩
  refine bI<|aD<|BY<|Wa hk hm<|aO ((bg+1:Nat):Int)<|By ?_
  obtain rfl:=oi hb
  exact⟨rfl,dw,hw.sp 12 (fR 0 11 [])⟩
 rintro b7 _ w hb⟨c1,O,rfl,hw⟩
 refine aD<|IS ?_
 obtain⟨dx,dy,hb⟩:=bd hb
 obtain⟨dz,d3,hb⟩:=bd hb
 refine W1 E V mixed [1,1,1,0,1,1,1,1,0,0,0,1,1,0,1,1,0] [3,10,13,16] (λ(x:aV×aV)=>(λao aq=>[(0,56,vp b0 0),(1,57,vp b0 0),(2,58,vi h_.length),(3,59,ao),(4,60,vp b0 0),(5,61,vp b0 0),(6,62,vp b0 0),(7,63,vp b0 2),(8,64,a_),(9,65,vi m_.length),(10,66,aq),(11,67,vp b0 0),(12,68,vp b0 8),(14,69,vp b0 0),(15,70,vp b0 9)]) x.1 x.2) [(0,vp b0 0),(2,vi h_.length),(3,vp bl 0)] [] (λ(D:Nat->Bool)(x:aV×aV)=>(λao aq=>[bif D 0 then own 3 ao dx else bD,bif D 1 then own 3 aq dz else bD,bif D 3 then bc 94 b0 [e_,i_,a_,d_,k_,b_,f_,n_,ao,aq,j_,g_]else(bif D 2 then bc 94 b0 [e_,i_,a_,d_,k_,b_,f_,n_,ao,l_,j_,g_]else bc 94 b0 [e_,i_,a_,d_,k_,b_,f_,n_,o_,l_,j_,g_]),rd a_ m_,rd d_ v_,rd b_ h_,rd f_ x_,own 3 o_ O_,own 3 l_ P_,own 3 j_ C_,own 150 g_ B_,bc 124 bl [c1],own 3 c1 b7]) x.1 x.2) (λx=>by kernel_rfl) ?_ ⟨λ_=>ka gn,λ_=>ka gn,λ_=>ka gn,?_,λ_=>ka gn,λ_=>Dx gn,λ_=>qs gn qz,λ_=>qs gn py,?_,?_,?_,λ_=>Dx gn,λ_=>qs gn rG,?_,λ_=>Dx gn,λ_=>qs gn Fk,?_,trivial⟩ ?_
 ·have hw:=((hw.drew).bD).bD
  exact⟨(undef,undef),dY.none,GJ zr,zt,hw⟩
 ·rintro D U w hD af ad⟨⟨ao,aq⟩,hv,ha,_,hw⟩
  obtain⟨O,rfl⟩:=hv.o1 2 af
  have hw:=((hw.bY 0 hD).bY 2<|nh ad hD 16).bY 2<|nh ad hD 13
  refine Xq (h_.length:Int) hw ze QJ dy λct w hw=>?_
  have hw:=((hw.nw 0).fV 2 (D 13) (nh ad hD 13)<|bc 94 b0 [e_,i_,a_,d_,k_,b_,f_,n_,ct,l_,j_,g_]).fV 2 (D 16) (nh ad hD 16)<|bc 94 b0 [e_,i_,a_,d_,k_,b_,f_,n_,ct,aq,j_,g_]
  exact VQ (ct,aq) 3 hv ha hw
 ·rintro D U w hD af ad⟨⟨ao,aq⟩,hv,ha,_,hw⟩
  obtain⟨O,rfl⟩:=hv.o1 7 af
  have hw:=(hw.bY 2<|nh ad hD 16).bY 2<|nh ad hD 13
  refine VY 2 a_ hw Ah ?_
  have hw:=(hw.fV 2 (D 13) (nh ad hD 13)<|bc 94 b0 [e_,i_,a_,d_,k_,b_,f_,n_,ao,l_,j_,g_]).fV 2 (D 16) (nh ad hD 16)<|bc 94 b0 [e_,i_,a_,d_,k_,b_,f_,n_,ao,aq,j_,g_]
  exact VQ (ao,aq) 8 hv ha hw
 ·rintro D U w hD af ad⟨⟨ao,aq⟩,hv,ha,_,hw⟩
  obtain⟨O,rfl⟩:=hv.o1 8 af
  refine VP 3 m_ hw Co ?_
  exact VQ (ao,aq) 9 hv ha hw
 ·rintro D U w hD af ad⟨⟨ao,aq⟩,hv,ha,_,hw⟩
  obtain⟨O,rfl⟩:=hv.o1 9 af
  have hw:=(hw.bY 1 hD).bY 2<|nh ad hD 16
  refine Xq (m_.length:Int) hw ze QJ d3 λc2 w hw=>?_
  have hw:=(hw.nw 1).fV 2 (D 16) (nh ad hD 16)<|bc 94 b0 [e_,i_,a_,d_,k_,b_,f_,n_,ao,c2,j_,g_]
  exact VQ (ao,c2) 10 hv ha hw
 ·rintro D U w hD af ad⟨⟨ao,aq⟩,hv,ha,_,hw⟩
  obtain⟨O,rfl⟩:=hv.o2 12 3 af
  have hw:=((hw.eB 0<|af.2.1 rfl).bY 2<|nh ad hD 16).bY 2 hD
  refine W0 2 ao hw zr zr (km 0 hw) gm λw hw=>?_
  have hw:=((hw.dF 0 (D 3) (af.2.1 rfl) bD).dF 2 true rfl<|bc 94 b0 [e_,i_,a_,d_,k_,b_,f_,n_,o_,l_,j_,g_]).fV 2 (D 16) (nh ad hD 16)<|bc 94 b0 [e_,i_,a_,d_,k_,b_,f_,n_,ao,aq,j_,g_]
  exact WV (ao,aq) hv ha hw
 ·rintro D U w hD af ad⟨⟨ao,aq⟩,hv,ha,_,hw⟩
  obtain⟨O,rfl⟩:=hv.o2 14 10 af
  have hw:=((hw.eB 1<|af.2.1 rfl).bY 2 hD).eB 2<|af.2.2.1 rfl
  refine W0 2 aq hw zr zr (km 1 hw) gm λw hw=>?_
  have hw:=(hw.dF 1 (D 10) (af.2.1 rfl) bD).dF 2 true rfl (bif D 13 then bc 94 b0 [e_,i_,a_,d_,k_,b_,f_,n_,ao,l_,j_,g_]else bc 94 b0 [e_,i_,a_,d_,k_,b_,f_,n_,o_,l_,j_,g_])
  exact WV (ao,aq) hv ha hw
 rintro D U w a6⟨⟨ao,aq⟩,hv,ha,_,hw⟩
 have hw:=((hw.eB 0<|tK a6 3).eB 1<|tK a6 10).eB 2<|tK a6 16
 obtain⟨O,rfl⟩:=ha.sV
 refine aD<|IS<|w_<|mv (vp bl 0) ?_
 have hw:=(hw.pull 12).pull 12
 obtain⟨bf,d4,hb⟩:=bd hb
 refine V2 (gr Tryz.func107) (uR N hw d4) ?_
 rintro bk w⟨_,e9,rfl,hw⟩
 refine WB (i:=0) (l:=bf.1) zt zr hw zr zr Oh<|aO 0<|AS<|XK E V (λ(a9:aL bM×aL Int×aL Int)(c3:aV)(us442:aL cU)=>[bc 94 b0 [e_,i_,a_,d_,k_,b_,f_,c3,ao,aq,j_,g_],own 104 c3 us442,kf cP us442 a9.1 none,rd a_ m_,rd d_ v_,rd b_ h_,rd f_ x_,own 3 ao a9.2.1,own 3 aq a9.2.2,own 3 j_ C_,own 150 g_ B_,own 91 bk bf.1]) (λ_ _ _=>[(0,vp b0 0)]) (λbo _ _ _=>[(2,vi h_.length),(72,bk),(73,vi bf.1.length),(74,vi bo)]) hb ?_ ?_ ?_
 ·have hw:=(hw.ET cP).dQ cU 104
  exact⟨n_,([]:aL cU),hw.sp 18 [7,0,1,8,9,10,11,5,6,14,15,2]⟩
 ·rintro hm bo a9 s' _ w hk⟨ba,us446,O,rfl,hw⟩hb
  refine IS<|VW ?_
  obtain⟨bp,c4,hb⟩:=bd hb
  refine VX 11 hw zr zr Ie c4<|Wx 11 hw c4 gm λbn hw=>?_
  refine dN bn<|IN<|Xz zr hw R7 zr λbt w hw=>?_
  refine IT<|w_<|mv bn<|VP 1 bp hw pd<|aO 0<|AS<|XK E V (λ(ay:aL Int×aL Int×aL Int×aL Int)(c5 c6:aV)=>[bc 94 b0 [e_,i_,a_,d_,k_,b_,f_,ba,ao,aq,j_,g_],rd a_ m_,rd d_ v_,rd b_ h_,rd f_ x_,own 104 ba us446,kf cP us446 a9.1 none,own 3 ao ay.1,own 3 aq ay.2.1,own 3 j_ C_,own 150 g_ B_,bc 104 bt [c5,c6,n_],own 3 c5 ay.2.2.1,own 3 c6 ay.2.2.2,own 91 bk bf.1,rd bn bp]) (λ_ _ _=>[(0,vp b0 0),(2,vi h_.length),(10,vp bt 0),(72,bk),(73,vi bf.1.length),(74,vi bo)]) (λb4 _ _ _=>[(78,bn),(79,vi bp.length),(80,vi b4)]) hb ?_ ?_ ?_
  ·have hw:=(hw.dQ Int 3).dQ Int 3
   exact⟨n_,n_,hw.sp 16 [4,7,8,9,10,5,6,11,12,13,14,2,1,0,15,3]⟩
  ·rintro hm b4 ay s' _ w hk⟨cb,cu,O,rfl,hw⟩hb
   refine IS<|VW ?_
   obtain⟨a2,d5,hb⟩:=bd hb
   refine VO 15 hw fH d5 λfa hw=>Wd a2 0 hw cV<|aJ a2<|AS<|VW<|aO a2<|aO (h_.length:Int)<|ic a2 ((h_.length:Int))<|bV (jP<|a2<(h_.length:Int)) ?_
   refine AS ?_
   obtain⟨bu,hj,hb⟩:=bd hb
   refine VR (λ(bu:aL Int×aL Int×aL Int×aL Int)U w=>∃cc cd:aV,SH E V [(0,vp b0 0),(2,vi h_.length),(10,vp bt 0),(72,bk),(73,vi bf.1.length),(74,vi bo),(78,bn),(79,vi bp.length),(80,vi b4)] [bc 94 b0 [e_,i_,a_,d_,k_,b_,f_,ba,ao,aq,j_,g_],rd a_ m_,rd d_ v_,rd b_ h_,rd f_ x_,own 104 ba us446,kf cP us446 a9.1 none,own 3 ao bu.1,own 3 aq bu.2.1,own 3 j_ C_,own 150 g_ B_,bc 104 bt [cc,cd,n_],own 3 cc bu.2.2.1,own 3 cd bu.2.2.2,own 91 bk bf.1,rd bn bp] U w) bu ?_ ?_
   ·refine dM hj (λhj=>?_) λhj=>?_
    ·refine IS<|WA mixed (ix 12 200000000000) (fR 0 12 []) ?_
     have hw:=hw.drew
     refine VU zr zr<|mv (vp b0 0)<|bF zr<|Wg zt zr zr<|bF zr<|AT zr rG<|bF zr<|VY 1 ao hw gm<|bF zr ?_
     refine aO a2<|bF zr<|mv (vp b0 0)<|bF zr<|Wg zt zr zr<|bF zr<|AT zr sI<|bF zr<|VY 1 ba hw DD ?_
     refine bF zr<|XA 6 7 a9.1 zr hw zr zr zr R8<|bF zr ?_
     obtain⟨fb,c7,hj⟩:=bd hj
     refine VX 8 hw zr zr fH c7<|rW zr ?_
     have hw:=hw.sc Int (a9.1.length:Int)
     refine WQ 9 0 hw c7 cV λw hw=>?_
     refine Wj zt<|Wi<|aD<|BY<|AT zr Fm<|VY 13 cb hw gm<|aO a2 ?_
     have hw:=hw.sc Int a2
     refine Wv ([a2]:aL Int) hw [vi a2] fH Kx (λ_ _=>jn) λfc w hw=>?_
     have hw:=hw.freeze 0
     obtain⟨fe,d6,hj⟩:=bd hj
     refine WI 16 0 hw ze d6 λc8 w hw=>?_
     refine AT zr Fm<|W0 15 c8 hw zr zr (km 16 hw) gm λw hw=>?_
     refine By ?_
     obtain rfl:=oi hj
     exact⟨rfl,c8,cu,hw.sp 20 (fR 4 16 [])⟩
    refine w_<|mv (vp b0 0)<|Wg zt zr zr<|AT zr qz<|AT zr py<|VY 1 a_ hw Ah<|aO a2<|aO (h_.length:Int)<|OF a2 (h_.length:Int) ?_
    obtain⟨c9,d7,hj⟩:=bd hj
    refine VO 2 hw Fe d7 λff hw=>Wo 0 hw zr BH wK λfg hw=>Wd c9.jo 0 hw BJ<|bV c9.jo<|AS ?_
    obtain⟨cf,hjj,hj⟩:=bd hj
    refine VR (λ(cf:aL Int×aL Int)U w=>∃cg:aV,SH E V [(0,vp b0 0),(2,vi h_.length),(10,vp bt 0),(72,bk),(73,vi bf.1.length),(74,vi bo),(78,bn),(79,vi bp.length),(80,vi b4)] [bc 94 b0 [e_,i_,a_,d_,k_,b_,f_,ba,ao,aq,j_,g_],rd a_ m_,rd d_ v_,rd b_ h_,rd f_ x_,own 104 ba us446,kf cP us446 a9.1 none,own 3 ao ay.1,own 3 aq cf.1,own 3 j_ C_,own 150 g_ B_,bc 104 bt [cb,cg,n_],own 3 cg cf.2,own 3 cb ay.2.2.1,own 91 bk bf.1,rd bn bp] U w) cf ?_ ?_
    ·refine dM hjj (λhjj=>?_) λhjj=>?_
     rotate_left
     ·refine BY<|mv (vp b0 0)<|Wg zt zr zr<|AT zr Fk<|VY 3 aq hw gm<|aO a2<|aO (h_.length:Int)<|OF a2 (h_.length:Int) ?_
      obtain⟨fh,da,hjj⟩:=bd hjj
      refine VX 11 hw zr zr fH da ?_
      have hw:=hw.sc Int<|-1
      refine WQ 12 0 hw da cV λw hw=>?_
      refine By ?_
      obtain rfl:=oi hjj
      exact⟨rfl,cu,hw.sp 20 (fR 4 12 [17,16,18,19])⟩
     refine IS<|WA mixed (ix 14 20000000000000) (fR 0 14 []) ?_
     have hw:=hw.drew
     refine VU zr zr<|mv (vp b0 0)<|bF zr<|Wg zt zr zr<|bF zr<|AT zr Fk<|bF zr<|VY 3 aq hw gm<|bF zr ?_
     refine aO a2<|bF zr<|aO (h_.length:Int)<|bF zr<|OF a2 (h_.length:Int)<|bF zr<|mv (vp b0 0)<|bF zr<|Wg zt zr zr ?_
     refine bF zr<|AT zr sI<|bF zr<|VY 3 ba hw DD<|bF zr<|XA 8 9 a9.1 zr hw zr zr zr R8<|bF zr ?_
     obtain⟨fi,db,hjj⟩:=bd hjj
     refine VX 11 hw zr zr fH db<|rW zr ?_
     have hw:=hw.sc Int (a9.1.length:Int)
     refine WQ 12 0 hw db cV λw hw=>?_
     refine Wj zt<|Wi<|aD<|BY<|AT zr Fp<|VY 15 cu hw gm<|aO a2<|aO (h_.length:Int)<|OF a2 (h_.length:Int) ?_
     have hw:=hw.sc Int<|cE<|a2 -(h_.length:Int)
     refine Wv ([cE<|a2 -(h_.length:Int)]:aL Int) hw [vi<|cE<|a2 -(h_.length:Int)] fH Kx (λ_ _=>jn) λfj w hw=>?_
     have hw:=hw.freeze 0
     obtain⟨fk,d8,hjj⟩:=bd hjj
     refine WI 19 0 hw ze d8 λdc w hw=>?_
     refine AT zr Fp<|W0 17 dc hw zr zr (km 19 hw) gm λw hw=>?_
     refine By ?_
     obtain rfl:=oi hjj
     exact⟨rfl,dc,hw.sp 22 (fR 6 12 [19,18,20,21])⟩
    rintro _ w⟨cg,O,rfl,hw⟩
    obtain rfl:=oi hj
    exact⟨rfl,cb,cg,hw.sp 16 (fR 0 12 [13,12,14,15])⟩
   rintro _ w⟨cc,cd,O,rfl,hw⟩
   refine bI<|bI<|aD<|BY<|Wa hk hm<|aO ((b4+1:Nat):Int)<|By ?_
   obtain rfl:=oi hb
   exact⟨rfl,cc,cd,hw.sp 16 (fR 0 16 [])⟩
  rintro ay _ w hb⟨b5,bw,O,rfl,hw⟩
  refine aD<|w_<|AT zr Fm<|VY 11 b5 hw gm<|WB (i:=12) (l:=ay.2.2.1) zt zr hw zr zr pd<|AT zr Fp<|VY 11 bw hw gm<|WB (i:=13) (l:=ay.2.2.2) zt zr hw zr zr pd<|OF (ay.2.2.1.length:Int) (ay.2.2.2.length:Int) ?_
  refine ic (cE<|(ay.2.2.1.length:Int)+(ay.2.2.2.length:Int)) 0<|AS ?_
  obtain⟨cv,hj,hb⟩:=bd hb
  refine VR (λ(cv:aL bM)U w=>∃(ch:aV)(us598:aL cU),SH E V [(0,vp b0 0),(2,vi h_.length),(72,bk),(73,vi bf.1.length),(74,vi bo)] [bc 94 b0 [e_,i_,a_,d_,k_,b_,f_,ch,ao,aq,j_,g_],own 104 ch us598,kf cP us598 cv none,rd a_ m_,rd d_ v_,rd b_ h_,rd f_ x_,own 3 ao ay.1,own 3 aq ay.2.1,own 3 j_ C_,own 150 g_ B_,own 91 bk bf.1] U w) cv ?_ ?_
  ·refine dM hj (λhj=>?_) λhj=>?_
   rotate_left
   ·refine Wc ?_
    obtain rfl:=oi hj
    exact⟨rfl,ba,us446,hw.sp 16 [0,5,6,1,2,3,4,7,8,9,10,14]⟩
   have hw:=hw.drew
   refine Xf (λw=>Holds E w<|[bc 94 b0 [e_,i_,a_,d_,k_,b_,f_,ba,ao,aq,j_,g_]]++V) mixed [1,1,1,1,1,0,2,2,0,0,2] [0,1,2,3,4,5,6,7,8,9,10] (hw.pk 16 [0])<|V8 (vp b0 0) zr (λw=>VK (vp b0 0) zt V0)<|V8 (vp b0 0) zr (λw=>VK (vp b0 0) zt V0)<|V8 (vp b0 0) zr (λw=>Wg zt zr zr V0)<|V8 (vp b0 7) zr (λw=>AT zr sI V0)<|WW ba zr (λw hw=>VY 0 ba hw DD V0)<|VU zr zr<|YE (i:=11) (cs:=[b5,bw,n_]) zt zr hw zr zr R9 zr<|rW zr ?_
   have hw:=((((hw.dQ bZ 41).Jh (i:=0) rfl).freeze 14).freeze 15).LN (cs:=[b5,bw,n_]) (x:=(⟨ay.2.2.1,ay.2.2.2,rv<|.slice none 0 0⟩:cU)) (λM hs g=>⟨[b5],[bw,n_],rfl,vh (g.sat 14 _ rfl).1,⟨[bw],[n_],rfl,vh (g.sat 15 _ rfl).1,vh (g.sat 0 _ rfl).1⟩⟩) rfl
   refine Wv ([(⟨ay.2.2.1,ay.2.2.2,rv<|.slice none 0 0⟩:cU)]:aL cU) hw [(.agg ([b5,bw,n_]:aL aV).toArray)] Ig Sa (λ_ _=>jn) λfl w hw=>Wj (hw.pk 20 [4])<|Wq zr zr ?_
   obtain⟨fm,d9,hj⟩:=bd hj
   have hw:=hw.freeze 0
   refine YH (i:=9) (j:=0) (b:=10) (o:=3) (X:=cP) (ur:=(⟨ay.2.2.1,ay.2.2.2,rv<|.slice none 0 0⟩:cU)) (xr:=(⟨ay.2.2.1,ay.2.2.2,([]:aL bZ)⟩:bM)) (u:=n_) (y:=([]:aL bZ)) (λ_ _ ho=>⟨⟨rfl,rfl⟩,ho⟩) trivial rfl hw rfl rfl rfl rfl rfl rfl (by decide) (by decide) (by decide) TZ d9 λdd w hw=>?_
   refine Wj (hw.pk 20 [4])<|VU zr zr<|Wg zt zr zr<|bF zr<|AT zr sI<|VZ<|Yr zr zr<|W0 4 dd hw zr zr (km 9 hw) DD λw hw=>?_
   refine Wj zt<|Wi ?_
   obtain rfl:=oi hj
   exact⟨rfl,dd,us446++[(⟨ay.2.2.1,ay.2.2.2,rv<|.slice none 0 0⟩:cU)],hw.sp 20 [4,9,10,5,6,7,8,11,12,13,14,18]⟩
  rintro _ w⟨ch,us598,O,rfl,hw⟩
  refine bI<|aD<|BY<|Wa hk hm<|aO ((bo+1:Nat):Int)<|By ?_
  obtain rfl:=oi hb
  exact⟨rfl,ch,us598,hw.sp 12 (fR 0 12 [])⟩
 rintro a9 _ w hb⟨ak,us444,O,rfl,hw⟩
 refine aD<|w_<|mv (vp b0 0)<|Wg zt zr zr<|AT zr qz<|AT zr yf<|VY 0 d_ hw Ib<|VP 4 v_ hw GP<|aO 0 ?_
 refine AS ?_
 obtain⟨aj,hN,hb⟩:=bd hb
 refine XC (λ(bq:Nat)(aj:aL bM×aL Int×aL Int×aL Int×aL fN)U w=>∃(de df:aV)(dg dh:aV)(us819:aL cU),SH E V [(0,vp b0 0),(170,d_),(171,vi v_.length),(172,vi bq)] [bc 94 b0 [e_,i_,a_,d_,k_,b_,f_,ak,de,df,dg,dh],rd de aj.2.1,rd df aj.2.2.1,own 3 dg aj.2.2.2.1,own 150 dh aj.2.2.2.2,rd a_ m_,rd d_ v_,rd b_ h_,rd f_ x_,own 104 ak us819,kf cP us819 aj.1 none] U w) (λ(aj:aL bM×aL Int×aL Int×aL Int×aL fN)U w=>∃(cj ck:aV)(cm cn:aV)(us824:aL cU),SH E V [(0,vp b0 0)] [bc 94 b0 [e_,i_,a_,d_,k_,b_,f_,ak,cj,ck,cm,cn],rd cj aj.2.1,rd ck aj.2.2.1,own 3 cm aj.2.2.2.1,own 150 cn aj.2.2.2.2,rd a_ m_,rd d_ v_,rd b_ h_,rd f_ x_,own 104 ak us824,kf cP us824 aj.1 none] U w) hN ?_ ?_ ?_ ?_
 ·have hw:=(hw.freeze 7).freeze 8
  exact⟨ao,aq,j_,g_,us444,hw.sp 12 [0,7,8,9,10,3,4,5,6,1,2]⟩
 ·rintro hm aj _ w⟨eb,ec,ed,ee,us932,O,rfl,hw⟩
  refine w_<|ic ((v_.length:Int)) ((v_.length:Int))<|IT<|Xn QN<|Wp ?_
  exact⟨rfl,eb,ec,ed,ee,us932,hw.sp 11 (fR 0 11 [])⟩
 ·rintro hm bq aj s' _ w hk⟨a3,a4,bb,a5,us829,O,rfl,hw⟩hb
  refine w_<|ic ((bq:Int)) ((v_.length:Int))<|IT<|Xm (QM hk)<|We<|VW ?_
  obtain⟨bz,ef,hb⟩:=bd hb
  refine VO 6 hw Bi ef λeg hw=>VS 0 bz hw tj λeh hw=>V9 hw GQ.z λdi w hw=>?_
  refine V5 0 hw 1 zr tj λw hw=>?_
  refine IN<|mv (vp b0 0)<|V1 0 hw zr tj λei hw=>?_
  have hw:=((hw.dup 11 rfl).dup 10 rfl).pull 6
  obtain⟨a7,ej,hb⟩:=bd hb
  refine V2 (gr Tryz.func108) (uT N (i1:=0) hw zr ej) ?_
  rintro _ w⟨cw,rfl,hw⟩
  refine mv (.tuple #[cw,vb a7.2])<|V6 cw<|V6 (vb a7.2)<|V9 hw Jx.z λb2 w hw=>?_
  refine V5 0 hw 1 zr qI λw hw=>?_
  refine bV a7.2<|IN<|aJ (-1)<|IT<|w_<|fY a7.2<|AS ?_
  obtain⟨a8,hj,hb⟩:=bd hb
  refine VR (λ(a8:aL bM×Int)U w=>∃(us877:aL cU),SH E V [(0,vp b0 0),(15,vp b2 0),(17,vi a8.2),(170,d_),(171,vi v_.length),(172,vi bq)] [bc 94 b0 [e_,i_,a_,d_,k_,b_,f_,ak,a3,a4,bb,a5],rd a_ m_,rd d_ v_,rd b_ h_,rd f_ x_,own 104 ak us877,kf cP us877 a8.1 none,rd a3 aj.2.1,rd a4 aj.2.2.1,own 3 bb aj.2.2.2.1,own 150 a5 aj.2.2.2.2,bx 150 b2 a7.1] U w) a8 ?_ ?_
  ·refine dM hj (λhj=>?_) λhj=>?_
   rotate_left
   ·refine Wc ?_
    obtain rfl:=oi hj
    exact⟨rfl,us829,hw.sp 18 (2::fR 12 6 [8,9,10,11,0])⟩
   refine w_<|mv (vp b0 0)<|V1 0 hw zr qI λek hw=>?_
   have hw:=((hw.dup 10 rfl).dup 10 rfl).pull 5
   obtain⟨ai,el,hj⟩:=bd hj
   refine VM (gr Tryz.func109) (rN N (i1:=0) hw zr el) λw hw=>aJ ai<|AS ?_
   obtain⟨fo,b6,hj⟩:=bd hj
   obtain⟨b3,en,hj⟩:=bd hj
   obtain⟨bm,er,hj⟩:=bd hj
   obtain⟨br,cp,hj⟩:=bd hj
   refine W1 E V mixed [1,1,1,0,1,1,1,1,0,1,0,0,0,0,0,0,0,0,0,0] [13,14,15,16,19] (λ(x:aV×aV×aV×aV)=>(λax av au al=>[(0,186,vp b0 0),(1,187,vp b0 0),(2,188,vp b0 7),(3,189,ak),(4,190,vi ai),(5,191,vp b0 0),(6,192,vp b0 0),(7,193,vp b0 7),(8,194,ak),(9,195,vi ai),(10,196,z9 ak (jQ ai) 3 0),(11,197,z9 ak (jQ ai) 3 2),(12,198,(us829.getD (jQ ai) (default:cU)).aZ.v),(13,199,ax),(14,200,av),(15,201,au),(16,202,al),(17,203,z9 ak (jQ ai) 3 0),(18,204,z9 ak (jQ ai) 3 2)]) x.1 x.2.1 x.2.2.1 x.2.2.2) [(0,vp b0 0),(14,vp di 0),(15,vp b2 0),(17,vi ai),(170,d_),(171,vi v_.length),(172,vi bq)] [] (λ(D:Nat->Bool)(x:aV×aV×aV×aV)=>(λax av au al=>[bif D 0 then rd ax bz else bD,bif D 1 then rd av b3 else bD,bif D 3 then rd au ([b3]:aL bZ)else(bif D 2 then own 41 au ([b3]:aL bZ)else bD),bif D 4 then bD else(bif D 3 then own 41 al bm else bD),bc 94 b0 [e_,i_,a_,d_,k_,b_,f_,ak,a3,a4,bb,a5],rd ek a7.1,bx 150 b2 a7.1,rd cw a7.1,bD,rd ei bz,bx 60 di bz,rd eh bz,pt eg bz,bD,rd a3 aj.2.1,rd a4 aj.2.2.1,own 3 bb aj.2.2.2.1,own 150 a5 aj.2.2.2.2,rd a_ m_,rd d_ v_,rd b_ h_,rd f_ x_,bif D 4 then own 104 ak (us829.set (jQ ai) {(us829.getD (jQ ai) (default:cU))with aZ:=rv al})else own 104 ak us829,bif D 4 then kf cP (us829.set (jQ ai) {(us829.getD (jQ ai) (default:cU))with aZ:=rv al}) (aj.1.set (jQ ai) {br with aZ:=bm}) none else(bif D 3 then kf cP us829 aj.1 (some<|jQ ai)else kf cP us829 aj.1 none)]) x.1 x.2.1 x.2.2.1 x.2.2.2) (λx=>by kernel_rfl) ?_ ⟨λ_=>ka gn,λ_=>Dx gn,λ_=>qs gn sI,?_,λ_=>ka gn,λ_=>ka gn,λ_=>Dx gn,λ_=>qs gn sI,?_,λ_=>ka gn,?_,?_,?_,?_,?_,?_,?_,?_,?_,?_,trivial⟩ ?_
   ·have hw:=((((hw.drew).bD).bD).bD).bD
    exact⟨(undef,undef,undef,undef),dY.none,GJ zr,zt,hw⟩
   ·rintro D U w hD af ad⟨⟨ax,av,au,al⟩,hv,ha,_,hw⟩
    obtain⟨O,rfl⟩:=hv.o1 2 af
    refine VY 4 ak hw DD ?_
    exact VQ (ax,av,au,al) 3 hv ha hw
   ·rintro D U w hD af ad⟨⟨ax,av,au,al⟩,hv,ha,_,hw⟩
    obtain⟨O,rfl⟩:=hv.o1 7 af
    refine VY 4 ak hw DD ?_
    exact VQ (ax,av,au,al) 8 hv ha hw
   ·rintro D U w hD af ad⟨⟨ax,av,au,al⟩,hv,ha,_,hw⟩
    obtain⟨O,rfl⟩:=hv.o2 8 9 af
    have hw:=((hw.bY 22<|nh ad hD 19).bY 23<|nh ad hD 19).bY 23<|nf<|λh=>ft hD<|(ad 11 _ rfl<|(ad 12 _ rfl<|(ad 16 _ rfl h).1 rfl).1 rfl).1 rfl
    have hl900:=hw.iT 23 rfl
    have hr901:=lr (default:cU) hl900 b6
    refine VX 22 hw zr zr Ig hr901 ?_
    have hw:=(hw.fV 22 (D 19) (nh ad hD 19)<|own 104 ak<|us829.set (jQ ai) {(us829.getD (jQ ai) (default:cU))with aZ:=rv al}).fV 23 (D 16) (nf<|λh=>ft hD<|(ad 11 _ rfl<|(ad 12 _ rfl<|(ad 16 _ rfl h).1 rfl).1 rfl).1 rfl)<|kf cP us829 aj.1<|some<|jQ ai
    have hw:=hw.fV 23 (D 19) (nh ad hD 19)<|kf cP (us829.set (jQ ai) {(us829.getD (jQ ai) (default:cU))with aZ:=rv al}) (aj.1.set (jQ ai) {br with aZ:=bm}) none
    exact VQ (ax,av,au,al) 10 hv ha hw
   ·rintro D U w hD af ad⟨⟨ax,av,au,al⟩,hv,ha,_,hw⟩
    obtain⟨O,rfl⟩:=hv.o1 10 af
    have hw:=((hw.bY 22<|nh ad hD 19).bY 23<|nh ad hD 19).bY 23<|nf<|λh=>ft hD<|(ad 12 _ rfl<|(ad 16 _ rfl h).1 rfl).1 rfl
    have hl902:=hw.iT 23 rfl
    have hr903:=lr (default:cU) hl902 b6
    refine WY (α:=cU) (sS 22 hw hr903 0) wQ ?_
    have hw:=(hw.fV 22 (D 19) (nh ad hD 19)<|own 104 ak<|us829.set (jQ ai) {(us829.getD (jQ ai) (default:cU))with aZ:=rv al}).fV 23 (D 16) (nf<|λh=>ft hD<|(ad 12 _ rfl<|(ad 16 _ rfl h).1 rfl).1 rfl)<|kf cP us829 aj.1<|some<|jQ ai
    have hw:=hw.fV 23 (D 19) (nh ad hD 19)<|kf cP (us829.set (jQ ai) {(us829.getD (jQ ai) (default:cU))with aZ:=rv al}) (aj.1.set (jQ ai) {br with aZ:=bm}) none
    exact VQ (ax,av,au,al) 11 hv ha hw
   ·rintro D U w hD af ad⟨⟨ax,av,au,al⟩,hv,ha,_,hw⟩
    obtain⟨O,rfl⟩:=hv.o1 11 af
    have hw:=((hw.bY 22<|nh ad hD 19).bY 23<|nh ad hD 19).bY 23<|nh ad hD 16
    have hl904:=hw.iT 23 rfl
    have hr905:=lr (default:cU) hl904 b6
    refine XZ 22 23 ai vA (default:cU) zr hw zr (sS 22 hw hr905 2) zr zr b6 Bh ?_
    have hw:=(hw.fV 22 (D 19) (nh ad hD 19)<|own 104 ak<|us829.set (jQ ai) {(us829.getD (jQ ai) (default:cU))with aZ:=rv al}).fV 23 (D 16) (nh ad hD 16)<|kf cP us829 aj.1<|some<|jQ ai
    have hw:=hw.fV 23 (D 19) (nh ad hD 19)<|kf cP (us829.set (jQ ai) {(us829.getD (jQ ai) (default:cU))with aZ:=rv al}) (aj.1.set (jQ ai) {br with aZ:=bm}) none
    exact VQ (ax,av,au,al) 12 hv ha hw
   ·rintro D U w hD af ad⟨⟨ax,av,au,al⟩,hv,ha,_,hw⟩
    obtain⟨O,rfl⟩:=ha.sV
    have hw:=hw.bY 0 hD
    refine V1 10 hw zr tj λet hw=>?_
    have hw:=hw.nw 0
    exact VQ (et,av,au,al) 13 hv ha hw
   ·rintro D U w hD af ad⟨⟨ax,av,au,al⟩,hv,ha,_,hw⟩
    obtain⟨O,rfl⟩:=hv.o1 13 af
    have hw:=(hw.eB 0<|af.1 rfl).bY 1 hD
    refine V2 Oe (nP N (i0:=0) hw zr en) λeu w hw=>?_
    have hw:=((hw.pl 25 [1,0,3,4,5,6,7,8,9,10,11,12,13,14,15,16,17,18,19,20,21,22,23,24] rfl).dF 0 (D 13) (af.1 rfl) bD).dF 1 true rfl bD
    exact VQ (ax,eu,au,al) 14 hv ha hw
   ·rintro D U w hD af ad⟨⟨ax,av,au,al⟩,hv,ha,_,hw⟩
    obtain⟨O,rfl⟩:=hv.o1 14 af
    have hw:=((hw.eB 1<|af.1 rfl).bY 2<|nh ad hD 16).bY 2 hD
    refine Wv ([b3]:aL bZ) hw [av] zd Ku (λM hs g=>⟨(g.sat 1 _ zr).1,zt⟩) λdj w hw=>?_
    have hw:=(((hw.pl 25 [1,2,0,4,5,6,7,8,9,10,11,12,13,14,15,16,17,18,19,20,21,22,23,24] rfl).dF 1 (D 14) (af.1 rfl) bD).dF 2 true rfl bD).fV 2 (D 16) (nh ad hD 16)<|rd dj ([b3]:aL bZ)
    exact VQ (ax,av,dj,al) 15 hv ha hw
   ·rintro D U w hD af ad⟨⟨ax,av,au,al⟩,hv,ha,_,hw⟩
    obtain⟨O,rfl⟩:=hv.o2 12 15 af
    have hw:=(((((((hw.bY 2 hD).eB 2<|af.2.1 rfl).bY 3<|nh ad hD 19).bY 3 hD).bY 22<|nh ad hD 19).bY 23<|nh ad hD 19).bY 23 hD).EU (j:=23) (jj:=ai) vA (default:cU) rfl b6
    have hw:=hw.freeze 3
    refine WI 0 3 hw P7 er λcx w hw=>?_
    dsimp only[List.cons_append,List.nil_append,List.set_cons_zero,List.set_cons_succ]at hw
    have hw:=((((hw.pl 25 [1,2,3,0,5,6,7,8,9,10,11,12,13,14,15,16,17,18,19,20,21,22,23,24] rfl).dF 2 true rfl (bif D 15 then own 41 au ([b3]:aL bZ)else bD)).dF 3 true rfl bD).fV 3 (D 19) (nh ad hD 19) bD).fV 22 (D 19) (nh ad hD 19)<|own 104 ak<|us829.set (jQ ai) {(us829.getD (jQ ai) (default:cU))with aZ:=rv cx}
    have hw:=(hw.dF 23 true rfl<|kf cP us829 aj.1 none).fV 23 (D 19) (nh ad hD 19)<|kf cP (us829.set (jQ ai) {(us829.getD (jQ ai) (default:cU))with aZ:=rv cx}) (aj.1.set (jQ ai) {br with aZ:=bm}) none
    exact VQ (ax,av,au,cx) 16 hv ha hw
   ·rintro D U w hD af ad⟨⟨ax,av,au,al⟩,hv,ha,_,hw⟩
    obtain⟨O,rfl⟩:=hv.o2 3 4 af
    have hw:=hw.bY 22<|nf<|λh=>ft hD<|(ad 18 _ rfl<|(ad 19 _ rfl h).1 rfl).1 rfl
    have hw:=hw.bY 23<|nf<|λh=>ft hD<|(ad 18 _ rfl<|(ad 19 _ rfl h).1 rfl).1 rfl
    have hw:=hw.eB 23<|af.2.2.2.2.2.2.2.2.2.2.2.2.2.2.2.2.2.2.1 rfl
    have hl910:=hw.iT 23 rfl
    have hr911:=lr (default:cU) hl910 cp
    refine VX 22 hw zr zr Ig hr911 ?_
    have hw:=hw.fV 22 (D 19) (nf<|λh=>ft hD<|(ad 18 _ rfl<|(ad 19 _ rfl h).1 rfl).1 rfl)<|own 104 ak<|us829.set (jQ ai) {(us829.getD (jQ ai) (default:cU))with aZ:=rv al}
    have hw:=(hw.dF 23 (D 16) (af.2.2.2.2.2.2.2.2.2.2.2.2.2.2.2.2.2.2.1 rfl)<|kf cP us829 aj.1 none).fV 23 (D 19) (nf<|λh=>ft hD<|(ad 18 _ rfl<|(ad 19 _ rfl h).1 rfl).1 rfl)<|kf cP (us829.set (jQ ai) {(us829.getD (jQ ai) (default:cU))with aZ:=rv al}) (aj.1.set (jQ ai) {br with aZ:=bm}) none
    exact VQ (ax,av,au,al) 17 hv ha hw
   ·rintro D U w hD af ad⟨⟨ax,av,au,al⟩,hv,ha,_,hw⟩
    obtain⟨O,rfl⟩:=hv.o1 17 af
    have hw:=((hw.bY 22<|nh ad hD 19).bY 23<|nh ad hD 19).eB 23<|af.2.2.2.2.2.2.2.2.2.2.2.2.2.2.2.2.2.1 rfl
    have hl912:=hw.iT 23 rfl
    have hr913:=lr (default:cU) hl912 cp
    refine WY (α:=cU) (sS 22 hw hr913 0) wQ ?_
    have hw:=(hw.fV 22 (D 19) (nh ad hD 19)<|own 104 ak<|us829.set (jQ ai) {(us829.getD (jQ ai) (default:cU))with aZ:=rv al}).dF 23 (D 16) (af.2.2.2.2.2.2.2.2.2.2.2.2.2.2.2.2.2.1 rfl)<|kf cP us829 aj.1 none
    have hw:=hw.fV 23 (D 19) (nh ad hD 19)<|kf cP (us829.set (jQ ai) {(us829.getD (jQ ai) (default:cU))with aZ:=rv al}) (aj.1.set (jQ ai) {br with aZ:=bm}) none
    exact VQ (ax,av,au,al) 18 hv ha hw
   ·rintro D U w hD af ad⟨⟨ax,av,au,al⟩,hv,ha,_,hw⟩
    obtain⟨O,rfl⟩:=hv.o2 18 16 af
    have hw:=((((hw.bY 3 hD).eB 3<|af.2.1 rfl).bY 22 hD).bY 23 hD).eB 23<|af.2.1 rfl
    have hl914:=hw.iT 23 rfl
    have hr915:=lr (default:cU) hl914 cp
    refine XY 22 23 3 ai vA (default:cU) hw zr zr (sS 22 hw hr915 2) zr zr zr cp Bh λw hw=>?_
    have hw:=((hw.dF 3 true rfl (bif D 16 then own 41 al bm else bD)).dF 22 true rfl<|own 104 ak us829).dF 23 true rfl (bif D 16 then kf cP us829 aj.1 (some<|jQ ai)else kf cP us829 aj.1 none)
    exact WV (ax,av,au,al) hv ha hw
   rintro D U w a6⟨⟨ax,av,au,al⟩,hv,ha,_,hw⟩
   simp only[List.getD_cons_zero,List.getD_cons_succ,a6 13 (by decide),a6 14 (by decide),a6 16 (by decide),a6 19 (by decide),a6 19 (by decide),a6 19 (by decide),aQ]at hw
   obtain⟨O,rfl⟩:=ha.sV
   obtain rfl:=oi hj
   exact⟨rfl,us829.set (jQ ai) {(us829.getD (jQ ai) (default:cU))with aZ:=rv al},hw.sp 24 (4::fR 18 6 [14,15,16,17,6])⟩
  rintro _ w⟨us877,O,rfl,hw⟩
  refine aD ?_
  obtain⟨ev,ew,hb⟩:=bd hb
  obtain⟨ey,ez,hb⟩:=bd hb
  refine W1 E V mixed [1,1,1,1,1,0,1,0,0,1,1,1,0,0,0,0,1,1,0,1,1,0] [7,8,13,14,15,18,21] (λ(x:aV×aV×aV×aV×aV)=>(λaz a1 a0 ar aw=>[(0,205,vp b0 0),(1,206,vp b0 0),(2,207,vp b0 0),(3,208,vp b0 0),(4,209,vp b0 10),(5,210,bb),(6,211,vi a8.2),(7,212,az),(8,213,ar),(9,214,vp b0 0),(10,215,vp b0 0),(11,216,vp b0 11),(12,217,a5),(13,218,a1),(14,219,a0),(15,220,aw),(16,221,vp b0 0),(17,222,vp b0 10),(19,223,vp b0 0),(20,224,vp b0 11)]) x.1 x.2.1 x.2.2.1 x.2.2.2.1 x.2.2.2.2) [(0,vp b0 0),(15,vp b2 0),(17,vi a8.2),(170,d_),(171,vi v_.length),(172,vi bq)] [] (λ(D:Nat->Bool)(x:aV×aV×aV×aV×aV)=>(λaz a1 a0 ar aw=>[bif D 1 then rd az ([a8.2]:aL Int)else(bif D 0 then own 3 az ([a8.2]:aL Int)else bD),bif D 2 then rd a1 a7.1 else bD,bif D 4 then rd a0 ([a7.1]:aL fN)else(bif D 3 then own 150 a0 ([a7.1]:aL fN)else bD),bif D 6 then bc 94 b0 [e_,i_,a_,d_,k_,b_,f_,ak,a3,a4,ar,aw]else(bif D 5 then bc 94 b0 [e_,i_,a_,d_,k_,b_,f_,ak,a3,a4,ar,a5]else bc 94 b0 [e_,i_,a_,d_,k_,b_,f_,ak,a3,a4,bb,a5]),rd a_ m_,rd d_ v_,rd b_ h_,rd f_ x_,own 104 ak us877,kf cP us877 a8.1 none,rd a3 aj.2.1,rd a4 aj.2.2.1,bif D 1 then own 3 ar ev else own 3 bb aj.2.2.2.1,bif D 4 then own 150 aw ey else own 150 a5 aj.2.2.2.2,bx 150 b2 a7.1]) x.1 x.2.1 x.2.2.1 x.2.2.2.1 x.2.2.2.2) (λx=>by kernel_rfl) ?_ ⟨λ_=>ka gn,λ_=>ka gn,λ_=>ka gn,λ_=>Dx gn,λ_=>qs gn Ih,?_,λ_=>ka gn,?_,?_,λ_=>ka gn,λ_=>Dx gn,λ_=>qs gn Ii,?_,?_,?_,?_,λ_=>Dx gn,λ_=>qs gn Ih,?_,λ_=>Dx gn,λ_=>qs gn Ii,?_,trivial⟩ ?_
  ·have hw:=(((hw.drew).bD).bD).bD
   exact⟨(undef,undef,undef,undef,undef),dY.none,GJ zr,zt,hw⟩
  ·rintro D U w hD af ad⟨⟨az,a1,a0,ar,aw⟩,hv,ha,_,hw⟩
   obtain⟨O,rfl⟩:=hv.o1 4 af
   have hw:=(hw.bY 3<|nh ad hD 21).bY 3<|nh ad hD 18
   refine VY 3 bb hw gm ?_
   have hw:=(hw.fV 3 (D 18) (nh ad hD 18)<|bc 94 b0 [e_,i_,a_,d_,k_,b_,f_,ak,a3,a4,ar,a5]).fV 3 (D 21) (nh ad hD 21)<|bc 94 b0 [e_,i_,a_,d_,k_,b_,f_,ak,a3,a4,ar,aw]
   exact VQ (az,a1,a0,ar,aw) 5 hv ha hw
  ·rintro D U w hD af ad⟨⟨az,a1,a0,ar,aw⟩,hv,ha,_,hw⟩
   obtain⟨O,rfl⟩:=hv.o1 6 af
   have hw:=((hw.bY 0<|nh ad hD 8).bY 0 hD).sc Int a8.2
   refine Wv ([a8.2]:aL Int) hw [vi a8.2] fH Kx (λ_ _=>jn) λdk w hw=>?_
   have hw:=((hw.pl 17 [0,3,4,5,6,7,8,9,10,11,12,13,14,15,16] rfl).dF 0 true rfl bD).fV 0 (D 8) (nh ad hD 8)<|rd dk ([a8.2]:aL Int)
   exact VQ (dk,a1,a0,ar,aw) 7 hv ha hw
  ·rintro D U w hD af ad⟨⟨az,a1,a0,ar,aw⟩,hv,ha,_,hw⟩
   obtain⟨O,rfl⟩:=hv.o2 5 7 af
   have hw:=(((((hw.bY 0 hD).eB 0<|af.2.1 rfl).bY 3<|nh ad hD 21).bY 3<|nh ad hD 18).bY 12 hD).freeze 0
   refine WI 12 0 hw ze ew λcy w hw=>?_
   dsimp only[List.cons_append,List.nil_append,List.set_cons_zero,List.set_cons_succ]at hw
   have hw:=((hw.dF 0 true rfl (bif D 7 then own 3 az ([a8.2]:aL Int)else bD)).fV 3 (D 18) (nh ad hD 18)<|bc 94 b0 [e_,i_,a_,d_,k_,b_,f_,ak,a3,a4,cy,a5]).fV 3 (D 21) (nh ad hD 21)<|bc 94 b0 [e_,i_,a_,d_,k_,b_,f_,ak,a3,a4,cy,aw]
   have hw:=hw.dF 12 true rfl<|own 3 bb aj.2.2.2.1
   exact VQ (az,a1,a0,cy,aw) 8 hv ha hw
  ·rintro D U w hD af ad⟨⟨az,a1,a0,ar,aw⟩,hv,ha,_,hw⟩
   obtain⟨O,rfl⟩:=hv.o1 11 af
   have hw:=(hw.bY 3<|nh ad hD 21).bY 3<|nh ad hD 18
   refine VY 3 a5 hw P8 ?_
   have hw:=(hw.fV 3 (D 18) (nh ad hD 18)<|bc 94 b0 [e_,i_,a_,d_,k_,b_,f_,ak,a3,a4,ar,a5]).fV 3 (D 21) (nh ad hD 21)<|bc 94 b0 [e_,i_,a_,d_,k_,b_,f_,ak,a3,a4,ar,aw]
   exact VQ (az,a1,a0,ar,aw) 12 hv ha hw
  ·rintro D U w hD af ad⟨⟨az,a1,a0,ar,aw⟩,hv,ha,_,hw⟩
   obtain⟨O,rfl⟩:=ha.sV
   have hw:=hw.bY 1 hD
   refine V1 14 hw zr qI λe3 hw=>?_
   have hw:=hw.nw 1
   exact VQ (az,e3,a0,ar,aw) 13 hv ha hw
  ·rintro D U w hD af ad⟨⟨az,a1,a0,ar,aw⟩,hv,ha,_,hw⟩
   obtain⟨O,rfl⟩:=hv.o1 13 af
   have hw:=((hw.eB 1<|af.1 rfl).bY 2<|nh ad hD 15).bY 2 hD
   refine Wv ([a7.1]:aL fN) hw [a1] Sf Jx (λM hs g=>⟨(g.sat 1 _ zr).1,zt⟩) λdm w hw=>?_
   have hw:=(((hw.pl 16 [1,2,0,4,5,6,7,8,9,10,11,12,13,14,15] rfl).dF 1 (D 13) (af.1 rfl) bD).dF 2 true rfl bD).fV 2 (D 15) (nh ad hD 15)<|rd dm ([a7.1]:aL fN)
   exact VQ (az,a1,dm,ar,aw) 14 hv ha hw
  ·rintro D U w hD af ad⟨⟨az,a1,a0,ar,aw⟩,hv,ha,_,hw⟩
   obtain⟨O,rfl⟩:=hv.o2 12 14 af
   have hw:=(((((hw.bY 2 hD).eB 2<|af.2.1 rfl).bY 3<|nh ad hD 21).bY 3<|nh ad hD 18).bY 13 hD).freeze 2
   refine WI 13 2 hw T0 ez λdn w hw=>?_
   dsimp only[List.cons_append,List.nil_append,List.set_cons_zero,List.set_cons_succ]at hw
   have hw:=((hw.dF 2 true rfl (bif D 14 then own 150 a0 ([a7.1]:aL fN)else bD)).fV 3 (D 18) (nh ad hD 18)<|bc 94 b0 [e_,i_,a_,d_,k_,b_,f_,ak,a3,a4,ar,a5]).fV 3 (D 21) (nh ad hD 21)<|bc 94 b0 [e_,i_,a_,d_,k_,b_,f_,ak,a3,a4,ar,dn]
   have hw:=hw.dF 13 true rfl<|own 150 a5 aj.2.2.2.2
   exact VQ (az,a1,a0,ar,dn) 15 hv ha hw
  ·rintro D U w hD af ad⟨⟨az,a1,a0,ar,aw⟩,hv,ha,_,hw⟩
   obtain⟨O,rfl⟩:=hv.o2 17 8 af
   have hw:=((hw.bY 3<|nh ad hD 21).bY 3 hD).eB 12<|af.2.1 rfl
   refine W0 3 ar hw zr zr (km 12 hw) gm λw hw=>?_
   have hw:=((hw.dF 3 true rfl<|bc 94 b0 [e_,i_,a_,d_,k_,b_,f_,ak,a3,a4,bb,a5]).fV 3 (D 21) (nh ad hD 21)<|bc 94 b0 [e_,i_,a_,d_,k_,b_,f_,ak,a3,a4,ar,aw]).dF 12 (D 8) (af.2.1 rfl)<|own 3 bb aj.2.2.2.1
   exact WV (az,a1,a0,ar,aw) hv ha hw
  ·rintro D U w hD af ad⟨⟨az,a1,a0,ar,aw⟩,hv,ha,_,hw⟩
   obtain⟨O,rfl⟩:=hv.o2 19 15 af
   have hw:=((hw.bY 3 hD).eB 3<|af.2.2.1 rfl).eB 13<|af.2.1 rfl
   refine W0 3 aw hw zr zr (km 13 hw) P8 λw hw=>?_
   have hw:=(hw.dF 3 true rfl (bif D 18 then bc 94 b0 [e_,i_,a_,d_,k_,b_,f_,ak,a3,a4,ar,a5]else bc 94 b0 [e_,i_,a_,d_,k_,b_,f_,ak,a3,a4,bb,a5])).dF 13 (D 15) (af.2.1 rfl)<|own 150 a5 aj.2.2.2.2
   exact WV (az,a1,a0,ar,aw) hv ha hw
  rintro D U w a6⟨⟨az,a1,a0,ar,aw⟩,hv,ha,_,hw⟩
  simp only[List.getD_cons_zero,List.getD_cons_succ,a6 8 (by decide),a6 13 (by decide),a6 15 (by decide),a6 21 (by decide),a6 8 (by decide),a6 15 (by decide),aQ]at hw
  obtain⟨O,rfl⟩:=ha.sV
  refine bI<|aD<|BY<|Wa hk hm<|aO ((bq+1:Nat):Int)<|By ?_
  obtain rfl:=oi hb
  exact⟨rfl,a3,a4,ar,aw,us877,hw.sp 15 [3,10,11,12,13,4,5,6,7,8,9]⟩
 rintro _ w⟨cj,ck,cm,cn,us824,O,rfl,hw⟩
 obtain rfl:=oi hb
 have hw:=hw.EV (X:=cP) (b:=10) (j:=9) rfl (λM h u x cs=>Fa M h u x cs) rfl rfl (by decide)
 refine vd ?_
 exact A8 ⟨ak,cj,ck,cm,cn,zr,hw.pk 11 [0,9,1,2,3,4]⟩
def sO(E:aW)(V:aL HP)(r:aU (aL (aL aK)×aL aK×aL cL×aL cW×aL (aL aB)×aL aI×aL (aL Int)×aL bM×aL Int×aL Int×aL Int×aL fN)×Int)(U:Nat->aV)(w:aW):Prop:=ml aX 112 Tryz.f39 (lY E V r) .ret U w
theorem rO{p0:iE}{res:aU (aL (aL aK)×aL aK×aL cL×aL cW×aL (aL aB)×aL aI×aL (aL Int)×aL bM×aL Int×aL Int×aL Int×aL fN)×Int}(j:Holds E w V)(h0:fC V i0 v0 p0)(o:gE N p0=some res):c_ 39 [v0] w<|lY E V res:=by
 unfold gE at o;refine enter Tryz.func39 zr zr ?_;have j:=j.dup (i0+0) h0;refine w_<|V7 0 v0 j zr λar w j=>?_;refine dN (.pointer none)<|aJ 0<|IT<|w_<|AT zr Af<|Wh 0 j zr te Kv λcz j=>VP 0 p0.aS j GN<|ic ((p0.aS.length:Int)) 0<|AS<|dM o (λo=>?_) λo=>?_;exact w_<|dN (.pointer none)<|aJ 9<|AS<|V4<|oi o▸ik ⟨rfl,j.drop 3⟩;refine We<|w_<|AT zr Af<|Wh 1 j zr te Kv λc0 j=>VP 0 p0.aS j GN<|ic ((p0.aS.length:Int)) 16<|AS<|dM o (λo=>?_) λo=>?_;exact w_<|dN (.pointer none)<|aJ 2<|AS<|V4<|oi o▸ik ⟨rfl,j.drop 4⟩;refine Ww<|AT zr Mb<|Wh 2 j zr Ci Ag λc1 j=>VP 0 p0.dU j rZ<|aJ (p0.dU.length:Int)<|IT<|w_<|AT zr Af<|Wh 3 j zr te Kv λbn j=>?_;refine VP 0 p0.aS j GN<|aO 0<|AS<|WJ E V (λ(ax:Int)=>[bx 32 ar p0,rd bn p0.aS]) (λax=>[(1,vp ar 0),(4,vi ax)]) (λbj _=>[(28,bn),(29,vi p0.aS.length),(30,vi bj)]) (sO E V) o ?_ ?_ ?_ ?_;exact j.sp 6 [4,0];rintro hm bj ax fl _ w hk⟨O,rfl,j⟩o;refine IS<|VW<|q_ o λbh bu o=>VO 1 j H9 bu λc2 j=>VS 0 bh j Ag λbk j=>dN bk<|IT<|w_<|mv bk<|q_ o λa6 bw o=>VM RI (qc N (i0:=0) j zr bw) λw j=>aJ a6<|IN<|aO a6<|ic a6 0<|AS<|dM o (λo=>?_) λo=>?_;exact w_<|aO a6<|dN (.pointer none)<|aJ a6<|AS<|V4<|fU<|bJ<|oi o▸⟨rfl,ik ⟨rfl,j.drop 4⟩⟩;refine WL<|BY<|aO ax<|mv bk<|VP 0 bh j rZ<|OF ax (bh.length:Int)<|aJ (cE<|ax+(bh.length:Int))<|By<|bI ?_;exact aD<|BY<|Wa hk hm<|aO ((bj+1:Nat):Int)<|By<|oi o▸⟨rfl,j.sp 4 [2,3]⟩;intro r U w o hK;exact bJ<|oi o▸hK;rintro ax _ w o⟨O,rfl,j⟩;refine aD<|IS<|w_<|AT zr Mb<|Wh 0 j zr Ci Ag λc3 j=>?_;refine q_ o λa8 bz o=>VM RI (qc N (i0:=0) j zr bz) λw j=>aJ a8<|IN<|aO a8<|ic a8 0<|AS<|dM o (λo=>?_) λo=>?_;exact w_<|aO a8<|dN (.pointer none)<|aJ a8<|AS<|V4<|oi o▸ik ⟨rfl,j.drop 3⟩;refine We<|w_<|aO ax<|ic ax 2000<|AS<|dM o (λo=>?_) λo=>?_;exact w_<|dN (.pointer none)<|aJ 2<|AS<|V4<|oi o▸ik ⟨rfl,j.drop 3⟩;refine We<|w_<|V1 1 j zr pw λc4 j=>?_;refine q_ o λa9 b0 o=>VM (gr Tryz.func66) (vP N (i0:=0) j zr b0) λw j=>aJ a9<|IN<|aO a9<|ic a9 0<|AS<|dM o (λo=>?_) λo=>?_;exact w_<|aO a9<|dN (.pointer none)<|aJ a9<|AS<|V4<|oi o▸ik ⟨rfl,j.drop 4⟩;refine We<|w_<|V1 2 j zr pw λc5 j=>?_;refine q_ o λba b2 o=>VM (gr Tryz.func67) (vQ N (i0:=0) j zr b2) λw j=>aJ ba<|IN<|aO ba<|ic ba 0<|AS<|dM o (λo=>?_) λo=>?_;exact w_<|aO ba<|dN (.pointer none)<|aJ ba<|AS<|V4<|oi o▸ik ⟨rfl,j.drop 5⟩;refine We<|w_<|AT zr py<|Wh 3 j zr vv Ah λav j=>VP 0 p0.bQ j Co<|aO 0<|AS<|WJ E V (λ(bp:Unit)=>[bx 32 ar p0,rd av p0.bQ]) (λ_=>[(1,vp ar 0)]) (λaw _=>[(63,av),(64,vi p0.bQ.length),(65,vi aw)]) (sO E V) o ?_ ?_ ?_ ?_;exact j.sp 6 [4,0];rintro hm aw bp fl _ w hk⟨O,rfl,j⟩o;refine IS<|VW<|aO (aw:Int)<|q_ o λad b3 o=>VO 1 j Fe b3 λc6 j=>VS 0 ad j na λc7 j=>V9 j Ej.z λan w j=>?_;refine aJ (aw:Int)<|V5 0 j 1 zr na λw j=>?_;refine IN<|AT zr py<|Wh 3 j zr vv Ah λc8 j=>aO (aw:Int)<|q_ o λay b4 o=>Xo (hl:= .inr ⟨rfl,zr⟩) 0 j Fe (.inl zr) b4 λa0 j=>VP 0 ay j Co<|aO 0<|AS<|WJ E V (λ(bq:Unit)=>[bx 32 ar p0,bx 147 an ad,rd av p0.bQ,rd a0 ay]) (λ_=>[(1,vp ar 0),(63,av),(64,vi p0.bQ.length),(65,vi aw)]) (λa3 _=>[(12,vp an 0),(73,a0),(74,vi ay.length),(75,vi a3)]) (sO E V) o ?_ ?_ ?_ ?_;exact j.sp 7 [5,2,6,0];rintro hm a3 bq fl _ w hk⟨O,rfl,j⟩o;refine IS<|VW<|q_ o λab b5 o=>VO 3 j Fe b5 λbr j=>VS 0 ab j na λbt j=>V9 j Ej.z λaq w j=>?_;refine V5 0 j 1 zr na λw j=>?_;refine IT<|q_ o λbl hj o=>VR (λ(bl:Bool)=>SH E V [(1,vp ar 0),(12,vp an 0),(63,av),(64,vi p0.bQ.length),(65,vi aw),(73,a0),(74,vi ay.length),(75,vi a3),(98,vb bl)] [bx 32 ar p0,bx 147 an ad,rd av p0.bQ,rd a0 ay]) bl ?_ ?_;refine fx hj (λao hj=>?_) λao hj=>?_;obtain⟨b6,b7,hj⟩:=bd hj;obtain⟨b8,b9,hj⟩:=bd hj;refine q_ hj λbm ca hj=>W1 E V mixed [1,0,1,0,1,1,0,0,0,0,0,0,1,0,0,0,0,0,1,1] [13,14,15,16] (λ(x:aV×aV×aV×aV)=>(λag ah ai aj=>[(0,79,vp an 3),(1,80,vi ad.cQ),(2,81,vp aq 4),(3,82,vi ab.To),(4,83,vb<|ad.cQ<=ab.To),(5,84,vb<|ad.cQ<=ab.To),(6,85,cv (true&&(jP (ad.cQ<=ab.To)==true))<|vp aq 3),(7,86,cv (true&&(jP (ad.cQ<=ab.To)==true))<|vi ab.cQ),(8,87,cv (true&&(jP (ad.cQ<=ab.To)==true))<|vp an 4),(9,88,cv (true&&(jP (ad.cQ<=ab.To)==true))<|vi ad.To),(10,89,cv (true&&(jP (ad.cQ<=ab.To)==true))<|vb<|ab.cQ<=ad.To),(11,90,vb<|jP (ad.cQ<=ab.To)&&jP (ab.cQ<=ad.To)),(12,91,vb<|jP (ad.cQ<=ab.To)&&jP (ab.cQ<=ad.To)),(13,92,ag),(14,93,ah),(15,94,ai),(16,95,aj),(17,96,vi bm),(18,97,vb<|bm==0),(19,98,vb<|bm==0)]) x.1 x.2.1 x.2.2.1 x.2.2.2) [(1,vp ar 0),(12,vp an 0),(14,vp aq 0),(63,av),(64,vi p0.bQ.length),(65,vi aw),(73,a0),(74,vi ay.length),(75,vi a3)] [] (λ(D:Nat->Bool)(x:aV×aV×aV×aV)=>(λag ah ai aj=>[bif D 0 then rd ag ad else bD,bif D 1 then rd ah b6 else bD,bif D 2 then rd ai ab else bD,bif D 3 then rd aj b8 else bD,bx 147 aq ab,rd bt ab,pt br ab,bx 32 ar p0,bx 147 an ad,rd av p0.bQ,rd a0 ay]) x.1 x.2.1 x.2.2.1 x.2.2.2) (λx=>by kernel_rfl) ?_ ⟨λ_=>qs gn tZ,?_,λ_=>qs gn wP,?_,λ_=>PO gn rfl,λ_=>ka gn,?_,?_,?_,?_,?_,?_,λ_=>ka gn,?_,?_,?_,?_,?_,λ_=>PO (gy ao rfl) rfl,λ_=>Tx gn ao rfl,trivial⟩ ?_;exact⟨(undef,undef,undef,undef),dY.none,GJ zr,zt,((((j.drew).bD).bD).bD).bD⟩;rintro D U w hD ae al⟨⟨ag,ah,ai,aj⟩,hv,ha,_,j⟩;obtain⟨O,rfl⟩:=hv.o1 0 ae;exact VL 8 j zr pj cV<|VQ (ag,ah,ai,aj) 1 hv ha j;rintro D U w hD ae al⟨⟨ag,ah,ai,aj⟩,hv,ha,_,j⟩;obtain⟨O,rfl⟩:=hv.o1 2 ae;exact VL 4 j zr rf cV<|VQ (ag,ah,ai,aj) 3 hv ha j;rintro D U w hD ae al⟨⟨ag,ah,ai,aj⟩,hv,ha,_,j⟩;obtain⟨O,rfl⟩:=hv.oa 5 ae ha;exact Wk true (ad.cQ<=ab.To) (vp aq 3) zr zr zr (eF tZ)<|VQ (ag,ah,ai,aj) 6 hv ha j;rintro D U w hD ae al⟨⟨ag,ah,ai,aj⟩,hv,ha,_,j⟩;obtain⟨O,rfl⟩:=hv.o2 6 5 ae;refine Wk true (ad.cQ<=ab.To) (vi ab.cQ) rfl rfl rfl (cA 4 rfl j (by exact z_ (vp aq 3)) rfl pj cV) ?_;exact VQ (ag,ah,ai,aj) 7 hv ha j;rintro D U w hD ae al⟨⟨ag,ah,ai,aj⟩,hv,ha,_,j⟩;obtain⟨O,rfl⟩:=hv.oa 5 ae ha;exact Wk true (ad.cQ<=ab.To) (vp an 4) zr zr zr (eF wP)<|VQ (ag,ah,ai,aj) 8 hv ha j;rintro D U w hD ae al⟨⟨ag,ah,ai,aj⟩,hv,ha,_,j⟩;obtain⟨O,rfl⟩:=hv.o2 8 5 ae;refine Wk true (ad.cQ<=ab.To) (vi ad.To) rfl rfl rfl (cA 8 rfl j (by exact z_ (vp an 4)) rfl rf cV) ?_;exact VQ (ag,ah,ai,aj) 9 hv ha j;rintro D U w hD ae al⟨⟨ag,ah,ai,aj⟩,hv,ha,_,j⟩;obtain⟨O,rfl⟩:=(ac (hv.at 5 rfl<|ae.2.2.1 rfl)<|ac (hv.at 7 rfl<|ae.1 rfl)<|ac (hv.at 9 rfl<|ae.2.1 rfl) az).sV;exact Wb (vb<|ab.cQ<=ad.To) zr zr (u9 .leq)<|VQ (ag,ah,ai,aj) 10 hv ha j;rintro D U w hD ae al⟨⟨ag,ah,ai,aj⟩,hv,ha,_,j⟩;obtain⟨O,rfl⟩:=hv.o2 5 10 ae;exact Wl (b:=jP<|ad.cQ<=ab.To) (v:=vb<|jP (ad.cQ<=ab.To)&&jP (ab.cQ<=ad.To)) zt zr zr (kc true)<|VQ (ag,ah,ai,aj) 11 hv ha j;rintro D U w hD ae al⟨⟨ag,ah,ai,aj⟩,hv,ha,_,j⟩;obtain⟨O,rfl⟩:=hv.oa 12 ae ha;have j:=j.bY 0 hD;refine V1 8 j zr na λcb j=>?_;exact VQ (cb,ah,ai,aj) 13 hv ha (j.nw 0);rintro D U w hD ae al⟨⟨ag,ah,ai,aj⟩,hv,ha,_,j⟩;obtain⟨O,rfl⟩:=hv.o2 13 12 ae;have j:=(j.eB 0<|ae.1 rfl).bY 1 hD;refine V2 Ky (iP N (i0:=0) j zr b7) λcc w j=>?_;exact VQ (ag,cc,ai,aj) 14 hv ha (((j.pl 12 [1,0,3,4,5,6,7,8,9,10,11] rfl).dF 0 (D 13) (ae.1 rfl) bD).dF 1 true rfl bD);rintro D U w hD ae al⟨⟨ag,ah,ai,aj⟩,hv,ha,_,j⟩;obtain⟨O,rfl⟩:=hv.oa 12 ae ha;have j:=j.bY 2 hD;refine V1 4 j zr na λcd j=>?_;exact VQ (ag,ah,cd,aj) 15 hv ha (j.nw 2);rintro D U w hD ae al⟨⟨ag,ah,ai,aj⟩,hv,ha,_,j⟩;obtain⟨O,rfl⟩:=(ac (hv.at 12 rfl<|ae.2.2.1 rfl)<|ac (hv.at 15 rfl<|ae.1 rfl) az).sV;have j:=(j.eB 2<|ae.1 rfl).bY 3 hD;refine V2 Ky (iP N (i0:=2) j zr b9) λcf w j=>?_;exact VQ (ag,ah,ai,cf) 16 hv ha (((j.pl 12 [1,2,3,0,5,6,7,8,9,10,11] rfl).dF 2 (D 15) (ae.1 rfl) bD).dF 3 true rfl bD);rintro D U w hD ae al⟨⟨ag,ah,ai,aj⟩,hv,ha,_,j⟩;obtain⟨O,rfl⟩:=(ac (hv.at 12 rfl<|ae.2.2.2.1 rfl)<|ac (hv.at 14 rfl<|ae.1 rfl)<|ac (hv.at 16 rfl<|ae.2.1 rfl) az).sV;have j:=(j.eB 1<|ae.1 rfl).eB 3<|ae.2.1 rfl;refine VM Of (qX N (i0:=1) (i1:=3) j zr zr ca) λw j=>?_;exact VQ (ag,ah,ai,aj) 17 hv ha ((j.dF 1 (D 14) (ae.1 rfl) bD).dF 3 (D 16) (ae.2.1 rfl) bD);rintro D U w a1⟨⟨ag,ah,ai,aj⟩,hv,ha,_,j⟩;have j:=(((j.eB 0<|tK a1 13).eB 1<|tK a1 14).eB 2<|tK a1 15).eB 3<|tK a1 16;obtain⟨O,rfl⟩:=(ac (hv.at 19 rfl<|tK a1 19) ha).sV;exact oi hj▸⟨rfl,j.sp 11 [7,8,9,10]⟩;refine W1 E V mixed [1,0,1,0,1,1,0,0,0,0,0,0,1,1,1,1,1,1,1,1] [] (λ(x:Unit)=>[(0,79,vp an 3),(1,80,vi ad.cQ),(2,81,vp aq 4),(3,82,vi ab.To),(4,83,vb<|ad.cQ<=ab.To),(5,84,vb<|ad.cQ<=ab.To),(6,85,cv (true&&(jP (ad.cQ<=ab.To)==true))<|vp aq 3),(7,86,cv (true&&(jP (ad.cQ<=ab.To)==true))<|vi ab.cQ),(8,87,cv (true&&(jP (ad.cQ<=ab.To)==true))<|vp an 4),(9,88,cv (true&&(jP (ad.cQ<=ab.To)==true))<|vi ad.To),(10,89,cv (true&&(jP (ad.cQ<=ab.To)==true))<|vb<|ab.cQ<=ad.To),(11,90,vb<|jP (ad.cQ<=ab.To)&&jP (ab.cQ<=ad.To)),(12,91,vb<|jP (ad.cQ<=ab.To)&&jP (ab.cQ<=ad.To)),(13,92,undef),(14,93,undef),(15,94,undef),(16,95,undef),(17,96,undef),(18,97,undef),(19,98,vb false)]) [(1,vp ar 0),(12,vp an 0),(14,vp aq 0),(63,av),(64,vi p0.bQ.length),(65,vi aw),(73,a0),(74,vi ay.length),(75,vi a3)] [] (λ(D:Nat->Bool)(x:Unit)=>[bx 147 aq ab,rd bt ab,pt br ab,bx 32 ar p0,bx 147 an ad,rd av p0.bQ,rd a0 ay]) (λx=>by kernel_rfl) ?_ ⟨λ_=>qs gn tZ,?_,λ_=>qs gn wP,?_,λ_=>PO gn rfl,λ_=>ka gn,?_,?_,?_,?_,?_,?_,λ_=>ka gn,λ_=>Ko ao,λ_=>Ko ao,λ_=>Ko ao,λ_=>Ko ao,λ_=>Ko ao,λ_=>Ko ao,λ_=>Tz gn ao rfl,trivial⟩ ?_;exact⟨(),dY.none,GJ zr,zt,j.drew⟩;rintro D U w hD ae al⟨_,hv,ha,_,j⟩;obtain⟨O,rfl⟩:=hv.o1 0 ae;exact VL 4 j zr pj cV<|VQ () 1 hv ha j;rintro D U w hD ae al⟨_,hv,ha,_,j⟩;obtain⟨O,rfl⟩:=hv.o1 2 ae;exact VL 0 j zr rf cV<|VQ () 3 hv ha j;rintro D U w hD ae al⟨_,hv,ha,_,j⟩;obtain⟨O,rfl⟩:=hv.oa 5 ae ha;exact Wk true (ad.cQ<=ab.To) (vp aq 3) zr zr zr (eF tZ)<|VQ () 6 hv ha j;rintro D U w hD ae al⟨_,hv,ha,_,j⟩;obtain⟨O,rfl⟩:=hv.o2 6 5 ae;refine Wk true (ad.cQ<=ab.To) (vi ab.cQ) rfl rfl rfl (cA 0 rfl j (by exact z_ (vp aq 3)) rfl pj cV) ?_;exact VQ () 7 hv ha j;rintro D U w hD ae al⟨_,hv,ha,_,j⟩;obtain⟨O,rfl⟩:=hv.oa 5 ae ha;exact Wk true (ad.cQ<=ab.To) (vp an 4) zr zr zr (eF wP)<|VQ () 8 hv ha j;rintro D U w hD ae al⟨_,hv,ha,_,j⟩;obtain⟨O,rfl⟩:=hv.o2 8 5 ae;refine Wk true (ad.cQ<=ab.To) (vi ad.To) rfl rfl rfl (cA 4 rfl j (by exact z_ (vp an 4)) rfl rf cV) ?_;exact VQ () 9 hv ha j;rintro D U w hD ae al⟨_,hv,ha,_,j⟩;obtain⟨O,rfl⟩:=(ac (hv.at 5 rfl<|ae.2.2.1 rfl)<|ac (hv.at 7 rfl<|ae.1 rfl)<|ac (hv.at 9 rfl<|ae.2.1 rfl) az).sV;exact Wb (vb<|ab.cQ<=ad.To) zr zr (u9 .leq)<|VQ () 10 hv ha j;rintro D U w hD ae al⟨_,hv,ha,_,j⟩;obtain⟨O,rfl⟩:=hv.o2 5 10 ae;exact Wl (b:=jP<|ad.cQ<=ab.To) (v:=vb<|jP (ad.cQ<=ab.To)&&jP (ab.cQ<=ad.To)) zt zr zr (kc true)<|VQ () 11 hv ha j;rintro D U w a1⟨_,hv,ha,_,j⟩;obtain⟨O,rfl⟩:=(ac (hv.at 19 rfl<|tK a1 19) ha).sV;exact oi hj▸⟨rfl,j.sp 7 [3,4,5,6]⟩;rintro _ w⟨O,rfl,j⟩;refine aD<|dM o (λo=>?_) λo=>?_;exact w_<|dN (.pointer none)<|aJ 12<|AS<|Wm<|bJ<|oi o▸⟨rfl,ik ⟨rfl,j.drop 4⟩⟩;exact Wc<|bI<|aD<|BY<|Wa hk hm<|aO ((a3+1:Nat):Int)<|By<|oi o▸⟨rfl,j.sp 4 [0,1,2,3]⟩;intro r U w o hK;exact fU<|bJ<|oi o▸⟨rfl,hK⟩;rintro bq _ w o⟨O,rfl,j⟩;exact bI<|aD<|BY<|Wa hk hm<|aO ((aw+1:Nat):Int)<|By<|oi o▸⟨rfl,j.sp 4 [0,2]⟩;intro r U w o hK;exact bJ<|oi o▸hK;rintro bp _ w o⟨O,rfl,j⟩;refine aD<|w_<|V1 0 j zr pw λch j=>?_;obtain⟨cs,hcs,hv224,j⟩:=j.N3 (i:=0) rfl rfl;obtain⟨bb,bc,bf,bg,rfl⟩:=Tp hcs;have j:=(((j.jy (i:=0) (k:=0) (f:=λx=>x.aS) rfl te rfl rfl rfl).jy (i:=1) (k:=1) (f:=λx=>x.dU) rfl Ci rfl rfl rfl).jy (i:=2) (k:=2) (f:=λx=>x.bQ) rfl vv rfl rfl rfl).jy (i:=3) (k:=3) (f:=λx=>x.bX) rfl tf rfl rfl rfl;refine YJ (zs:=[n_,n_,n_,n_,n_,n_,n_,n_,n_,n_,n_,n_]) (cs:=[bb,bc,bf,bg,n_,n_,n_,n_,n_,n_,n_,n_]) zt zr [(0,ch)] [(0,[bb,bc,bf,bg])] zr TT ⟨rfl,congrArg Value.cells hv224,zt⟩ zr<|Yl (cs:=[bb,bc,bf,bg,n_,n_,n_,n_,n_,n_,n_,n_]) zt zr j zr (Gn.all (⟨Bz 3 j zr,Bz 2 j zr,Bz 1 j zr,Bz 0 j zr,zr,zr,zr,zr,zr,zr,zr,zr,zt⟩:Gn [bb,bc,bf,bg,n_,n_,n_,n_,n_,n_,n_,n_])) λa2 w j=>?_;refine dN (vp a2 0)<|IT<|w_<|mv (vp a2 0) ?_;have j:=((((((j.dQ (aL aB) 96).dQ aI 98).pull 0).pull 2).dup 6 rfl).dup 9 rfl).pull 6;refine q_ o λcj ck o=>V2 (gr Tryz.func69) (uP N j ck) ?_;rintro _ w⟨cm,cn,rfl,j⟩;refine Wr cj.1<|AS<|dM o (λo=>?_) λo=>?_;exact w_<|dN (.pointer none)<|aJ 2<|AS<|V4<|oi o▸ik ⟨rfl,j.drop 14⟩;refine Ww<|mv (vp a2 0) ?_;have j:=(((((j.freeze 2).dQ (aL Int) 91).pull 0).dup 4 rfl).dup 10 rfl).pull 4;refine q_ o λc9 cp o=>V2 (gr Tryz.func70) (uQ N j cp) ?_;rintro _ w⟨cq,rfl,j⟩;refine IN<|mv (vp a2 0) ?_;have j:=((((((((((((j.freeze 1).dQ Int 3).dQ Int 3).dQ Int 3).dQ fN 150).pull 0).pull 2).pull 4).pull 6).dup 9 rfl).dup 14 rfl).dup 19 rfl).dup 21 rfl;have j:=j.pull 12;refine q_ o λda cr o=>V2 (gr Tryz.func71) (qf N j cr) ?_;rintro _ w⟨ct,cu,cw,cx,cy,rfl,j⟩;exact IN<|mv (vp a2 0)<|dN (vp a2 0)<|aJ 0<|AS<|VN<|oi o▸ik ⟨a2,bb,bc,bf,bg,cm,cn,cq,ct,cu,cw,cx,cy,zr,j.pk 27 [0,22,21,20,19,14,15,11,1,2,3,4,5]⟩
theorem rP{p0:aL aY}{p1:cB}{p2:iE}{res:aU (aL (aL aK)×aL aK×aL cL×aL cW×aL (aL aB)×aL aI×aL (aL Int)×aL bM×aL Int×aL Int×aL Int×aL fN)×Int}(j:Holds E w V)(h0:fC V i0 v0 p0)(h1:fC V i1 v1 p1)(h2:fC V i2 v2 p2)(o:eK N p0 p1 p2=some res):
    c_ 18 [v0,v1,v2] w<|lY E V res:=by
 unfold eK at o
 refine enter Tryz.func18 zr zr ?_
 have j:=((j.dup (i0+0) h0).dup (i1+1) h1).dup (i2+2) h2
 refine w_<|V7 1 v1 j zr λax w j=>?_
 refine V7 1 v2 j zr λay w j=>?_
 refine dN (.pointer none)<|aJ 0<|IT<|w_<|mv v0<|V1 1 j zr ye λaz j=>?_
 obtain⟨aa,af,o⟩:=bd o
 refine VM (gr Tryz.func42) (vL N (i0:=5) (i1:=0) j zr zr af) λw j=>aJ aa<|IN<|aO aa<|ic aa 0<|AS<|dM o (λo=>?_) λo=>?_
 ·refine w_<|aO aa<|dN (.pointer none)<|aJ aa<|AS<|V4 ?_
  obtain rfl:=oi o
  exact ik ⟨rfl,j.drop 6⟩
 refine Ww<|V1 1 j zr pw λa0 j=>?_
 obtain⟨ab,ag,o⟩:=bd o
 refine V2 P9 (rO N (i0:=0) j zr ag) ?_
 rintro _ w hK52
 rcases ad:ab.1 with _|a1
 ·replace o:=Gv ad o
  obtain⟨rfl,j⟩:=AU ad hK52
  refine V6 (.pointer none)<|V6 (vi ab.2)<|dN (.pointer none)<|aJ ab.2<|AS<|VN ?_
  obtain rfl:=oi o
  exact ik ⟨rfl,j.drop 7⟩
 replace o:=Gw ad o
 obtain⟨ae,ah,ai,aj,ak,al,an,ao,aq,ar,au,av,aw,rfl,j⟩:=AV ad hK52
 refine V6 (vp ae 0)<|V6 (vi ab.2)<|dN (vp ae 0)<|aJ ab.2<|AS<|VN ?_
 obtain rfl:=oi o
 exact ik ⟨ae,ah,ai,aj,ak,al,an,ao,aq,ar,au,av,aw,zr,j.pk 20 (fR 0 13 [])⟩
theorem nQ{res:Bool}(o:Holds E w V)(j:lz N p0 p1 p2=some res):c_ 21 [vi p0,vi p1,vi p2] w<|bE E V res:=by
 unfold lz at j;refine enter Tryz.func21 zr zr<|w_<|bV false<|IN<|aO p0<|aO p1<|ic p0 p1<|fY (jP<|p0>=p1)<|Wb (vi p0) zr zr tR ?_;exact Wb (vi p2) zr zr tR<|Wb (vb<|p0<=p2) zr zr (u9 .leq)<|Wl (b:=jP<|p0>=p1) (v:=vb<|jP (p0>=p1)&&jP (p0<=p2)) zt zr zr (kc true)<|bV (jP (p0>=p1)&&jP (p0<=p2))<|AS<|VN<|oi j▸bT ⟨rfl,o.drop 0⟩
theorem sm{p0:aL aY}{p1:cB}{p2:iE}{res:aU (aL (aL aK)×aL aK×aL cL×aL cW×aL (aL aB)×aL aI×aL (aL Int)×aL bM×aL Int×aL Int×aL Int×aL fN)×Int}(o:Holds E w V)(h0:fC V i0 v0 p0)(h1:fC V i1 v1 p1)(h2:fC V i2 v2 p2)(j:eW N p0 p1 p2 p3=some res):
    c_ 10 [v0,v1,v2,vi p3] w<|lY E V res:=by
 unfold eW at j
 refine enter Tryz.func10 zr zr ?_
 have o:=((o.dup (i0+0) h0).dup (i1+1) h1).dup (i2+2) h2
 refine w_<|V7 1 v1 o zr λaz w o=>?_
 refine V7 1 v2 o zr λa0 w o=>?_
 refine dN (.pointer none)<|aJ 0<|IN<|mv v0<|V1 1 o zr ye λa1 o=>V1 1 o zr pw λa2 o=>?_
 obtain⟨aa,ae,j⟩:=bd j
 refine V2 Sg (rP N (i0:=6) (i1:=1) (i2:=0) o zr zr zr ae) ?_
 rintro _ w hK51
 rcases ad:aa.1 with _|a3
 ·replace j:=Gv ad j
  obtain⟨rfl,o⟩:=AU ad hK51
  refine mv (.tuple #[(.pointer none),vi aa.2])<|V6 (.pointer none)<|V6 (vi aa.2)<|dN (.pointer none)<|aJ aa.2<|IT<|w_<|aO aa.2<|ic aa.2 0 ?_
  refine AS<|dM j (λj=>?_) λj=>?_
  ·refine w_<|aO aa.2<|dN (.pointer none)<|aJ aa.2<|AS<|V4 ?_
   obtain rfl:=oi j
   exact ik ⟨rfl,o.drop 7⟩
  refine We<|w_<|aO p3 ?_
  obtain⟨af,ag,j⟩:=bd j
  refine VM Oi (nQ N (p0:=p3) (p1:=0) (p2:=100000) o ag) λw o=>Wr af<|AS<|dM j (λj=>?_) λj=>?_
  ·refine w_<|dN (.pointer none)<|aJ 1<|AS<|V4 ?_
   obtain rfl:=oi j
   exact ik ⟨rfl,o.drop 7⟩
  refine Ww<|mv (.pointer none)<|dN (.pointer none)<|aJ 0<|AS<|VN ?_
  obtain rfl:=oi j
  exact ik ⟨rfl,o.drop 7⟩
 replace j:=Gw ad j
 obtain⟨ab,ah,ai,aj,ak,al,an,ao,aq,ar,au,av,aw,rfl,o⟩:=AV ad hK51
 refine mv (.tuple #[vp ab 0,vi aa.2])<|V6 (vp ab 0)<|V6 (vi aa.2)<|dN (vp ab 0)<|aJ aa.2<|IT<|w_<|aO aa.2<|ic aa.2 0 ?_
 refine AS<|dM j (λj=>?_) λj=>?_
 ·refine w_<|aO aa.2<|dN (.pointer none)<|aJ aa.2<|AS<|V4 ?_
  obtain rfl:=oi j
  exact ik ⟨rfl,o.drop 20⟩
 refine We<|w_<|aO p3 ?_
 obtain⟨ax,ay,j⟩:=bd j
 refine VM Oi (nQ N (p0:=p3) (p1:=0) (p2:=100000) o ay) λw o=>Wr ax<|AS<|dM j (λj=>?_) λj=>?_
 ·refine w_<|dN (.pointer none)<|aJ 1<|AS<|V4 ?_
  obtain rfl:=oi j
  exact ik ⟨rfl,o.drop 20⟩
 refine Ww<|mv (vp ab 0)<|dN (vp ab 0)<|aJ 0<|AS<|VN ?_
 obtain rfl:=oi j
 exact ik ⟨ab,ah,ai,aj,ak,al,an,ao,aq,ar,au,av,aw,zr,o.pk 20 (fR 0 13 [])⟩
end Go.Gk
