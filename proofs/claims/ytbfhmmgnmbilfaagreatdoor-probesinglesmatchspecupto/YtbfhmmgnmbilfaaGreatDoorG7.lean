/-
  Printed texts: Go functions as plain functions, and that they are. No statement of the seed is proved here.
-/
import Derived.Test.YtbfhmmgnmbilfaaGreatDoorG1
import Derived.Test.YtbfhmmgnmbilfaaGreatDoorG5
import Derived.Test.YtbfhmmgnmbilfaaGreatDoorG6
import Derived.Test.YtbfhmmgnmbilfaaGreatDoorA2
set_option linter.unusedVariables false
set_option linter.unusedSimpArgs false
set_option linter.unusedSectionVars false
set_option maxRecDepth 100000
set_option maxHeartbeats 40000000
namespace Go.Gk
open Go IntKind Go.Proofs
variable (N:Nat){E w:World}{b0 i0 i1:Nat}{res:Int}{v0 g_ i_ a_ d_ f_ b_ e_ h_ v1:Value}{V:List HP}
def nG(E:World)(V:List HP)(b0:Nat)(g_ i_:Value)(a_ d_:Value)(f_ b_:Value)(e_ h_:Value)(res:eC×Bool)(v:Value)(w:World):Prop:=∃u0:Value,v = .tuple #[u0,vb res.2]/\Holds E w ([rd u0 res.1,bc 125 b0 [g_,i_,a_,d_,f_,b_,e_,h_]]++V)
def nH(E:World)(V:List HP)(b0:Nat)(g_ i_:Value)(a_ d_:Value)(f_ b_:Value)(e_ h_:Value)(r:eC×Bool)(U:Nat->Value)(w:World):Prop:=lY bI 91 Tryz.f88 (nG E V b0 g_ i_ a_ d_ f_ b_ e_ h_ r) .ret U w
theorem mV{k_:List bU}{t_:List Int}{j_:List (List aH)}{p1:dE}{res:eC×Bool}(j:Holds E w (bc 125 b0 [g_,i_,a_,d_,f_,b_,e_,h_]::rd a_ k_::rd f_ t_::rd b_ j_::V))(h1:V[i1]? =some (rd v1 p1))(o:gl N k_ t_ j_ p1=some res):c_ 88 [vp b0 0,v1] w<|nG E V b0 g_ i_ a_ d_ f_ b_ e_ h_ res:=by
 unfold gl at o;refine enter Tryz.func88 zr zr ?_;have j:=j.dup (i1+4) h1;refine w_<|Ur 0 v1 j zr λah w j=>?_;have j:=j.iH (i:=0) rfl;refine Uw j H2.z λai w j=>?_;refine cC false<|TV<|w_<|aL 0<|AI<|U2 E V (λ(ag:Int)=>[bc 125 b0 [g_,i_,a_,d_,f_,b_,e_,h_],rd a_ k_,rd f_ t_,rd b_ j_,pt (vp ah 0) p1,raw 34 ai 2]) (λ_=>[(0,vp b0 0),(3,vp ah 0),(4,vp ai 0)]) (λag=>[(6,vi ag)]) (nH E V b0 g_ i_ a_ d_ f_ b_ e_ h_) o ?_ ?_ ?_ ?_;exact j.sp 7 [3,4,5,6,1,0];rintro ag fl _ w⟨O,rfl,j⟩o;refine IN<|w_<|aU ag<|mv (vp b0 0)<|Ud zt zr zr<|AT zr mb<|T1 0 b_ j o5<|T0 3 j_ j qE<|ic ag ((j_.length:Int))<|AI<|dG o (λo=>?_) λo=>?_;refine Ue<|UI<|IN<|q_ o λaj hj o=>T7 (λ(aj:Bool)=>SH E V [(0,vp b0 0),(3,vp ah 0),(4,vp ai 0),(6,vi ag),(38,vb aj)] [bc 125 b0 [g_,i_,a_,d_,f_,b_,e_,h_],rd a_ k_,rd f_ t_,rd b_ j_,pt (vp ah 0) p1,raw 34 ai 2]) aj ?_ ?_;refine UL mixed [0,0,0,0,0,0,0,0,0,0,0,0,0,0,0,0,0,0,0,0,2,0] [0,1,2,3,4,5,6,7,8,9,10,11,12,13,14,15,16,17,18,19,20,21] ?_;have j:=j.drew;refine T4 zr zr<|mv (vp b0 0)<|aQ zr<|Ud zt zr zr<|aQ zr<|AT zr wA<|aQ zr<|T1 0 f_ j fE<|aQ zr<|aU ag<|aQ zr ?_;refine q_ hj λak au hj=>TU 2 j dN au λbg j=>aQ zr<|Ub ak 0 j cA<|aQ zr<|Uk 5 j zr BE tq λbh j=>aQ zr<|Ub p1.cL 0 j cA<|aQ zr<|ic ak p1.cL<|aQ zr<|fC (ak==p1.cL)<|T8<|eG hj (λae hj=>?_) λae hj=>?_;refine T4 zr zr<|TW (vp b0 0) (cg ae)<|aQ zr<|Ud (cg ae) zr zr<|aQ zr<|AT (hg:=cg ae) zr mb<|aQ zr<|T1 (hg:=cg ae) 2 b_ j o5<|aQ zr<|TW (vi ag) (cg ae)<|aQ zr ?_;refine q_ hj λav aw hj=>TU (hg:=cg ae) 5 j vu aw λbj j=>aQ zr<|T9 (hg:=cg ae) 0 av j uk λbk j=>aQ zr<|Uk (hg:=cg ae) 8 j zr BF tr λbl j=>aQ zr<|T9 (hg:=cg ae) 0 p1.At j qF λbm j=>oT zr<|q_ hj λax ay hj=>T3 (hg:=cg ae) OH (oW N (i0:=2) (i1:=0) j zr zr ay) λw j=>qZ zr<|eD ae (vb ax)<|T8<|Um ?_;exact oi hj▸⟨rfl,j.sp 12 [6,7,8,9,10,11]⟩;refine T4 zr zr<|aZ ae<|aQ zr<|aZ ae<|aQ zr<|aZ ae<|aQ zr<|aZ ae<|aQ zr<|aZ ae<|aQ zr<|aZ ae<|aQ zr<|aZ ae<|aQ zr<|aZ ae<|aQ zr<|aZ ae ?_;exact oT zr<|aZ ae<|qZ zr<|eD ae (vb false)<|T8<|Um<|oi hj▸⟨rfl,j.sp 8 [2,3,4,5,6,7]⟩;rintro _ w⟨O,rfl,j⟩;refine aC<|dG o (λo=>?_) λo=>?_;refine w_<|aU ag ?_;have j:=j.sc Int ag;refine UO (⟨false,ag⟩:eC) trivial rfl j [(1,vi ag)] rfl Dt rfl (λM hs g=>by have h:=xe M;exact bZ.cons (f:=λ(x:eC)y=>{x with Number:=y}) h rN (g.sat 0 _ rfl).1 λ_ h=>bZ.nil h) λbn j=>?_;refine Uu 7 j 0 zr pr λw j=>?_;refine cC true<|AI<|UN<|bO ?_;obtain rfl:=oi o;exact⟨rfl,zc 7 j pr λaz j=>⟨az,zr,j.pk 9 [0,3]⟩⟩;refine Ul<|bG<|aC<|IS<|aU ag<|TY ag 1<|aL (wrap .i64<|ag+1)<|By ?_;exact oi o▸⟨rfl,j.sp 6 [0,1,2,3,4,5]⟩;exact Ui<|oi o▸⟨rfl,j.sp 6 [0,1,2,3,4,5]⟩;intro r U w o hK;exact bO<|oi o▸hK;rintro ag _ w o⟨O,rfl,j⟩;refine aC<|IN<|w_<|aL 0<|AI<|U2 E V (λ(af:Int)=>[bc 125 b0 [g_,i_,a_,d_,f_,b_,e_,h_],rd a_ k_,rd f_ t_,rd b_ j_,pt (vp ah 0) p1,raw 34 ai 2]) (λ_=>[(0,vp b0 0),(4,vp ai 0)]) (λaf=>[(3,vp ah 0),(7,vi af)]) (nH E V b0 g_ i_ a_ d_ f_ b_ e_ h_) o ?_ ?_ ?_ ?_;exact j.sp 6 [0,1,2,3,4,5];rintro af fl _ w⟨O,rfl,j⟩o;refine IN<|w_<|aU af<|mv (vp b0 0)<|Ud zt zr zr<|AT zr oL<|AT zr gz<|T1 0 a_ j mT<|T0 1 k_ j vv<|ic af ((k_.length:Int))<|AI<|dG o (λo=>?_) λo=>?_;refine Ue<|UI<|IN<|q_ o λan hj o=>T7 (λ(an:Bool)=>SH E V [(0,vp b0 0),(3,vp ah 0),(4,vp ai 0),(7,vi af),(87,vb an)] [bc 125 b0 [g_,i_,a_,d_,f_,b_,e_,h_],rd a_ k_,rd f_ t_,rd b_ j_,pt (vp ah 0) p1,raw 34 ai 2]) an ?_ ?_;refine UL mixed [0,0,0,0,0,0,0,0,0,0,0,0,0,0,0,0,0,0,0,0,2,0,0,0,0,0,0,0,0,0,0,2,2,1,1,2,0] [0,1,2,3,4,5,6,7,8,9,10,11,12,13,14,15,16,17,18,19,20,21,22,23,24,25,26,27,28,29,30,33,34,31,32,35,36] ?_;have j:=j.drew;refine T4 zr zr<|mv (vp b0 0)<|aQ zr<|Ud zt zr zr<|aQ zr<|AT zr oL<|aQ zr<|AT zr gz<|aQ zr<|T1 0 a_ j mT<|aQ zr<|aU af<|aQ zr ?_;refine q_ hj λao a0 hj=>TU 1 j sm a0 λbo j=>aQ zr<|Uk 0 j zr xR pY λbp j=>aQ zr<|Ub ao.fD 0 j sU<|aQ zr<|fC ao.fD<|T8<|eG hj (λad hj=>?_) λad hj=>?_;refine T4 zr zr<|TW (vp b0 0) (cg ad)<|aQ zr<|Ud (cg ad) zr zr<|aQ zr<|AT (hg:=cg ad) zr oL<|aQ zr<|AT (hg:=cg ad) zr gz<|aQ zr<|T1 (hg:=cg ad) 2 a_ j mT<|aQ zr<|TW (vi af) (cg ad)<|aQ zr ?_;refine q_ hj λa1 a2 hj=>TU (hg:=cg ad) 3 j sm a2 λbq j=>aQ zr<|T9 (hg:=cg ad) 0 a1 j nk λbr j=>aQ zr<|Uk (hg:=cg ad) 8 j zr BE tq λbs j=>aQ zr<|Ub (hg:=cg ad) p1.cL 0 j cA<|oT zr<|q_ hj λaq a3 hj=>T3 (hg:=cg ad) NC (jZ N (p1:=p1.cL) (i0:=1) j zr a3) λw j=>qZ zr<|eD ad (vb aq)<|aQ zr<|fC aq<|T8<|eG hj (λab hj=>?_) λab hj=>?_;refine T4 zr zr<|TW (vp b0 0) (cg ab)<|aQ zr<|Ud (cg ab) zr zr<|aQ zr<|AT (hg:=cg ab) zr oL<|aQ zr<|AT (hg:=cg ab) zr gz<|aQ zr<|T1 (hg:=cg ab) 5 a_ j mT<|aQ zr<|TW (vi af) (cg ab)<|aQ zr ?_;refine q_ hj λa4 a5 hj=>TU (hg:=cg ab) 6 j sm a5 λbt j=>aQ zr<|T9 (hg:=cg ab) 0 a4 j nk λbu j=>T8<|Vr 11 zr (cg ab) j zr BF tr λbw j=>Vb (hg:=cg ab) p1.At 0 zr j qF λbx a279 bz j=>UD zr zr<|q_ hj λa6 a7 hj=>Ua (hg:=cg ab) K1 (gm N (i0:=3) j zr a7) λa8 w j=>Us (⟨zt,j.gN 1⟩)<|UD zr zr<|Uy (hg:=cg ab) ([a6]:List aH) j [a8] gU nL (λM hs g=>⟨(g.sat 0 _ zr).1,zt⟩) λb1 w j=>Us (⟨zt,j.gN 2⟩)<|UD zr zr ?_;have j:=j.freeze 0;refine q_ hj λa9 ba hj=>T3 (hg:=cg ab) OH (oW N (i0:=0) (i1:=3) j zr zr ba) λw j=>Us (⟨zt,j.gN 2⟩)<|T4 zr zr<|eD ab (vb a9)<|T8 ?_;have j:=j.pl 18 [0,1,3,4,5,6,7,8,9,10,11,12,13,14,15,16,17] rfl;exact Um<|oi hj▸⟨rfl,j.sp 17 [11,12,13,14,15,16]⟩;refine T4 zr zr<|aZ ab<|aQ zr<|aZ ab<|aQ zr<|aZ ab<|aQ zr<|aZ ab<|aQ zr<|aZ ab<|aQ zr<|aZ ab<|aQ zr<|aZ ab<|aQ zr<|aZ ab<|T8<|Uf undef zr (λw=>aZ ab Uc) ?_;refine Uf undef zr (λw=>aZ ab Uc)<|UD zr zr<|aZ ab<|Kc zr<|aZ ab<|Kc zr<|aZ ab<|qZ zr<|eD ab (vb false)<|T8<|Um ?_;exact oi hj▸⟨rfl,j.sp 11 [5,6,7,8,9,10]⟩;refine T4 zr zr<|aZ ad<|aQ zr<|aZ ad<|aQ zr<|aZ ad<|aQ zr<|aZ ad<|aQ zr<|aZ ad<|aQ zr<|aZ ad<|aQ zr<|aZ ad<|aQ zr<|aZ ad<|aQ zr<|aZ ad ?_;refine aQ zr<|aZ ad<|oT zr<|aZ ad<|qZ zr<|eD ad (vb false)<|aQ zr<|fC false<|aQ zr<|jy<|aQ zr<|jy<|aQ zr<|jy<|aQ zr<|jy<|aQ zr<|jy ?_;refine aQ zr<|jy<|aQ zr<|jy<|aQ zr<|jy<|T8<|Uf undef zr (λw=>jy Uc)<|Uf undef zr (λw=>jy Uc)<|UD zr zr<|jy<|Kc zr<|jy<|Kc zr<|jy<|qZ zr<|Uq (b:=false) (v:=vb false) zt zr zr zr<|T8 ?_;exact Um<|oi hj▸⟨rfl,j.sp 8 [2,3,4,5,6,7]⟩;rintro _ w⟨O,rfl,j⟩;refine aC<|dG o (λo=>?_) λo=>?_;refine w_<|aU af ?_;have j:=(j.sc Bool true).sc Int af;refine UO (⟨true,af⟩:eC) trivial rfl j [(0,vb true),(1,vi af)] rfl Dt rfl (λM hs g=>by have h:=xe M;exact bZ.cons (f:=λ(x:eC)y=>{x with bU:=y}) h AE (g.sat 1 _ rfl).1 λ_ h=>bZ.cons (f:=λ(x:eC)y=>{x with Number:=y}) h rN (g.sat 0 _ rfl).1 λ_ h=>bZ.nil h) λb2 j=>?_;refine Uu 8 j 0 zr pr λw j=>?_;refine cC true<|AI<|UN<|bO ?_;obtain rfl:=oi o;exact⟨rfl,zc 8 j pr λbb j=>⟨bb,zr,j.pk 10 [0,4]⟩⟩;refine Ul<|bG<|aC<|IS<|aU af<|TY af 1<|aL (wrap .i64<|af+1)<|By ?_;exact oi o▸⟨rfl,j.sp 6 [0,1,2,3,4,5]⟩;exact Ui<|oi o▸⟨rfl,j.sp 6 [0,1,2,3,4,5]⟩;intro r U w o hK;exact bO<|oi o▸hK;rintro af _ w o⟨O,rfl,j⟩;refine aC<|w_<|UO (⟨false,0⟩:eC) trivial rfl j [] rfl Dt rfl (λM hs g=>by have h:=xe M;exact bZ.nil h) λb3 j=>?_;refine Uu 6 j 0 zr pr λw j=>?_;refine cC false<|AI<|T2 ?_;obtain rfl:=oi o;exact zc 6 j pr λbf j=>⟨bf,zr,j.pk 8 [0,2]⟩
theorem nM{us0_6:List bB}{r_:List bW}{p1:eC}(j:Holds E w (bc 125 b0 [g_,i_,a_,d_,f_,b_,e_,h_]::own 76 e_ us0_6::jk bF us0_6 r_ none::V))(h1:V[i1]? =some (rd v1 p1))(hb:dR N r_ p1=some res):c_ 75 [vp b0 0,v1] w<|ig E V b0 g_ i_ a_ d_ f_ b_ e_ us0_6 r_ h_ res:=by
 unfold dR at hb;refine enter Tryz.func75 zr zr ?_;have j:=j.dup (i1+3) h1;refine w_<|Ur 0 v1 j zr λah w j=>?_;refine aL 0<|TV<|w_<|aL 0<|AI<|U2 E V (λ(af:Int)=>[bc 125 b0 [g_,i_,a_,d_,f_,b_,e_,h_],own 76 e_ us0_6,jk bF us0_6 r_ none,bx 34 ah p1]) (λ_=>[(0,vp b0 0)]) (λaf=>[(3,vp ah 0),(5,vi af)]) (λr=>lY bI 49 Tryz.f75 (ig E V b0 g_ i_ a_ d_ f_ b_ e_ us0_6 r_ h_ r) .ret) hb ?_ ?_ ?_ ?_;exact j.sp 5 [2,3,4,0];rintro af fl _ w⟨O,rfl,j⟩hb;refine IN<|w_<|aU af<|mv (vp b0 0)<|Ud zt zr zr<|AT zr kK<|T1 0 e_ j rQ<|VA 1 2 r_ j L7<|ic af ((r_.length:Int))<|AI<|dG hb (λhb=>?_) λhb=>?_;refine Ue<|UI<|IN<|q_ hb λal o hb=>T7 (λ(al:Bool)=>SH E V [(0,vp b0 0),(3,vp ah 0),(5,vi af),(47,vb al)] [bc 125 b0 [g_,i_,a_,d_,f_,b_,e_,h_],own 76 e_ us0_6,jk bF us0_6 r_ none,bx 34 ah p1]) al ?_ ?_;refine UL mixed [0,0,0,0,0,0,0,0,0,0,0,0,0,2,0,0,0,0,0,0,0,0,0,0,0,0,0,0,0,0,2,0,0] [0,1,2,3,4,5,6,7,8,9,10,11,12,13,14,15,16,17,18,19,20,21,22,23,24,25,26,27,28,29,30,31,32] ?_;have j:=j.drew;refine T4 zr zr<|AT zr uT<|aQ zr<|TX 3 j zr po sU<|aQ zr<|fC p1.bU<|T8<|eG o (λaa o=>?_) λaa o=>?_;refine T4 zr zr<|TW (vp b0 0) (cg aa)<|aQ zr<|Ud (cg aa) zr zr<|aQ zr<|AT (hg:=cg aa) zr kK<|aQ zr<|T1 (hg:=cg aa) 0 e_ j rQ<|aQ zr<|TW (vi af) (cg aa)<|aQ zr ?_;obtain⟨av,aj,o⟩:=bd o;have hl242:=j.eZ 2;have hr243:=gC (default:bB) hl242 aj;have hq244:=rI 1 j hr243 0;refine Ug (hg:=cg aa) 1 j zr zr xo hr243<|aQ zr ?_;have hl245:=j.eZ 2;have hr246:=gC (default:bB) hl245 aj;refine U6 (α:=bB) (cg aa) (rI 1 j hr246 0) zL<|aQ zr ?_;have hl247:=j.eZ 2;have hr248:=gC (default:bB) hl247 aj;refine V0 (λu=>u.aM) av.aM 1 2 af EM (default:bB) (cg aa) zr j zr (rI 1 j hr248 1) zr zr aj (λu hu=>hu.2) fE λa2 j=>aQ zr<|AT (hg:=cg aa) zr pN<|aQ zr<|TX (hg:=cg aa) 4 j zr kZ cA<|oT zr<|q_ o λao aw o=>T3 (hg:=cg aa) Du (eW N (p1:=p1.Number) (i0:=0) j zr aw) λw j=>qZ zr<|eD aa (vb ao)<|aQ zr<|fC ao<|T8<|eG o (λag o=>?_) λag o=>?_;refine T4 zr zr<|aZ ag<|aQ zr<|aZ ag<|aQ zr<|aZ ag<|aQ zr<|aZ ag<|aQ zr<|vo<|aQ zr<|vo<|aQ zr<|vo<|aQ zr<|vo<|aQ zr<|vo ?_;refine aQ zr<|vo<|aQ zr<|vo<|aQ zr<|vo<|aQ zr<|vo<|aQ zr<|vo<|oT zr<|vo<|qZ zr<|aZ ag<|aQ zr<|eD ag (vb true)<|T8<|Um ?_;exact oi o▸⟨rfl,j.sp 5 [1,2,3,4]⟩;refine T4 zr zr<|AT (hg:=cg ag) zr uT<|aQ zr<|TX (hg:=cg ag) 4 j zr po sU<|aQ zr<|Ux (hg:=cg ag) p1.bU<|aQ zr<|TW (vb<|!p1.bU) (cg ag)<|T8 ?_;refine eG o (λad o=>?_) λad o=>?_;refine T4 zr zr<|TW (vp b0 0) (cg ad)<|aQ zr<|Ud (cg ad) zr zr<|aQ zr<|AT (hg:=cg ad) zr kK<|aQ zr<|T1 (hg:=cg ad) 1 e_ j rQ<|aQ zr<|TW (vi af) (cg ad)<|aQ zr ?_;obtain⟨ax,ak,o⟩:=bd o;have hl254:=j.eZ 3;have hr255:=gC (default:bB) hl254 ak;have hq256:=rI 2 j hr255 0;refine Ug (hg:=cg ad) 2 j zr zr xo hr255<|aQ zr ?_;have hl257:=j.eZ 3;have hr258:=gC (default:bB) hl257 ak;refine U6 (α:=bB) (cg ad) (rI 2 j hr258 0) tG<|aQ zr ?_;have hl259:=j.eZ 3;have hr260:=gC (default:bB) hl259 ak;refine V0 (λu=>u.fF) ax.fF 2 3 af ze (default:bB) (cg ad) zr j zr (rI 2 j hr260 0) zr zr ak (λu hu=>hu.1) fE λa3 j=>aQ zr<|AT (hg:=cg ad) zr pN<|aQ zr<|TX (hg:=cg ad) 5 j zr kZ cA<|oT zr<|q_ o λaq ay o=>T3 (hg:=cg ad) Du (eW N (p1:=p1.Number) (i0:=0) j zr ay) λw j=>qZ zr<|eD ad (vb aq) (hg:=cg ag)<|aQ zr<|eD ag (vb aq)<|T8<|Um ?_;exact oi o▸⟨rfl,j.sp 6 [2,3,4,5]⟩;refine T4 zr zr<|aZ ad<|aQ zr<|aZ ad<|aQ zr<|aZ ad<|aQ zr<|aZ ad<|aQ zr<|aZ ad<|aQ zr<|aZ ad<|aQ zr<|aZ ad<|aQ zr<|aZ ad<|aQ zr<|aZ ad ?_;refine aQ zr<|aZ ad<|oT zr<|aZ ad<|qZ zr<|eD ad (vb false) (hg:=cg ag)<|aQ zr<|eD ag (vb false)<|T8<|Um ?_;exact oi o▸⟨rfl,j.sp 5 [1,2,3,4]⟩;refine T4 zr zr<|aZ aa<|aQ zr<|aZ aa<|aQ zr<|aZ aa<|aQ zr<|aZ aa<|aQ zr<|aZ aa<|aQ zr<|aZ aa<|aQ zr<|aZ aa<|aQ zr<|aZ aa<|aQ zr<|aZ aa ?_;refine aQ zr<|aZ aa<|oT zr<|aZ aa<|qZ zr<|eD aa (vb false)<|aQ zr<|fC false<|aQ zr<|AT (hg:=⟨_,zr,zr⟩) zr uT<|aQ zr<|TX (hg:=⟨_,zr,zr⟩) 3 j zr po sU<|aQ zr<|Ux (hg:=⟨_,zr,zr⟩) p1.bU<|aQ zr<|TW (vb<|!p1.bU) ⟨_,zr,zr⟩<|T8<|eG o (λab o=>?_) λab o=>?_;refine T4 zr zr<|TW (vp b0 0) (cg ab)<|aQ zr<|Ud (cg ab) zr zr<|aQ zr<|AT (hg:=cg ab) zr kK<|aQ zr<|T1 (hg:=cg ab) 0 e_ j rQ<|aQ zr<|TW (vi af) (cg ab)<|aQ zr ?_;obtain⟨ar,ai,o⟩:=bd o;have hl265:=j.eZ 2;have hr266:=gC (default:bB) hl265 ai;have hq267:=rI 1 j hr266 0;refine Ug (hg:=cg ab) 1 j zr zr xo hr266<|aQ zr ?_;have hl268:=j.eZ 2;have hr269:=gC (default:bB) hl268 ai;refine U6 (α:=bB) (cg ab) (rI 1 j hr269 0) tG<|aQ zr ?_;have hl270:=j.eZ 2;have hr271:=gC (default:bB) hl270 ai;refine V0 (λu=>u.fF) ar.fF 1 2 af ze (default:bB) (cg ab) zr j zr (rI 1 j hr271 0) zr zr ai (λu hu=>hu.1) fE λa1 j=>aQ zr<|AT (hg:=cg ab) zr pN<|aQ zr<|TX (hg:=cg ab) 4 j zr kZ cA<|oT zr<|q_ o λan au o=>T3 (hg:=cg ab) Du (eW N (p1:=p1.Number) (i0:=0) j zr au) λw j=>qZ zr<|eD ab (vb an) (hg:=⟨_,zr,zr⟩)<|aQ zr<|Uq (b:=false) (v:=vb an) zt zr zr zr<|T8<|Um ?_;exact oi o▸⟨rfl,j.sp 5 [1,2,3,4]⟩;refine T4 zr zr<|aZ ab<|aQ zr<|aZ ab<|aQ zr<|aZ ab<|aQ zr<|aZ ab<|aQ zr<|aZ ab<|aQ zr<|aZ ab<|aQ zr<|aZ ab<|aQ zr<|aZ ab<|aQ zr<|aZ ab ?_;refine aQ zr<|aZ ab<|oT zr<|aZ ab<|qZ zr<|eD ab (vb false) (hg:=⟨_,zr,zr⟩)<|aQ zr<|Uq (b:=false) (v:=vb false) zt zr zr zr<|T8<|Um ?_;exact oi o▸⟨rfl,j.sp 4 [0,1,2,3]⟩;rintro _ w⟨O,rfl,j⟩;refine aC<|dG hb (λhb=>?_) λhb=>?_;exact w_<|aU af<|aL af<|AI<|UN<|bO<|oi hb▸⟨rfl,bX ⟨rfl,j.pk 4 [0,1,2]⟩⟩;refine Ul<|bG<|aC<|IS<|aU af<|TY af 1<|aL (wrap .i64<|af+1)<|By ?_;exact oi hb▸⟨rfl,j.sp 4 [0,1,2,3]⟩;exact Ui<|oi hb▸⟨rfl,j.sp 4 [0,1,2,3]⟩;intro r U w hb hK;exact bO<|oi hb▸hK;rintro af _ w hb⟨O,rfl,j⟩;exact aC<|w_<|aL (-1)<|AI<|T2<|oi hb▸bX ⟨rfl,j.pk 4 [0,1,2]⟩
theorem o7{k_:List bU}{t_:List Int}{j_:List (List aH)}{us0_6:List bB}{r_:List bW}{p1:dE}(j:Holds E w (bc 125 b0 [g_,i_,a_,d_,f_,b_,e_,h_]::rd a_ k_::rd f_ t_::rd b_ j_::own 76 e_ us0_6::jk bF us0_6 r_ none::V))(h1:V[i1]? =some (rd v1 p1))(o:fB N k_ t_ j_ r_ p1=some res):c_ 116 [vp b0 0,v1] w<|ig E V b0 g_ i_ a_ d_ f_ b_ e_ us0_6 r_ h_ res:=by
 unfold fB at o;refine enter Tryz.func116 zr zr ?_;have j:=j.dup (i1+6) h1;refine w_<|Ur 0 v1 j zr λag w j=>?_;refine aL 0<|TT<|mv (vp b0 0)<|Ut 0 j zr vx λah j=>?_;have j:=(((j.dup 6 rfl).dup 6 rfl).dup 6 rfl).pull 6;refine q_ o λaa ad o=>Ua Rq (mV N (i1:=0) j zr ad) ?_;rintro _ w⟨ab,rfl,j⟩;refine mv (.tuple #[ab,vb aa.2])<|Uz ab<|Uz (vb aa.2)<|Uw j H2.z λai w j=>?_;refine Uu 0 j 1 zr pr λw j=>?_;refine cC aa.2<|TV<|w_<|fC aa.2<|Ux aa.2<|AI<|dG o (λo=>?_) λo=>?_;exact w_<|aL (-1)<|AI<|Up<|oi o▸bX ⟨rfl,j.pk 12 [2,10,11]⟩;refine UP<|mv (vp b0 0)<|Ut 0 j zr pr λaj j=>?_;have j:=((j.pull 12).pull 12).pull 5;exact q_ o λae af o=>T3 Rr (nM N (i1:=0) j zr af) λw j=>aL ae<|AI<|T2<|oi o▸bX ⟨rfl,j.pk 16 [0,1,2]⟩
def qt(E:World)(V:List HP)(b0:Nat)(g_ i_:Value)(a_ d_:Value)(f_ b_ h_:Value)(res:List bW)(v:Value)(w:World):Prop:=∃E_:Value,v = .tuple #[]/\Holds E w ([bc 125 b0 [g_,i_,a_,d_,f_,b_,E_,h_],own 76 E_ res]++V)
theorem pP{k_:List bU}{s_:List dE}{t_:List Int}{j_:List (List aH)}{u_:List (List Int)}{res:List bW}(o:Holds E w (bc 125 b0 [g_,i_,a_,d_,f_,b_,n_,h_]::rd a_ k_::rd d_ s_::rd f_ t_::rd b_ j_::rd h_ u_::V))(hb:fQ N k_ s_ t_ j_ u_=some res):c_ 73 [vp b0 0] w<|qt E V b0 g_ i_ a_ d_ f_ b_ h_ res:=by
 unfold fQ at hb;refine enter Tryz.func73 zr zr<|w_<|mv (vp b0 0)<|Ud zt zr zr<|AT zr mb<|T1 0 b_ o o5<|T0 4 j_ o qE<|q_ hb λch bw hb=>Vm (j_.length:Int) o Ki R2 bw λaz w o=>?_;refine dC az<|TV<|w_<|aL 0<|AI<|VE E V (λ(av:List bW×List Bool×Int)(bm:Value)(us76:List bB)=>[bc 125 b0 [g_,i_,a_,d_,f_,b_,bm,h_],own 76 bm us76,jk bF us76 av.1 none,rd a_ k_,rd d_ s_,rd f_ t_,rd b_ j_,rd h_ u_,own 4 az av.2.1]) (λ_ _ _=>[(0,vp b0 0)]) (λav _ _=>[(2,az),(3,vi av.2.2)]) hb ?_ ?_ ?_;have o:=(o.CZ bF).cM bB 76;exact⟨n_,([]:List bB),o.sp 9 [3,0,1,4,5,6,7,8,2]⟩;rintro av fl _ w⟨a2,us80,O,rfl,o⟩hb;refine IN<|w_<|aU av.2.2<|mv (vp b0 0)<|Ud zt zr zr<|AT zr mb<|T1 0 b_ o o5<|T0 6 j_ o qE<|ic av.2.2 ((j_.length:Int))<|AI<|dG hb (λhb=>?_) λhb=>?_;refine Ue<|Uj<|mv az<|aU av.2.2<|q_ hb λbz bo hb=>Ug 8 o zr zr sJ bo<|UT 8 o bo sU<|Ux bz<|AI<|q_ hb λa6 hj hb=>T7 (λ(a6:List bW×List Bool)U w=>∃(a7:Value)(us91:List bB),SH E V [(0,vp b0 0),(2,az),(3,vi av.2.2)] [bc 125 b0 [g_,i_,a_,d_,f_,b_,a7,h_],own 76 a7 us91,jk bF us91 a6.1 none,rd a_ k_,rd d_ s_,rd f_ t_,rd b_ j_,rd h_ u_,own 4 az a6.2] U w) a6 ?_ ?_;refine dG hj (λhj=>?_) λhj=>?_;have o:=o.drew;refine Vo (λw=>Holds E w<|[bc 125 b0 [g_,i_,a_,d_,f_,b_,a2,h_]]++V) mixed [1,1,1,1,1,0,0,0,2,2,2,0,0,2] [0,1,2,3,4,5,6,7,8,9,10,11,12,13] (o.pk 9 [0])<|Uf (vp b0 0) zr (λw=>TW (vp b0 0) zt Uc)<|Uf (vp b0 0) zr (λw=>TW (vp b0 0) zt Uc)<|Uf (vp b0 0) zr (λw=>Ud zt zr zr Uc)<|Uf (vp b0 6) zr (λw=>AT zr kK Uc)<|Ve a2 zr (λw o=>T1 0 a2 o rQ Uc)<|T4 zr zr<|mv (vp b0 0)<|aQ zr ?_;refine aU av.2.2<|aQ zr<|mv az<|oT zr ?_;have o:=((o.pull 8).dup 8 rfl).pull 2;refine q_ hj λaw b2 hj=>Ua (gF Tryz.func115) (r5 N (p1:=av.2.2) o b2) ?_;rintro _ w⟨bg,a8,ax,rfl,o⟩;refine Us (o.pk 14 [3])<|UD zr zr ?_;have o:=(o.Fc (i:=2) rfl).F9 (cs:=[bg,a8,ax]) (x:=(⟨aw.1.1,aw.1.2.1,rv ax⟩:bB)) (λM hs g=>⟨[bg],[a8,ax],rfl,qy (g.sat 1 _ rfl).1,⟨[a8],[ax],rfl,qy (g.sat 2 _ rfl).1,qy (g.sat 0 _ rfl).1⟩⟩) rfl;refine Uy ([(⟨aw.1.1,aw.1.2.1,rv ax⟩:bB)]:List bB) o [(.agg ([bg,a8,ax]:List Value).toArray)] xo Pm (λM hs g=>⟨(g.sat 0 _ zr).1,zt⟩) λcj w o=>Us (o.pk 17 [6])<|UD zr zr ?_;obtain⟨ck,b3,hj⟩:=bd hj;have o:=o.freeze 0;refine V1 9 0 10 5 bF (⟨aw.1.1,aw.1.2.1,rv ax⟩:bB) (⟨aw.1.1,aw.1.2.1,aw.1.2.2⟩:bW) ax aw.1.2.2 (λ_ _ ho=>⟨⟨rfl,zr⟩,ho⟩) zr o zr zr zr zr zr zr Pn b3 λbp w o=>?_;refine Us (o.pk 17 [6])<|T4 zr zr<|Ud zt zr zr<|aQ zr<|AT zr kK<|T8<|VP zr zr<|U1 6 bp o zr zr (iq 9 o) rQ λw o=>?_;exact Us zt<|Um<|oi hj▸⟨rfl,bp,us80++[(⟨aw.1.1,aw.1.2.1,rv ax⟩:bB)],o.sp 17 [6,9,10,11,12,13,14,15,7]⟩;exact Ul<|oi hj▸⟨rfl,a2,us80,o.sp 9 [0,1,2,3,4,5,6,7,8]⟩;rintro _ w⟨a7,us91,O,rfl,o⟩;refine bG<|aC<|IS<|aU av.2.2<|TY av.2.2 1<|aL (wrap .i64<|av.2.2+1)<|By ?_;exact oi hb▸⟨rfl,a7,us91,o.sp 9 [0,1,2,3,4,5,6,7,8]⟩;exact Ui<|oi hb▸⟨rfl,a2,us80,o.sp 9 [0,1,2,3,4,5,6,7,8]⟩;rintro av _ w hb⟨b4,us78,O,rfl,o⟩;refine aC<|IN<|w_<|aL 0<|AI<|VE E V (λ(aq:List bW×Int)(bq:Value)(us164:List bB)=>[bc 125 b0 [g_,i_,a_,d_,f_,b_,bq,h_],own 76 bq us164,jk bF us164 aq.1 none,rd a_ k_,rd d_ s_,rd f_ t_,rd b_ j_,rd h_ u_]) (λ_ _ _=>[(0,vp b0 0)]) (λaq _ _=>[(4,vi aq.2)]) hb ?_ ?_ ?_;exact⟨b4,us78,o.sp 9 [0,1,2,3,4,5,6,7]⟩;rintro aq fl _ w⟨a3,us168,O,rfl,o⟩hb;refine IN<|w_<|aU aq.2<|mv (vp b0 0)<|Ud zt zr zr<|AT zr rE<|T1 0 h_ o AK<|T0 7 u_ o Jn<|ic aq.2 ((u_.length:Int))<|AI<|dG hb (λhb=>?_) λhb=>?_;refine Ue<|UI<|IN<|q_ hb λbh hj hb=>T7 (λ(bh:Bool)=>SH E V [(0,vp b0 0),(4,vi aq.2),(69,vb bh)] [bc 125 b0 [g_,i_,a_,d_,f_,b_,a3,h_],rd a_ k_,rd d_ s_,rd f_ t_,rd b_ j_,own 76 a3 us168,jk bF us168 aq.1 none,rd h_ u_]) bh ?_ ?_;refine IS<|mv (vp b0 0)<|Ud zt zr zr<|AT zr oL<|AT zr gz<|T1 0 a_ o mT<|aU aq.2<|q_ hj λbr b5 hj=>TU 3 o sm b5 λcm o=>Uk 0 o zr xR pY λcn o=>Ub br.fD 0 o sU<|fC br.fD<|eG hj (λau hj=>?_) λau hj=>?_;refine TW (vp b0 0) (cg au)<|Ud (cg au) zr zr<|AT (hg:=cg au) zr rE<|T1 (hg:=cg au) 2 h_ o AK<|TW (vi aq.2) (cg au)<|q_ hj λa9 b6 hj=>TU (hg:=cg au) 9 o BG b6 λcp o=>T9 (hg:=cg au) 0 a9 o fE λcq o=>T0 (hg:=cg au) 0 a9 o lz<|UM (a9.length:Int) 0 (cg au)<|eD au (vb<|(a9.length:Int)==0)<|By ?_;exact oi hj▸⟨rfl,o.sp 12 [4,7,8,9,10,5,6,11]⟩;refine aZ au<|aZ au<|aZ au<|aZ au<|aZ au<|aZ au<|aZ au<|aZ au<|aZ au<|eD au (vb false)<|By ?_;exact oi hj▸⟨rfl,o.sp 10 [2,5,6,7,8,3,4,9]⟩;rintro _ w⟨O,rfl,o⟩;refine aC<|q_ hb λbj hj hb=>T7 (λ(bj:List bW)U w=>∃(ba:Value)(us193:List bB),SH E V [(0,vp b0 0),(4,vi aq.2)] [bc 125 b0 [g_,i_,a_,d_,f_,b_,ba,h_],own 76 ba us193,jk bF us193 bj none,rd a_ k_,rd d_ s_,rd f_ t_,rd b_ j_,rd h_ u_] U w) bj ?_ ?_;refine dG hj (λhj=>?_) λhj=>?_;refine IS<|mv (vp b0 0)<|mv (vp b0 0)<|Ud zt zr zr<|AT zr kK<|T1 0 a3 o rQ<|aU aq.2 ?_;have o:=o.sc Int aq.2;refine Uy ([aq.2]:List Int) o [vi aq.2] dN EP (λM hs g=>⟨(g.sat 0 _ zr).1,zt⟩) λa1 w o=>VM [n_,n_,n_] [n_,a1,n_] zr [(1,a1)] zr Ro ⟨iq 0 o,zt⟩ zr ?_;have o:=((((o.cM fz 60).Fc (i:=0) rfl).tz Int).freeze 3).F9 (cs:=[n_,a1,n_]) (x:=(⟨([]:List Int),([aq.2]:List Int),rv<|.slice none 0 0⟩:bB)) (λM hs g=>⟨[n_],[a1,n_],rfl,qy (g.sat 0 _ rfl).1,⟨[a1],[n_],rfl,qy (g.sat 3 _ rfl).1,qy (g.sat 1 _ rfl).1⟩⟩) rfl;refine Uy ([(⟨([]:List Int),([aq.2]:List Int),rv<|.slice none 0 0⟩:bB)]:List bB) o [(.agg ([n_,a1,n_]:List Value).toArray)] xo Pm (λM hs g=>⟨(g.sat 0 _ zr).1,zt⟩) λcr w o=>?_;obtain⟨ct,b7,hj⟩:=bd hj;have o:=o.freeze 0;refine V1 12 0 13 4 bF (⟨([]:List Int),([aq.2]:List Int),rv<|.slice none 0 0⟩:bB) (⟨([]:List Int),([aq.2]:List Int),([]:List fz)⟩:bW) n_ ([]:List fz) (λ_ _ ho=>⟨⟨rfl,zr⟩,ho⟩) zr o zr zr zr zr zr zr Pn b7 λbt w o=>?_;refine Ud zt zr zr<|AT zr kK<|U1 7 bt o zr zr (iq 12 o) rQ λw o=>?_;refine By ?_;obtain rfl:=oi hj;exact⟨rfl,bt,us168++[(⟨([]:List Int),([aq.2]:List Int),rv<|.slice none 0 0⟩:bB)],o.sp 15 [7,12,13,8,9,10,11,14]⟩;exact Ul<|oi hj▸⟨rfl,a3,us168,o.sp 8 [0,5,6,1,2,3,4,7]⟩;rintro _ w⟨ba,us193,O,rfl,o⟩;refine bG<|aC<|IS<|aU aq.2<|TY aq.2 1<|aL (wrap .i64<|aq.2+1)<|By ?_;exact oi hb▸⟨rfl,ba,us193,o.sp 8 [0,1,2,3,4,5,6,7]⟩;exact Ui<|oi hb▸⟨rfl,a3,us168,o.sp 8 [0,1,2,3,4,5,6,7]⟩;rintro aq _ w hb⟨ar,us166,O,rfl,o⟩;refine aC<|w_<|aL 0<|AI<|UY E V (λ(ak:List bW×Int)(us350:List bB)=>[bc 125 b0 [g_,i_,a_,d_,f_,b_,ar,h_],rd a_ k_,rd d_ s_,rd f_ t_,rd b_ j_,own 76 ar us350,jk bF us350 ak.1 none,rd h_ u_]) (λ_ _=>[(0,vp b0 0)]) (λak _=>[(5,vi ak.2)]) hb ?_ ?_ ?_;exact⟨us166,o.sp 8 [0,3,4,5,6,1,2,7]⟩;rintro ak fl _ w⟨us352,O,rfl,o⟩hb;refine IN<|w_<|aU ak.2<|mv (vp b0 0)<|Ud zt zr zr<|AT zr oL<|AT zr qH<|T1 0 d_ o AJ<|T0 2 s_ o Gl<|ic ak.2 ((s_.length:Int))<|AI<|dG hb (λhb=>?_) λhb=>?_;refine Ue<|Uj<|mv (vp b0 0)<|Ud zt zr zr<|AT zr oL<|AT zr qH<|T1 0 d_ o AJ<|aU ak.2<|q_ hb λao b8 hb=>TU 2 o ES b8 λb9 o=>T9 0 ao o vx λca o=>Uw o KU.z λbb w o=>?_;refine Uu 0 o 1 zr vx λw o=>?_;refine TT<|mv (vp b0 0)<|Ut 0 o zr vx λcb o=>?_;have o:=(((((o.pull 10).pull 10).dup 10 rfl).dup 10 rfl).dup 9 rfl).pull 9;refine q_ hb λaa cc hb=>T3 (gF Tryz.func116) (o7 N (i1:=0) o zr cc) λw o=>aL aa<|TT<|aU aa<|ic aa 0<|AI<|q_ hb λbk hj hb=>T7 (λ(bk:List bW)U w=>∃(us393:List bB),SH E V [(0,vp b0 0),(5,vi ak.2)] [bc 125 b0 [g_,i_,a_,d_,f_,b_,ar,h_],rd a_ k_,rd d_ s_,rd f_ t_,rd b_ j_,own 76 ar us393,jk bF us393 bk none,rd h_ u_] U w) bk ?_ ?_;refine dG hj (λhj=>?_) λhj=>?_;obtain⟨cu,a4,hj⟩:=bd hj;obtain⟨ay,cd,hj⟩:=bd hj;refine q_ hj λa0 bf hj=>Vd E V mixed [1,1,1,0,1,1,1,1,0,1,0,0,0,1,0,1,0,0,0,0,0,0,0] [17,18,19,22] (λ(x:Value×Value×Value)=>(λal aj ae=>[(0,105,vp b0 0),(1,106,vp b0 0),(2,107,vp b0 6),(3,108,ar),(4,109,vi aa),(5,110,vp b0 0),(6,111,vp b0 0),(7,112,vp b0 6),(8,113,ar),(9,114,vi aa),(10,115,Bo ar (Int.toNat aa) 3 0),(11,116,Bo ar (Int.toNat aa) 3 2),(12,117,(us352.getD (Int.toNat aa) (default:bB)).fw.v),(13,118,vp bb 0),(14,119,str ao.Part),(15,120,vp bb 1),(16,121,str ao.fz),(17,122,al),(18,123,aj),(19,124,ae),(20,125,Bo ar (Int.toNat aa) 3 0),(21,126,Bo ar (Int.toNat aa) 3 2)]) x.1 x.2.1 x.2.2) [(0,vp b0 0),(5,vi ak.2),(6,vp bb 0),(7,vi aa)] [] (λ(D:Nat->Bool)(x:Value×Value×Value)=>(λal aj ae=>[bif D 0 then rd al (⟨ao.Part,ao.fz⟩:fz)else bK,bif D 2 then rd aj ([(⟨ao.Part,ao.fz⟩:fz)]:List fz)else(bif D 1 then own 60 aj ([(⟨ao.Part,ao.fz⟩:fz)]:List fz)else bK),bif D 3 then bK else(bif D 2 then own 60 ae ay else bK),bc 125 b0 [g_,i_,a_,d_,f_,b_,ar,h_],bif D 3 then own 76 ar (us352.set (Int.toNat aa) {(us352.getD (Int.toNat aa) (default:bB))with fw:=rv ae})else own 76 ar us352,bif D 3 then jk bF (us352.set (Int.toNat aa) {(us352.getD (Int.toNat aa) (default:bB))with fw:=rv ae}) (ak.1.set (Int.toNat aa) {a0 with fw:=ay}) none else(bif D 2 then jk bF us352 ak.1 (some<|Int.toNat aa)else jk bF us352 ak.1 none),rd cb ao,bx 56 bb ao,rd ca ao,pt b9 ao,bK,rd a_ k_,rd d_ s_,rd f_ t_,rd b_ j_,bK,bK,rd h_ u_]) x.1 x.2.1 x.2.2) (λx=>by kernel_rfl) ?_ ⟨λ_=>jT gn,λ_=>zG gn,λ_=>o4 gn kK,?_,λ_=>jT gn,λ_=>jT gn,λ_=>zG gn,λ_=>o4 gn kK,?_,λ_=>jT gn,?_,?_,?_,λ_=>o4 gn xQ,?_,λ_=>o4 gn BD,?_,?_,?_,?_,?_,?_,?_,trivial⟩ ?_;have o:=(((o.drew).bK).bK).bK;exact⟨(undef,undef,undef),eF.none,HN zr,zt,o⟩;rintro D U w hD ai ab⟨⟨al,aj,ae⟩,hv,ha,_,o⟩;obtain⟨O,rfl⟩:=hv.o1 2 ai;exact T1 3 ar o rQ<|T5 (al,aj,ae) 3 hv ha o;rintro D U w hD ai ab⟨⟨al,aj,ae⟩,hv,ha,_,o⟩;obtain⟨O,rfl⟩:=hv.o1 7 ai;exact T1 3 ar o rQ<|T5 (al,aj,ae) 8 hv ha o;rintro D U w hD ai ab⟨⟨al,aj,ae⟩,hv,ha,_,o⟩;obtain⟨O,rfl⟩:=hv.o2 8 9 ai;have o:=((o.cI 4<|nh ab hD 22).cI 5<|nh ab hD 22).cI 5<|nf<|λh=>ft hD<|(ab 11 _ rfl<|(ab 12 _ rfl<|(ab 19 _ rfl h).1 rfl).1 rfl).1 rfl;have hl412:=o.eZ 5;have hr413:=gC (default:bB) hl412 a4;refine Ug 4 o zr zr xo hr413 ?_;have o:=(o.fO 4 (D 22) (nh ab hD 22)<|own 76 ar<|us352.set (Int.toNat aa) {(us352.getD (Int.toNat aa) (default:bB))with fw:=rv ae}).fO 5 (D 19) (nf<|λh=>ft hD<|(ab 11 _ rfl<|(ab 12 _ rfl<|(ab 19 _ rfl h).1 rfl).1 rfl).1 rfl)<|jk bF us352 ak.1<|some<|Int.toNat aa;have o:=o.fO 5 (D 22) (nh ab hD 22)<|jk bF (us352.set (Int.toNat aa) {(us352.getD (Int.toNat aa) (default:bB))with fw:=rv ae}) (ak.1.set (Int.toNat aa) {a0 with fw:=ay}) none;exact T5 (al,aj,ae) 10 hv ha o;rintro D U w hD ai ab⟨⟨al,aj,ae⟩,hv,ha,_,o⟩;obtain⟨O,rfl⟩:=hv.o1 10 ai;have o:=((o.cI 4<|nh ab hD 22).cI 5<|nh ab hD 22).cI 5<|nf<|λh=>ft hD<|(ab 12 _ rfl<|(ab 19 _ rfl h).1 rfl).1 rfl;have hl414:=o.eZ 5;have hr415:=gC (default:bB) hl414 a4;refine U6 (α:=bB) zt (rI 4 o hr415 0) zM ?_;have o:=(o.fO 4 (D 22) (nh ab hD 22)<|own 76 ar<|us352.set (Int.toNat aa) {(us352.getD (Int.toNat aa) (default:bB))with fw:=rv ae}).fO 5 (D 19) (nf<|λh=>ft hD<|(ab 12 _ rfl<|(ab 19 _ rfl h).1 rfl).1 rfl)<|jk bF us352 ak.1<|some<|Int.toNat aa;have o:=o.fO 5 (D 22) (nh ab hD 22)<|jk bF (us352.set (Int.toNat aa) {(us352.getD (Int.toNat aa) (default:bB))with fw:=rv ae}) (ak.1.set (Int.toNat aa) {a0 with fw:=ay}) none;exact T5 (al,aj,ae) 11 hv ha o;rintro D U w hD ai ab⟨⟨al,aj,ae⟩,hv,ha,_,o⟩;obtain⟨O,rfl⟩:=hv.o1 11 ai;have o:=((o.cI 4<|nh ab hD 22).cI 5<|nh ab hD 22).cI 5<|nh ab hD 19;have hl416:=o.eZ 5;have hr417:=gC (default:bB) hl416 a4;refine VO 4 5 aa qf (default:bB) zr o zr (rI 4 o hr417 2) zr zr a4 Jo ?_;have o:=(o.fO 4 (D 22) (nh ab hD 22)<|own 76 ar<|us352.set (Int.toNat aa) {(us352.getD (Int.toNat aa) (default:bB))with fw:=rv ae}).fO 5 (D 19) (nh ab hD 19)<|jk bF us352 ak.1<|some<|Int.toNat aa;have o:=o.fO 5 (D 22) (nh ab hD 22)<|jk bF (us352.set (Int.toNat aa) {(us352.getD (Int.toNat aa) (default:bB))with fw:=rv ae}) (ak.1.set (Int.toNat aa) {a0 with fw:=ay}) none;exact T5 (al,aj,ae) 12 hv ha o;rintro D U w hD ai ab⟨⟨al,aj,ae⟩,hv,ha,_,o⟩;obtain⟨O,rfl⟩:=hv.o1 13 ai;exact TX 7 o zr pZ EG<|T5 (al,aj,ae) 14 hv ha o;rintro D U w hD ai ab⟨⟨al,aj,ae⟩,hv,ha,_,o⟩;obtain⟨O,rfl⟩:=hv.o1 15 ai;exact TX 7 o zr tp EG<|T5 (al,aj,ae) 16 hv ha o;rintro D U w hD ai ab⟨⟨al,aj,ae⟩,hv,ha,_,o⟩;obtain⟨O,rfl⟩:=hv.o2 14 16 ai;have o:=((o.cI 0 hD).sc eV ao.Part).sc eV ao.fz;refine UO (⟨ao.Part,ao.fz⟩:fz) trivial rfl o [(0,str ao.Part),(1,str ao.fz)] rfl Nw rfl (λM hs g=>by have h:=Kd M;exact bZ.cons (f:=λ(x:fz)y=>{x with Part:=y}) h Ay (g.sat 1 _ rfl).1 λ_ h=>bZ.cons (f:=λ(x:fz)y=>{x with fz:=y}) h Az (g.sat 0 _ rfl).1 λ_ h=>bZ.nil h) λcf o=>?_;have o:=(o.pl 21 [0,4,5,6,7,8,9,10,11,12,13,14,15,16,17,18,19,20] rfl).dL 0 true rfl bK;exact T5 (cf,aj,ae) 17 hv ha o;rintro D U w hD ai ab⟨⟨al,aj,ae⟩,hv,ha,_,o⟩;obtain⟨O,rfl⟩:=hv.o1 17 ai;have o:=((o.eQ 0<|ai.1 rfl).cI 1<|nh ab hD 19).cI 1 hD;refine Uy ([(⟨ao.Part,ao.fz⟩:fz)]:List fz) o [al] QZ Pf (λM hs g=>⟨(g.sat 0 _ zr).1,zt⟩) λbu w o=>?_;have o:=(((o.pl 19 [1,0,3,4,5,6,7,8,9,10,11,12,13,14,15,16,17,18] rfl).dL 0 (D 17) (ai.1 rfl) bK).dL 1 true rfl bK).fO 1 (D 19) (nh ab hD 19)<|rd bu ([(⟨ao.Part,ao.fz⟩:fz)]:List fz);exact T5 (al,bu,ae) 18 hv ha o;rintro D U w hD ai ab⟨⟨al,aj,ae⟩,hv,ha,_,o⟩;obtain⟨O,rfl⟩:=hv.o2 12 18 ai;have o:=(((((((o.cI 1 hD).eQ 1<|ai.2.1 rfl).cI 2<|nh ab hD 22).cI 2 hD).cI 4<|nh ab hD 22).cI 5<|nh ab hD 22).cI 5 hD).Dg (j:=5) (jj:=aa) qf (default:bB) rfl a4;have o:=o.freeze 2;refine UG 0 2 o Q0 cd λbl w o=>?_;have o:=((((o.pl 19 [1,2,0,4,5,6,7,8,9,10,11,12,13,14,15,16,17,18] rfl).dL 1 true rfl (bif D 18 then own 60 aj ([(⟨ao.Part,ao.fz⟩:fz)]:List fz)else bK)).dL 2 true rfl bK).fO 2 (D 22) (nh ab hD 22) bK).fO 4 (D 22) (nh ab hD 22)<|own 76 ar<|us352.set (Int.toNat aa) {(us352.getD (Int.toNat aa) (default:bB))with fw:=rv bl};have o:=(o.dL 5 true rfl<|jk bF us352 ak.1 none).fO 5 (D 22) (nh ab hD 22)<|jk bF (us352.set (Int.toNat aa) {(us352.getD (Int.toNat aa) (default:bB))with fw:=rv bl}) (ak.1.set (Int.toNat aa) {a0 with fw:=ay}) none;exact T5 (al,aj,bl) 19 hv ha o;rintro D U w hD ai ab⟨⟨al,aj,ae⟩,hv,ha,_,o⟩;obtain⟨O,rfl⟩:=hv.o2 3 4 ai;have o:=o.cI 4<|nf<|λh=>ft hD<|(ab 21 _ rfl<|(ab 22 _ rfl h).1 rfl).1 rfl;have o:=o.cI 5<|nf<|λh=>ft hD<|(ab 21 _ rfl<|(ab 22 _ rfl h).1 rfl).1 rfl;have o:=o.eQ 5<|ai.2.2.2.2.2.2.2.2.2.2.2.2.2.2.2.2.2.2.2.2.2.1 rfl;have hl421:=o.eZ 5;have hr422:=gC (default:bB) hl421 bf;refine Ug 4 o zr zr xo hr422 ?_;have o:=o.fO 4 (D 22) (nf<|λh=>ft hD<|(ab 21 _ rfl<|(ab 22 _ rfl h).1 rfl).1 rfl)<|own 76 ar<|us352.set (Int.toNat aa) {(us352.getD (Int.toNat aa) (default:bB))with fw:=rv ae};have o:=(o.dL 5 (D 19) (ai.2.2.2.2.2.2.2.2.2.2.2.2.2.2.2.2.2.2.2.2.2.1 rfl)<|jk bF us352 ak.1 none).fO 5 (D 22) (nf<|λh=>ft hD<|(ab 21 _ rfl<|(ab 22 _ rfl h).1 rfl).1 rfl)<|jk bF (us352.set (Int.toNat aa) {(us352.getD (Int.toNat aa) (default:bB))with fw:=rv ae}) (ak.1.set (Int.toNat aa) {a0 with fw:=ay}) none;exact T5 (al,aj,ae) 20 hv ha o;rintro D U w hD ai ab⟨⟨al,aj,ae⟩,hv,ha,_,o⟩;obtain⟨O,rfl⟩:=hv.o1 20 ai;have o:=((o.cI 4<|nh ab hD 22).cI 5<|nh ab hD 22).eQ 5<|ai.2.2.2.2.2.2.2.2.2.2.2.2.2.2.2.2.2.2.2.2.1 rfl;have hl423:=o.eZ 5;have hr424:=gC (default:bB) hl423 bf;refine U6 (α:=bB) zt (rI 4 o hr424 0) zM ?_;have o:=(o.fO 4 (D 22) (nh ab hD 22)<|own 76 ar<|us352.set (Int.toNat aa) {(us352.getD (Int.toNat aa) (default:bB))with fw:=rv ae}).dL 5 (D 19) (ai.2.2.2.2.2.2.2.2.2.2.2.2.2.2.2.2.2.2.2.2.1 rfl)<|jk bF us352 ak.1 none;have o:=o.fO 5 (D 22) (nh ab hD 22)<|jk bF (us352.set (Int.toNat aa) {(us352.getD (Int.toNat aa) (default:bB))with fw:=rv ae}) (ak.1.set (Int.toNat aa) {a0 with fw:=ay}) none;exact T5 (al,aj,ae) 21 hv ha o;rintro D U w hD ai ab⟨⟨al,aj,ae⟩,hv,ha,_,o⟩;obtain⟨O,rfl⟩:=hv.o2 21 19 ai;have o:=((((o.cI 2 hD).eQ 2<|ai.2.1 rfl).cI 4 hD).cI 5 hD).eQ 5<|ai.2.1 rfl;have hl425:=o.eZ 5;have hr426:=gC (default:bB) hl425 bf;refine VN 4 5 2 aa qf (default:bB) o zr zr (rI 4 o hr426 2) zr zr zr bf Jo λw o=>?_;have o:=((o.dL 2 true rfl (bif D 19 then own 60 ae ay else bK)).dL 4 true rfl<|own 76 ar us352).dL 5 true rfl (bif D 19 then jk bF us352 ak.1 (some<|Int.toNat aa)else jk bF us352 ak.1 none);exact Vj (al,aj,ae) hv ha o;rintro D U w a5⟨⟨al,aj,ae⟩,hv,ha,_,o⟩;simp only[List.getD_cons_zero,List.getD_cons_succ,a5 17 (by decide),a5 19 (by decide),a5 22 (by decide),a5 22 (by decide),a5 22 (by decide),aO]at o;obtain⟨O,rfl⟩:=ha.uA;exact oi hj▸⟨rfl,us352.set (Int.toNat aa) {(us352.getD (Int.toNat aa) (default:bB))with fw:=rv ae},o.sp 18 [3,11,12,13,14,4,5,17]⟩;exact Ul<|oi hj▸⟨rfl,us352,o.sp 15 [0,8,9,10,11,1,2,14]⟩;rintro _ w⟨us393,O,rfl,o⟩;refine bG<|aC<|IS<|aU ak.2<|TY ak.2 1<|aL (wrap .i64<|ak.2+1)<|By ?_;exact oi hb▸⟨rfl,us393,o.sp 8 [0,1,2,3,4,5,6,7]⟩;exact Ui<|oi hb▸⟨rfl,us352,o.sp 8 [0,1,2,3,4,5,6,7]⟩;rintro ak _ w hb⟨us351,O,rfl,o⟩;obtain rfl:=oi hb;have o:=o.C0 (X:=bF) (b:=6) (j:=5) rfl (λM h u x cs=>AG M h u x cs) rfl rfl (by decide);exact Ck<|I3 ⟨ar,zr,o.pk 8 [0,5]⟩
def vL(E:World)(V:List HP)(res:(List (List aH)×List aH×List bU×List dE×List Int×List (List aH)×List bW×List (List Int)))(v:Value)(w:World):Prop:=∃(ub0:Nat)(C_ J_:Value)(K_ O_:Value)(G_ H_:Value)(E_ I_:Value),v=vp ub0 0/\Holds E w ([bc 125 ub0 [C_,J_,K_,O_,G_,H_,E_,I_],rd C_ res.1,rd J_ res.2.1,rd K_ res.2.2.1,rd O_ res.2.2.2.1,rd G_ res.2.2.2.2.1,rd H_ res.2.2.2.2.2.1,own 76 E_ res.2.2.2.2.2.2.1,rd I_ res.2.2.2.2.2.2.2]++V)
theorem u6{p0:jO}{res:(List (List aH)×List aH×List bU×List dE×List Int×List (List aH)×List bW×List (List Int))}(j:Holds E w V)(h0:V[i0]? =some (rd v0 p0))(hb:jL N p0=some res):
    c_ 30 [v0] w<|vL E V res:=by
 unfold jL at hb
 refine enter Tryz.func30 zr zr ?_
 have j:=j.dup (i0+0) h0
 refine w_<|Ur 0 v0 j zr λa2 w j=>?_
 refine dC (.pointer none)<|TT<|Ut 0 j zr sS λck j=>?_
 obtain⟨cs,hcs,hv37,j⟩:=j.J7 (i:=0) rfl rfl
 obtain⟨ax,ay,a0,a1,rfl⟩:=Qa hcs
 have j:=(((j.kR (i:=0) (k:=0) (f:=λx=>x.aK) rfl jN rfl rfl rfl).kR (i:=1) (k:=1) (f:=λx=>x.cU) rfl vt rfl rfl rfl).kR (i:=2) (k:=2) (f:=λx=>x.aM) rfl iA rfl rfl rfl).kR (i:=3) (k:=3) (f:=λx=>x.bV) rfl pj rfl rfl rfl
 refine Wo (zs:=[n_,n_,n_,n_,n_,n_,n_,n_]) (cs:=[ax,ay,a0,a1,n_,n_,n_,n_]) zt zr [(0,ck)] [(0,[ax,ay,a0,a1])] zr Rn ⟨rfl,congrArg Value.cells hv37,zt⟩ zr<|VZ [ax,ay,a0,a1,n_,n_,n_,n_] zr j zr (Ao.all (⟨pJ 3 j,pJ 2 j,pJ 1 j,pJ 0 j,zr,zr,zr,zr,zt⟩:Ao [ax,ay,a0,a1,n_,n_,n_,n_])) λah w j=>?_
 refine dC (vp ah 0)<|TV<|w_<|aL 0<|AI<|VE E V (λ(ai:List Int×List (List aH)×Int)(bw bz:Value)=>[bx 27 a2 p0,bc 125 ah [ax,ay,a0,a1,bw,bz,n_,n_],own 3 bw ai.1,own 23 bz ai.2.1,rd ax p0.aK,rd ay p0.cU,rd a0 p0.aM,rd a1 p0.bV]) (λ_ _ _=>[(1,vp a2 0),(3,vp ah 0)]) (λai _ _=>[(4,vi ai.2.2)]) hb ?_ ?_ ?_
 ·have j:=(j.cM Int 3).cM (List aH) 23
  exact⟨n_,n_,j.sp 11 [9,2,1,0,6,5,4,3]⟩
 ·rintro ai fl _ w⟨b0,b2,O,rfl,j⟩hb
  refine IN<|w_<|aU ai.2.2<|AT zr nY<|UA 0 j zr jN o5 λdi j=>T0 0 p0.aK j qE<|ic ai.2.2 ((p0.aK.length:Int))<|AI<|dG hb (λhb=>?_) λhb=>?_
  rotate_left
  ·refine Ui ?_
   obtain rfl:=oi hb
   exact⟨rfl,b0,b2,j.sp 9 [1,2,3,4,5,6,7,8]⟩
  refine Ue<|Uj<|Ut 1 j zr sS λdj j=>aU ai.2.2 ?_
  obtain⟨dk,cm,hb⟩:=bd hb
  refine Ua Rk (n9 N (p1:=ai.2.2) (i0:=0) j zr cm) λdm w j=>?_
  have j:=j.freeze 0
  obtain⟨bn,cn,hb⟩:=bd hb
  refine Ua Rl (oU N (i0:=0) j zr cn) λbf w j=>dC bf<|TT<|aL 0<|AI<|VE E V (λ(a9:List Int×List (List aH)×Int)(b3 b4:Value)=>[bx 27 a2 p0,bc 125 ah [ax,ay,a0,a1,b3,b4,n_,n_],own 3 b3 a9.1,own 23 b4 a9.2.1,rd ax p0.aK,rd ay p0.cU,rd a0 p0.aM,rd a1 p0.bV,own 23 bf bn]) (λ_ _ _=>[(1,vp a2 0),(3,vp ah 0),(4,vi ai.2.2)]) (λa9 _ _=>[(5,bf),(6,vi a9.2.2)]) hb ?_ ?_ ?_
  ·exact⟨b0,b2,j.sp 12 [4,5,6,7,8,9,10,11,0]⟩
  ·rintro a9 fl _ w⟨b5,bg,O,rfl,j⟩hb
   refine IN<|w_<|aU a9.2.2<|mv bf<|UQ (i:=8) (l:=bn) zt zr j zr zr qE<|ic a9.2.2 ((bn.length:Int))<|AI<|dG hb (λhb=>?_) λhb=>?_
   rotate_left
   ·refine Ui ?_
    obtain rfl:=oi hb
    exact⟨rfl,b5,bg,j.sp 9 [0,1,2,3,4,5,6,7,8]⟩
   refine Ue<|Uj<|mv (vp ah 0)<|mv (vp ah 0)<|Ud zt zr zr<|AT zr wA<|T1 1 b5 j fE<|aU ai.2.2 ?_
   have j:=j.sc Int ai.2.2
   refine Uy ([ai.2.2]:List Int) j [vi ai.2.2] dN EP (λM hs g=>⟨(g.sat 0 _ zr).1,zt⟩) λdn w j=>?_
   have j:=j.freeze 0
   obtain⟨dp,cp,hb⟩:=bd hb
   refine UG 4 0 j rl cp λbo w j=>?_
   refine Ud zt zr zr<|AT zr wA<|U1 3 bo j zr zr (iq 4 j) fE λw j=>?_
   refine AI ?_
   have j:=j.drew
   refine Vo (λw=>Holds E w<|[bc 125 ah [ax,ay,a0,a1,bo,bg,n_,n_]]++V) mixed [1,1,1,1,1,0,0,0,0,2,2,0,0,2] [0,1,2,3,4,5,6,7,8,9,10,11,12,13] (j.pk 11 [3])<|Uf (vp ah 0) zr (λw=>TW (vp ah 0) zt Uc)<|Uf (vp ah 0) zr (λw=>TW (vp ah 0) zt Uc)<|Uf (vp ah 0) zr (λw=>Ud zt zr zr Uc)<|Uf (vp ah 5) zr (λw=>AT zr mb Uc)<|Ve bg zr (λw j=>T1 0 bg j o5 Uc)<|T4 zr zr<|mv bf<|aQ zr ?_
   refine aU a9.2.2<|aQ zr ?_
   obtain⟨cq,b6,hb⟩:=bd hb
   refine Ug 10 j zr zr vu b6<|aQ zr<|Vc 10 j b6 uk λcr j=>?_
   refine oT zr<|Uy ([cq]:List (List aH)) j [cr] vu NA (λM hs g=>⟨(g.sat 0 _ zr).1,zt⟩) λdq w j=>Us (j.pk 13 [5])<|UD zr zr ?_
   have j:=j.freeze 0
   obtain⟨dr,ct,hb⟩:=bd hb
   refine UG 7 0 j L6 ct λb7 w j=>?_
   refine Us (j.pk 13 [5])<|T4 zr zr<|Ud zt zr zr<|aQ zr<|AT zr mb<|T8<|VP zr zr<|U1 5 b7 j zr zr (iq 7 j) o5 λw j=>?_
   refine Us zt<|Um<|bG<|aC<|IS<|aU a9.2.2<|TY a9.2.2 1<|aL (wrap .i64<|a9.2.2+1)<|By ?_
   obtain rfl:=oi hb
   exact⟨rfl,bo,b7,j.sp 13 [4,5,6,7,8,9,10,11,12]⟩
  rintro a9 _ w hb⟨cu,cv,O,rfl,j⟩
  refine bG<|aC<|IS<|aU ai.2.2<|TY ai.2.2 1<|aL (wrap .i64<|ai.2.2+1)<|By ?_
  obtain rfl:=oi hb
  exact⟨rfl,cu,cv,j.sp 9 [0,1,2,3,4,5,6,7]⟩
 rintro ai _ w hb⟨a3,a5,O,rfl,j⟩
 refine aC<|IN<|w_<|aL 0<|AI<|UY E V (λ(aw:List (List Int)×Int)(b8:Value)=>[bx 27 a2 p0,bc 125 ah [ax,ay,a0,a1,a3,a5,n_,b8],own 47 b8 aw.1,rd ax p0.aK,rd ay p0.cU,rd a0 p0.aM,rd a1 p0.bV,own 3 a3 ai.1,own 23 a5 ai.2.1]) (λ_ _=>[(3,vp ah 0)]) (λaw _=>[(1,vp a2 0),(7,vi aw.2)]) hb ?_ ?_ ?_
 ·have j:=j.cM (List Int) 47
  exact⟨n_,j.sp 9 [1,2,0,5,6,7,8,3,4]⟩
 ·rintro aw fl _ w⟨a7,O,rfl,j⟩hb
  refine IN<|w_<|aU aw.2<|AT zr gz<|UA 0 j zr iA mT λds j=>T0 0 p0.aM j vv<|ic aw.2 ((p0.aM.length:Int))<|AI<|dG hb (λhb=>?_) λhb=>?_
  rotate_left
  ·refine Ui ?_
   obtain rfl:=oi hb
   exact⟨rfl,a7,j.sp 10 [1,2,3,4,5,6,7,8,9]⟩
  refine Ue<|Uj<|dC n_<|TV<|w_<|aL 0<|AI<|UY E V (λ(au:List Int×Int)(bp:Value)=>[bx 27 a2 p0,bc 125 ah [ax,ay,a0,a1,a3,a5,n_,a7],rd ax p0.aK,rd ay p0.cU,rd a0 p0.aM,rd a1 p0.bV,own 3 a3 ai.1,own 23 a5 ai.2.1,own 47 a7 aw.1,own 3 bp au.1]) (λ_ bp=>[(1,vp a2 0),(3,vp ah 0),(7,vi aw.2),(8,bp)]) (λau _=>[(9,vi au.2)]) hb ?_ ?_ ?_
  ·have j:=j.cM Int 3
   exact⟨n_,j.sp 11 [2,3,5,6,7,8,9,10,4,0]⟩
  ·rintro au fl _ w⟨ba,O,rfl,j⟩hb
   refine IN<|IN ?_
   obtain⟨bq,hj,hb⟩:=bd hb
   refine T7 (λ(bq:Bool)=>SH E V [(1,vp a2 0),(3,vp ah 0),(7,vi aw.2),(8,ba),(9,vi au.2),(74,vb bq)] [bx 27 a2 p0,bc 125 ah [ax,ay,a0,a1,a3,a5,n_,a7],rd ax p0.aK,rd ay p0.cU,rd a0 p0.aM,rd a1 p0.bV,own 3 a3 ai.1,own 23 a5 ai.2.1,own 47 a7 aw.1,own 3 ba au.1]) bq ?_ ?_
   ·refine IS<|aU au.2<|mv (vp ah 0)<|Ud zt zr zr<|AT zr mb<|T1 1 a5 j o5<|UQ (i:=7) (l:=ai.2.1) zt zr j zr zr qE<|ic au.2 ((ai.2.1.length:Int))<|fC (decide<|au.2<(ai.2.1.length:Int)) ?_
    refine eG hj (λa6 hj=>?_) λa6 hj=>?_
    rotate_left
    ·refine aZ a6<|aZ a6<|aZ a6<|aZ a6<|aZ a6<|aZ a6<|eD a6 (vb false)<|By ?_
     obtain rfl:=oi hj
     exact⟨rfl,j.sp 10 [0,1,2,3,4,5,6,7,8,9]⟩
    refine AT (hg:=cg a6) zr gz<|UA (hg:=cg a6) 0 j zr iA mT λdt j=>TW (vi aw.2) (cg a6) ?_
    obtain⟨b9,cw,hj⟩:=bd hj
    refine TU (hg:=cg a6) 0 j sm cw λdu j=>Uk (hg:=cg a6) 0 j zr xR pY λdv j=>Ub (hg:=cg a6) b9.fD 0 j sU<|eD a6 (vb b9.fD)<|By ?_
    obtain rfl:=oi hj
    exact⟨rfl,j.sp 13 [3,4,5,6,7,8,9,10,11,12]⟩
   rintro _ w⟨O,rfl,j⟩
   refine aC<|dG hb (λhb=>?_) λhb=>?_
   rotate_left
   ·refine Ui ?_
    obtain rfl:=oi hb
    exact⟨rfl,ba,j.sp 10 [0,1,2,3,4,5,6,7,8,9]⟩
   refine Ue<|UI<|IN ?_
   obtain⟨br,hj,hb⟩:=bd hb
   refine T7 (λ(br:Bool)=>SH E V [(1,vp a2 0),(3,vp ah 0),(7,vi aw.2),(8,ba),(9,vi au.2),(105,vb br)] [bx 27 a2 p0,bc 125 ah [ax,ay,a0,a1,a3,a5,n_,a7],rd ax p0.aK,rd ay p0.cU,rd a0 p0.aM,rd a1 p0.bV,own 3 a3 ai.1,own 23 a5 ai.2.1,own 47 a7 aw.1,own 3 ba au.1]) br ?_ ?_
   ·obtain⟨bb,ca,hj⟩:=bd hj
    obtain⟨bh,bj,hj⟩:=bd hj
    obtain⟨bk,cb,hj⟩:=bd hj
    refine eG hj (λav hj=>?_) λav hj=>?_
    rotate_left
    ·refine Vd E V mixed [1,0,1,0,0,1,1,1,0,1,0,0,0,1,1,1,1,1,1,1,1,1,1,1,1,1,1,1,1] [1,3,4] (λ(x:Value×Value×Value)=>(λad ae af=>[(0,77,vp a2 2),(1,78,ad),(2,79,vi aw.2),(3,80,ae),(4,81,af),(5,82,vp ah 0),(6,83,vp ah 0),(7,84,vp ah 4),(8,85,a3),(9,86,vi au.2),(10,87,Bo a3 (Int.toNat au.2) 1 0),(11,88,vi bh),(12,89,vb bk),(13,90,vb bk),(14,91,undef),(15,92,undef),(16,93,undef),(17,94,undef),(18,95,undef),(19,96,undef),(20,97,undef),(21,98,undef),(22,99,undef),(23,100,undef),(24,101,undef),(25,102,undef),(26,103,undef),(27,104,undef),(28,105,vb false)]) x.1 x.2.1 x.2.2) [(1,vp a2 0),(3,vp ah 0),(7,vi aw.2),(8,ba),(9,vi au.2)] [] (λ(D:Nat->Bool)(x:Value×Value×Value)=>(λad ae af=>[bif D 0 then rd ad p0.aM else bK,bif D 1 then pt ae bb else bK,bif D 2 then rd af bb else bK,bx 27 a2 p0,bc 125 ah [ax,ay,a0,a1,a3,a5,n_,a7],rd ax p0.aK,rd ay p0.cU,rd a0 p0.aM,rd a1 p0.bV,own 3 a3 ai.1,own 23 a5 ai.2.1,own 47 a7 aw.1,own 3 ba au.1]) x.1 x.2.1 x.2.2) (λx=>by kernel_rfl) ?_ ⟨λ_=>o4 gn gz,?_,λ_=>jT gn,?_,?_,λ_=>jT gn,λ_=>zG gn,λ_=>o4 gn wA,?_,λ_=>jT gn,?_,?_,?_,λ_=>jT gn,λ_=>vm av,λ_=>vm av,λ_=>vm av,λ_=>vm av,λ_=>vm av,λ_=>vm av,λ_=>vm av,λ_=>vm av,λ_=>vm av,λ_=>vm av,λ_=>vm av,λ_=>vm av,λ_=>vm av,λ_=>vm av,λ_=>Qk gn av rfl,trivial⟩ ?_
     ·have j:=(((j.drew).bK).bK).bK
      exact⟨(undef,undef,undef),eF.none,HN zr,zt,j⟩
     ·rintro D U w hD aa a4⟨⟨ad,ae,af⟩,o,ha,_,j⟩
      obtain⟨O,rfl⟩:=o.o1 0 aa
      have j:=j.cI 0 hD
      refine UA 3 j zr iA mT λcx j=>?_
      have j:=j.nw 0
      exact T5 (cx,ae,af) 1 o ha j
     ·rintro D U w hD aa a4⟨⟨ad,ae,af⟩,o,ha,_,j⟩
      obtain⟨O,rfl⟩:=o.o2 1 2 aa
      have j:=(j.eQ 0<|aa.1 rfl).cI 1 hD
      refine TU 0 j sm ca λcy j=>?_
      have j:=((j.pl 14 [1,0,3,4,5,6,7,8,9,10,11,12,13] rfl).dL 0 (D 1) (aa.1 rfl) bK).dL 1 true rfl bK
      exact T5 (ad,cy,af) 3 o ha j
     ·rintro D U w hD aa a4⟨⟨ad,ae,af⟩,o,ha,_,j⟩
      obtain⟨O,rfl⟩:=o.o1 3 aa
      have j:=(j.eQ 1<|aa.1 rfl).cI 2 hD
      refine T9 1 bb j nk λcz j=>?_
      have j:=((j.pl 14 [1,2,0,4,5,6,7,8,9,10,11,12,13] rfl).dL 1 (D 3) (aa.1 rfl) bK).dL 2 true rfl bK
      exact T5 (ad,ae,cz) 4 o ha j
     ·rintro D U w hD aa a4⟨⟨ad,ae,af⟩,o,ha,_,j⟩
      obtain⟨O,rfl⟩:=o.o1 7 aa
      refine T1 4 a3 j fE ?_
      exact T5 (ad,ae,af) 8 o ha j
     ·rintro D U w hD aa a4⟨⟨ad,ae,af⟩,o,ha,_,j⟩
      obtain⟨O,rfl⟩:=o.o2 8 9 aa
      refine Ug 9 j zr zr dN bj ?_
      exact T5 (ad,ae,af) 10 o ha j
     ·rintro D U w hD aa a4⟨⟨ad,ae,af⟩,o,ha,_,j⟩
      obtain⟨O,rfl⟩:=o.o1 10 aa
      refine UT 9 j bj cA ?_
      exact T5 (ad,ae,af) 11 o ha j
     ·rintro D U w hD aa a4⟨⟨ad,ae,af⟩,o,ha,_,j⟩
      obtain⟨O,rfl⟩:=o.o2 4 11 aa
      have j:=j.eQ 2<|aa.1 rfl
      refine T3 NC (jZ N (p1:=bh) (i0:=2) j zr cb) λw j=>?_
      have j:=j.dL 2 (D 4) (aa.1 rfl) bK
      exact T5 (ad,ae,af) 12 o ha j
     rintro D U w a8⟨⟨ad,ae,af⟩,o,ha,_,j⟩
     have j:=((j.eQ 0<|ri a8 1).eQ 1<|ri a8 3).eQ 2<|ri a8 4
     obtain⟨O,rfl⟩:=(ac (o.at 28 rfl<|ri a8 28) ha).uA
     obtain rfl:=oi hj
     exact⟨rfl,j.sp 13 [3,4,5,6,7,8,9,10,11,12]⟩
    obtain⟨c0,cc,hj⟩:=bd hj
    obtain⟨bt,c1,hj⟩:=bd hj
    obtain⟨c2,c3,hj⟩:=bd hj
    obtain⟨cd,c4,hj⟩:=bd hj
    refine Vd E V mixed [1,0,1,0,0,1,1,1,0,1,0,0,0,1,1,1,1,0,1,0,0,1,0,1,0,0,0,0,1] [1,3,4,20,22,24,25,26] (λ(x:Value×Value×Value×Value×Value×Value×Value×Value)=>(λad ae af ak al an ao aq=>[(0,77,vp a2 2),(1,78,ad),(2,79,vi aw.2),(3,80,ae),(4,81,af),(5,82,vp ah 0),(6,83,vp ah 0),(7,84,vp ah 4),(8,85,a3),(9,86,vi au.2),(10,87,Bo a3 (Int.toNat au.2) 1 0),(11,88,vi bh),(12,89,vb bk),(13,90,vb bk),(14,91,vp ah 0),(15,92,vp ah 0),(16,93,vp ah 5),(17,94,a5),(18,95,vi au.2),(19,96,Bo a5 (Int.toNat au.2) 1 0),(20,97,ak),(21,98,vp a2 2),(22,99,al),(23,100,vi aw.2),(24,101,an),(25,102,ao),(26,103,aq),(27,104,vb cd),(28,105,vb cd)]) x.1 x.2.1 x.2.2.1 x.2.2.2.1 x.2.2.2.2.1 x.2.2.2.2.2.1 x.2.2.2.2.2.2.1 x.2.2.2.2.2.2.2) [(1,vp a2 0),(3,vp ah 0),(7,vi aw.2),(8,ba),(9,vi au.2)] [] (λ(D:Nat->Bool)(x:Value×Value×Value×Value×Value×Value×Value×Value)=>(λad ae af ak al an ao aq=>[bif D 0 then rd ad p0.aM else bK,bif D 1 then pt ae bb else bK,bif D 2 then rd af bb else bK,bif D 3 then rd ak c0 else bK,bif D 4 then rd al p0.aM else bK,bif D 5 then pt an bt else bK,bif D 6 then rd ao bt else bK,bif D 7 then rd aq c2 else bK,bx 27 a2 p0,bc 125 ah [ax,ay,a0,a1,a3,a5,n_,a7],rd ax p0.aK,rd ay p0.cU,rd a0 p0.aM,rd a1 p0.bV,own 3 a3 ai.1,own 23 a5 ai.2.1,own 47 a7 aw.1,own 3 ba au.1]) x.1 x.2.1 x.2.2.1 x.2.2.2.1 x.2.2.2.2.1 x.2.2.2.2.2.1 x.2.2.2.2.2.2.1 x.2.2.2.2.2.2.2) (λx=>by kernel_rfl) ?_ ⟨λ_=>o4 gn gz,?_,λ_=>jT gn,?_,?_,λ_=>jT gn,λ_=>zG gn,λ_=>o4 gn wA,?_,λ_=>jT gn,?_,?_,?_,λ_=>jT gn,λ_=>jT<|gy av,λ_=>zG<|gy av,λ_=>o4 (gy av) mb,?_,λ_=>jT<|gy av,?_,?_,λ_=>o4 (gy av) gz,?_,λ_=>jT<|gy av,?_,?_,?_,?_,λ_=>Qj gn av rfl,trivial⟩ ?_
    ·have j:=((((((((j.drew).bK).bK).bK).bK).bK).bK).bK).bK
     exact⟨(undef,undef,undef,undef,undef,undef,undef,undef),eF.none,HN zr,zt,j⟩
    ·rintro D U w hD aa a4⟨⟨ad,ae,af,ak,al,an,ao,aq⟩,o,ha,_,j⟩
     dsimp only at o j
     obtain⟨O,rfl⟩:=o.o1 0 aa
     have j:=j.cI 0 hD
     refine UA 8 j zr iA mT λc5 j=>?_
     have j:=j.nw 0
     exact T5 (c5,ae,af,ak,al,an,ao,aq) 1 o ha j
    ·rintro D U w hD aa a4⟨⟨ad,ae,af,ak,al,an,ao,aq⟩,o,ha,_,j⟩
     dsimp only at o j
     obtain⟨O,rfl⟩:=o.o2 1 2 aa
     have j:=(j.eQ 0<|aa.1 rfl).cI 1 hD
     refine TU 0 j sm ca λc6 j=>?_
     have j:=((j.pl 19 [1,0,3,4,5,6,7,8,9,10,11,12,13,14,15,16,17,18] rfl).dL 0 (D 1) (aa.1 rfl) bK).dL 1 true rfl bK
     exact T5 (ad,c6,af,ak,al,an,ao,aq) 3 o ha j
    ·rintro D U w hD aa a4⟨⟨ad,ae,af,ak,al,an,ao,aq⟩,o,ha,_,j⟩
     dsimp only at o j
     obtain⟨O,rfl⟩:=o.o1 3 aa
     have j:=(j.eQ 1<|aa.1 rfl).cI 2 hD
     refine T9 1 bb j nk λc7 j=>?_
     have j:=((j.pl 19 [1,2,0,4,5,6,7,8,9,10,11,12,13,14,15,16,17,18] rfl).dL 1 (D 3) (aa.1 rfl) bK).dL 2 true rfl bK
     exact T5 (ad,ae,c7,ak,al,an,ao,aq) 4 o ha j
    ·rintro D U w hD aa a4⟨⟨ad,ae,af,ak,al,an,ao,aq⟩,o,ha,_,j⟩
     dsimp only at o j
     obtain⟨O,rfl⟩:=o.o1 7 aa
     refine T1 9 a3 j fE ?_
     exact T5 (ad,ae,af,ak,al,an,ao,aq) 8 o ha j
    ·rintro D U w hD aa a4⟨⟨ad,ae,af,ak,al,an,ao,aq⟩,o,ha,_,j⟩
     dsimp only at o j
     obtain⟨O,rfl⟩:=o.o2 8 9 aa
     refine Ug 14 j zr zr dN bj ?_
     exact T5 (ad,ae,af,ak,al,an,ao,aq) 10 o ha j
    ·rintro D U w hD aa a4⟨⟨ad,ae,af,ak,al,an,ao,aq⟩,o,ha,_,j⟩
     dsimp only at o j
     obtain⟨O,rfl⟩:=o.o1 10 aa
     refine UT 14 j bj cA ?_
     exact T5 (ad,ae,af,ak,al,an,ao,aq) 11 o ha j
    ·rintro D U w hD aa a4⟨⟨ad,ae,af,ak,al,an,ao,aq⟩,o,ha,_,j⟩
     dsimp only at o j
     obtain⟨O,rfl⟩:=o.o2 4 11 aa
     have j:=j.eQ 2<|aa.1 rfl
     refine T3 NC (jZ N (p1:=bh) (i0:=2) j zr cb) λw j=>?_
     have j:=j.dL 2 (D 4) (aa.1 rfl) bK
     exact T5 (ad,ae,af,ak,al,an,ao,aq) 12 o ha j
    ·rintro D U w hD aa a4⟨⟨ad,ae,af,ak,al,an,ao,aq⟩,o,ha,_,j⟩
     dsimp only at o j
     obtain⟨O,rfl⟩:=o.o2 16 13 aa
     refine T1 (hg:=cg av) 9 a5 j o5 ?_
     exact T5 (ad,ae,af,ak,al,an,ao,aq) 17 o ha j
    ·rintro D U w hD aa a4⟨⟨ad,ae,af,ak,al,an,ao,aq⟩,o,ha,_,j⟩
     dsimp only at o j
     obtain⟨O,rfl⟩:=(ac (o.at 13 rfl<|aa.2.2.1 rfl)<|ac (o.at 17 rfl<|aa.1 rfl)<|ac (o.at 18 rfl<|aa.2.1 rfl) az).uA
     refine Ug (hg:=cg av) 15 j zr zr vu cc ?_
     exact T5 (ad,ae,af,ak,al,an,ao,aq) 19 o ha j
    ·rintro D U w hD aa a4⟨⟨ad,ae,af,ak,al,an,ao,aq⟩,o,ha,_,j⟩
     dsimp only at o j
     obtain⟨O,rfl⟩:=o.o2 19 13 aa
     have j:=j.cI 3 hD
     refine Vc (hg:=cg av) 15 j cc uk λc8 j=>?_
     have j:=j.nw 3
     exact T5 (ad,ae,af,c8,al,an,ao,aq) 20 o ha j
    ·rintro D U w hD aa a4⟨⟨ad,ae,af,ak,al,an,ao,aq⟩,o,ha,_,j⟩
     dsimp only at o j
     obtain⟨O,rfl⟩:=o.o2 21 13 aa
     have j:=j.cI 4 hD
     refine UA (hg:=cg av) 8 j zr iA mT λc9 j=>?_
     have j:=j.nw 4
     exact T5 (ad,ae,af,ak,c9,an,ao,aq) 22 o ha j
    ·rintro D U w hD aa a4⟨⟨ad,ae,af,ak,al,an,ao,aq⟩,o,ha,_,j⟩
     dsimp only at o j
     obtain⟨O,rfl⟩:=(ac (o.at 13 rfl<|aa.2.2.1 rfl)<|ac (o.at 22 rfl<|aa.1 rfl)<|ac (o.at 23 rfl<|aa.2.1 rfl) az).uA
     have j:=(j.eQ 4<|aa.1 rfl).cI 5 hD
     refine TU (hg:=cg av) 4 j sm c1 λda j=>?_
     have j:=((j.pl 19 [1,2,3,4,5,0,7,8,9,10,11,12,13,14,15,16,17,18] rfl).dL 4 (D 22) (aa.1 rfl) bK).dL 5 true rfl bK
     exact T5 (ad,ae,af,ak,al,da,ao,aq) 24 o ha j
    ·rintro D U w hD aa a4⟨⟨ad,ae,af,ak,al,an,ao,aq⟩,o,ha,_,j⟩
     dsimp only at o j
     obtain⟨O,rfl⟩:=o.o2 24 13 aa
     have j:=(j.eQ 5<|aa.1 rfl).cI 6 hD
     refine T9 (hg:=cg av) 5 bt j nk λdb j=>?_
     have j:=((j.pl 19 [1,2,3,4,5,6,0,8,9,10,11,12,13,14,15,16,17,18] rfl).dL 5 (D 24) (aa.1 rfl) bK).dL 6 true rfl bK
     exact T5 (ad,ae,af,ak,al,an,db,aq) 25 o ha j
    ·rintro D U w hD aa a4⟨⟨ad,ae,af,ak,al,an,ao,aq⟩,o,ha,_,j⟩
     dsimp only at o j
     obtain⟨O,rfl⟩:=o.o2 25 13 aa
     have j:=(j.eQ 6<|aa.1 rfl).cI 7 hD
     refine Ua (hg:=cg av) K1 (gm N (i0:=6) j zr c3) λdc w j=>?_
     have j:=((j.pl 19 [1,2,3,4,5,6,7,0,9,10,11,12,13,14,15,16,17,18] rfl).dL 6 (D 25) (aa.1 rfl) bK).dL 7 true rfl bK
     exact T5 (ad,ae,af,ak,al,an,ao,dc) 26 o ha j
    ·rintro D U w hD aa a4⟨⟨ad,ae,af,ak,al,an,ao,aq⟩,o,ha,_,j⟩
     dsimp only at o j
     obtain⟨O,rfl⟩:=(ac (o.at 13 rfl<|aa.2.2.2.1 rfl)<|ac (o.at 20 rfl<|aa.1 rfl)<|ac (o.at 26 rfl<|aa.2.1 rfl) az).uA
     have j:=(j.eQ 3<|aa.1 rfl).eQ 7<|aa.2.1 rfl
     refine T3 (hg:=cg av) (gF Tryz.func72) (xy N (i0:=3) (i1:=7) j zr zr c4) λw j=>?_
     have j:=(j.dL 3 (D 20) (aa.1 rfl) bK).dL 7 (D 26) (aa.2.1 rfl) bK
     exact T5 (ad,ae,af,ak,al,an,ao,aq) 27 o ha j
    rintro D U w a8⟨⟨ad,ae,af,ak,al,an,ao,aq⟩,o,ha,_,j⟩
    simp only[List.getD_cons_zero,List.getD_cons_succ,a8 1 (by decide),a8 3 (by decide),a8 4 (by decide),a8 20 (by decide),a8 22 (by decide),a8 24 (by decide),a8 25 (by decide),a8 26 (by decide),aO]at j
    obtain⟨O,rfl⟩:=(ac (o.at 28 rfl<|ri a8 28) ha).uA
    obtain rfl:=oi hj
    exact⟨rfl,j.sp 18 [8,9,10,11,12,13,14,15,16,17]⟩
   rintro _ w⟨O,rfl,j⟩
   refine aC ?_
   obtain⟨bu,hj,hb⟩:=bd hb
   refine T7 (λ(bu:List Int)U w=>∃bl:Value,SH E V [(1,vp a2 0),(3,vp ah 0),(7,vi aw.2),(8,bl),(9,vi au.2)] [bx 27 a2 p0,bc 125 ah [ax,ay,a0,a1,a3,a5,n_,a7],rd ax p0.aK,rd ay p0.cU,rd a0 p0.aM,rd a1 p0.bV,own 3 a3 ai.1,own 23 a5 ai.2.1,own 47 a7 aw.1,own 3 bl bu] U w) bu ?_ ?_
   ·refine dG hj (λhj=>?_) λhj=>?_
    rotate_left
    ·refine Ul ?_
     obtain rfl:=oi hj
     exact⟨rfl,ba,j.sp 10 [0,1,2,3,4,5,6,7,8,9]⟩
    refine IS<|mv ba<|aU au.2 ?_
    have j:=j.sc Int au.2
    refine Uy ([au.2]:List Int) j [vi au.2] dN EP (λM hs g=>⟨(g.sat 0 _ zr).1,zt⟩) λdw w j=>?_
    have j:=j.freeze 0
    obtain⟨dx,dd,hj⟩:=bd hj
    refine UG 11 0 j rl dd λcf w j=>?_
    refine dC cf<|By ?_
    obtain rfl:=oi hj
    exact⟨rfl,cf,j.sp 12 [2,3,4,5,6,7,8,9,10,11]⟩
   rintro _ w⟨bl,O,rfl,j⟩
   refine bG<|aC<|IS<|aU au.2<|TY au.2 1<|aL (wrap .i64<|au.2+1)<|By ?_
   obtain rfl:=oi hb
   exact⟨rfl,bl,j.sp 10 [0,1,2,3,4,5,6,7,8,9]⟩
  rintro au _ w hb⟨ch,O,rfl,j⟩
  refine aC<|IS<|mv (vp ah 0)<|mv (vp ah 0)<|Ud zt zr zr<|AT zr rE<|T1 1 a7 j AK<|mv ch ?_
  have j:=j.freeze 9
  refine Uy ([au.1]:List (List Int)) j [ch] BG Pj (λM hs g=>⟨(g.sat 9 _ zr).1,zt⟩) λdy w j=>?_
  have j:=j.freeze 0
  obtain⟨dz,de,hb⟩:=bd hb
  refine UG 9 0 j Pk de λcj w j=>?_
  refine Ud zt zr zr<|AT zr rE<|U1 2 cj j zr zr (iq 9 j) AK λw j=>?_
  refine By<|bG<|aC<|IS<|aU aw.2<|TY aw.2 1<|aL (wrap .i64<|aw.2+1)<|By ?_
  obtain rfl:=oi hb
  exact⟨rfl,cj,j.sp 11 [1,2,9,3,4,5,6,7,8]⟩
 rintro aw _ w hb⟨df,O,rfl,j⟩
 refine aC<|w_<|mv (vp ah 0) ?_
 have j:=((((((((j.freeze 7).freeze 8).freeze 2).dup 2 rfl).dup 9 rfl).dup 9 rfl).dup 9 rfl).dup 9 rfl).pull 6
 obtain⟨d3,dg,hb⟩:=bd hb
 refine Ua (gF Tryz.func73) (pP N j dg) ?_
 rintro _ w⟨dh,rfl,j⟩
 refine TT<|mv (vp ah 0)<|dC (vp ah 0)<|AI<|T2 ?_
 obtain rfl:=oi hb
 exact bX ⟨ah,ax,ay,a0,a1,a3,a5,dh,df,zr,j.pk 11 [0,5,6,7,8,9,10,1,4]⟩
theorem ux{j_:List (List aH)}{r_:List bW}{res:List Int}(j:Holds E w (bc 125 b0 [g_,i_,a_,d_,f_,b_,e_,h_]::rd b_ j_::rd e_ r_::V))(o:jw N j_ r_=some res):c_ 74 [vp b0 0] w<|pw E V b0 g_ i_ a_ d_ f_ b_ e_ h_ res:=by
 unfold jw at o;refine enter Tryz.func74 zr zr<|w_<|dC n_<|TT<|mv (vp b0 0)<|Ud zt zr zr<|AT zr mb<|T1 0 b_ j o5<|T0 1 j_ j qE<|q_ o λao ag o=>Vm (j_.length:Int) j rl Od ag λad w j=>?_;refine dC ad<|TV<|w_<|aL 0<|AI<|U3 E V (λ(aa:List Int×Int)=>[bc 125 b0 [g_,i_,a_,d_,f_,b_,e_,h_],rd b_ j_,rd e_ r_,own 3 ad aa.1]) (λ_=>[(0,vp b0 0),(3,ad)]) (λaa=>[(4,vi aa.2)]) o ?_ ?_ ?_;exact j.sp 4 [1,2,3,0];rintro aa fl _ w⟨O,rfl,j⟩o;refine IN<|w_<|aU aa.2<|mv (vp b0 0)<|Ud zt zr zr<|AT zr kK<|T1 0 e_ j rQ<|T0 2 r_ j L7<|ic aa.2 ((r_.length:Int))<|AI<|dG o (λo=>?_) λo=>?_;refine Ue<|Uj<|aL 0<|AI<|U3 E V (λ(ab:List Int×Int)=>[bc 125 b0 [g_,i_,a_,d_,f_,b_,e_,h_],rd b_ j_,rd e_ r_,own 3 ad ab.1]) (λ_=>[(0,vp b0 0),(3,ad),(4,vi aa.2)]) (λab=>[(5,vi ab.2)]) o ?_ ?_ ?_;exact j.sp 4 [0,1,2,3];rintro ab fl _ w⟨O,rfl,j⟩o;refine IN<|w_<|aU ab.2<|mv (vp b0 0)<|Ud zt zr zr<|AT zr kK<|T1 0 e_ j rQ<|aU aa.2<|q_ o λae ai o=>TU 2 j xo ai λaq j=>Uk 0 j zr tG wx λar j=>T9 0 ae.fF j fE λau j=>T0 0 ae.fF j lz<|ic ab.2 ((ae.fF.length:Int))<|AI<|dG o (λo=>?_) λo=>?_;refine Ue<|UI<|IS<|mv ad<|mv (vp b0 0)<|Ud zt zr zr<|AT zr kK<|T1 3 e_ j rQ<|aU aa.2<|q_ o λaj ak o=>TU 5 j xo ak λav j=>Uk 0 j zr tG wx λaw j=>T9 0 aj.fF j fE λax j=>aU ab.2 ?_;refine q_ o λal an o=>TU 0 j dN an λay j=>Ub al 0 j cA<|aU aa.2<|q_ o λaz af o=>Ug 10 j zr zr dN af ?_;have j:=j.sc Int aa.2;refine U0 11 0 j af cA λw j=>?_;refine By<|bG<|aC<|IS<|aU ab.2<|TY ab.2 1<|aL (wrap .i64<|ab.2+1)<|By ?_;exact oi o▸⟨rfl,j.sp 12 [8,9,10,11]⟩;exact Ui<|oi o▸⟨rfl,j.sp 7 [3,4,5,6]⟩;rintro ab _ w o⟨O,rfl,j⟩;refine bG<|aC<|IS<|aU aa.2<|TY aa.2 1<|aL (wrap .i64<|aa.2+1)<|By ?_;exact oi o▸⟨rfl,j.sp 4 [0,1,2,3]⟩;exact Ui<|oi o▸⟨rfl,j.sp 4 [0,1,2,3]⟩;rintro aa _ w o⟨O,rfl,j⟩;refine aC<|w_<|mv ad<|dC ad<|AI<|T2 ?_;obtain rfl:=oi o;exact bX<|j.pk 4 [3,0]
end Go.Gk
