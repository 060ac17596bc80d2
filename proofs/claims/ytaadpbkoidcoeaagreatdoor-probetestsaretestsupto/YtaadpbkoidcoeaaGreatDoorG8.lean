/-
  Printed texts: Go functions as plain functions, and that they are. No statement of the seed is proved here.
-/
import Derived.Test.YtaadpbkoidcoeaaGreatDoorG1
import Derived.Test.YtaadpbkoidcoeaaGreatDoorG4
import Derived.Test.YtaadpbkoidcoeaaGreatDoorG5
import Derived.Test.YtaadpbkoidcoeaaGreatDoorG6
import Derived.Test.YtaadpbkoidcoeaaGreatDoorG7
import Derived.Test.YtaadpbkoidcoeaaGreatDoorA2
set_option linter.unusedVariables false
set_option linter.unusedSimpArgs false
set_option linter.unusedSectionVars false
set_option maxRecDepth 100000
set_option maxHeartbeats 40000000
namespace Go.Gk
open Go IntKind Go.Proofs
variable (N:Nat){E w:aW}{b0 b1 b1h b2 b3 b3h i0 i1 i2:Nat}{p0 p1 p2 p3 res:Int}{v0 e_ i_ j_ g_ a_ d_ k_ b_ f_ p_ o_ l_ v1 u_ D_ E_ F_ G_ H_ I_ r_ J_ t_ s_ K_ a7_ a8_ a9_ b0_ b1_ b2_ b3_ W_ b4_ b5_ b6_ b7_ v2 R_ a5_:aV}{V:aL HP}
def vZ(E:aW)(V:aL HP)(b1:Nat)(u_ D_:aV)(G_ H_:aV)(I_ r_:aV)(J_ t_:aV)(L_:aL bM)(s_ K_:aV)(E_ F_:aV)(res:aL Test)(v:aV)(w:aW):Prop:=Holds E w<|[own 43 v res,bc 94 b1 [u_,D_,G_,H_,I_,r_,J_,t_,s_,K_,E_,F_],own 104 t_ L_]++V
theorem uV{p0:cB}{y_:aL aI}{L_:aL bM}{M_:aL Int}{res:aL Test}(j:Holds E w (bc 94 b1 [u_,D_,G_,H_,I_,r_,J_,t_,s_,K_,E_,F_]::rd r_ y_::own 104 t_ L_::rd s_ M_::V))(h0:fC V i0 v0 p0)(o:lC N p0 y_ L_ M_ p2=some res):c_ 13 [v0,vp b1 0,vi p2] w<|vZ E V b1 u_ D_ G_ H_ I_ r_ J_ t_ L_ s_ K_ E_ F_ res:=by
 unfold lC at o;refine enter Tryz.func13 zr zr ?_;have j:=j.dup (i0+4) h0;refine w_<|V7 0 v0 j zr λc3 w j=>?_;refine dN n_<|IN<|V1 0 j zr ye λc4 j=>?_;refine q_ o λbo b5 o=>V2 Sp (uD N (i0:=0) j zr b5) λak w j=>dN ak<|IN<|Xh (κ:=bA) (ν:=Bool) j λao w j=>dN ao<|IT<|w_<|mv (vp b1 0)<|Wg zt zr zr<|AT zr ng<|VY 5 r_ j xl<|VP 6 y_ j DC<|aO 0<|AS<|WU E V (λ(ba:aL (bA×Bool))=>[bc 94 b1 [u_,D_,G_,H_,I_,r_,J_,t_,s_,K_,E_,F_],rd r_ y_,own 104 t_ L_,rd s_ M_,mp ak bo,mp ao ba]) (λ_=>[(1,vp b1 0),(7,ak),(8,ao)]) (λaq _=>[(2,vi p2),(25,r_),(26,vi y_.length),(27,vi aq)]) o ?_ ?_ ?_;exact j.sp 9 [5,6,7,8,1,0];rintro hm aq ba s' _ w hk⟨O,rfl,j⟩o;refine IS<|VW<|aO (aq:Int)<|q_ o λbb b8 o=>VO 1 j Fi b8 λc5 j=>VS 0 bb j GR λc6 j=>V9 j Mi.z λa7 w j=>?_;refine aJ (aq:Int)<|V5 0 j 1 zr GR λw j=>?_;refine IN<|aO (aq:Int)<|OF (aq:Int) 1<|aJ (cE<|(aq:Int)+1)<|AS<|WR E V (λ(ai:aL (bA×Bool)×Int)=>[bc 94 b1 [u_,D_,G_,H_,I_,r_,J_,t_,s_,K_,E_,F_],rd r_ y_,own 104 t_ L_,rd s_ M_,mp ak bo,mp ao ai.1,bx 98 a7 bb]) (λ_=>[(1,vp b1 0),(2,vi p2),(7,ak),(8,ao),(25,r_),(26,vi y_.length),(27,vi aq)]) (λai=>[(9,vi aq),(10,vp a7 0),(11,vi ai.2)]) o ?_ ?_ ?_;exact j.sp 9 (fR 3 6 [0]);rintro ai fl _ w⟨O,rfl,j⟩o;refine IS<|IS<|q_ o λbt hj o=>VR (λ(bt:Bool)=>SH E V [(1,vp b1 0),(2,vi p2),(7,ak),(8,ao),(9,vi aq),(10,vp a7 0),(11,vi ai.2),(25,r_),(26,vi y_.length),(27,vi aq),(53,vb bt)] [bc 94 b1 [u_,D_,G_,H_,I_,r_,J_,t_,s_,K_,E_,F_],rd r_ y_,own 104 t_ L_,rd s_ M_,mp ak bo,mp ao ai.1,bx 98 a7 bb]) bt ?_ ?_;refine WD mixed ?_;have j:=j.drew;refine WC<|aO ai.2<|AI<|mv (vp b1 0)<|AI<|Wg zt zr zr<|AI<|AT zr ng<|AI<|VY 0 r_ j xl<|AI<|VP 1 y_ j DC<|AI<|ic ai.2 ((y_.length:Int))<|AI<|fY (jP<|ai.2<(y_.length:Int))<|fx hj (λah hj=>?_) λah hj=>?_;refine AI<|VK (vp b1 0) (cg ah)<|AI<|Wg (cg ah) zr zr<|AI<|AT zr ng<|AI<|VY 0 r_ j xl<|AI<|VK (vi ai.2) (cg ah)<|AI ?_;refine q_ hj λbu ca hj=>VO 1 j Fi ca λc7 j=>AI<|Wo 0 j zr Ai jg λc8 j=>AI<|Wd bu.dI 0 j cV<|AI<|AT zr Ai<|AI<|VL 8 j zr jg cV<|AI<|Ws bu.dI bb.dI (cg ah)<|AI<|fw ah (vb<|bu.dI==bb.dI)<|Wt ?_;exact oi hj▸⟨rfl,j.sp 9 (fR 2 7 [])⟩;refine AI<|bH ah<|AI<|bH ah<|AI<|bH ah<|AI<|bH ah<|AI<|bH ah<|AI<|bH ah<|AI<|bH ah<|AI<|bH ah<|AI<|bH ah ?_;exact AI<|bH ah<|AI<|bH ah<|AI<|fw ah (vb false)<|Wt<|oi hj▸⟨rfl,j.sp 7 (fR 0 7 [])⟩;rintro _ w⟨O,rfl,j⟩;refine aD<|dM o (λo=>?_) λo=>?_;refine We<|WM<|IS<|WD mixed ?_;have j:=j.drew;refine WC<|mv (vp b1 0)<|AI<|Wg zt zr zr<|AI<|AT zr rG<|AI<|VY 0 s_ j gm<|AI<|aO (aq:Int)<|AI ?_;refine q_ o λab cb o=>VO 3 j fH cb λc9 j=>AI<|Wd ab 0 j cV<|AI<|mv (vp b1 0)<|AI<|Wg zt zr zr<|AI<|AT zr rG<|AI<|VY 1 s_ j gm<|AI<|aO ai.2<|AI ?_;refine q_ o λad cc o=>VO 4 j fH cc λda j=>AI<|Wd ad 0 j cV<|AI<|Xb ab ad<|AI<|mv (vp b1 0)<|AI<|Wg zt zr zr<|AI<|AT zr rG<|AI<|VY 2 s_ j gm<|AI<|aO (aq:Int)<|AI ?_;refine q_ o λae cd o=>VO 5 j fH cd λdb j=>AI<|Wd ae 0 j cV<|AI<|mv (vp b1 0)<|AI<|Wg zt zr zr<|AI<|AT zr rG<|AI<|VY 3 s_ j gm<|AI<|aO ai.2<|AI ?_;refine q_ o λaf cf o=>VO 6 j fH cf λdc j=>AI<|Wd af 0 j cV<|AI<|W8 ae af<|AI<|aJ (aN ad ab)<|AI<|aJ (cJ ae af)<|Wt<|aD<|IS ?_;refine q_ o λbw hj o=>VR (λ(bw:Bool)=>SH E V [(1,vp b1 0),(2,vi p2),(7,ak),(8,ao),(9,vi aq),(10,vp a7 0),(11,vi ai.2),(12,vi (aN ad ab)),(13,vi (cJ ae af)),(25,r_),(26,vi y_.length),(27,vi aq),(112,vb bw)] [bc 94 b1 [u_,D_,G_,H_,I_,r_,J_,t_,s_,K_,E_,F_],rd r_ y_,own 104 t_ L_,rd s_ M_,mp ak bo,mp ao ai.1,bx 98 a7 bb]) bw ?_ ?_;refine WA mixed (ix 27 1020000000000000000000000) (fR 0 22 [24,22,23,25,26]) ?_;have j:=j.drew;refine VU zr zr<|aO (aN ad ab)<|bF zr<|aO (cJ ae af)<|bF zr<|ic ((aN ad ab)) ((cJ ae af))<|bF zr<|fY ((aN ad ab) != (cJ ae af))<|VZ<|fx hj (λay hj=>?_) λay hj=>?_;refine VU zr zr<|VK ao (cg ay)<|bF zr<|VK (vi (aN ad ab)) (cg ay)<|bF zr<|VK (vi (cJ ae af)) (cg ay)<|bF zr ?_;have j:=(j.sc Int (aN ad ab)).sc Int (cJ ae af);refine XH (⟨(aN ad ab),(cJ ae af)⟩:bA) (cg ay) rfl j [(0,vi (aN ad ab)),(1,vi (cJ ae af))] rfl Jz rfl (λM hs g=>by have h:=tX M;exact cI.cons (f:=λ(x:bA)y=>{x with e0:=y}) h pO (g.sat 1 _ rfl).1 λ_ h=>cI.cons (f:=λ(x:bA)y=>{x with e1:=y}) h pP (g.sat 0 _ rfl).1 λ_ h=>cI.nil h) λdd j=>?_;refine bF zr<|Xe 12 (⟨(aN ad ab),(cJ ae af)⟩:bA) (cg ay) j (rp 0 j) Om<|bF zr<|Wr (dE ai.1 (⟨(aN ad ab),(cJ ae af)⟩:bA) (false:Bool))<|bF zr<|fw ay (vb<|!(dE ai.1 (⟨(aN ad ab),(cJ ae af)⟩:bA) (false:Bool)))<|bF zr<|fY (!(dE ai.1 (⟨(aN ad ab),(cJ ae af)⟩:bA) (false:Bool)))<|VZ ?_;refine fx hj (λag hj=>?_) λag hj=>?_;refine VU zr zr<|AT zr Aj<|bF zr<|Wh 13 j zr jh Ag λde j=>bF zr<|VK (vp b1 0) (cg ag)<|bF zr<|Wg (cg ag) zr zr<|bF zr<|AT zr ng<|bF zr<|VY 8 r_ j xl<|bF zr<|VK (vi ai.2) (cg ag)<|bF zr ?_;refine q_ hj λch cj hj=>VO 9 j Fi cj λdf j=>bF zr<|Wo 0 j zr Aj jh λdg j=>bF zr<|VS 0 ch.iU j Ag λdh j=>VZ<|V8 (vi p2) zr (λw=>VK (vi p2) (cg ag) V0)<|Wq zr zr<|q_ hj λb0 ck hj=>V2 Su (vY N (i0:=3) (i1:=0) j zr zr ck) λdi w j=>u7 zr<|Ym (f:=λ(x:u6)=>x.gz) 0 (cg ag) zr j zr zr zr JC GL cV<|bF zr<|Ws b0.gz p2 (cg ag)<|bF zr<|fw ag (vb<|b0.gz<p2)<|VZ<|Wi ?_;exact oi hj▸⟨rfl,j.sp 19 (fR 12 7 [])⟩;refine VU zr zr<|bH ag<|bF zr<|bH ag<|bF zr<|bH ag<|bF zr<|bH ag<|bF zr<|bH ag<|bF zr<|bH ag<|bF zr<|bH ag<|bF zr<|bH ag<|bF zr<|bH ag ?_;refine bF zr<|bH ag<|VZ<|V8 undef zr (λw=>bH ag V0)<|Wq zr zr<|bH ag<|u7 zr<|bH ag<|bF zr<|bH ag<|bF zr<|fw ag (vb false)<|VZ<|Wi ?_;exact oi hj▸⟨rfl,j.sp 14 (fR 7 7 [])⟩;refine VU zr zr<|bH ay<|bF zr<|bH ay<|bF zr<|bH ay<|bF zr<|bH ay<|bF zr<|bH ay<|bF zr<|bH ay<|bF zr<|fw ay (vb false)<|bF zr<|fY false<|bF zr<|kH ?_;refine bF zr<|kH<|bF zr<|kH<|bF zr<|kH<|bF zr<|kH<|bF zr<|kH<|bF zr<|kH<|bF zr<|kH<|bF zr<|kH<|bF zr<|kH ?_;refine VZ<|V8 undef zr (λw=>kH V0)<|Wq zr zr<|kH<|u7 zr<|kH<|bF zr<|kH<|bF zr<|Wl (b:=false) (v:=vb false) zt zr zr zr<|VZ<|Wi ?_;exact oi hj▸⟨rfl,j.sp 11 (fR 4 7 [])⟩;rintro _ w⟨O,rfl,j⟩;refine aD<|q_ o λbz hj o=>VR (λ(bz:aL (bA×Bool))=>SH E V [(1,vp b1 0),(2,vi p2),(7,ak),(8,ao),(9,vi aq),(10,vp a7 0),(11,vi ai.2),(25,r_),(26,vi y_.length),(27,vi aq)] [bc 94 b1 [u_,D_,G_,H_,I_,r_,J_,t_,s_,K_,E_,F_],rd r_ y_,own 104 t_ L_,rd s_ M_,mp ak bo,mp ao bz,bx 98 a7 bb]) bz ?_ ?_;refine dM hj (λhj=>?_) λhj=>?_;refine BY<|mv ao<|aO (aN ad ab)<|aO (cJ ae af) ?_;have j:=(j.sc Int (aN ad ab)).sc Int (cJ ae af);refine XH (⟨(aN ad ab),(cJ ae af)⟩:bA) trivial rfl j [(0,vi (aN ad ab)),(1,vi (cJ ae af))] rfl Jz rfl (λM hs g=>by have h:=tX M;exact cI.cons (f:=λ(x:bA)y=>{x with e0:=y}) h pO (g.sat 1 _ rfl).1 λ_ h=>cI.cons (f:=λ(x:bA)y=>{x with e1:=y}) h pP (g.sat 0 _ rfl).1 λ_ h=>cI.nil h) λdj j=>?_;have j:=j.sc Bool true;exact Xi 9 0 (⟨(aN ad ab),(cJ ae af)⟩:bA) j zr (rp 1 j) zr zr Om λw j=>By<|oi hj▸⟨rfl,j.sp 11 (fR 4 7 [])⟩;exact Wc<|oi hj▸⟨rfl,j.sp 7 (fR 0 7 [])⟩;rintro _ w⟨O,rfl,j⟩;refine bI<|aD<|BY<|aO ai.2<|OF ai.2 1<|aJ (cE<|ai.2+1)<|By ?_;exact oi o▸⟨rfl,j.sp 7 (fR 0 7 [])⟩;exact Wp<|oi o▸⟨rfl,j.sp 7 (fR 0 7 [])⟩;rintro ai _ w o⟨O,rfl,j⟩;exact bI<|aD<|BY<|Wa hk hm<|aO ((aq+1:Nat):Int)<|By<|oi o▸⟨rfl,j.sp 7 (fR 0 6 [])⟩;rintro ba _ w o⟨O,rfl,j⟩;refine aD<|w_<|dN n_<|IT<|w_<|mv ao<|Yn 5 zt zr j zr zr Sv λa8 w j=>AS<|Yp (λ(pre448:aL (bA×Bool))(a2:aL (bZ×Int)×aL Test)U w=>∃b2:aV,SH E V [(1,vp b1 0),(7,ak),(14,b2),(119,vp a8 0)] [bc 94 b1 [u_,D_,G_,H_,I_,r_,J_,t_,s_,K_,E_,F_],rd r_ y_,own 104 t_ L_,rd s_ M_,mp ak a2.1,HL ao a8 ba pre448,own 43 b2 a2.2] U w) (λ(a2:aL (bZ×Int)×aL Test)U w=>∃bk:aV,SH E V [(1,vp b1 0),(14,bk)] [bc 94 b1 [u_,D_,G_,H_,I_,r_,J_,t_,s_,K_,E_,F_],rd r_ y_,own 104 t_ L_,rd s_ M_,mp ak a2.1,own 43 bk a2.2] U w) (λ(r:Empty)_ _=>r.elim) o ?_ ?_ ?_ ?_;exact⟨n_,(j.dQ Test 43).sp 7 (fR 1 6 [0])⟩;rintro pre448 a2 _ w⟨a3,O,rfl,j⟩hB;refine Yq 5 zr j zr zr hB ?_ ?_;exact V6 (vb false)<|IT<|Xn zr<|Wp<|⟨rfl,a3,j.sp 7 [0,1,2,3,4,6]⟩;rintro bl dk fl w o j;obtain rfl:=j.ve (γ:=Bool) (i:=0) rfl;have j:=j.kv bl.1;refine V6 (vb true)<|IT<|Xm zr<|WL<|VW<|Yo (i:=7) zt zr j zr zr λdm j=>?_;obtain rfl:=j.ve (γ:=Bool) (i:=0) rfl;have j:=j.kv bl.1;refine V6 (KV.enc bl.1)<|V9 j Sw.z λdn w j=>?_;refine V5 0 j 1 zr Sx λw j=>?_;refine IT<|WD mixed ?_;have j:=j.drew;refine WC<|mv (vp b1 0)<|AI<|Wg zt zr zr<|AI<|AT zr sI<|AI<|VY 5 t_ j DD<|AI<|XG zr zr zr Mm<|AI<|VL 0 j zr xL cV<|AI ?_;refine q_ o λbm bp o=>VX 7 j zr zr Ig bp<|AI<|WY (α:=bM) (sS 7 j bp 0) wQ<|AI<|Xx 7 zt zr j zr (sS 7 j bp 2) zr (eQ bp).2.1 tU Bh λa4 j=>?_;refine AI<|mv (vp b1 0)<|AI<|Wg zt zr zr<|AI<|AT zr sI<|AI<|VY 6 t_ j DD<|AI<|XG zr zr zr Mn<|AI<|VL 1 j zr xM cV<|AI ?_;refine q_ o λbf bq o=>VX 8 j zr zr Ig bq<|AI<|WY (α:=bM) (sS 8 j bq 0) wQ<|AI<|Xx 8 zt zr j zr (sS 8 j bq 2) zr (eQ bq).2.1 tU Bh λa5 j=>?_;refine AI<|dN a4<|AI<|dN a5<|Wt<|aD<|IS<|IS<|q_ o λbn hj o=>VR (λ(bn:aL (bZ×Int)×Bool)=>SH E V [(1,vp b1 0),(7,ak),(14,a3),(16,a4),(17,a5),(119,vp a8 0),(157,vb bn.2)] [bc 94 b1 [u_,D_,G_,H_,I_,r_,J_,t_,s_,K_,E_,F_],rd r_ y_,own 104 t_ L_,rd s_ M_,mp ak bn.1,own 43 a3 a2.2,rd a4 bm.aZ,rd a5 bf.aZ,HL ao a8 ba<|pre448++[bl]]) bn ?_ ?_;refine BY<|mv a4<|VP 1 bm.aZ j xg<|ic ((bm.aZ.length:Int)) 0<|fY ((bm.aZ.length:Int)==0)<|fx hj (λa6 hj=>?_) λa6 hj=>?_;refine bH a6<|bH a6<|bH a6<|fw a6 (vb true)<|fY true<|kH<|kH<|kH<|kH<|kH<|kH<|Wl (b:=true) (v:=vb true) zt zr zr zr<|By ?_;exact oi hj▸⟨rfl,j.sp 14 (fR 7 5 [13,1,0,12])⟩;refine VK a5 (cg a6)<|VP 0 bf.aZ j xg<|Ws (bf.aZ.length:Int) 0 (cg a6)<|fw a6 (vb<|(bf.aZ.length:Int)==0)<|fY ((bf.aZ.length:Int)==0)<|fx hj (λaz hj=>?_) λaz hj=>?_;exact bH az<|bH az<|bH az<|bH az<|bH az<|bH az<|fw az (vb true)<|By<|oi hj▸⟨rfl,j.sp 14 (fR 7 5 [13,1,0,12])⟩;refine VK ak (cg az)<|VK a4 (cg az)<|VK a5 (cg az)<|Wv (hg:=cg az) ([bm.aZ,bf.aZ]:aL (aL bZ)) j [a4,a5] JD Sy (λM hs g=>⟨(g.sat 1 _ zr).1,⟨(g.sat 0 _ zr).1,zt⟩⟩) λdp w j=>?_;have j:=j.freeze 0;refine q_ hj λdq cm hj=>V2 Sz (qh N (i0:=0) j zr cm) λdr w j=>?_;have j:=(j.freeze 0).pull 13;exact q_ hj λcn cp hj=>VM SB (uE N (i1:=0) j zr cp) λw j=>fw az (vb cn.1)<|By<|oi hj▸⟨rfl,j.sp 17 [10,11,12,13,0,16,4,3,15]⟩;rintro _ w⟨O,rfl,j⟩;refine aD<|dM o (λo=>?_) λo=>?_;exact Wp<|BU<|oi o▸⟨rfl,a3,j.sp 9 [0,1,2,3,4,8,5]⟩;refine We ?_;obtain⟨bg,cq,o⟩:=bd o;refine q_ o λbh cr o=>W1 E V mixed [1,0,0,1,0,0,0,0,0] [1,2,4,5,6,7,8] (λ(x:aV×aV×aV×aV×aV×Nat)=>(λav ar aw au ax al=>[(0,158,a4),(1,159,av),(2,160,ar),(3,161,a5),(4,162,aw),(5,163,au),(6,164,ax),(7,18,vp al 0)]) x.1 x.2.1 x.2.2.1 x.2.2.2.1 x.2.2.2.2.1 x.2.2.2.2.2) [(1,vp b1 0),(7,ak),(14,a3),(16,a4),(17,a5),(119,vp a8 0)] [] (λ(D:Nat->Bool)(x:aV×aV×aV×aV×aV×Nat)=>(λav ar aw au ax al=>[bif D 0 then pt av bg else bD,bif D 1 then rd ar bg else bD,bif D 2 then pt aw bh else bD,bif D 3 then rd au bh else bD,bif D 4 then rd ax (⟨bg,bh,false⟩:Test)else bD,bif D 6 then bx 43 al (⟨bg,bh,false⟩:Test)else(bif D 5 then raw 43 al 5 else bD),bc 94 b1 [u_,D_,G_,H_,I_,r_,J_,t_,s_,K_,E_,F_],rd r_ y_,own 104 t_ L_,rd s_ M_,mp ak bn.1,own 43 a3 a2.2,rd a4 bm.aZ,rd a5 bf.aZ,HL ao a8 ba<|pre448++[bl]]) x.1 x.2.1 x.2.2.1 x.2.2.2.1 x.2.2.2.2.1 x.2.2.2.2.2) (λx=>by kernel_rfl) ?_ ⟨λ_=>ka gn,?_,?_,λ_=>ka gn,?_,?_,?_,?_,?_,trivial⟩ ?_;exact⟨(undef,undef,undef,undef,undef,0),dY.none,GJ zr,zt,((((((j.drew).bD).bD).bD).bD).bD).bD⟩;rintro D U w hD aj a9⟨⟨av,ar,aw,au,ax,al⟩,hv,ha,_,j⟩;obtain⟨O,rfl⟩:=hv.o1 0 aj;have j:=j.bY 0 hD;refine VO 12 j zd cq λct j=>?_;exact VQ (ct,ar,aw,au,ax,al) 1 hv ha (j.nw 0);rintro D U w hD aj a9⟨⟨av,ar,aw,au,ax,al⟩,hv,ha,_,j⟩;obtain⟨O,rfl⟩:=hv.o1 1 aj;have j:=(j.eB 0<|aj.1 rfl).bY 1 hD;refine VS 0 bg j iv λcu j=>?_;exact VQ (av,cu,aw,au,ax,al) 2 hv ha (((j.pl 16 [1,0,3,4,5,6,7,8,9,10,11,12,13,14,15] rfl).dF 0 (D 1) (aj.1 rfl) bD).dF 1 true rfl bD);rintro D U w hD aj a9⟨⟨av,ar,aw,au,ax,al⟩,hv,ha,_,j⟩;obtain⟨O,rfl⟩:=hv.o1 3 aj;have j:=j.bY 2 hD;refine VO 13 j zd cr λcv j=>?_;exact VQ (av,ar,cv,au,ax,al) 4 hv ha (j.nw 2);rintro D U w hD aj a9⟨⟨av,ar,aw,au,ax,al⟩,hv,ha,_,j⟩;obtain⟨O,rfl⟩:=hv.o1 4 aj;have j:=(j.eB 2<|aj.1 rfl).bY 3 hD;refine VS 2 bh j iv λcw j=>?_;exact VQ (av,ar,aw,cw,ax,al) 5 hv ha (((j.pl 16 [1,2,3,0,5,6,7,8,9,10,11,12,13,14,15] rfl).dF 2 (D 4) (aj.1 rfl) bD).dF 3 true rfl bD);rintro D U w hD aj a9⟨⟨av,ar,aw,au,ax,al⟩,hv,ha,_,j⟩;obtain⟨O,rfl⟩:=hv.o2 2 5 aj;have j:=((j.eB 1<|aj.1 rfl).eB 3<|aj.2.1 rfl).bY 4 hD;refine WN (⟨bg,bh,false⟩:Test) trivial rfl j [(0,ar),(1,au)] rfl Qa rfl (λM hs g=>by have h:=E8 M;exact cI.cons (f:=λ(x:Test)y=>{x with A:=y}) h tg (g.sat 1 _ rfl).1 λ_ h=>cI.cons (f:=λ(x:Test)y=>{x with B:=y}) h th (g.sat 3 _ rfl).1 λ_ h=>cI.nil h) λcx j=>?_;exact VQ (av,ar,aw,au,cx,al) 6 hv ha ((((j.pl 16 [1,2,3,4,0,6,7,8,9,10,11,12,13,14,15] rfl).dF 1 (D 2) (aj.1 rfl) bD).dF 3 (D 5) (aj.2.1 rfl) bD).dF 4 true rfl bD);rintro D U w hD aj a9⟨⟨av,ar,aw,au,ax,al⟩,hv,ha,_,j⟩;obtain⟨O,rfl⟩:=N8 U;have j:=(j.bY 5<|nh a9 hD 8).bY 5 hD;refine V9 j Im.z λb3 w j=>?_;exact VQ (av,ar,aw,au,ax,b3) 7 hv ha ((j.nw 5).fV 5 (D 8) (nh a9 hD 8)<|bx 43 b3 (⟨bg,bh,false⟩:Test));rintro D U w hD aj a9⟨⟨av,ar,aw,au,ax,al⟩,hv,ha,_,j⟩;obtain⟨O,rfl⟩:=hv.o2 7 6 aj;have j:=((j.eB 4<|aj.2.1 rfl).bY 5 hD).eB 5<|aj.1 rfl;refine V5 5 j 4 zr pA λw j=>?_;exact WV (av,ar,aw,au,ax,al) hv ha ((j.dF 4 (D 6) (aj.2.1 rfl) bD).dF 5 true rfl (bif D 7 then raw 43 al 5 else bD));rintro D U w bj⟨⟨av,ar,aw,au,ax,al⟩,hv,ha,_,j⟩;simp only[List.getD_cons_zero,List.getD_cons_succ,bj 1 (by decide),bj 2 (by decide),bj 4 (by decide),bj 5 (by decide),bj 6 (by decide),bj 8 (by decide),aQ]at j;obtain⟨O,rfl⟩:=(ac (hv.at 7 rfl<|tK bj 7) ha).sV;refine aD<|IS<|w_<|AT zr qB<|Wh 5 j zr lX iv λds j=>AT zr qA<|Wh 6 j zr lW iv λdt j=>?_;refine q_ o λcy cz o=>VM Fc (dX N (i0:=1) (i1:=0) j zr zr cz) λw j=>ic cy 0<|AS<|q_ o λbr hj o=>VR (λ(br:Test)=>SH E V [(1,vp b1 0),(7,ak),(14,a3),(18,vp al 0),(119,vp a8 0)] [bc 94 b1 [u_,D_,G_,H_,I_,r_,J_,t_,s_,K_,E_,F_],rd r_ y_,own 104 t_ L_,rd s_ M_,mp ak bn.1,own 43 a3 a2.2,bx 43 al br,HL ao a8 ba<|pre448++[bl]]) br ?_ ?_;refine dM hj (λhj=>?_) λhj=>?_;refine BY<|AT zr qB<|Wh 7 j zr lX iv λdu j=>AT zr qA<|Wh 8 j zr lW iv λdv j=>AT zr qA<|Xg 9 j zr 1 zr tg iv λw j=>?_;refine AT zr qB<|Xg 9 j zr 0 zr th iv λw j=>?_;exact By<|oi hj▸⟨rfl,j.sp 19 (fR 10 6 [9,18])⟩;exact Wc<|oi hj▸⟨rfl,j.sp 17 (fR 8 6 [7,16])⟩;rintro _ w⟨O,rfl,j⟩;refine aD<|BY<|mv a3<|V1 6 j zr pA λc0 j=>Wv ([br]:aL Test) j [c0] xm Im (λ_ _=>jn) λdw w j=>?_;have j:=j.freeze 0;refine q_ o λdx c1 o=>WI 7 0 j Ml c1 λb4 w j=>?_;exact dN b4<|By<|bI<|oi o▸⟨rfl,b4,j.sp 10 [2,3,4,5,6,9,7]⟩;intro r _ _ _ _;exact r.elim;rintro a2 _ w o⟨bk,O,rfl,j⟩;refine aD<|w_<|mv bk ?_;obtain⟨dy,c2,o⟩:=bd o;have j:=j.pull 5;refine VM Ol (wW Tryz.lay15 Test pA.Ki pA.sz Io (λj hi hj hr=>fO N j hi hj hr) j c2) λw j=>IN<|mv bk<|dN bk<|AS<|VN ?_;obtain rfl:=oi o;exact bT<|j.pk 7 [0,1,3]
def Bo(E:aW)(V:aL HP)(v0:aV)(p0:aL Test)(res:Unit×Int)(v:aV)(w:aW):Prop:=∃u0:aV,v = .tuple #[u0,vi res.2]/\Holds E w ([own 43 v0 p0]++V)
theorem Ar{p0:aL Test}{res:Unit×Int}(o:Holds E w (own 43 v0 p0::V))(j:pM N p0=some res):c_ 14 [v0] w<|Bo E V v0 p0 res:=by
 unfold pM at j;refine enter Tryz.func14 zr zr<|w_<|dN n_<|aJ 0<|IT<|w_<|mv v0<|WB (i:=0) (l:=p0) zt zr o zr zr uK<|ic ((p0.length:Int)) 2000<|AS<|dM j (λj=>?_) λj=>?_;exact w_<|dN n_<|aJ 2<|AS<|V4<|oi j▸ik ⟨n_,zr,o.pk 1 [0]⟩;exact Ww<|mv v0<|dN v0<|aJ 0<|AS<|VN<|oi j▸ik ⟨v0,zr,o.pk 1 [0]⟩
def v5(E:aW)(V:aL HP)(res:aL Test×Int)(v:aV)(w:aW):Prop:=∃u0:aV,v = .tuple #[u0,vi res.2]/\Holds E w ([own 43 u0 res.1]++V)
theorem Bp{p0:aL aY}{p1:cB}{p2:iE}{res:aL Test×Int}(j:Holds E w V)(h0:fC V i0 v0 p0)(h1:fC V i1 v1 p1)(h2:fC V i2 v2 p2)(o:kA N p0 p1 p2 p3=some res):
    c_ 4 [v0,v1,v2,vi p3] w<|v5 E V res:=by
 unfold kA at o
 refine enter Tryz.func4 zr zr ?_
 have j:=((j.dup (i0+0) h0).dup (i1+1) h1).dup (i2+2) h2
 refine w_<|V7 1 v1 j zr λa3 w j=>?_
 have j:=j.fM (i:=0) rfl
 refine V7 1 v2 j zr λa4 w j=>?_
 have j:=j.fM (i:=0) rfl
 refine dN n_<|aJ 0<|IN<|mv v0<|VS 1 p1 j ye λa5 j=>VS 1 p2 j pw λa6 j=>aO p3 ?_
 obtain⟨aa,al,o⟩:=bd o
 refine V2 Sh (sm N (p3:=p3) (i0:=6) (i1:=1) (i2:=0) j zr zr zr al) ?_
 rintro _ w hK51
 rcases ag:aa.1 with _|a7
 ·replace o:=Gv ag o
  obtain⟨rfl,j⟩:=AU ag hK51
  refine mv (.tuple #[(.pointer none),vi aa.2])<|V6 (.pointer none)<|V6 (vi aa.2)<|dN (.pointer none)<|aJ aa.2<|IT<|w_<|aO aa.2<|ic aa.2 0 ?_
  refine AS<|dM o (λo=>?_) λo=>?_
  rotate_left
  ·cases o
  refine w_<|aO aa.2<|dN n_<|aJ aa.2<|AS<|V4 ?_
  obtain rfl:=oi o
  have j:=j.dQ Test 43
  exact ik ⟨n_,zr,j.pk 8 [0]⟩
 replace o:=Gw ag o
 obtain⟨af,a8,a9,ba,bb,bc,bf,bg,bh,bj,bk,bl,bm,rfl,j⟩:=AV ag hK51
 refine mv (.tuple #[vp af 0,vi aa.2])<|V6 (vp af 0)<|V6 (vi aa.2)<|dN (vp af 0)<|aJ aa.2<|IT<|w_<|aO aa.2<|ic aa.2 0 ?_
 refine AS<|dM o (λo=>?_) λo=>?_
 ·refine w_<|aO aa.2<|dN n_<|aJ aa.2<|AS<|V4 ?_
  obtain rfl:=oi o
  have j:=j.dQ Test 43
  exact ik ⟨n_,zr,j.pk 21 [0]⟩
 refine We<|WA mixed (ix 10 222111200) [0,1,3,4,5,2,6,7,8,9] ?_
 have j:=j.drew
 refine VU zr zr<|VS 16 p1 j ye λbn j=>bF zr<|VS 16 p2 j pw λbo j=>VZ<|W6 p1 18 zr j ye λbp a62 bq j=>V8 (vp af 0) zr (λw=>VK (vp af 0) zt V0)<|V8 (vi p3) zr (λw=>VK (vi p3) zt V0)<|Wq zr zr ?_
 obtain⟨an,ao,o⟩:=bd o
 refine V2 Qb (rQ N (i0:=3) (i1:=2) j zr zr ao) λaq w j=>Wj (⟨zt,j.kP 1⟩)<|Wq zr zr ?_
 have j:=(((j.dup 14 rfl).pull 14).dup 13 rfl).pull 8
 obtain⟨ar,au,o⟩:=bd o
 refine V2 SC (uV N (p2:=p3) (i0:=2) j zr au) λav w j=>Wj (⟨zt,j.kP 4⟩)<|Wq zr zr ?_
 have j:=(j.freeze 3).freeze 0
 refine Wv ([an,ar]:aL (aL Test)) j [aq,av] Qg Ui (λM hs g=>⟨(g.sat 3 _ zr).1,⟨(g.sat 0 _ zr).1,zt⟩⟩) λbr w j=>Wj (⟨zt,j.kP 5⟩)<|Wq zr zr ?_
 have j:=j.freeze 0
 obtain⟨bs,aw,o⟩:=bd o
 refine V2 (gr Tryz.func11) (uU N (i0:=0) j zr aw) λad w j=>Wj (⟨zt,j.kP 6⟩)<|VU zr zr<|dN ad<|VZ ?_
 have j:=j.pl 30 [0,1,2,3,4,5,7,8,9,10,11,12,13,14,15,16,17,18,19,20,21,22,23,24,25,26,27,28,29] rfl
 refine Wi<|aD<|IS<|w_<|mv ad ?_
 have j:=j.pull 0
 obtain⟨ae,ax,o⟩:=bd o
 refine V2 On (Ar N j ax) ?_
 rintro _ w⟨ah,rfl,j⟩
 refine mv (.tuple #[ah,vi ae.2])<|V6 ah<|V6 (vi ae.2)<|dN ah<|aJ ae.2<|IN<|aO ae.2<|ic ae.2 0<|AS ?_
 refine dM o (λo=>?_) λo=>?_
 ·refine w_<|aO ae.2<|dN n_<|aJ ae.2<|AS<|V4 ?_
  obtain rfl:=oi o
  have j:=j.dQ Test 43
  exact ik ⟨n_,zr,j.pk 31 [0]⟩
 refine Ww<|mv ad ?_
 obtain⟨ai,ay,o⟩:=bd o
 have j:=j.pull 0
 refine VM Ol (wW Tryz.lay15 Test pA.Ki pA.sz Io (λj hi hj hr=>fO N j hi hj hr) j ay) λw j=>IT<|w_<|aJ 1<|AS ?_
 have j:=j.dQ Test 43
 refine Xr E V (λ(ab:Int)=>[own 43 ad ai]) (λ_=>[(12,ad)]) (λab=>[(15,vi ab)]) (λr=>ml aX 64 Tryz.f4 (v5 E V r) .ret) o ?_ ?_ ?_ ?_
 ·exact j.sp 32 [1]
 ·rintro ab fl _ w⟨O,rfl,j⟩o
  refine IS<|w_<|aO ab<|mv ad<|WB (i:=0) (l:=ai) zt zr j zr zr uK<|ic ab ((ai.length:Int))<|AS<|dM o (λo=>?_) λo=>?_
  rotate_left
  ·refine Wp ?_
   obtain rfl:=oi o
   exact⟨rfl,j.sp 1 [0]⟩
  refine We<|WM<|IS<|WA mixed (ix 11 2000000000) (fR 0 11 []) ?_
  have j:=j.drew
  refine VU zr zr<|mv ad<|bF zr<|aO ab<|bF zr ?_
  obtain⟨bu,aj,o⟩:=bd o
  refine VX 0 j zr zr xm aj<|bF zr<|Wx 0 j aj pA λbw j=>?_
  refine bF zr<|mv ad<|bF zr<|aO ab<|bF zr<|OF ab 1<|bF zr ?_
  obtain⟨bx,ak,o⟩:=bd o
  refine VX 1 j zr zr xm ak<|bF zr<|Wx 1 j ak pA λbz j=>?_
  refine rW zr ?_
  obtain⟨a0,a1,o⟩:=bd o
  refine VM Io (fO N (i0:=1) (i1:=0) j zr zr a1) λw j=>u7 zr<|ic a0 0<|VZ<|Wi<|aD<|dM o (λo=>?_) λo=>?_
  rotate_left
  ·refine Wc<|bI<|aD<|BY<|aO ab<|OF ab 1<|aJ (cE<|ab+1)<|By ?_
   obtain rfl:=oi o
   exact⟨rfl,j.sp 3 [2]⟩
  refine w_<|dN n_<|aJ 12<|AS<|Wm<|bJ ?_
  obtain rfl:=oi o
  have j:=j.dQ Test 43
  exact⟨rfl,ik ⟨n_,zr,j.pk 4 [0]⟩⟩
 ·intro r U w o hK
  refine bJ ?_
  obtain rfl:=oi o
  exact hK
 rintro ab _ w o⟨O,rfl,j⟩
 refine aD<|w_<|mv ad<|dN ad<|aJ 0<|AS<|VN ?_
 obtain rfl:=oi o
 exact ik ⟨ad,zr,j.pk 1 [0]⟩
def uW(E:aW)(V:aL HP)(b1 b1h:Nat)(a7_ a8_:aV)(b1_ b2_:aV)(b3_ W_:aV)(b4_ b5_:aV)(b6_ b7_:aV)(a9_ b0_:aV)(res:Bool)(v:aV)(w:aW):Prop:=v= vb res/\Holds E w ([bc 46 b1 [vp b1h 0],bc 94 b1h [a7_,a8_,b1_,b2_,b3_,W_,b4_,b5_,b6_,b7_,a9_,b0_]]++V)
theorem lG{a6_:aL aI}{res:Bool}(j:Holds E w (bc 46 b1 [vp b1h 0]::bc 94 b1h [a7_,a8_,b1_,b2_,b3_,W_,b4_,b5_,b6_,b7_,a9_,b0_]::rd W_ a6_::V))(o:jA N p0 a6_=some res):c_ 72 [vi p0,vp b1 0] w<|uW E V b1 b1h a7_ a8_ b1_ b2_ b3_ W_ b4_ b5_ b6_ b7_ a9_ b0_ res:=by
 unfold jA at o;refine enter Tryz.func72 zr zr<|w_<|bV false<|IN<|aO p0<|VY 0 (vp b1h 0) j Qh<|Wg zt zr zr<|AT zr ng<|VY 1 W_ j xl<|VP 2 a6_ j DC<|OF (a6_.length:Int) 1 ?_;exact q_ o λaa ab o=>VM Oi (nQ N (p0:=p0) (p1:=0) (p2:=cE<|(a6_.length:Int) - 1) j ab) λw j=>bV aa<|AS<|VN<|oi o▸bT ⟨rfl,j.pk 3 [0,1]⟩
theorem v7{p0:aL mn}{p1:mn}(j:Holds E w V)(h0:fC V i0 v0 p0)(h1:fC V i1 v1 p1)(o:oH N p0 p1=some res):c_ 110 [v0,v1] w<|aG E V res:=by
 unfold oH at o;refine enter Tryz.func110 zr zr ?_;have j:=(j.dup (i0+0) h0).dup (i1+1) h1;refine w_<|V7 0 v1 j zr λab w j=>?_;refine aJ 0<|IT<|w_<|mv v0<|VP 2 p0 j GU<|aO 0<|AS<|WJ E V (λ(ad:Unit)=>[rd v0 p0,bx 152 ab p1]) (λ_=>[]) (λaa _=>[(0,v0),(3,vp ab 0),(7,vi p0.length),(8,vi aa)]) (λr=>ml aX 19 Tryz.f110 (aG E V r) .ret) o ?_ ?_ ?_ ?_;exact j.sp 3 [2,0];rintro hm aa ad fl _ w hk⟨O,rfl,j⟩o;refine IS<|VW<|aO (aa:Int)<|aJ (aa:Int)<|IT<|WD mixed ?_;have j:=j.drew;refine WC<|V1 1 j zr xN λak j=>AI<|mv v0<|AI<|aO (aa:Int)<|AI<|q_ o λae ah o=>VO 1 j GV ah λal j=>AI<|VS 0 ae j xN λan j=>AI<|Yb 2 0 p1 ae zt zr j zr zr zr zr Qk zr<|Wt<|aD<|dM o (λo=>?_) λo=>?_;exact w_<|aO (aa:Int)<|aJ (aa:Int)<|AS<|Wm<|bJ<|oi o▸⟨rfl,bT ⟨rfl,j.drop 5⟩⟩;exact Wc<|bI<|aD<|BY<|Wa hk hm<|aO ((aa+1:Nat):Int)<|By<|oi o▸⟨rfl,j.sp 5 [3,4]⟩;intro r U w o hK;exact bJ<|oi o▸hK;rintro ad _ w o⟨O,rfl,j⟩;exact aD<|w_<|aJ (-1)<|AS<|VN<|oi o▸bT ⟨rfl,j.drop 2⟩
theorem tw{p0:aL mn}{p1:mn}{res:Bool}(j:Holds E w V)(h0:fC V i0 v0 p0)(h1:fC V i1 v1 p1)(o:mC N p0 p1=some res):c_ 73 [v0,v1] w<|bE E V res:=by
 unfold mC at o;refine enter Tryz.func73 zr zr ?_;have j:=(j.dup (i0+0) h0).dup (i1+1) h1;refine w_<|V7 0 v1 j zr λad w j=>?_;refine bV false<|IN<|mv v0<|V1 0 j zr xN λae j=>?_;refine q_ o λaa ab o=>VM (gr Tryz.func110) (v7 N (i0:=3) (i1:=0) j zr zr ab) λw j=>ic aa 0<|bV (jP<|aa>=0)<|AS<|VN ?_;exact oi o▸bT ⟨rfl,j.drop 4⟩
theorem xC{A_:aL (aL aK)}{U_:aL aK}{m_:aL cL}{v_:aL cW}{S_:aL (aL aB)}{h_:aL aI}{x_:aL (aL Int)}{V_:aL bM}{O_:aL Int}{P_:aL Int}{C_:aL Int}{B_:aL fN}{p1:aL mn}(j:Holds E w (bc 94 b0 [e_,i_,a_,d_,k_,b_,f_,p_,o_,l_,j_,g_]::rd e_ A_::rd i_ U_::rd a_ m_::rd d_ v_::rd k_ S_::rd b_ h_::rd f_ x_::rd p_ V_::rd o_ O_::rd l_ P_::rd j_ C_::rd g_ B_::V))(h1:fC V i1 v1 p1)(hb:mW N A_ U_ m_ v_ S_ h_ x_ V_ O_ P_ C_ B_ p1=some res):c_ 40 [vp b0 0,v1] w<|kd E V b0 e_ i_ a_ d_ k_ b_ f_ p_ o_ l_ j_ g_ res:=by
 unfold mW at hb;refine enter Tryz.func40 zr zr ?_;have j:=j.dup (i1+13) h1;refine w_<|Ye (vp b0 0) zt zr j zr zr λae w j=>?_;refine aJ 0<|IT<|w_<|mv v1<|VP 1 p1 j GU<|ic ((p1.length:Int)) 20<|AS<|dM hb (λhb=>?_) λhb=>?_;exact w_<|aJ 2<|AS<|V4<|oi hb▸bT ⟨rfl,j.pk 15 [2]⟩;refine Ww<|Xc [vp ae 0]<|dN (.func (.func 72) #[] #[vp ae 0])<|IT<|w_<|mv v1<|VP 1 p1 j GU<|aO 0<|AS<|WJ E V (λ(au:Unit)=>[bc 94 b0 [e_,i_,a_,d_,k_,b_,f_,p_,o_,l_,j_,g_],rd e_ A_,rd i_ U_,rd a_ m_,rd d_ v_,rd k_ S_,rd b_ h_,rd f_ x_,rd p_ V_,rd o_ O_,rd l_ P_,rd j_ C_,rd g_ B_,rd v1 p1,bc 46 ae [vp b0 0]]) (λ_=>[(0,vp b0 0)]) (λag _=>[(1,v1),(2,vp ae 0),(5,(.func (.func 72) #[] #[vp ae 0])),(13,v1),(14,vi p1.length),(15,vi ag)]) (λr=>ml aX 112 Tryz.f40 (kd E V b0 e_ i_ a_ d_ k_ b_ f_ p_ o_ l_ j_ g_ r) .ret) hb ?_ ?_ ?_ ?_;exact j.sp 15 (fR 2 13 [1,0]);rintro hm ag au fl _ w hk⟨O,rfl,j⟩hb;refine IS<|VW<|aO (ag:Int)<|q_ hb λo ax hb=>VO 13 j GV ax λbb j=>VS 0 o j xN λbf j=>V9 j Mo.z λad w j=>?_;refine aJ (ag:Int)<|V5 0 j 1 zr xN λw j=>?_;refine IT<|IS<|q_ hb λal hj hb=>VR (λ(al:Bool)=>SH E V [(0,vp b0 0),(1,v1),(2,vp ae 0),(5,(.func (.func 72) #[] #[vp ae 0])),(6,vi ag),(7,vp ad 0),(13,v1),(14,vi p1.length),(15,vi ag),(42,vb al)] [bc 94 b0 [e_,i_,a_,d_,k_,b_,f_,p_,o_,l_,j_,g_],rd e_ A_,rd i_ U_,rd a_ m_,rd d_ v_,rd k_ S_,rd b_ h_,rd f_ x_,rd p_ V_,rd o_ O_,rd l_ P_,rd j_ C_,rd g_ B_,rd v1 p1,bc 46 ae [vp b0 0],bx 152 ad o]) al ?_ ?_;refine BY<|AT rfl t8<|VL 0 j rfl pq BJ<|fY o.Open<|Wk true o.Open (vp ad 3) rfl rfl rfl (eF BK)<|Wk true o.Open (vi o.A) rfl rfl rfl (cA 0 rfl j (by exact z_ (vp ad 3)) rfl wN cV)<|Wb (vb<|o.A != 0) rfl rfl (u9 .neq)<|Wb (vb<|o.A != 0) rfl rfl tR<|Wy (vp ad 4) rfl rfl (eF BL) ?_;refine Wy (vi o.B) rfl rfl (cA 0 rfl j (by exact z_ (vp ad 4)) rfl wO cV)<|Wy (vb<|o.B != 0) rfl rfl (u9 .neq)<|Wb (vb<|(o.A != 0)||(o.B != 0)) rfl rfl Q2<|Wl (b:=o.Open) (v:=vb<|o.Open&&((o.A != 0)||(o.B != 0))) trivial rfl rfl (kc true)<|fY (o.Open&&((o.A != 0)||(o.B != 0)))<|fx hj (λah hj=>?_) λah hj=>?_;refine bH ah<|bH ah<|bH ah<|bH ah<|E7<|E7<|E7<|E7<|bH ah<|fw ah (vb true)<|By ?_;exact oi hj▸⟨rfl,j.sp 18 (fR 3 15 [0])⟩;refine AT zr t8<|VL 0 j zr pq BJ<|Wr o.Open<|VK (vb<|!o.Open) (cg ah)<|fx hj (λai hj=>?_) λai hj=>?_;refine AT rfl wS<|Wh 0 j rfl rh qI λbg j=>WN (⟨false,0⟩:fN) (cg ai) rfl j [] rfl Jy rfl (λM hs g=>by have h:=Jt M;exact cI.nil h) λbh j=>?_;exact Yc 1 0 o.fN (⟨false,0⟩:fN) (cg ai) zr j zr zr zr zr Qi zr<|fw ai (vb<|!(jP<|o.fN=(⟨false,0⟩:fN))) (hg:=cg ah)<|fw ah (vb<|!(jP<|o.fN=(⟨false,0⟩:fN)))<|By<|oi hj▸⟨rfl,j.sp 20 (fR 5 15 [2])⟩;exact bH ai<|bH ai<|bH ai<|bH ai<|fw ai (vb false) (hg:=cg ah)<|fw ah (vb false)<|By<|oi hj▸⟨rfl,j.sp 18 (fR 3 15 [0])⟩;rintro _ w⟨O,rfl,j⟩;refine aD<|dM hb (λhb=>?_) λhb=>?_;exact w_<|aJ 3<|AS<|V4<|fU<|bJ<|oi hb▸⟨rfl,bT ⟨rfl,j.pk 16 [0]⟩⟩;refine We<|q_ hb λan hj hb=>VR (λ(an:Bool)=>SH E V [(0,vp b0 0),(1,v1),(2,vp ae 0),(5,(.func (.func 72) #[] #[vp ae 0])),(6,vi ag),(7,vp ad 0),(8,vb an),(13,v1),(14,vi p1.length),(15,vi ag)] [bc 94 b0 [e_,i_,a_,d_,k_,b_,f_,p_,o_,l_,j_,g_],rd e_ A_,rd i_ U_,rd a_ m_,rd d_ v_,rd k_ S_,rd b_ h_,rd f_ x_,rd p_ V_,rd o_ O_,rd l_ P_,rd j_ C_,rd g_ B_,rd v1 p1,bc 46 ae [vp b0 0],bx 152 ad o]) an ?_ ?_;refine BY<|mv (.func (.func 72) #[] #[vp ae 0])<|AT zr BK<|VL 15 j zr wN cV ?_;have j:=((j.dup 6 rfl).pull 1).pull 16;refine q_ hj λay az hj=>W4 [vp ae 0] Qj [vi o.A]<|eA (lG N (p0:=o.A) j az) ?_;rintro _ w⟨rfl,j⟩;refine fY ay<|fx hj (λaj hj=>?_) λaj hj=>?_;refine VK (.func (.func 72) #[] #[vp ae 0]) (cg aj)<|AT zr BL<|VL 17 j zr wO cV ?_;have j:=((j.dup 8 rfl).pull 2).pull 2;refine q_ hj λKm a0 hj=>W4 (hg:=cg aj) [vp ae 0] Qj [vi o.B]<|eA (lG N (p0:=o.B) j a0) ?_;rintro _ w⟨rfl,j⟩;exact fw aj (vb Km)<|bV Km<|By<|oi hj▸⟨rfl,j.sp 20 (1::fR 5 13 [0,19])⟩;exact bH aj<|bH aj<|bH aj<|bH aj<|fw aj (vb false)<|bV false<|By<|oi hj▸⟨rfl,j.sp 18 (1::fR 3 13 [0,17])⟩;rintro _ w⟨O,rfl,j⟩;refine aD<|IS<|w_<|AT zr t8<|VL 15 j zr pq BJ<|AS<|q_ hb λao hj hb=>VR (λ(ao:Bool)=>SH E V [(0,vp b0 0),(1,v1),(2,vp ae 0),(5,(.func (.func 72) #[] #[vp ae 0])),(6,vi ag),(7,vp ad 0),(8,vb ao),(13,v1),(14,vi p1.length),(15,vi ag)] [bc 94 b0 [e_,i_,a_,d_,k_,b_,f_,p_,o_,l_,j_,g_],rd e_ A_,rd i_ U_,rd a_ m_,rd d_ v_,rd k_ S_,rd b_ h_,rd f_ x_,rd p_ V_,rd o_ O_,rd l_ P_,rd j_ C_,rd g_ B_,rd v1 p1,bc 46 ae [vp b0 0],bx 152 ad o]) ao ?_ ?_;refine dM hj (λhj=>?_) λhj=>?_;refine BY<|mv (.func (.func 72) #[] #[vp ae 0])<|AT zr wS<|AT zr t7<|VL (f:=(λx=>x.fN.Number)) 15 j zr (Fd.comp (f:=λ(x:mn)=>x.fN) (λ(x:fN)=>x.Number) rh rE) cV ?_;have j:=((j.dup 6 rfl).pull 1).pull 16;refine q_ hj λa1 a2 hj=>W4 [vp ae 0] Qj [vi o.fN.Number]<|eA (lG N (p0:=o.fN.Number) j a2) ?_;rintro _ w⟨rfl,j⟩;exact bV a1<|By<|oi hj▸⟨rfl,j.sp 18 (1::fR 3 13 [0,17])⟩;exact Wc<|oi hj▸⟨rfl,j.sp 16 (fR 0 16 [])⟩;rintro _ w⟨O,rfl,j⟩;refine aD<|IS<|w_<|AT rfl t8<|VL 15 j rfl pq BJ<|fY o.Open<|Wk true o.Open (vp ad 1) rfl rfl rfl (eF wS)<|Wk true o.Open (vp ad 1) rfl rfl rfl (eF (hx:=λh=>by exact(kO h:cv (true&&(o.Open==true)) (vp ad 1)= vp ad 1)) Fq)<|Wk true o.Open (vb o.fN.cL) rfl rfl rfl (cA (f:=(λx=>x.fN.cL)) 15 rfl j (by exact z_ (vp ad 1)) rfl (Fd.comp (f:=λ(x:mn)=>x.fN) (λ(x:fN)=>x.cL) rh Cj) BJ) ?_;refine Wl (b:=o.Open) (v:=vb<|o.Open&&o.fN.cL) zt zr zr (kc true)<|AS<|q_ hb λak hj hb=>VR (λ(ak:Bool)=>SH E V [(0,vp b0 0),(1,v1),(2,vp ae 0),(5,(.func (.func 72) #[] #[vp ae 0])),(6,vi ag),(7,vp ad 0),(8,vb ak),(13,v1),(14,vi p1.length),(15,vi ag)] [bc 94 b0 [e_,i_,a_,d_,k_,b_,f_,p_,o_,l_,j_,g_],rd e_ A_,rd i_ U_,rd a_ m_,rd d_ v_,rd k_ S_,rd b_ h_,rd f_ x_,rd p_ V_,rd o_ O_,rd l_ P_,rd j_ C_,rd g_ B_,rd v1 p1,bc 46 ae [vp b0 0],bx 152 ad o]) ak ?_ ?_;refine dM hj (λhj=>?_) λhj=>?_;refine q_ hj λaq hjj hj=>VR (λ(aq:Bool)=>SH E V [(0,vp b0 0),(1,v1),(2,vp ae 0),(5,(.func (.func 72) #[] #[vp ae 0])),(6,vi ag),(7,vp ad 0),(8,vb aq),(13,v1),(14,vi p1.length),(15,vi ag)] [bc 94 b0 [e_,i_,a_,d_,k_,b_,f_,p_,o_,l_,j_,g_],rd e_ A_,rd i_ U_,rd a_ m_,rd d_ v_,rd k_ S_,rd b_ h_,rd f_ x_,rd p_ V_,rd o_ O_,rd l_ P_,rd j_ C_,rd g_ B_,rd v1 p1,bc 46 ae [vp b0 0],bx 152 ad o]) aq ?_ ?_;refine WA mixed (ix 25 20000000000) (fR 0 25 []) ?_;have j:=j.drew;refine VU zr zr<|AT zr wS<|bF zr<|AT zr t7<|bF zr<|VL (f:=(λx=>x.fN.Number)) 15 j zr (Fd.comp (f:=λ(x:mn)=>x.fN) (λ(x:fN)=>x.Number) rh rE) cV<|bF zr<|VY 14 (vp b0 0) j Qh<|bF zr<|Wg zt zr zr<|bF zr<|AT zr qz<|bF zr<|AT zr py<|bF zr<|VY 0 a_ j Ah<|bF zr<|VP 3 m_ j Co ?_;refine bF zr<|OF (m_.length:Int) 1<|rW zr<|q_ hjj λa3 a4 hjj=>VM Oi (nQ N (p0:=o.fN.Number) (p1:=0) (p2:=cE<|(m_.length:Int) - 1) j a4) λw j=>u7 zr<|fY a3<|VZ<|fx hjj (λaf hjj=>?_) λaf hjj=>?_;refine VU zr zr<|VY 14 (vp b0 0) j Qh<|bF zr<|Wg (cg af) zr zr<|bF zr<|AT zr qz<|bF zr<|AT zr py<|bF zr<|VY 0 a_ j Ah<|bF zr<|AT zr wS<|bF zr<|AT zr t7<|bF zr<|VL (f:=(λx=>x.fN.Number)) 15 j zr (Fd.comp (f:=λ(x:mn)=>x.fN) (λ(x:fN)=>x.Number) rh rE) cV<|bF zr ?_;refine q_ hjj λar a5 hjj=>VO 3 j Fe a5 λbj j=>bF zr<|Wo 0 j zr BH wK λbk j=>bF zr<|Wd ar.jo 0 j BJ<|bF zr<|fw af (vb ar.jo)<|bF zr<|bV ar.jo<|VZ<|Wi ?_;exact oi hjj▸⟨rfl,j.sp 18 (fR 2 16 [])⟩;refine VU zr zr<|bH af<|bF zr<|bH af<|bF zr<|bH af<|bF zr<|bH af<|bF zr<|bH af<|bF zr<|bH af<|bF zr<|bH af<|bF zr<|bH af<|bF zr<|bH af ?_;refine bF zr<|bH af<|bF zr<|bH af<|bF zr<|fw af (vb false)<|bF zr<|bV false<|VZ<|Wi ?_;exact oi hjj▸⟨rfl,j.sp 16 (fR 0 16 [])⟩;rintro _ w⟨O,rfl,j⟩;exact oi hj▸⟨rfl,j.sp 16 (fR 0 16 [])⟩;exact Wc<|oi hj▸⟨rfl,j.sp 16 (fR 0 16 [])⟩;rintro _ w⟨O,rfl,j⟩;refine aD<|VW<|fY ak<|Wr ak<|bV (!ak)<|AS<|dM hb (λhb=>?_) λhb=>?_;exact w_<|aJ 9<|AS<|Wm<|fU<|bJ<|oi hb▸⟨rfl,bT ⟨rfl,j.pk 16 [0]⟩⟩;refine w_<|AT rfl t8<|VL 15 j rfl pq BJ<|Wr o.Open<|fY (!o.Open)<|Wk true (!o.Open) (vp ad 4) rfl rfl rfl (eF BL)<|Wk true (!o.Open) (vi o.B) rfl rfl rfl (cA 15 rfl j (by exact z_ (vp ad 4)) rfl wO cV)<|Wk true (!o.Open) (vp ad 3) rfl rfl rfl (eF BK)<|Wk true (!o.Open) (vi o.A) rfl rfl rfl (cA 15 rfl j (by exact z_ (vp ad 3)) rfl wN cV) ?_;refine Wb (vb<|o.B<=o.A) zr zr (u9 .leq)<|Wl (b:=(!o.Open)) (v:=vb<|(!o.Open)&&jP (o.B<=o.A)) zt zr zr (kc true)<|bV ((!o.Open)&&jP (o.B<=o.A))<|AS<|dM hb (λhb=>?_) λhb=>?_;exact w_<|aJ 8<|AS<|Wm<|fU<|bJ<|oi hb▸⟨rfl,bT ⟨rfl,j.pk 16 [0]⟩⟩;refine IS<|WA mixed (ix 6 20000) (fR 0 6 []) ?_;have j:=j.drew;refine VU zr zr<|mv v1<|bF zr<|aO (ag:Int)<|bF zr<|q_ hb λbl a6 hb=>Xo (hl:= .inr ⟨rfl,zr⟩) 13 j GV (.inl zr) a6 λbm j=>bF zr<|V1 16 j zr xN λbn j=>rW zr<|q_ hb λa7 a8 hb=>VM (gr Tryz.func73) (tw N (i0:=1) (i1:=0) j zr zr a8) λw j=>u7 zr<|bV a7<|VZ<|Wi<|aD<|dM hb (λhb=>?_) λhb=>?_;exact w_<|aJ 7<|AS<|Wm<|fU<|bJ<|oi hb▸⟨rfl,bT ⟨rfl,j.pk 18 [2]⟩⟩;exact Wc<|bI<|bI<|aD<|BY<|Wa hk hm<|aO ((ag+1:Nat):Int)<|By<|oi hb▸⟨rfl,j.sp 18 (fR 2 15 [])⟩;intro r U w hb hK;exact bJ<|oi hb▸hK;rintro au _ w hb⟨O,rfl,j⟩;exact aD<|w_<|aJ 0<|AS<|VN<|oi hb▸bT ⟨rfl,j.pk 15 [0]⟩
theorem qK{p0:fN}(j:Holds E w V)(h0:fC V i0 v0 p0)(h1:fI V i1 v1 p1)(o:jL N p0 p1=some res):c_ 74 [v0,v1] w<|aG E V res:=by
 unfold jL at o;refine enter Tryz.func74 zr zr ?_;have j:=(j.dup (i0+0) h0).rm (i:=i1+1) h1;refine w_<|V7 1 v0 j zr λaa w j=>?_;refine aJ 0<|IT<|w_<|AT zr Fq<|VL 0 j zr Cj BJ<|AS<|dM o (λo=>?_) λo=>?_;refine w_<|Wd p1 1 j cV<|AT zr t7<|VL 0 j zr rE cV<|OF p1 p0.Number<|aJ (cE<|p1+p0.Number)<|AS<|V4 ?_;exact oi o▸bT ⟨rfl,j.drop 3⟩;exact Ww<|AT zr t7<|VL 0 j zr rE cV<|aJ p0.Number<|AS<|VN<|oi o▸bT ⟨rfl,j.drop 3⟩
def yp(E:aW)(V:aL HP)(b2:Nat)(R_:aV)(T_:aL (Int×Bool))(b3 b3h:Nat)(res:aL Int)(v:aV)(w:aW):Prop:=∃c3_:aV,v = .tuple #[]/\Holds E w ([bc 155 b2 [R_],mp R_ T_,bc 80 b3 [vp b3h 0],bc 124 b3h [c3_],own 3 c3_ res]++V)
theorem qL{T_:aL (Int×Bool)}{b8_:aL Int}{res:aL Int}(j:Holds E w (bc 155 b2 [R_]::mp R_ T_::bc 80 b3 [vp b3h 0]::bc 124 b3h [a5_]::own 3 a5_ b8_::V))(hb:kY N p0 p1 T_ b8_=some res):c_ 75 [vi p0,vi p1,vp b2 0,vp b3 0] w<|yp E V b2 R_ T_ b3 b3h res:=by
 unfold kY at hb;refine enter Tryz.func75 zr zr<|IS<|q_ hb λae o hb=>VR (λ(ae:Bool)=>SH E V [(0,vi p0),(1,vi p1),(2,vp b2 0),(3,vp b3 0),(15,vb ae)] [bc 155 b2 [R_],mp R_ T_,bc 80 b3 [vp b3h 0],bc 124 b3h [a5_],own 3 a5_ b8_]) ae ?_ ?_;refine BY<|VY 0 R_ j GW<|aO p0<|Xe 1 p0 zt j zr JE<|Wr (dE T_ p0 (false:Bool))<|fY (!(dE T_ p0 (false:Bool)))<|fx o (λaa o=>?_) λaa o=>?_;refine VY 0 R_ j GW<|VK (vi p1) (cg aa)<|Xe 1 p1 (cg aa) j zr JE<|Wr (dE T_ p1 (false:Bool))<|fw aa (vb<|!(dE T_ p1 (false:Bool)))<|By ?_;obtain rfl:=oi o;exact ⟨rfl,j.sp 5 [0,1,2,3,4]⟩;exact bH aa<|bH aa<|bH aa<|bH aa<|fw aa (vb false)<|By<|oi o▸⟨rfl,j.sp 5 [0,1,2,3,4]⟩;rintro _ w⟨O,rfl,j⟩;refine aD<|q_ hb λaf o hb=>VR (λ(af:aL Int)U w=>∃ad:aV,SH E V [(2,vp b2 0),(3,vp b3 0)] [bc 155 b2 [R_],mp R_ T_,bc 80 b3 [vp b3h 0],bc 124 b3h [ad],own 3 ad af] U w) af ?_ ?_;refine dM o (λo=>?_) λo=>?_;refine BY<|VY 2 (vp b3h 0) j Mp<|aO p0<|aO p1 ?_;have j:=(j.pull 4).pull 4;refine q_ o λai ag o=>V2 P6 (ma N (p1:=p0) (p2:=p1) j ag) ?_;rintro _ w⟨ah,rfl,j⟩;exact By<|oi o▸⟨rfl,ah,j.sp 7 [2,3,4,0,1]⟩;exact Wc<|oi o▸⟨rfl,a5_,j.sp 5 [0,1,2,3,4]⟩;rintro _ w⟨ad,O,rfl,j⟩;obtain rfl:=oi hb;exact vd<|A8 ⟨ad,zr,j.pk 5 [0,1,2,3,4]⟩
def Bq(E:aW)(V:aL HP)(b0:Nat)(e_ i_:aV)(a_ d_:aV)(k_ b_:aV)(f_ p_:aV)(o_ l_:aV)(j_ g_:aV)(res:aL Int)(v:aV)(w:aW):Prop:=Holds E w<|[own 3 v res,bc 94 b0 [e_,i_,a_,d_,k_,b_,f_,p_,o_,l_,j_,g_]]++V
theorem As{m_:aL cL}{v_:aL cW}{h_:aL aI}{x_:aL (aL Int)}{C_:aL Int}{B_:aL fN}{p1:aL mn}{res:aL Int}(j:Holds E w (bc 94 b0 [e_,i_,a_,d_,k_,b_,f_,p_,o_,l_,j_,g_]::rd a_ m_::rd d_ v_::rd b_ h_::rd f_ x_::rd j_ C_::rd g_ B_::V))(h1:fC V i1 v1 p1)(o:lV N m_ v_ h_ x_ C_ B_ p1=some res):c_ 41 [vp b0 0,v1] w<|Bq E V b0 e_ i_ a_ d_ k_ b_ f_ p_ o_ l_ j_ g_ res:=by
 unfold lV at o;refine enter Tryz.func41 zr zr ?_;have j:=j.dup (i1+7) h1;refine w_<|dN n_<|IN<|mv (vp b0 0)<|Wg zt zr zr<|AT zr ng<|VY 1 b_ j xl<|VP 4 h_ j DC<|V9 j Kx.z λad w j=>?_;have j:=j.sc Int (h_.length:Int);refine V5 1 j 0 zr cV λw j=>?_;refine IN ?_;have j:=j.fM (i:=1) rfl;refine Xc [vp ad 0]<|dN (.func (.func 74) #[] #[vp ad 0])<|IN<|Xh (κ:=Int) (ν:=Bool) j λag w j=>Xz zr j SG zr λae w j=>?_;refine W0 0 ag j zr zr (LJ 1 j zr) GW λw j=>?_;refine IT<|w_<|mv v1<|VP 4 p1 j GU<|aO 0<|AS<|WU E V (λ(ao:aL (Int×Bool))=>[bc 94 b0 [e_,i_,a_,d_,k_,b_,f_,p_,o_,l_,j_,g_],rd a_ m_,rd d_ v_,rd b_ h_,rd f_ x_,rd j_ C_,rd g_ B_,rd v1 p1,pt (vp ad 0) (h_.length:Int),bc 155 ae [ag],mp ag ao]) (λ_=>[(0,vp b0 0),(1,v1),(5,vp ad 0),(6,(.func (.func 74) #[] #[vp ad 0])),(7,vp ae 0)]) (λa5 _=>[(32,v1),(33,vi p1.length),(34,vi a5)]) o ?_ ?_ ?_;exact j.sp 12 (fR 5 7 [4,3,0,1]);rintro hm a5 ao s' _ w hk⟨O,rfl,j⟩o;refine IS<|VW<|q_ o λb3 b4 o=>VO 7 j GV b4 λc6 j=>VS 0 b3 j xN λc7 j=>V9 j Mo.z λc8 w j=>?_;refine V5 0 j 1 zr xN λw j=>?_;refine IN<|AT zr t8<|VL 0 j zr pq BJ<|AS<|q_ o λbb hj o=>VR (λ(bb:aL (Int×Bool))=>SH E V [(0,vp b0 0),(1,v1),(5,vp ad 0),(6,(.func (.func 74) #[] #[vp ad 0])),(7,vp ae 0),(32,v1),(33,vi p1.length),(34,vi a5)] [bc 94 b0 [e_,i_,a_,d_,k_,b_,f_,p_,o_,l_,j_,g_],rd a_ m_,rd d_ v_,rd b_ h_,rd f_ x_,rd j_ C_,rd g_ B_,rd v1 p1,pt (vp ad 0) (h_.length:Int),bc 155 ae [ag],mp ag bb]) bb ?_ ?_;refine dM hj (λhj=>?_) λhj=>?_;have j:=j.drew;refine Xf (λw=>Holds E w<|[bc 155 ae [ag]]++V) mixed [1,0,0,0,2,2] [0,1,2,3,4,5] (j.pk 14 [12])<|WW ag zr (λw j=>VY 0 ag j GW V0)<|VU zr zr<|mv (.func (.func 74) #[] #[vp ad 0])<|bF zr<|AT zr wS<|bF zr<|Wh 0 j zr rh qI λb5 j=>rW zr<|q_ hj λb6 b7 hj=>W4 [vp ad 0] SI [b5]<|eA (qK N (i0:=0) (i1:=12) j zr zr b7) ?_;rintro _ w⟨rfl,j⟩;refine Wj (j.pk 15 [13])<|Wq zr zr ?_;have j:=j.sc Bool true;exact Xi 15 0 b6 j zr zr zr zr JE λw j=>Wj (j.pk 16 [14])<|Wi<|oi hj▸⟨rfl,j.sp 16 (fR 5 11 [])⟩;exact Wc<|oi hj▸⟨rfl,j.sp 14 (fR 3 11 [])⟩;rintro _ w⟨O,rfl,j⟩;exact bI<|aD<|BY<|Wa hk hm<|aO ((a5+1:Nat):Int)<|By<|oi o▸⟨rfl,j.sp 11 (fR 0 11 [])⟩;rintro ao _ w o⟨O,rfl,j⟩;refine aD<|IS ?_;refine q_ o λb8 b9 o=>W1 E V mixed [0,1,1,1,1,0,0,1,0,0,0] [8,9,10] (λ(x:Nat×aV×Nat)=>(λab aj aa=>[(0,46,vi h_.length),(1,47,vp b0 0),(2,48,vp b0 0),(3,49,vp b0 0),(4,50,vp b0 2),(5,51,a_),(6,52,vi m_.length),(7,53,vi<|cE<|(h_.length:Int)+(m_.length:Int)),(8,54,vp ab 0),(9,10,vp aa 0)]) x.1 x.2.1 x.2.2) [(0,vp b0 0),(1,v1),(5,vp ad 0),(6,(.func (.func 74) #[] #[vp ad 0])),(7,vp ae 0)] [] (λ(D:Nat->Bool)(x:Nat×aV×Nat)=>(λab aj aa=>[bif D 0 then bc 124 ab [aj]else bD,bif D 0 then own 3 aj b8 else bD,bif D 2 then bc 80 aa [vp ab 0]else(bif D 1 then bc 80 aa [(.pointer none)]else bD),bc 94 b0 [e_,i_,a_,d_,k_,b_,f_,p_,o_,l_,j_,g_],rd a_ m_,rd d_ v_,rd b_ h_,rd f_ x_,rd j_ C_,rd g_ B_,rd v1 p1,pt (vp ad 0) (h_.length:Int),bc 155 ae [ag],mp ag ao]) x.1 x.2.1 x.2.2) (λx=>by kernel_rfl) ?_ ⟨?_,λ_=>ka gn,λ_=>Dx gn,λ_=>qs gn qz,λ_=>qs gn py,?_,?_,λ_=>N5 gn rfl,?_,?_,?_,trivial⟩ ?_;exact⟨(0,undef,0),dY.none,GJ zr,zt,(((j.drew).bD).bD).bD⟩;rintro D U w hD aq az⟨⟨ab,aj,aa⟩,hv,ha,_,j⟩;obtain⟨O,rfl⟩:=ha.sV;exact Wd (h_.length:Int) 11 j cV<|VQ (ab,aj,aa) 0 hv ha j;rintro D U w hD aq az⟨⟨ab,aj,aa⟩,hv,ha,_,j⟩;obtain⟨O,rfl⟩:=hv.o1 4 aq;exact VY 3 a_ j Ah<|VQ (ab,aj,aa) 5 hv ha j;rintro D U w hD aq az⟨⟨ab,aj,aa⟩,hv,ha,_,j⟩;obtain⟨O,rfl⟩:=hv.o1 5 aq;exact VP 4 m_ j Co<|VQ (ab,aj,aa) 6 hv ha j;rintro D U w hD aq az⟨⟨ab,aj,aa⟩,hv,ha,_,j⟩;obtain⟨O,rfl⟩:=hv.o1 7 aq;have j:=((j.bY 0 hD).bY 1 hD).bY 2<|nh az hD 10;refine V2 P5 (nj N (p0:=cE<|(h_.length:Int)+(m_.length:Int)) j b9) ?_;rintro _ w⟨bp,ca,rfl,j⟩;exact VQ (bp,ca,aa) 8 hv ha ((((j.pl 16 [0,1,4,5,6,7,8,9,10,11,12,13,14,15] rfl).dF 0 true rfl bD).dF 1 true rfl bD).fV 2 (D 10) (nh az hD 10)<|bc 80 aa [vp bp 0]);rintro D U w hD aq az⟨⟨ab,aj,aa⟩,hv,ha,_,j⟩;obtain⟨O,rfl⟩:=N8 U;have j:=(j.bY 2<|nh az hD 10).bY 2 hD;refine Xz zr j Ur zr λbq w j=>?_;exact VQ (ab,aj,bq) 9 hv ha ((j.nw 2).fV 2 (D 10) (nh az hD 10)<|bc 80 bq [vp ab 0]);rintro D U w hD aq az⟨⟨ab,aj,aa⟩,hv,ha,_,j⟩;obtain⟨O,rfl⟩:=hv.o2 9 8 aq;have j:=((j.eB 0<|aq.2.1 rfl).bY 2 hD).eB 2<|aq.1 rfl;refine W0 2 (vp ab 0) j zr zr zr Mp λw j=>?_;exact WV (ab,aj,aa) hv ha ((j.dF 0 (D 8) (aq.2.1 rfl) bD).dF 2 true rfl (bif D 9 then bc 80 aa [(.pointer none)]else bD));rintro D U w a6⟨⟨ab,aj,aa⟩,hv,ha,_,j⟩;have j:=((j.eB 0<|tK a6 8).eB 1<|tK a6 8).eB 2<|tK a6 10;obtain⟨O,rfl⟩:=(ac (hv.at 9 rfl<|tK a6 9) ha).sV;refine aD<|w_<|Xc [vp ae 0,vp aa 0]<|dN (.func (.func 75) #[] #[vp ae 0,vp aa 0])<|IT<|w_<|mv (vp b0 0)<|Wg zt zr zr<|AT zr Fj<|VY 3 f_ j Og<|VP 7 x_ j Oh<|aO 0<|AS<|WT E V (λ(bf:aL Int)(br:aV)=>[bc 94 b0 [e_,i_,a_,d_,k_,b_,f_,p_,o_,l_,j_,g_],rd a_ m_,rd d_ v_,rd b_ h_,rd f_ x_,rd j_ C_,rd g_ B_,rd v1 p1,pt (vp ad 0) (h_.length:Int),bc 155 ae [ag],mp ag ao,bc 80 aa [vp ab 0],bc 124 ab [br],own 3 br bf]) (λ_ _=>[(0,vp b0 0),(1,v1),(6,(.func (.func 74) #[] #[vp ad 0])),(7,vp ae 0),(10,vp aa 0),(11,(.func (.func 75) #[] #[vp ae 0,vp aa 0]))]) (λau _ _=>[(5,vp ad 0),(59,f_),(60,vi x_.length),(61,vi au)]) o ?_ ?_ ?_;exact⟨aj,j.sp 14 (fR 3 11 [2,0,1])⟩;rintro hm au bf s' _ w hk⟨cb,O,rfl,j⟩o;refine IS<|VW<|aO (au:Int)<|q_ o λa7 cc o=>VO 4 j Ie cc λc9 j=>VS 0 a7 j gm λa8 j=>aJ (au:Int)<|dN a8<|IN<|mv a8<|VP 0 a7 j pd<|aO 0<|AS ?_;refine WT E V (λ(bg:aL Int)(bt:aV)=>[bc 94 b0 [e_,i_,a_,d_,k_,b_,f_,p_,o_,l_,j_,g_],rd a_ m_,rd d_ v_,rd b_ h_,rd f_ x_,rd j_ C_,rd g_ B_,rd v1 p1,pt (vp ad 0) (h_.length:Int),bc 155 ae [ag],mp ag ao,bc 80 aa [vp ab 0],bc 124 ab [bt],own 3 bt bg,rd a8 a7]) (λ_ _=>[(0,vp b0 0),(1,v1),(5,vp ad 0),(6,(.func (.func 74) #[] #[vp ad 0])),(7,vp ae 0),(10,vp aa 0),(11,(.func (.func 75) #[] #[vp ae 0,vp aa 0])),(59,f_),(60,vi x_.length),(61,vi au)]) (λbh _ _=>[(12,vi au),(66,a8),(67,vi a7.length),(68,vi bh)]) o ?_ ?_ ?_;exact⟨cb,j.sp 16 (fR 2 14 [0])⟩;rintro hm bh bg s' _ w hk⟨da,O,rfl,j⟩o;refine IS<|VW<|q_ o λa3 cd o=>VO 14 j fH cd λdb j=>Wd a3 0 j cV<|aJ a3<|AS<|BY<|mv (.func (.func 75) #[] #[vp ae 0,vp aa 0])<|aO a3<|Wd (h_.length:Int) 9 j cV<|aO (au:Int) ?_;refine OF (h_.length:Int) (au:Int) ?_;have j:=((((j.pull 14).pull 14).pull 14).pull 14).pull 14;refine q_ o λdc cf o=>W4 [vp ae 0,vp aa 0] SJ [vi a3,vi<|cE<|(h_.length:Int)+(au:Int)]<|eA (qL N (p0:=a3) (p1:=cE<|(h_.length:Int)+(au:Int)) j cf) ?_;rintro _ w⟨ch,rfl,j⟩;exact By<|bI<|aD<|BY<|Wa hk hm<|aO ((bh+1:Nat):Int)<|By<|oi o▸⟨rfl,ch,j.sp 21 (fR 6 9 [0,1,2,3,4,20])⟩;rintro bg _ w o⟨cj,O,rfl,j⟩;exact bI<|aD<|BY<|Wa hk hm<|aO ((au+1:Nat):Int)<|By<|oi o▸⟨rfl,cj,j.sp 15 (fR 0 14 [])⟩;rintro bf _ w o⟨ck,O,rfl,j⟩;refine aD<|IS<|w_<|mv v1<|VP 7 p1 j GU<|aO 0<|AS<|WT E V (λ(bj:aL Int)(bu:aV)=>[bc 94 b0 [e_,i_,a_,d_,k_,b_,f_,p_,o_,l_,j_,g_],rd a_ m_,rd d_ v_,rd b_ h_,rd f_ x_,rd j_ C_,rd g_ B_,pt (vp ad 0) (h_.length:Int),bc 155 ae [ag],mp ag ao,bc 80 aa [vp ab 0],bc 124 ab [bu],own 3 bu bj,rd v1 p1]) (λ_ _=>[(0,vp b0 0),(6,(.func (.func 74) #[] #[vp ad 0])),(7,vp ae 0),(10,vp aa 0)]) (λa9 _ _=>[(11,(.func (.func 75) #[] #[vp ae 0,vp aa 0])),(80,v1),(81,vi p1.length),(82,vi a9)]) o ?_ ?_ ?_;exact⟨ck,j.sp 14 (fR 0 7 (fR 8 6 [7]))⟩;rintro hm a9 bj s' _ w hk⟨cm,O,rfl,j⟩o;refine IS<|VW<|q_ o λa2 cn o=>VO 13 j GV cn λdd j=>VS 0 a2 j xN λde j=>V9 j Mo.z λdf w j=>?_;refine V5 0 j 1 zr xN λw j=>?_;refine IN<|AT zr t8<|VL 0 j zr pq BJ<|Wr a2.Open<|AS<|q_ o λbk hj o=>VR (λ(bk:aL Int)U w=>∃ba:aV,SH E V [(0,vp b0 0),(6,(.func (.func 74) #[] #[vp ad 0])),(7,vp ae 0),(10,vp aa 0),(11,(.func (.func 75) #[] #[vp ae 0,vp aa 0])),(80,v1),(81,vi p1.length),(82,vi a9)] [bc 94 b0 [e_,i_,a_,d_,k_,b_,f_,p_,o_,l_,j_,g_],rd a_ m_,rd d_ v_,rd b_ h_,rd f_ x_,rd j_ C_,rd g_ B_,pt (vp ad 0) (h_.length:Int),bc 155 ae [ag],mp ag ao,bc 80 aa [vp ab 0],bc 124 ab [ba],own 3 ba bk,rd v1 p1] U w) bk ?_ ?_;refine dM hj (λhj=>?_) λhj=>?_;refine BY<|mv (.func (.func 75) #[] #[vp ae 0,vp aa 0])<|AT zr BK<|VL 0 j zr wN cV<|AT zr BL<|VL 0 j zr wO cV ?_;have j:=((((j.pull 15).pull 15).pull 15).pull 15).pull 15;refine q_ hj λdg cp hj=>W4 [vp ae 0,vp aa 0] SJ [vi a2.A,vi a2.B]<|eA (qL N (p0:=a2.A) (p1:=a2.B) j cp) ?_;rintro _ w⟨cq,rfl,j⟩;exact By<|oi hj▸⟨rfl,cq,j.sp 22 (fR 8 8 [0,1,2,3,4,21])⟩;exact Wc<|oi hj▸⟨rfl,cm,j.sp 17 (fR 3 14 [])⟩;rintro _ w⟨ba,O,rfl,j⟩;exact bI<|aD<|BY<|Wa hk hm<|aO ((a9+1:Nat):Int)<|By<|oi o▸⟨rfl,ba,j.sp 14 (fR 0 14 [])⟩;rintro bj _ w o⟨cr,O,rfl,j⟩;refine aD<|w_<|Xh (κ:=Int) (ν:=Int) j λay w j=>dN ay<|IN<|mv (vp b0 0)<|Wg zt zr zr<|AT zr qz<|AT zr yf<|VY 1 d_ j Ib<|VP 3 v_ j GP ?_;refine q_ o λdh ct o=>Xq (v_.length:Int) j ze QJ ct λav w j=>?_;refine dN av<|IT<|w_<|mv (vp b0 0)<|Wg zt zr zr<|AT zr Ii<|VY 2 g_ j P8<|VP 8 B_ j Us<|aO 0<|AS<|WT E V (λ(ai:aL Int×aL (Int×Int)×aL Int)(bw:aV)=>[bc 94 b0 [e_,i_,a_,d_,k_,b_,f_,p_,o_,l_,j_,g_],rd a_ m_,rd d_ v_,rd b_ h_,rd f_ x_,rd j_ C_,rd g_ B_,pt (vp ad 0) (h_.length:Int),bc 155 ae [ag],mp ag ao,bc 80 aa [vp ab 0],bc 124 ab [bw],own 3 bw ai.1,mp ay ai.2.1,own 3 av ai.2.2]) (λ_ _=>[(0,vp b0 0),(19,av)]) (λak _ _=>[(6,(.func (.func 74) #[] #[vp ad 0])),(7,vp ae 0),(10,vp aa 0),(18,ay),(107,g_),(108,vi B_.length),(109,vi ak)]) o ?_ ?_ ?_;exact⟨cr,j.sp 16 (fR 2 13 [1,0])⟩;rintro hm ak ai s' _ w hk⟨bl,O,rfl,j⟩o;refine IS<|VW<|aO (ak:Int)<|q_ o λcu cv o=>VO 6 j Sf cv λdi j=>VS 0 cu j qI λdj j=>V9 j Jx.z λdk w j=>?_;refine aJ (ak:Int)<|V5 0 j 1 zr qI λw j=>?_;refine IN<|mv (.func (.func 74) #[] #[vp ad 0])<|V1 0 j zr qI λcw j=>?_;refine q_ o λar cx o=>W4 [vp ad 0] SI [cw]<|eA (qK N (i0:=0) (i1:=11) j zr zr cx) ?_;rintro _ w⟨rfl,j⟩;refine aJ ar<|IT<|IS<|q_ o λbm hj o=>VR (λ(bm:Bool)=>SH E V [(0,vp b0 0),(6,(.func (.func 74) #[] #[vp ad 0])),(7,vp ae 0),(10,vp aa 0),(18,ay),(19,av),(20,vi ak),(22,vi ar),(107,g_),(108,vi B_.length),(109,vi ak),(129,vb bm)] [bc 94 b0 [e_,i_,a_,d_,k_,b_,f_,p_,o_,l_,j_,g_],rd a_ m_,rd d_ v_,rd b_ h_,rd f_ x_,rd j_ C_,rd g_ B_,pt (vp ad 0) (h_.length:Int),bc 155 ae [ag],mp ag ao,bc 80 aa [vp ab 0],bc 124 ab [bl],own 3 bl ai.1,mp ay ai.2.1,own 3 av ai.2.2]) bm ?_ ?_;refine BY<|mv (vp b0 0)<|Wg zt zr zr<|AT zr Ih<|VY 4 j_ j gm<|aO (ak:Int)<|q_ hj λbn cy hj=>VO 9 j fH cy λdm j=>Wd bn 0 j cV<|ic bn 0<|fY (jP<|bn<0)<|fx hj (λa0 hj=>?_) λa0 hj=>?_;exact bH a0<|bH a0<|bH a0<|fw a0 (vb true)<|By<|oi hj▸⟨rfl,j.sp 20 (fR 5 15 [])⟩;refine VY 13 ag j GW<|VK (vi ar) (cg a0)<|Xe 14 ar (cg a0) j zr JE<|fw a0 (vb<|dE ao ar (false:Bool))<|By ?_;obtain rfl:=oi hj;exact ⟨rfl,j.sp 20 (fR 5 15 [])⟩;rintro _ w⟨O,rfl,j⟩;refine aD<|dM o (λo=>?_) λo=>?_;refine w_<|mv av<|aO (ak:Int)<|q_ o λdn bx o=>VX 14 j zr zr fH bx ?_;have j:=j.sc Int<|-1;refine WQ 15 0 j bx cV λw j=>?_;exact AS<|Wp<|BU<|aD<|BY<|Wa hk hm<|aO ((ak+1:Nat):Int)<|By<|oi o▸⟨rfl,bl,j.sp 16 (fR 1 15 [])⟩;refine We<|w_<|mv ay<|VY 10 (vp ab 0) j Mp<|aO ar ?_;have j:=(j.pull 12).pull 12;refine q_ o λa1 cz o=>V2 GS (fy N (p1:=ar) j cz) ?_;rintro _ w⟨c0,rfl,j⟩;refine XD 15 a1.1 zr j zr zr zr AY<|mv (.tuple #[vi<|dE ai.2.1 a1.1 (0:Int),vb<|iD ai.2.1 a1.1])<|V6 (vi<|dE ai.2.1 a1.1 (0:Int))<|V6 (vb<|iD ai.2.1 a1.1)<|aJ (dE ai.2.1 a1.1 (0:Int))<|bV (iD ai.2.1 a1.1)<|IN<|fY (iD ai.2.1 a1.1)<|Wr (iD ai.2.1 a1.1) ?_;refine AS<|q_ o λa4 hj o=>VR (λ(a4:aL Int×aL (Int×Int))U w=>∃bo:aV,SH E V [(0,vp b0 0),(6,(.func (.func 74) #[] #[vp ad 0])),(7,vp ae 0),(10,vp aa 0),(18,ay),(19,av),(20,vi ak),(22,vi ar),(107,g_),(108,vi B_.length),(109,vi ak)] [bc 94 b0 [e_,i_,a_,d_,k_,b_,f_,p_,o_,l_,j_,g_],rd a_ m_,rd d_ v_,rd b_ h_,rd f_ x_,rd j_ C_,rd g_ B_,pt (vp ad 0) (h_.length:Int),bc 155 ae [ag],mp ag ao,bc 80 aa [vp ab 0],bc 124 ab [bo],own 3 bo a4.1,mp ay a4.2,own 3 av ai.2.2] U w) a4 ?_ ?_;refine dM hj (λhj=>?_) λhj=>?_;refine BY<|mv ay<|VY 12 (vp ab 0) j Mp<|aO ar ?_;have j:=(j.pull 1).pull 1;refine q_ hj λc1 c2 hj=>V2 GS (fy N (p1:=ar) j c2) ?_;rintro _ w⟨c3,rfl,j⟩;refine aO (ak:Int) ?_;have j:=j.sc Int (ak:Int);exact Xi 18 0 c1.1 j zr zr zr zr AY λw j=>By<|oi hj▸⟨rfl,c3,j.sp 20 (fR 5 11 [1,2,18,19])⟩;exact Wc<|oi hj▸⟨rfl,c0,j.sp 17 (fR 2 11 [0,1,15,16])⟩;rintro _ w⟨bo,O,rfl,j⟩;refine aD<|BY<|mv av<|aO (ak:Int)<|mv ay<|VY 10 (vp ab 0) j Mp<|aO ar ?_;have j:=(j.pull 12).pull 12;refine q_ o λbz c4 o=>V2 GS (fy N (p1:=ar) j c4) ?_;rintro _ w⟨c5,rfl,j⟩;refine Xe 15 bz.1 zt j zr AY<|q_ o λdp b2 o=>VX 16 j zr zr fH b2 ?_;have j:=j.sc Int<|dE a4.2 bz.1 (0:Int);refine WQ 17 0 j b2 cV λw j=>?_;exact By<|bI<|aD<|BY<|Wa hk hm<|aO ((ak+1:Nat):Int)<|By<|oi o▸⟨rfl,c5,j.sp 18 (fR 3 11 [1,2,16,17])⟩;rintro ai _ w o⟨dq,O,rfl,j⟩;refine aD<|w_<|mv av<|dN av<|AS<|VN ?_;obtain rfl:=oi o;exact bT<|j.pk 15 [14,0]
end Go.Gk
namespace Go.Gk
open Go IntKind Go.Proofs
variable (N:Nat){E w:aW}{i0 i1 i2 i3:Nat}{p3 res:Int}{v0 v1 v2 v3:aV}{V:aL HP}
def zz(E:aW)(V:aL HP)(res:Bool×Int)(v:aV)(w:aW):Prop:=v = .tuple #[vb res.1,vi res.2]/\Holds E w V
theorem yq{p0:iE}{p1:aL mn}{p2 p3:bZ}{res:Bool×Int}(j:Holds E w V)(h0:fC V i0 v0 p0)(h1:fC V i1 v1 p1)(h2:fC V i2 v2 p2)(h3:fC V i3 v3 p3)(o:ju N p0 p1 p2 p3=some res):
    c_ 17 [v0,v1,v2,v3] w<|zz E V res:=by
 unfold ju at o
 refine enter Tryz.func17 zr zr ?_
 have j:=(((j.dup (i0+0) h0).dup (i1+1) h1).dup (i2+2) h2).dup (i3+3) h3
 refine w_<|V7 3 v0 j zr λa0 w j=>?_
 have j:=j.fM (i:=0) rfl
 refine V7 2 v2 j zr λa1 w j=>?_
 have j:=j.fM (i:=0) rfl
 refine V7 2 v3 j zr λa2 w j=>?_
 have j:=j.fM (i:=0) rfl
 refine bV false<|aJ 0<|IN<|VS 2 p0 j pw λa3 j=>?_
 obtain⟨ab,av,o⟩:=bd o
 refine V2 P9 (rO N (i0:=0) j zr av) ?_
 rintro _ w hK51
 rcases ai:ab.1 with _|a4
 ·replace o:=Gv ai o
  obtain⟨rfl,j⟩:=AU ai hK51
  refine mv (.tuple #[(.pointer none),vi ab.2])<|V6 (.pointer none)<|V6 (vi ab.2)<|dN (.pointer none)<|aJ ab.2<|IT<|w_<|aO ab.2<|ic ab.2 0 ?_
  refine AS<|dM o (λo=>?_) λo=>?_
  rotate_left
  ·cases o
  refine w_<|aO ab.2<|bV false<|aJ ab.2<|AS<|V4 ?_
  obtain rfl:=oi o
  exact ik ⟨rfl,j.drop 8⟩
 replace o:=Gw ai o
 obtain⟨af,a5,a6,a7,a8,a9,ba,bb,bc,bf,bg,bh,bj,rfl,j⟩:=AV ai hK51
 refine mv (.tuple #[vp af 0,vi ab.2])<|V6 (vp af 0)<|V6 (vi ab.2)<|dN (vp af 0)<|aJ ab.2<|IT<|w_<|aO ab.2<|ic ab.2 0 ?_
 refine AS<|dM o (λo=>?_) λo=>?_
 ·refine w_<|aO ab.2<|bV false<|aJ ab.2<|AS<|V4 ?_
  obtain rfl:=oi o
  exact ik ⟨rfl,j.drop 21⟩
 refine We<|w_<|mv (vp af 0)<|mv v1 ?_
 have j:=((((((((((((j.freeze 5).freeze 8).freeze 11).freeze 12).dup 12 rfl).dup 12 rfl).dup 12 rfl).dup 12 rfl).dup 12 rfl).dup 12 rfl).dup 12 rfl).dup 12 rfl).dup 12 rfl
 have j:=(((j.dup 12 rfl).dup 12 rfl).dup 12 rfl).pull 12
 obtain⟨ag,aw,o⟩:=bd o
 refine VM (gr Tryz.func40) (xC N (i1:=19) j zr aw) λw j=>aJ ag<|IN<|aO ag<|ic ag 0<|AS<|dM o (λo=>?_) λo=>?_
 ·refine w_<|aO ag<|bV false<|aJ ag<|AS<|V4 ?_
  obtain rfl:=oi o
  exact ik ⟨rfl,j.drop 22⟩
 refine We<|WA mixed (ix 8 211200) [0,1,3,4,2,5,6,7] ?_
 have j:=j.drew
 refine VU zr zr<|VS 17 p0 j pw λbk j=>bF zr<|VS 17 p2 j iv λbl j=>VZ<|W6 p0 19 zr j pw λbm a56 bn j=>W6 p3 19 zr j iv λbo a59 bp j=>Wq zr zr ?_
 obtain⟨ae,ax,o⟩:=bd o
 refine VM Ij (iQ N (i0:=5) (i1:=4) j zr zr ax) λw j=>Wj (⟨⟨zt,j.kP 2⟩,j.kP 0⟩)<|Wq zr zr ?_
 obtain⟨ah,ay,o⟩:=bd o
 refine VM Ij (iQ N (i0:=3) (i1:=1) j zr zr ay) λw j=>Wj (⟨⟨zt,j.kP 2⟩,j.kP 0⟩)<|VU zr zr<|aJ ae<|bF zr<|aJ ah<|VZ ?_
 have j:=j.pl 28 [1,3,4,5,6,7,8,9,10,11,12,13,14,15,16,17,18,19,20,21,22,23,24,25,26,27] rfl
 refine Wi<|aD<|IS<|w_<|aO ae<|ic ae 0<|fY (jP<|ae<0)<|Wb (vi ah) zr zr tR<|Wb (vb<|ah<0) zr zr (u9 .lss) ?_
 refine Wl (b:=jP<|ae<0) (v:=vb<|jP (ae<0)||jP (ah<0)) zt zr zr (sU true)<|AS<|dM o (λo=>?_) λo=>?_
 ·refine w_<|bV false<|aJ 9<|AS<|V4 ?_
  obtain rfl:=oi o
  exact ik ⟨rfl,j.drop 26⟩
 refine Ww<|mv (vp af 0)<|mv v1 ?_
 have j:=((((((j.dup 17 rfl).dup 17 rfl).dup 14 rfl).dup 14 rfl).dup 13 rfl).dup 13 rfl).pull 10
 obtain⟨bq,az,o⟩:=bd o
 refine V2 (gr Tryz.func41) (As N (i1:=24) j zr az) λaj w j=>dN aj<|IT ?_
 obtain⟨ak,hj,o⟩:=bd o
 refine VR (λ(ak:Bool)=>SH E V [(8,vb ak),(9,vi 0)] []) ak ?_ ?_
 ·refine WD mixed ?_
  have j:=j.drew
  refine WC<|mv aj<|AI<|aO ae<|AI ?_
  obtain⟨ao,aq,hj⟩:=bd hj
  refine VX 0 j zr zr fH aq<|AI<|W2 0 j aq cV<|AI<|ic ao 0<|AI<|fY (jP<|ao>=0)<|fx hj (λaa hj=>?_) λaa hj=>?_
  rotate_left
  ·refine AI<|bH aa<|AI<|bH aa<|AI<|bH aa<|AI<|bH aa<|AI ?_
   refine bH aa<|AI<|bH aa<|AI<|bH aa<|AI<|bH aa<|AI<|bH aa ?_
   refine AI<|fw aa (vb false)<|AI<|bV false<|AI<|aJ 0<|Wt ?_
   obtain rfl:=oi hj
   exact⟨rfl,j.sp 28 []⟩
  refine AI<|VK aj (cg aa)<|AI<|VK (vi ae) (cg aa)<|AI ?_
  obtain⟨al,ar,hj⟩:=bd hj
  refine VX 0 j zr zr fH ar<|AI<|W2 (hg:=cg aa) 0 j ar cV<|AI<|VK aj (cg aa)<|AI<|VK (vi ah) (cg aa)<|AI ?_
  obtain⟨an,au,hj⟩:=bd hj
  refine VX 0 j zr zr fH au<|AI<|W2 (hg:=cg aa) 0 j au cV<|AI<|Ws al an (cg aa)<|AI<|fw aa (vb<|al==an)<|AI<|bV (al==an) ?_
  refine AI<|aJ 0<|Wt ?_
  obtain rfl:=oi hj
  exact⟨rfl,j.sp 28 []⟩
 rintro _ w⟨O,rfl,j⟩
 refine aD<|VN ?_
 obtain rfl:=oi o
 exact ik ⟨rfl,j.drop 0⟩
theorem n9{res:Bool}(j:Holds E w V)(hb:gW N=some res):c_ 5 [] w<|bE E V res:=by
 unfold gW at hb;refine enter Tryz.func5 zr zr<|w_<|bV false<|IN ?_;have j:=(j.sc Int 1).sc Int 1;refine WN (⟨0,0,1,1⟩:aK) trivial rfl j [(2,vi 1),(3,vi 1)] rfl Ia rfl (λM hs g=>by have h:=vz M;exact cI.cons (f:=λ(x:aK)y=>{x with X1:=y}) h re (g.sat 1 _ rfl).1 λ_ h=>cI.cons (f:=λ(x:aK)y=>{x with Y1:=y}) h sZ (g.sat 0 _ rfl).1 λ_ h=>cI.nil h) λae j=>?_;refine Wv ([(⟨0,0,1,1⟩:aK)]:aL aK) j [ae] mD px (λ_ _=>jn) λaf w j=>?_;have j:=j.freeze 0;refine Wv ([([(⟨0,0,1,1⟩:aK)]:aL aK)]:aL (aL aK)) j [af] H9 RZ (λ_ _=>jn) λad w j=>?_;have j:=(j.sc cN ⟨[97]⟩).sc cN ⟨[49]⟩;refine WN (⟨⟨[97]⟩,⟨[49]⟩,0,⟨0,0⟩⟩:cW) trivial rfl j [(0,str ⟨[97]⟩),(1,str ⟨[49]⟩)] rfl Um rfl (λM hs g=>by have h:=PT M;exact cI.cons (f:=λ(x:cW)y=>{x with Part:=y}) h Kq (g.sat 1 _ rfl).1 λ_ h=>cI.cons (f:=λ(x:cW)y=>{x with bZ:=y}) h Kr (g.sat 0 _ rfl).1 λ_ h=>cI.nil h) λag j=>?_;refine Wv ([(⟨⟨[97]⟩,⟨[49]⟩,0,⟨0,0⟩⟩:cW)]:aL cW) j [ag] Bi GQ (λ_ _=>jn) λaa w j=>Yf (zs:=[n_,n_,n_,n_]) (cs:=[ad,n_,n_,aa]) zt zr [(0,ad),(3,aa)] zr Un ⟨km 4 j,km 0 j,zt⟩ zr<|V9 j Uo.z λai w j=>?_;have j:=((((j.freeze 5).sF aK).sF cL).freeze 3).LN (cs:=[ad,n_,n_,aa]) (x:=(⟨([([(⟨0,0,1,1⟩:aK)]:aL aK)]:aL (aL aK)),([]:aL aK),([]:aL cL),([(⟨⟨[97]⟩,⟨[49]⟩,0,⟨0,0⟩⟩:cW)]:aL cW)⟩:iE)) (λM hs g=>⟨[ad],[n_,n_,aa],rfl,vh (g.sat 7 _ rfl).1,⟨[n_],[n_,aa],rfl,vh (g.sat 1 _ rfl).1,⟨[n_],[aa],rfl,vh (g.sat 0 _ rfl).1,vh (g.sat 3 _ rfl).1⟩⟩⟩) rfl;refine V5 3 j 0 zr pw λw j=>?_;refine IN<|V1 3 j zr pw λaj j=>?_;have j:=(j.sc cN ⟨[97]⟩).sc cN ⟨[49]⟩;refine WN (⟨⟨[97]⟩,⟨[49]⟩⟩:bZ) trivial rfl j [(0,str ⟨[97]⟩),(1,str ⟨[49]⟩)] rfl Md rfl (λM hs g=>by have h:=AX M;exact cI.cons (f:=λ(x:bZ)y=>{x with Part:=y}) h vr (g.sat 1 _ rfl).1 λ_ h=>cI.cons (f:=λ(x:bZ)y=>{x with bZ:=y}) h vt (g.sat 0 _ rfl).1 λ_ h=>cI.nil h) λak j=>?_;have j:=(j.sc cN ⟨[97]⟩).sc cN ⟨[49]⟩;refine WN (⟨⟨[97]⟩,⟨[49]⟩⟩:bZ) trivial rfl j [(0,str ⟨[97]⟩),(1,str ⟨[49]⟩)] rfl Md rfl (λM hs g=>by have h:=AX M;exact cI.cons (f:=λ(x:bZ)y=>{x with Part:=y}) h vr (g.sat 1 _ rfl).1 λ_ h=>cI.cons (f:=λ(x:bZ)y=>{x with bZ:=y}) h vt (g.sat 0 _ rfl).1 λ_ h=>cI.nil h) λal j=>?_;have j:=j.sF mn;refine q_ hb λo ah hb=>VM (gr Tryz.func17) (yq N (i0:=7) (i1:=0) (i2:=4) (i3:=1) j zr zr zr zr ah) λw j=>mv (.tuple #[vb o.1,vi o.2])<|V6 (vb o.1)<|V6 (vi o.2)<|bV o.1<|aJ o.2<|IN<|aO o.2<|ic o.2 0<|fY (o.2==0)<|Wb (vb o.1) zr zr tR<|Wl (b:=o.2==0) (v:=vb<|(o.2==0)&&o.1) zt zr zr (kc true)<|bV ((o.2==0)&&o.1)<|AS<|VN ?_;exact oi hb▸bT ⟨rfl,j.drop 21⟩
theorem CE{p0:aL aY}{p1:cB}{p2:iE}{res:aL Test×Int}(j:Holds E w V)(h0:fC V i0 v0 p0)(h1:fC V i1 v1 p1)(h2:fC V i2 v2 p2)(o:pV N p0 p1 p2=some res):
    c_ 6 [v0,v1,v2] w<|t9 E V res:=by
 unfold pV at o
 refine enter Tryz.func6 zr zr ?_
 have j:=((j.dup (i0+0) h0).dup (i1+1) h1).dup (i2+2) h2
 refine w_<|V7 1 v1 j zr λao w j=>?_
 refine V7 1 v2 j zr λaq w j=>?_
 refine dN n_<|aJ 0<|IT<|w_<|mv v0<|V1 1 j zr ye λar j=>V1 1 j zr pw λau j=>?_
 obtain⟨aa,ai,o⟩:=bd o
 refine V2 Sg (rP N (i0:=6) (i1:=1) (i2:=0) j zr zr zr ai) ?_
 rintro _ w hK51
 rcases ab:aa.1 with _|av
 ·replace o:=Gv ab o
  obtain⟨rfl,j⟩:=AU ab hK51
  refine mv (.tuple #[(.pointer none),vi aa.2])<|V6 (.pointer none)<|V6 (vi aa.2)<|dN (.pointer none)<|aJ aa.2<|IN<|aO aa.2<|ic aa.2 0<|AS ?_
  refine dM o (λo=>?_) λo=>?_
  ·refine w_<|aO aa.2<|dN n_<|aJ aa.2<|AS<|V4 ?_
   obtain rfl:=oi o
   have j:=j.sF Test
   exact ik ⟨n_,zr,j.pk 8 [0]⟩
  refine Ww<|V1 3 j zr ye λaw j=>V1 3 j zr pw λax j=>?_
  obtain⟨ay,aj,o⟩:=bd o
  refine V2 Qb (rQ N (i0:=1) (i1:=0) j zr zr aj) λaz w j=>?_
  have j:=j.freeze 0
  obtain⟨ag,ak,o⟩:=bd o
  refine V2 On (sP N (i0:=0) j zr ak) ?_
  rintro _ w⟨ad,rfl,j⟩
  refine V6 ad<|V6 (vi ag.2)<|dN ad<|aJ ag.2<|AS<|VN ?_
  obtain rfl:=oi o
  exact ik ⟨ad,zr,j.pk 11 [0]⟩
 replace o:=Gw ab o
 obtain⟨ae,a0,a1,a2,a3,a4,a5,a6,a7,a8,a9,ba,bb,rfl,j⟩:=AV ab hK51
 refine mv (.tuple #[vp ae 0,vi aa.2])<|V6 (vp ae 0)<|V6 (vi aa.2)<|dN (vp ae 0)<|aJ aa.2<|IN<|aO aa.2<|ic aa.2 0<|AS ?_
 refine dM o (λo=>?_) λo=>?_
 ·refine w_<|aO aa.2<|dN n_<|aJ aa.2<|AS<|V4 ?_
  obtain rfl:=oi o
  have j:=j.sF Test
  exact ik ⟨n_,zr,j.pk 21 [0]⟩
 refine Ww<|V1 16 j zr ye λbc j=>V1 16 j zr pw λbf j=>?_
 obtain⟨bg,al,o⟩:=bd o
 refine V2 Qb (rQ N (i0:=1) (i1:=0) j zr zr al) λbh w j=>?_
 have j:=j.freeze 0
 obtain⟨ah,an,o⟩:=bd o
 refine V2 On (sP N (i0:=0) j zr an) ?_
 rintro _ w⟨af,rfl,j⟩
 refine V6 af<|V6 (vi ah.2)<|dN af<|aJ ah.2<|AS<|VN ?_
 obtain rfl:=oi o
 exact ik ⟨af,zr,j.pk 24 [0]⟩
theorem Bs{p0:aL aY}{p1:cB}{p2:iE}{res:aL Test×Int}(j:Holds E w V)(h0:fC V i0 v0 p0)(h1:fC V i1 v1 p1)(h2:fC V i2 v2 p2)(o:oI N p0 p1 p2 p3=some res):
    c_ 7 [v0,v1,v2,vi p3] w<|t9 E V res:=by
 unfold oI at o
 refine enter Tryz.func7 zr zr ?_
 have j:=((j.dup (i0+0) h0).dup (i1+1) h1).dup (i2+2) h2
 refine w_<|V7 1 v1 j zr λaj w j=>?_
 refine V7 1 v2 j zr λak w j=>?_
 refine dN n_<|aJ 0<|IN<|mv v0<|V1 1 j zr ye λal j=>V1 1 j zr pw λan j=>aO p3 ?_
 obtain⟨aa,ag,o⟩:=bd o
 refine V2 Sh (sm N (p3:=p3) (i0:=6) (i1:=1) (i2:=0) j zr zr zr ag) ?_
 rintro _ w hK51
 rcases ab:aa.1 with _|ao
 ·replace o:=Gv ab o
  obtain⟨rfl,j⟩:=AU ab hK51
  refine mv (.tuple #[(.pointer none),vi aa.2])<|V6 (.pointer none)<|V6 (vi aa.2)<|dN (.pointer none)<|aJ aa.2<|IT<|w_<|aO aa.2<|ic aa.2 0 ?_
  refine AS<|dM o (λo=>?_) λo=>?_
  rotate_left
  ·cases o
  refine w_<|aO aa.2<|dN n_<|aJ aa.2<|AS<|V4 ?_
  obtain rfl:=oi o
  have j:=j.sF Test
  exact ik ⟨n_,zr,j.pk 8 [0]⟩
 replace o:=Gw ab o
 obtain⟨ad,aq,ar,au,av,aw,ax,ay,az,a0,a1,a2,a3,rfl,j⟩:=AV ab hK51
 refine mv (.tuple #[vp ad 0,vi aa.2])<|V6 (vp ad 0)<|V6 (vi aa.2)<|dN (vp ad 0)<|aJ aa.2<|IT<|w_<|aO aa.2<|ic aa.2 0 ?_
 refine AS<|dM o (λo=>?_) λo=>?_
 ·refine w_<|aO aa.2<|dN n_<|aJ aa.2<|AS<|V4 ?_
  obtain rfl:=oi o
  have j:=j.sF Test
  exact ik ⟨n_,zr,j.pk 21 [0]⟩
 refine Ww<|V1 16 j zr ye λa4 j=>mv (vp ad 0)<|aO p3 ?_
 have j:=((((j.freeze 9).dup 10 rfl).dup 10 rfl).dup 9 rfl).pull 4
 obtain⟨a5,ah,o⟩:=bd o
 refine V2 SC (Bn N (p2:=p3) (i0:=0) j zr ah) λa6 w j=>?_
 have j:=j.freeze 0
 obtain⟨af,ai,o⟩:=bd o
 refine V2 On (sP N (i0:=0) j zr ai) ?_
 rintro _ w⟨ae,rfl,j⟩
 refine V6 ae<|V6 (vi af.2)<|dN ae<|aJ af.2<|AS<|VN ?_
 obtain rfl:=oi o
 exact ik ⟨ae,zr,j.pk 24 [0]⟩
theorem v8{p0:aL Test}{p1:Test}(j:Holds E w V)(h0:fC V i0 v0 p0)(h1:fC V i1 v1 p1)(o:oJ N p0 p1=some res):c_ 19 [v0,v1] w<|aG E V res:=by
 unfold oJ at o;refine enter Tryz.func19 zr zr ?_;have j:=(j.dup (i0+0) h0).dup (i1+1) h1;refine w_<|V7 0 v1 j zr λab w j=>?_;refine aJ 0<|IT<|w_<|mv v0<|VP 2 p0 j uK<|aO 0<|AS<|WJ E V (λ(ad:Unit)=>[rd v0 p0,bx 43 ab p1]) (λ_=>[]) (λaa _=>[(0,v0),(3,vp ab 0),(7,vi p0.length),(8,vi aa)]) (λr=>ml aX 19 Tryz.f19 (aG E V r) .ret) o ?_ ?_ ?_ ?_;exact j.sp 3 [2,0];rintro hm aa ad fl _ w hk⟨O,rfl,j⟩o;refine IS<|VW<|aO (aa:Int)<|aJ (aa:Int)<|IT<|WD mixed ?_;have j:=j.drew;refine WC<|V1 1 j zr pA λak j=>AI<|mv v0<|AI<|aO (aa:Int)<|AI<|q_ o λae ah o=>VO 1 j xm ah λal j=>AI<|VS 0 ae j pA λan j=>AI<|Yb 2 0 p1 ae zt zr j zr zr zr zr SK zr<|Wt<|aD<|dM o (λo=>?_) λo=>?_;exact w_<|aO (aa:Int)<|aJ (aa:Int)<|AS<|Wm<|bJ<|oi o▸⟨rfl,bT ⟨rfl,j.drop 5⟩⟩;exact Wc<|bI<|aD<|BY<|Wa hk hm<|aO ((aa+1:Nat):Int)<|By<|oi o▸⟨rfl,j.sp 5 [3,4]⟩;intro r U w o hK;exact bJ<|oi o▸hK;rintro ad _ w o⟨O,rfl,j⟩;exact aD<|w_<|aJ (-1)<|AS<|VN<|oi o▸bT ⟨rfl,j.drop 2⟩
theorem oc{p0:aL Test}{p1:Test}{res:Bool}(j:Holds E w V)(h0:fC V i0 v0 p0)(h1:fC V i1 v1 p1)(o:gX N p0 p1=some res):c_ 8 [v0,v1] w<|bE E V res:=by
 unfold gX at o;refine enter Tryz.func8 zr zr ?_;have j:=(j.dup (i0+0) h0).dup (i1+1) h1;refine w_<|V7 0 v1 j zr λad w j=>?_;refine bV false<|IN<|mv v0<|V1 0 j zr pA λae j=>?_;refine q_ o λaa ab o=>VM (gr Tryz.func19) (v8 N (i0:=3) (i1:=0) j zr zr ab) λw j=>ic aa 0<|bV (jP<|aa>=0)<|AS<|VN ?_;exact oi o▸bT ⟨rfl,j.drop 4⟩
def zA(E:aW)(V:aL HP)(r:aU (aL (aL aK)×aL aK×aL cL×aL cW×aL (aL aB)×aL aI×aL (aL Int)×aL bM×aL Int×aL Int×aL Int×aL fN)×Int)(U:Nat->aV)(w:aW):Prop:=ml aX 63 Tryz.f20 (lY E V r) .ret U w
theorem DJ{p0:iE}{p1:aL Test}{res:aU (aL (aL aK)×aL aK×aL cL×aL cW×aL (aL aB)×aL aI×aL (aL Int)×aL bM×aL Int×aL Int×aL Int×aL fN)×Int}(j:Holds E w V)(h0:fC V i0 v0 p0)(h1:fC V i1 v1 p1)(o:nU N p0 p1=some res):
    c_ 20 [v0,v1] w<|lY E V res:=by
 unfold nU at o
 refine enter Tryz.func20 zr zr ?_
 have j:=(j.dup (i0+0) h0).dup (i1+1) h1
 refine w_<|V7 1 v0 j zr λak w j=>?_
 refine dN (.pointer none)<|aJ 0<|IN<|V1 0 j zr pw λcd j=>?_
 obtain⟨af,bt,o⟩:=bd o
 refine V2 P9 (rO N (i0:=0) j zr bt) ?_
 rintro _ w hK49
 rcases a2:af.1 with _|ab
 ·replace o:=Gv a2 o
  obtain⟨rfl,j⟩:=AU a2 hK49
  refine mv (.tuple #[(.pointer none),vi af.2])<|V6 (.pointer none)<|V6 (vi af.2)<|dN (.pointer none)<|aJ af.2<|IT<|w_<|aO af.2<|ic af.2 0 ?_
  refine AS<|dM o (λo=>?_) λo=>?_
  ·refine w_<|aO af.2<|dN (.pointer none)<|aJ af.2<|AS<|V4 ?_
   obtain rfl:=oi o
   exact ik ⟨rfl,j.drop 4⟩
  refine We<|w_<|mv v1<|VP 2 p1 j uK<|ic ((p1.length:Int)) 2000<|AS<|dM o (λo=>?_) λo=>?_
  ·refine w_<|dN (.pointer none)<|aJ 2<|AS<|V4 ?_
   obtain rfl:=oi o
   exact ik ⟨rfl,j.drop 4⟩
  refine We<|w_<|mv v1<|VP 2 p1 j uK<|aO 0<|AS<|WJ E V (λ(bh:Unit)=>[rd v1 p1,bx 32 ak p0]) (λ_=>[(6,(.pointer none))]) (λag _=>[(1,v1),(2,vp ak 0),(21,v1),(22,vi p1.length),(23,vi ag)]) (zA E V) o ?_ ?_ ?_ ?_
  ·exact j.sp 4 [2,1]
  ·rintro hm ag bh fl _ w hk⟨O,rfl,j⟩o
   refine IS<|VW<|aO (ag:Int) ?_
   obtain⟨bj,bw,o⟩:=bd o
   refine VO 0 j xm bw λcf j=>VS 0 bj j pA λch j=>V9 j Im.z λbk w j=>?_
   refine aJ (ag:Int)<|V5 0 j 1 zr pA λw j=>?_
   refine AS<|WM<|IS ?_
   obtain⟨a5,hj,o⟩:=bd o
   refine VR (λ(a5:Bool)=>SH E V [(1,v1),(2,vp ak 0),(6,(.pointer none)),(8,vi ag),(9,vp bk 0),(21,v1),(22,vi p1.length),(23,vi ag),(28,vb a5)] [rd v1 p1,bx 32 ak p0,bx 43 bk bj]) a5 ?_ ?_
   ·refine BY<|V1 4 j zr pw λcj j=>AT zr qA<|Wh 1 j zr lW iv λck j=>?_
    obtain⟨bl,bz,hj⟩:=bd hj
    refine VM Ij (iQ N (i0:=1) (i1:=0) j zr zr bz) λw j=>ic bl 0<|fY (jP<|bl<0)<|fx hj (λah hj=>?_) λah hj=>?_
    ·refine bH ah<|bH ah<|bH ah<|bH ah<|bH ah<|fw ah (vb true)<|bV true<|By ?_
     obtain rfl:=oi hj
     exact⟨rfl,j.sp 7 [5,6,2]⟩
    refine V1 6 j zr pw λcm j=>AT zr qB<|Wh 3 j zr lX iv λcn j=>?_
    obtain⟨a6,b0,hj⟩:=bd hj
    refine VM Ij (iQ N (i0:=1) (i1:=0) j zr zr b0) λw j=>Ws a6 0 (cg ah)<|fw ah (vb<|a6<0)<|bV (jP<|a6<0)<|By ?_
    obtain rfl:=oi hj
    exact⟨rfl,j.sp 9 [7,8,4]⟩
   rintro _ w⟨O,rfl,j⟩
   refine aD<|dM o (λo=>?_) λo=>?_
   ·refine w_<|dN (.pointer none)<|aJ 9<|AS<|Wm<|fU<|bJ ?_
    obtain rfl:=oi o
    exact⟨rfl,ik ⟨rfl,j.drop 3⟩⟩
   refine w_<|AT zr qB<|Wh 2 j zr lX iv λcp j=>AT zr qA<|Wh 3 j zr lW iv λcq j=>?_
   obtain⟨bm,b2,o⟩:=bd o
   refine VM Fc (dX N (i0:=1) (i1:=0) j zr zr b2) λw j=>ic bm 0<|bV (jP<|bm<=0)<|AS<|dM o (λo=>?_) λo=>?_
   ·refine w_<|dN (.pointer none)<|aJ 8<|AS<|Wm<|fU<|bJ ?_
    obtain rfl:=oi o
    exact⟨rfl,ik ⟨rfl,j.drop 5⟩⟩
   refine IS ?_
   obtain⟨a7,hj,o⟩:=bd o
   refine VR (λ(a7:Bool)=>SH E V [(1,v1),(2,vp ak 0),(6,(.pointer none)),(21,v1),(22,vi p1.length),(23,vi ag),(48,vb a7)] [rd v1 p1,bx 32 ak p0]) a7 ?_ ?_
   ·refine WA mixed (ix 13 2000000000) (fR 0 13 []) ?_
    have j:=j.drew
    refine VU zr zr<|aO (ag:Int)<|bF zr<|ic ((ag:Int)) 0<|bF zr<|fY (jP<|(ag:Int)>0)<|VZ<|fx hj (λad hj=>?_) λad hj=>?_
    rotate_left
    ·refine VU zr zr<|bH ad<|bF zr<|bH ad<|bF zr<|bH ad<|bF zr<|bH ad<|bF zr ?_
     refine bH ad<|bF zr<|bH ad<|rW zr<|bH ad<|u7 zr<|bH ad<|bF zr<|fw ad (vb false) ?_
     refine bF zr<|bV false<|VZ<|Wi ?_
     obtain rfl:=oi hj
     exact⟨rfl,j.sp 5 [2,3]⟩
    refine VU zr zr<|V1 4 j zr pA λcr j=>bF zr<|VK v1 (cg ad)<|bF zr<|VK (vi ag) (cg ad)<|bF zr<|OF (ag:Int) 1<|bF zr ?_
    obtain⟨b3,b4,hj⟩:=bd hj
    refine VO 3 j xm b4 λct j=>bF zr<|VS 0 b3 j pA λcu j=>rW zr ?_
    obtain⟨a8,b5,hj⟩:=bd hj
    refine VM Io (fO N (i0:=2) (i1:=0) j zr zr b5) λw j=>u7 zr<|Ws a8 0 (cg ad)<|bF zr<|fw ad (vb<|a8<=0)<|bF zr<|bV (jP<|a8<=0)<|VZ<|Wi ?_
    obtain rfl:=oi hj
    exact⟨rfl,j.sp 8 [5,6]⟩
   rintro _ w⟨O,rfl,j⟩
   refine aD<|dM o (λo=>?_) λo=>?_
   rotate_left
   ·refine Wc<|bI<|bI<|aD<|BY<|Wa hk hm<|aO ((ag+1:Nat):Int)<|By ?_
    obtain rfl:=oi o
    exact⟨rfl,j.sp 2 [0,1]⟩
   refine w_<|dN (.pointer none)<|aJ 8<|AS<|Wm<|fU<|bJ ?_
   obtain rfl:=oi o
   exact⟨rfl,ik ⟨rfl,j.drop 2⟩⟩
  ·intro r U w o hK
   refine bJ ?_
   obtain rfl:=oi o
   exact hK
  rintro bh _ w o⟨O,rfl,j⟩
  refine aD<|w_<|mv (.pointer none)<|dN (.pointer none)<|aJ 0<|AS<|VN ?_
  obtain rfl:=oi o
  exact ik ⟨rfl,j.drop 2⟩
 replace o:=Gw a2 o
 obtain⟨al,an,ao,aq,ar,au,av,aw,ax,ay,az,a0,a1,rfl,j⟩:=AV a2 hK49
 refine mv (.tuple #[vp al 0,vi af.2])<|V6 (vp al 0)<|V6 (vi af.2)<|dN (vp al 0)<|aJ af.2<|IT<|w_<|aO af.2<|ic af.2 0 ?_
 refine AS<|dM o (λo=>?_) λo=>?_
 ·refine w_<|aO af.2<|dN (.pointer none)<|aJ af.2<|AS<|V4 ?_
  obtain rfl:=oi o
  exact ik ⟨rfl,j.drop 17⟩
 refine We<|w_<|mv v1<|VP 15 p1 j uK<|ic ((p1.length:Int)) 2000<|AS<|dM o (λo=>?_) λo=>?_
 ·refine w_<|dN (.pointer none)<|aJ 2<|AS<|V4 ?_
  obtain rfl:=oi o
  exact ik ⟨rfl,j.drop 17⟩
 refine We<|w_<|mv v1<|VP 15 p1 j uK<|aO 0<|AS<|WJ E V (λ(bn:Unit)=>[rd v1 p1,bx 32 ak p0,bc 94 al [an,ao,aq,ar,au,av,aw,ax,ay,az,a0,a1],rd an ab.1,rd ao ab.2.1,rd aq ab.2.2.1,rd ar ab.2.2.2.1,own 96 au ab.2.2.2.2.1,rd av ab.2.2.2.2.2.1,rd aw ab.2.2.2.2.2.2.1,own 104 ax ab.2.2.2.2.2.2.2.1,rd ay ab.2.2.2.2.2.2.2.2.1,rd az ab.2.2.2.2.2.2.2.2.2.1,own 3 a0 ab.2.2.2.2.2.2.2.2.2.2.1,own 150 a1 ab.2.2.2.2.2.2.2.2.2.2.2]) (λ_=>[(6,vp al 0)]) (λai _=>[(1,v1),(2,vp ak 0),(21,v1),(22,vi p1.length),(23,vi ai)]) (zA E V) o ?_ ?_ ?_ ?_
 ·exact j.sp 17 (15::14::fR 0 13 [])
 ·rintro hm ai bn fl _ w hk⟨O,rfl,j⟩o
  refine IS<|VW<|aO (ai:Int) ?_
  obtain⟨bo,b6,o⟩:=bd o
  refine VO 0 j xm b6 λcv j=>VS 0 bo j pA λcw j=>V9 j Im.z λbp w j=>?_
  refine aJ (ai:Int)<|V5 0 j 1 zr pA λw j=>?_
  refine AS<|WM<|IS ?_
  obtain⟨ba,hj,o⟩:=bd o
  refine VR (λ(ba:Bool)=>SH E V [(1,v1),(2,vp ak 0),(6,vp al 0),(8,vi ai),(9,vp bp 0),(21,v1),(22,vi p1.length),(23,vi ai),(28,vb ba)] [rd v1 p1,bx 32 ak p0,bc 94 al [an,ao,aq,ar,au,av,aw,ax,ay,az,a0,a1],rd an ab.1,rd ao ab.2.1,rd aq ab.2.2.1,rd ar ab.2.2.2.1,own 96 au ab.2.2.2.2.1,rd av ab.2.2.2.2.2.1,rd aw ab.2.2.2.2.2.2.1,own 104 ax ab.2.2.2.2.2.2.2.1,rd ay ab.2.2.2.2.2.2.2.2.1,rd az ab.2.2.2.2.2.2.2.2.2.1,own 3 a0 ab.2.2.2.2.2.2.2.2.2.2.1,own 150 a1 ab.2.2.2.2.2.2.2.2.2.2.2,bx 43 bp bo]) ba ?_ ?_
  ·refine BY<|V1 4 j zr pw λcx j=>AT zr qA<|Wh 1 j zr lW iv λcy j=>?_
   obtain⟨bq,b7,hj⟩:=bd hj
   refine VM Ij (iQ N (i0:=1) (i1:=0) j zr zr b7) λw j=>ic bq 0<|fY (jP<|bq<0)<|fx hj (λaj hj=>?_) λaj hj=>?_
   ·refine bH aj<|bH aj<|bH aj<|bH aj<|bH aj<|fw aj (vb true)<|bV true<|By ?_
    obtain rfl:=oi hj
    exact⟨rfl,j.sp 20 (fR 5 15 [2])⟩
   refine V1 6 j zr pw λcz j=>AT zr qB<|Wh 3 j zr lX iv λc0 j=>?_
   obtain⟨bb,b8,hj⟩:=bd hj
   refine VM Ij (iQ N (i0:=1) (i1:=0) j zr zr b8) λw j=>Ws bb 0 (cg aj)<|fw aj (vb<|bb<0)<|bV (jP<|bb<0)<|By ?_
   obtain rfl:=oi hj
   exact⟨rfl,j.sp 22 (fR 7 15 [4])⟩
  rintro _ w⟨O,rfl,j⟩
  refine aD<|dM o (λo=>?_) λo=>?_
  ·refine w_<|dN (.pointer none)<|aJ 9<|AS<|Wm<|fU<|bJ ?_
   obtain rfl:=oi o
   exact⟨rfl,ik ⟨rfl,j.drop 16⟩⟩
  refine w_<|AT zr qB<|Wh 15 j zr lX iv λc1 j=>AT zr qA<|Wh 16 j zr lW iv λc2 j=>?_
  obtain⟨br,b9,o⟩:=bd o
  refine VM Fc (dX N (i0:=1) (i1:=0) j zr zr b9) λw j=>ic br 0<|bV (jP<|br<=0)<|AS<|dM o (λo=>?_) λo=>?_
  ·refine w_<|dN (.pointer none)<|aJ 8<|AS<|Wm<|fU<|bJ ?_
   obtain rfl:=oi o
   exact⟨rfl,ik ⟨rfl,j.drop 18⟩⟩
  refine IS ?_
  obtain⟨bf,hj,o⟩:=bd o
  refine VR (λ(bf:Bool)=>SH E V [(1,v1),(2,vp ak 0),(6,vp al 0),(21,v1),(22,vi p1.length),(23,vi ai),(48,vb bf)] [rd v1 p1,bx 32 ak p0,bc 94 al [an,ao,aq,ar,au,av,aw,ax,ay,az,a0,a1],rd an ab.1,rd ao ab.2.1,rd aq ab.2.2.1,rd ar ab.2.2.2.1,own 96 au ab.2.2.2.2.1,rd av ab.2.2.2.2.2.1,rd aw ab.2.2.2.2.2.2.1,own 104 ax ab.2.2.2.2.2.2.2.1,rd ay ab.2.2.2.2.2.2.2.2.1,rd az ab.2.2.2.2.2.2.2.2.2.1,own 3 a0 ab.2.2.2.2.2.2.2.2.2.2.1,own 150 a1 ab.2.2.2.2.2.2.2.2.2.2.2]) bf ?_ ?_
  ·refine WA mixed (ix 13 2000000000) (fR 0 13 []) ?_
   have j:=j.drew
   refine VU zr zr<|aO (ai:Int)<|bF zr<|ic ((ai:Int)) 0<|bF zr<|fY (jP<|(ai:Int)>0)<|VZ<|fx hj (λae hj=>?_) λae hj=>?_
   rotate_left
   ·refine VU zr zr<|bH ae<|bF zr<|bH ae<|bF zr<|bH ae<|bF zr<|bH ae<|bF zr ?_
    refine bH ae<|bF zr<|bH ae<|rW zr<|bH ae<|u7 zr<|bH ae<|bF zr<|fw ae (vb false) ?_
    refine bF zr<|bV false<|VZ<|Wi ?_
    obtain rfl:=oi hj
    exact⟨rfl,j.sp 18 (fR 2 15 [])⟩
   refine VU zr zr<|V1 17 j zr pA λc3 j=>bF zr<|VK v1 (cg ae)<|bF zr<|VK (vi ai) (cg ae)<|bF zr<|OF (ai:Int) 1<|bF zr ?_
   obtain⟨ca,cb,hj⟩:=bd hj
   refine VO 3 j xm cb λc4 j=>bF zr<|VS 0 ca j pA λc5 j=>rW zr ?_
   obtain⟨bg,cc,hj⟩:=bd hj
   refine VM Io (fO N (i0:=2) (i1:=0) j zr zr cc) λw j=>u7 zr<|Ws bg 0 (cg ae)<|bF zr<|fw ae (vb<|bg<=0)<|bF zr<|bV (jP<|bg<=0)<|VZ<|Wi ?_
   obtain rfl:=oi hj
   exact⟨rfl,j.sp 21 (fR 5 15 [])⟩
  rintro _ w⟨O,rfl,j⟩
  refine aD<|dM o (λo=>?_) λo=>?_
  rotate_left
  ·refine Wc<|bI<|bI<|aD<|BY<|Wa hk hm<|aO ((ai+1:Nat):Int)<|By ?_
   obtain rfl:=oi o
   exact⟨rfl,j.sp 15 (fR 0 15 [])⟩
  refine w_<|dN (.pointer none)<|aJ 8<|AS<|Wm<|fU<|bJ ?_
  obtain rfl:=oi o
  exact⟨rfl,ik ⟨rfl,j.drop 15⟩⟩
 ·intro r U w o hK
  refine bJ ?_
  obtain rfl:=oi o
  exact hK
 rintro bn _ w o⟨O,rfl,j⟩
 refine aD<|w_<|mv (vp al 0)<|dN (vp al 0)<|aJ 0<|AS<|VN ?_
 obtain rfl:=oi o
 exact ik ⟨al,an,ao,aq,ar,au,av,aw,ax,ay,az,a0,a1,zr,j.pk 15 (fR 2 13 [])⟩
theorem xE{p0:iE}{p1:aL Test}(j:Holds E w V)(h0:fC V i0 v0 p0)(h1:fC V i1 v1 p1)(hb:jM N p0 p1=some res):
    c_ 9 [v0,v1] w<|aG E V res:=by
 unfold jM at hb
 refine enter Tryz.func9 zr zr ?_
 have j:=(j.dup (i0+0) h0).dup (i1+1) h1
 refine w_<|V7 1 v0 j zr λaf w j=>?_
 refine aJ 0<|IN<|V1 0 j zr pw λag j=>mv v1 ?_
 obtain⟨o,ae,hb⟩:=bd hb
 refine V2 (gr Tryz.func20) (DJ N (i0:=0) (i1:=2) j zr zr ae) ?_
 rintro _ w hK49
 rcases ab:o.1 with _|ah
 ·replace hb:=Gv ab hb
  obtain⟨rfl,j⟩:=AU ab hK49
  refine mv (.tuple #[(.pointer none),vi o.2])<|V6 (.pointer none)<|V6 (vi o.2)<|dN (.pointer none)<|aJ o.2<|IN<|aO o.2<|aJ o.2<|AS ?_
  refine VN ?_
  obtain rfl:=oi hb
  exact bT ⟨rfl,j.drop 4⟩
 replace hb:=Gw ab hb
 obtain⟨ad,ai,aj,ak,al,an,ao,aq,ar,au,av,aw,ax,rfl,j⟩:=AV ab hK49
 refine mv (.tuple #[vp ad 0,vi o.2])<|V6 (vp ad 0)<|V6 (vi o.2)<|dN (vp ad 0)<|aJ o.2<|IN<|aO o.2<|aJ o.2<|AS ?_
 refine VN ?_
 obtain rfl:=oi hb
 exact bT ⟨rfl,j.drop 17⟩
theorem nk{p0:aL aY}{p1:cB}{p2:iE}{res:Bool}(j:Holds E w V)(h0:fC V i0 v0 p0)(h1:fC V i1 v1 p1)(h2:fC V i2 v2 p2)(hb:dO N p0 p1 p2 p3=some res):c_ 3 [v0,v1,v2,vi p3] w<|bE E V res:=by
 unfold dO at hb;refine enter Tryz.func3 zr zr ?_;have j:=((j.dup (i0+0) h0).dup (i1+1) h1).dup (i2+2) h2;refine w_<|V7 1 v1 j zr λbj w j=>?_;refine V7 1 v2 j zr λal w j=>?_;refine bV false<|IN<|mv v0<|V1 1 j zr ye λbk j=>V1 1 j zr pw λbl j=>aO p3<|q_ hb λag a7 hb=>V2 (gr Tryz.func4) (Bp N (p3:=p3) (i0:=6) (i1:=1) (i2:=0) j zr zr zr a7) ?_;rintro _ w⟨ad,rfl,j⟩;refine mv (.tuple #[ad,vi ag.2])<|V6 ad<|V6 (vi ag.2)<|dN ad<|aJ ag.2<|IT<|w_<|aO ag.2<|ic ag.2 0<|AS<|dM hb (λhb=>?_) λhb=>?_;refine IS<|q_ hb λau o hb=>VR (λ(au:Bool)=>SH E V [(8,vb au)] []) au ?_ ?_;refine BY<|mv ad<|WB (i:=0) (l:=ag.1) zt zr j zr zr uK<|ic ((ag.1.length:Int)) 0<|fY ((ag.1.length:Int)==0)<|fx o (λan o=>?_) λan o=>?_;exact q_ o λa0 a8 o=>VM Va (n9 N j a8) λw j=>fw an (vb a0)<|bV a0<|By<|oi o▸⟨rfl,j.sp 8 []⟩;exact bH an<|fw an (vb false)<|bV false<|By<|oi o▸⟨rfl,j.sp 8 []⟩;rintro _ w⟨O,rfl,j⟩;exact aD<|V4<|oi hb▸bT ⟨rfl,j.drop 0⟩;refine Ww<|mv v0<|V1 4 j zr ye λbm j=>V1 4 j zr pw λbn j=>?_;refine q_ hb λah a9 hb=>V2 (gr Tryz.func6) (CE N (i0:=9) (i1:=1) (i2:=0) j zr zr zr a9) ?_;rintro _ w⟨aj,rfl,j⟩;refine mv (.tuple #[aj,vi ah.2])<|V6 aj<|V6 (vi ah.2)<|dN aj<|aJ ah.2<|IN<|mv v0<|V1 7 j zr ye λbo j=>V1 7 j zr pw λbp j=>?_;refine aO p3<|q_ hb λai ba hb=>V2 (gr Tryz.func7) (Bs N (p3:=p3) (i0:=12) (i1:=1) (i2:=0) j zr zr zr ba) ?_;rintro _ w⟨ak,rfl,j⟩;refine mv (.tuple #[ak,vi ai.2])<|V6 ak<|V6 (vi ai.2)<|dN ak<|aJ ai.2<|IT<|IS<|q_ hb λav o hb=>VR (λ(av:Bool)=>SH E V [(6,vp al 0),(9,ad),(11,aj),(12,ak),(61,vb av)] [bx 32 al p2,own 43 ad ag.1,rd aj ah.1,rd ak ai.1]) av ?_ ?_;refine BY<|aO ah.2<|ic ah.2 0<|fY (ah.2 != 0)<|Wb (vi ai.2) zr zr tR<|Wb (vb<|ai.2 != 0) zr zr (u9 .neq)<|Wl (b:=ah.2 != 0) (v:=vb<|(ah.2 != 0)||(ai.2 != 0)) zt zr zr (sU true)<|fY ((ah.2 != 0)||(ai.2 != 0))<|fx o (λaf o=>?_) λaf o=>?_;refine bH af<|bH af<|bH af<|bH af<|bH af<|bH af<|bH af<|bH af<|fw af (vb true)<|By ?_;exact oi o▸⟨rfl,j.sp 14 [9,6,3,0]⟩;refine VK aj (cg af)<|VP 3 ah.1 j uK<|VK ak (cg af)<|VP 0 ai.1 j uK<|OF (ah.1.length:Int) (ai.1.length:Int)<|VK ad (cg af)<|WB (i:=6) (l:=ag.1) (cg af) zr j zr zr uK<|Ws (cE<|(ah.1.length:Int)+(ai.1.length:Int)) (ag.1.length:Int) (cg af)<|fw af (vb<|cE ((ah.1.length:Int)+(ai.1.length:Int)) != (ag.1.length:Int)) ?_;exact By<|oi o▸⟨rfl,j.sp 14 [9,6,3,0]⟩;rintro _ w⟨O,rfl,j⟩;refine aD<|dM hb (λhb=>?_) λhb=>?_;exact w_<|bV false<|AS<|V4<|oi hb▸bT ⟨rfl,j.drop 4⟩;refine We<|w_<|aJ 0<|AS<|Xr E V (λ(ae:Int)=>[bx 32 al p2,own 43 ad ag.1,rd aj ah.1,rd ak ai.1]) (λ_=>[(6,vp al 0),(9,ad)]) (λae=>[(11,aj),(12,ak),(14,vi ae)]) (λr=>ml aX 101 Tryz.f3 (bE E V r) .ret) hb ?_ ?_ ?_ ?_;exact j.sp 4 [0,1,2,3];rintro ae fl _ w⟨O,rfl,j⟩hb;refine IS<|w_<|aO ae<|mv ad<|WB (i:=1) (l:=ag.1) zt zr j zr zr uK<|ic ae ((ag.1.length:Int))<|AS<|dM hb (λhb=>?_) λhb=>?_;refine We<|WM<|IS<|q_ hb λaw o hb=>VR (λ(aw:Bool)=>SH E V [(6,vp al 0),(9,ad),(11,aj),(12,ak),(14,vi ae),(93,vb aw)] [bx 32 al p2,own 43 ad ag.1,rd aj ah.1,rd ak ai.1]) aw ?_ ?_;have j:=j.drew;refine Xf (λw=>Holds E w<|[own 43 ad ag.1]++V) mixed [0,0,0,0,0,2,1,1,1,1,1,0,0,0,0,0,0,0,2,1,1,1,1,1,0,0] [0,1,2,3,4,6,7,8,9,10,5,11,12,13,14,15,16,17,19,20,21,22,23,18,24,25] (j.pk 4 [1])<|VU zr zr<|mv aj<|bF zr<|mv ad<|bF zr<|aO ae<|bF zr<|q_ o λbr a1 o=>VX 1 j zr zr xm a1<|bF zr<|Wx 1 j a1 pA λbs j=>?_;refine VZ<|V8 ad zr (λw=>VK ad zt V0)<|V8 (vi ae) zr (λw=>VK (vi ae) zt V0)<|q_ o λax aq o=>WW (z9 ad (jQ ae) 5 0) zr (λw j=>VX 0 j zr zr xm aq V0)<|WW (z9 ad (jQ ae) 5 4) zr (λw j=>WY (α:=Test) (sS 0 j aq 0) Mq V0)<|WW (vb ax.Joined) zr (λw j=>WZ 0 zt j (sS 0 j aq 4) (eQ aq).2.1 Eg BJ V0)<|Wq zr zr<|q_ o λa2 bb o=>VM Vb (oc N (i0:=3) (i1:=0) j zr zr bb) λw j=>Wj (j.pk 5 [2])<|VU zr zr<|Yd a2 ax.Joined zt zr zr zr P4<|bF zr<|fY (a2 != ax.Joined)<|VZ<|fx o (λab o=>?_) λab o=>?_;refine VU zr zr<|bH ab<|bF zr<|bH ab<|bF zr<|bH ab<|bF zr<|bH ab<|bF zr<|bH ab<|VZ<|V8 undef zr (λw=>bH ab V0)<|V8 undef zr (λw=>bH ab V0)<|V8 undef zr (λw=>bH ab V0)<|V8 undef zr (λw=>bH ab V0)<|V8 undef zr (λw=>bH ab V0)<|Wq zr zr<|bH ab ?_;exact Wj (j.pk 5 [2])<|VU zr zr<|bH ab<|bF zr<|fw ab (vb true)<|VZ<|Wi<|oi o▸⟨rfl,j.sp 5 [1,2,3,4]⟩;refine VU zr zr<|VK ak (cg ab)<|bF zr<|VK ad (cg ab)<|bF zr<|VK (vi ae) (cg ab)<|bF zr<|q_ o λbt a3 o=>VX 2 j zr zr xm a3<|bF zr<|Wx (hg:=cg ab) 2 j a3 pA λbu j=>?_;refine VZ<|V8 ad zr (λw=>VK ad (cg ab) V0)<|V8 (vi ae) zr (λw=>VK (vi ae) (cg ab) V0)<|q_ o λay ar o=>WW (z9 ad (jQ ae) 5 0) zr (λw j=>VX 0 j zr zr xm ar V0)<|WW (z9 ad (jQ ae) 5 4) zr (λw j=>WY (α:=Test) (sS 0 j ar 0) Mq V0)<|WW (vb ay.Joined) zr (λw j=>WZ 0 (cg ab) j (sS 0 j ar 4) (eQ ar).2.1 Eg BJ V0)<|Wq zr zr<|q_ o λa4 bc o=>VM Vb (oc N (i0:=5) (i1:=0) j zr zr bc) λw j=>Wj (j.pk 6 [3])<|VU zr zr<|Yx (a:=a4) (b:=ay.Joined) (cg ab) zr zr zr P4<|bF zr<|fw ab (vb<|a4==ay.Joined)<|VZ<|Wi ?_;exact oi o▸⟨rfl,j.sp 6 [2,3,4,5]⟩;rintro _ w⟨O,rfl,j⟩;refine aD<|dM hb (λhb=>?_) λhb=>?_;exact w_<|bV false<|AS<|Wm<|bJ<|oi hb▸⟨rfl,bT ⟨rfl,j.drop 4⟩⟩;refine Wc<|bI<|aD<|BY<|aO ae<|OF ae 1<|aJ (cE<|ae+1)<|By ?_;exact oi hb▸⟨rfl,j.sp 4 [0,1,2,3]⟩;exact Wp<|oi hb▸⟨rfl,j.sp 4 [0,1,2,3]⟩;intro r U w hb hK;exact bJ<|oi hb▸hK;rintro ae _ w hb⟨O,rfl,j⟩;refine aD<|IS<|q_ hb λaz o hb=>VR (λ(az:Bool)=>SH E V [(8,vb az)] []) az ?_ ?_;refine BY<|V1 0 j zr pw λbw j=>mv ad ?_;have j:=j.freeze 2;refine q_ o λa5 bg o=>VM (gr Tryz.func9) (xE N (i0:=0) (i1:=2) j zr zr bg) λw j=>ic a5 0<|fY (a5==0)<|fx o (λao o=>?_) λao o=>?_;exact q_ o λa6 bh o=>VM Va (n9 N j bh) λw j=>fw ao (vb a6)<|bV a6<|By<|oi o▸⟨rfl,j.sp 5 []⟩;exact bH ao<|fw ao (vb false)<|bV false<|By<|oi o▸⟨rfl,j.sp 5 []⟩;rintro _ w⟨O,rfl,j⟩;exact aD<|VN<|oi hb▸bT ⟨rfl,j.drop 0⟩
end Go.Gk
