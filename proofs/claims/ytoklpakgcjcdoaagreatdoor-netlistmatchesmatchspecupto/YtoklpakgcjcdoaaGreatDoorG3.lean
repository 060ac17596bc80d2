/-
  Printed texts: Go functions as plain functions, and that they are. No statement of the seed is proved here.
-/
import Derived.Test.YtoklpakgcjcdoaaGreatDoorG1
import Derived.Test.YtoklpakgcjcdoaaGreatDoorG2
import Derived.Test.YtoklpakgcjcdoaaGreatDoorA2
set_option linter.unusedVariables false
set_option linter.unusedSimpArgs false
set_option linter.unusedSectionVars false
set_option maxRecDepth 100000
set_option maxHeartbeats 40000000
namespace Go.Gk
open Go IntKind Go.Proofs
variable (N:Nat){E w:World}{i0 i1 i2:Nat}{p1 res:Int}{v0 v1 v2:Value}{V:List HP}
theorem fV{p0:aQ}{res:Bool}(hw:Holds E w V)(o:cZ N p0=some res):c_ 71 [str p0] w<|aT E V res:=by
 unfold cZ at o;refine enter Tryz.func71 zr zr<|g_<|bK false<|p_<|g_<|mv (str p0)<|Ah p0 om<|bB 0<|h_<|z3 E V (λ(ag:Unit)=>[]) (λ_=>[(0,str p0)]) (λad _=>[(6,vi p0.bF.length),(7,vi ad)]) (λr=>g7 bC 44 Tryz.f71 (aT E V r) .ret) o ?_ ?_ ?_ ?_;exact hw.sp 0 [];rintro hm ad ag fl _ w hk⟨O,rfl,hw⟩o;refine o_<|y_<|bB (ad:Int)<|aG (ad:Int)<|l_<|mv (str p0)<|bB (ad:Int)<|q_ o λj ak o=>AI p0 (ad:Int) j zr zr zr om ak<|ju (.int .u8 (j.toNat:Int))<|p_ ?_;refine q_ o λaf hj o=>zX (λ(af:Bool)=>SH E V [(0,str p0),(6,vi p0.bF.length),(7,vi ad),(39,vb af)] []) af ?_ ?_;refine u_<|mv (.int .u8 (j.toNat:Int))<|ic ((j.toNat:Int)) 97<|iF (decide<|(j.toNat:Int)<97)<|zV (.int .u8 (j.toNat:Int)) zr zr p5<|zV (vb<|decide<|(j.toNat:Int)>122) zr zr (rv .gtr)<|Aa (b:=decide<|(j.toNat:Int)<97) (v:=vb<|decide ((j.toNat:Int)<97)||decide ((j.toNat:Int)>122)) zt zr zr (nG true)<|iF (decide ((j.toNat:Int)<97)||decide ((j.toNat:Int)>122))<|zV (.int .u8 (j.toNat:Int)) zr zr p5 ?_;refine zV (vb<|decide<|(j.toNat:Int)<65) zr zr (rv .lss)<|zV (vb<|decide<|(j.toNat:Int)<65) zr zr p5<|Ai (.int .u8 (j.toNat:Int)) zr zr p5<|Ai (vb<|decide<|(j.toNat:Int)>90) zr zr (rv .gtr)<|zV (vb<|decide ((j.toNat:Int)<65)||decide ((j.toNat:Int)>90)) zr zr xI<|Aa (b:=decide ((j.toNat:Int)<97)||decide ((j.toNat:Int)>122)) (v:=vb<|(decide ((j.toNat:Int)<97)||decide ((j.toNat:Int)>122))&&(decide ((j.toNat:Int)<65)||decide ((j.toNat:Int)>90))) zt zr zr (kW true)<|iF ((decide ((j.toNat:Int)<97)||decide ((j.toNat:Int)>122))&&(decide ((j.toNat:Int)<65)||decide ((j.toNat:Int)>90)))<|zV (.int .u8 (j.toNat:Int)) zr zr p5<|zV (vb<|decide<|(j.toNat:Int)<48) zr zr (rv .lss) ?_;refine zV (vb<|decide<|(j.toNat:Int)<48) zr zr p5<|Ai (.int .u8 (j.toNat:Int)) zr zr p5<|Ai (vb<|decide<|(j.toNat:Int)>57) zr zr (rv .gtr)<|zV (vb<|decide ((j.toNat:Int)<48)||decide ((j.toNat:Int)>57)) zr zr xI<|Aa (b:=(decide ((j.toNat:Int)<97)||decide ((j.toNat:Int)>122))&&(decide ((j.toNat:Int)<65)||decide ((j.toNat:Int)>90))) (v:=vb<|((decide ((j.toNat:Int)<97)||decide ((j.toNat:Int)>122))&&(decide ((j.toNat:Int)<65)||decide ((j.toNat:Int)>90)))&&(decide ((j.toNat:Int)<48)||decide ((j.toNat:Int)>57))) zt zr zr (kW true)<|iF (((decide ((j.toNat:Int)<97)||decide ((j.toNat:Int)>122))&&(decide ((j.toNat:Int)<65)||decide ((j.toNat:Int)>90)))&&(decide ((j.toNat:Int)<48)||decide ((j.toNat:Int)>57)))<|hY hj (λab hj=>?_) λab hj=>?_;refine w_ (.int .u8 (j.toNat:Int)) (cg ab)<|q_ hj λah al hj=>k_ (hg:=cg ab) w8 (iY N (p0:=⟨[95,43,45,35]⟩) (p1:=(j.toNat:Int)) hw al) λw hw=>Ag ah 0 (cg ab)<|hZ ab (vb<|decide<|ah<0)<|i_ ?_;exact oi hj▸⟨rfl,hw.sp 0 []⟩;exact bL ab<|bL ab<|bL ab<|hZ ab (vb false)<|i_<|oi hj▸⟨rfl,hw.sp 0 []⟩;rintro _ w⟨O,rfl,hw⟩;refine aD<|dZ o (λo=>?_) λo=>?_;exact g_<|bK false<|h_<|zI<|aH<|oi o▸⟨rfl,aX ⟨rfl,hw.drop 0⟩⟩;exact zS<|bI<|aD<|u_<|zP hk hm<|bB ((ad+1:Nat):Int)<|i_<|oi o▸⟨rfl,hw.sp 0 []⟩;intro r U w o hK;exact aH<|oi o▸hK;rintro ag _ w o⟨O,rfl,hw⟩;exact aD<|g_<|mv (str p0)<|Ah p0 om<|q_ o λao aq o=>k_ wE (fU N (p0:=(p0.bF.length:Int)) (p1:=1) (p2:=40) hw aq) λw hw=>bK ao<|h_<|s_<|oi o▸aX ⟨rfl,hw.drop 0⟩
def fg(E:World)(V:List HP)(r:Int)(U:Nat->Value)(w:World):Prop:=g7 bC 99 Tryz.f70 (aA E V r) .ret U w
theorem jF{p0:aC}(j:Holds E w V)(h0:V[i0]? =some (rd v0 p0))(o:dN N p0=some res):c_ 70 [v0] w<|aA E V res:=by
 unfold dN at o;refine enter Tryz.func70 zr zr ?_;have j:=j.dup (i0+0) h0;refine g_<|zK 0 v0 j zr λag w j=>?_;refine aG 0<|p_<|y_<|j_ zr md<|t_ 0 j zr eK eF<|q_ o λay a7 o=>k_ wF (fV N (p0:=p0.Name) j a7) λw j=>z7 ay<|bK (!ay)<|h_<|dZ o (λo=>?_) λo=>?_;exact g_<|aG 5<|h_<|zI<|aH<|oi o▸aX ⟨rfl,j.drop 2⟩;refine g_<|j_ zr g8<|zL 0 j zr cF nj λbj j=>x_ 0 p0.aJ j oo<|ic ((p0.aJ.length:Int)) 0<|bK ((p0.aJ.length:Int)==0)<|h_<|dZ o (λo=>?_) λo=>?_;exact g_<|aG 9<|h_<|zI<|aH<|oi o▸aX ⟨rfl,j.drop 3⟩;refine g_<|j_ zr g8<|zL 1 j zr cF nj λbk j=>x_ 0 p0.aJ j oo<|ic ((p0.aJ.length:Int)) 200<|bK (decide<|(p0.aJ.length:Int)>200)<|h_<|dZ o (λo=>?_) λo=>?_;exact g_<|aG 2<|h_<|zI<|aH<|oi o▸aX ⟨rfl,j.drop 4⟩;refine zS<|bI<|aD<|o_<|g_<|j_ zr g8<|zL 2 j zr cF nj λar j=>x_ 0 p0.aJ j oo<|bB 0<|h_<|z3 E V (λ(az:Unit)=>[bx 55 ag p0,rd ar p0.aJ]) (λ_=>[(1,vp ag 0)]) (λae _=>[(25,ar),(26,vi p0.aJ.length),(27,vi ae)]) (fg E V) o ?_ ?_ ?_ ?_;exact j.sp 5 [3,0];rintro hm ae az fl _ w hk⟨O,rfl,j⟩o;refine o_<|y_<|bB (ae:Int)<|q_ o λaf a8 o=>r_ 1 j lf a8 λbl j=>m_ 0 af j me λbm j=>zQ j r6.z λbn w j=>?_;refine aG (ae:Int)<|zR 0 j 1 zr me λw j=>?_;refine h_<|y_<|j_ zr lg<|t_ 0 j zr eH eF<|q_ o λa1 a9 o=>k_ wF (fV N (p0:=af.Name) j a9) λw j=>z7 a1<|bK (!a1)<|h_<|dZ o (λo=>?_) λo=>?_;exact g_<|aG 5<|h_<|zI<|bZ<|aH<|oi o▸⟨rfl,aX ⟨rfl,j.drop 5⟩⟩;refine g_<|j_ zr nk<|t_ 0 j zr f9 mf<|q_ o λa2 ba o=>k_ wE (fU N (p0:=af.Kind) (p1:=1) (p2:=7) j ba) λw j=>z7 a2<|bK (!a2)<|h_<|dZ o (λo=>?_) λo=>?_;exact g_<|aG 4<|h_<|zI<|bZ<|aH<|oi o▸⟨rfl,aX ⟨rfl,j.drop 5⟩⟩;refine g_<|j_ zr ir<|t_ 0 j zr cQ mf<|q_ o λa3 bb o=>k_ wE (fU N (p0:=af.aN) (p1:=0) (p2:=200) j bb) λw j=>z7 a3<|bK (!a3)<|h_<|dZ o (λo=>?_) λo=>?_;exact g_<|aG 1<|h_<|zI<|bZ<|aH<|oi o▸⟨rfl,aX ⟨rfl,j.drop 5⟩⟩;refine o_<|q_ o λav hj o=>zX (λ(av:Bool)=>SH E V [(1,vp ag 0),(25,ar),(26,vi p0.aJ.length),(27,vi ae),(47,vb av)] [bx 55 ag p0,rd ar p0.aJ]) av ?_ ?_;refine Af mixed ?_;have j:=j.drew;refine Ae<|bB (ae:Int)<|d5<|ic ((ae:Int)) 0<|d5<|iF (decide<|(ae:Int)>0)<|hY hj (λab hj=>?_) λab hj=>?_;refine d5<|j_ (hg:=cg ab) zr lg<|d5<|t_ (hg:=cg ab) 0 j zr eH eF<|d5<|j_ (hg:=cg ab) zr g8<|d5<|zL (hg:=cg ab) 3 j zr cF nj λbo j=>d5<|w_ (vi ae) (cg ab)<|d5<|zY (hg:=cg ab) (ae:Int) 1<|d5 ?_;refine q_ hj λak bc hj=>r_ (hg:=cg ab) 0 j lf bc λbp j=>d5<|zO (hg:=cg ab) 0 j zr lg eH λbq j=>d5<|zZ ak.Name 0 (cg ab) j eF<|d5<|z9 af.Name ak.Name (cg ab)<|d5<|hZ ab (vb<|af.Name.iC ak.Name||af.Name.fe ak.Name)<|d5<|bK (af.Name.iC ak.Name||af.Name.fe ak.Name)<|z5 ?_;exact oi hj▸⟨rfl,j.sp 8 [6,7]⟩;refine d5<|bL ab<|d5<|bL ab<|d5<|bL ab<|d5<|bL ab<|d5<|bL ab<|d5<|bL ab<|d5<|bL ab<|d5<|bL ab<|d5<|bL ab ?_;exact d5<|bL ab<|d5<|hZ ab (vb false)<|d5<|bK false<|z5<|oi hj▸⟨rfl,j.sp 5 [3,4]⟩;rintro _ w⟨O,rfl,j⟩;refine aD<|dZ o (λo=>?_) λo=>?_;exact g_<|aG 8<|h_<|zI<|bZ<|aH<|oi o▸⟨rfl,aX ⟨rfl,j.drop 2⟩⟩;exact zS<|bI<|bI<|aD<|u_<|zP hk hm<|bB ((ae+1:Nat):Int)<|i_<|oi o▸⟨rfl,j.sp 2 [0,1]⟩;intro r U w o hK;exact aH<|oi o▸hK;rintro az _ w o⟨O,rfl,j⟩;refine aD<|o_<|g_<|j_ zr g8<|zL 0 j zr cF nj λau j=>x_ 0 p0.aJ j oo<|bB 0<|h_<|z3 E V (λ(a4:Unit)=>[bx 55 ag p0,rd au p0.aJ]) (λ_=>[]) (λaj _=>[(1,vp ag 0),(64,au),(65,vi p0.aJ.length),(66,vi aj)]) (fg E V) o ?_ ?_ ?_ ?_;exact j.sp 3 [1,0];rintro hm aj a4 fl _ w hk⟨O,rfl,j⟩o;refine o_<|y_<|bB (aj:Int)<|q_ o λaa bf o=>r_ 1 j lf bf λbr j=>m_ 0 aa j me λbt j=>zQ j r6.z λah w j=>?_;refine aG (aj:Int)<|zR 0 j 1 zr me λw j=>?_;refine l_<|j_ zr g8<|zL 3 j zr cF nj λbu j=>bB (aj:Int)<|q_ o λaw bg o=>AJ 0 zr j zr zr lf (.inr ⟨rfl,zr⟩) bg λa5 j=>x_ 0 aw j oo<|bB 0<|h_<|z3 E V (λ(a6:Unit)=>[bx 55 ag p0,bx 66 ah aa,rd au p0.aJ,rd a5 aw]) (λ_=>[(1,vp ag 0),(64,au),(65,vi p0.aJ.length),(66,vi aj)]) (λax _=>[(6,vp ah 0),(74,a5),(75,vi aw.length),(76,vi ax)]) (fg E V) o ?_ ?_ ?_ ?_;exact j.sp 7 [5,2,6,0];rintro hm ax a6 fl _ w hk⟨O,rfl,j⟩o;refine o_<|y_<|q_ o λad bh o=>r_ 3 j lf bh λbw j=>m_ 0 ad j me λbz j=>zQ j r6.z λal w j=>?_;refine zR 0 j 1 zr me λw j=>?_;refine l_<|j_ rfl ir<|t_ 4 j rfl cQ mf<|ic aa.aN 0<|iF (decide<|aa.aN>0)<|Ab true (decide<|aa.aN>0) (vp ah 2) rfl rfl rfl (iM ir)<|Ab true (decide<|aa.aN>0) (vi aa.aN) rfl rfl rfl (eJ 4 rfl j (by exact z_ (vp ah 2)) rfl cQ mf)<|Ab true (decide<|aa.aN>0) (vp al 2) rfl rfl rfl (iM ir)<|Ab true (decide<|aa.aN>0) (vi ad.aN) rfl rfl rfl (eJ 0 rfl j (by exact z_ (vp al 2)) rfl cQ mf) ?_;refine zV (vb<|aa.aN==ad.aN) rfl rfl (rv .eql)<|Aa (b:=decide<|aa.aN>0) (v:=vb<|decide (aa.aN>0)&&(aa.aN==ad.aN)) trivial rfl rfl (kW true)<|iF (decide (aa.aN>0)&&(aa.aN==ad.aN))<|Ab true (decide (aa.aN>0)&&(aa.aN==ad.aN)) (vp ah 1) rfl rfl rfl (iM nk)<|Ab true (decide (aa.aN>0)&&(aa.aN==ad.aN)) (vi aa.Kind) rfl rfl rfl (eJ 4 rfl j (by exact z_ (vp ah 1)) rfl f9 mf)<|Ab true (decide (aa.aN>0)&&(aa.aN==ad.aN)) (vp al 1) rfl rfl rfl (iM nk)<|Ab true (decide (aa.aN>0)&&(aa.aN==ad.aN)) (vi ad.Kind) rfl rfl rfl (eJ 0 rfl j (by exact z_ (vp al 1)) rfl f9 mf)<|zV (vb<|aa.Kind != ad.Kind) rfl rfl (rv .neq)<|Aa (b:=decide (aa.aN>0)&&(aa.aN==ad.aN)) (v:=vb<|(decide (aa.aN>0)&&(aa.aN==ad.aN))&&(aa.Kind != ad.Kind)) trivial rfl rfl (kW true) ?_;refine h_<|dZ o (λo=>?_) λo=>?_;exact g_<|aG 12<|h_<|zI<|aH<|oi o▸⟨rfl,aX ⟨rfl,j.drop 7⟩⟩;exact zS<|bI<|aD<|u_<|zP hk hm<|bB ((ax+1:Nat):Int)<|i_<|oi o▸⟨rfl,j.sp 7 [3,4,5,6]⟩;intro r U w o hK;exact bZ<|aH<|oi o▸⟨rfl,hK⟩;rintro a6 _ w o⟨O,rfl,j⟩;exact bI<|aD<|u_<|zP hk hm<|bB ((aj+1:Nat):Int)<|i_<|oi o▸⟨rfl,j.sp 4 [0,2]⟩;intro r U w o hK;exact aH<|oi o▸hK;rintro a4 _ w o⟨O,rfl,j⟩;exact aD<|g_<|aG 0<|h_<|s_<|oi o▸aX ⟨rfl,j.drop 2⟩
theorem jq{p0:List aC}(j:Holds E w V)(h0:V[i0]? =some (rd v0 p0))(o:dJ N p0=some res):c_ 54 [v0] w<|aA E V res:=by
 unfold dJ at o;refine enter Tryz.func54 zr zr ?_;have j:=j.dup (i0+0) h0;refine g_<|aG 0<|p_<|g_<|mv v0<|x_ 0 p0 j tZ<|ic ((p0.length:Int)) 200<|h_<|dZ o (λo=>?_) λo=>?_;exact g_<|aG 2<|h_<|zN<|oi o▸aX ⟨rfl,j.drop 1⟩;refine z4<|g_<|mv v0<|x_ 0 p0 j tZ<|bB 0<|h_<|z3 E V (λ(ai:Unit)=>[rd v0 p0]) (λ_=>[]) (λab _=>[(0,v0),(9,v0),(10,vi p0.length),(11,vi ab)]) (λr=>g7 bC 35 Tryz.f54 (aA E V r) .ret) o ?_ ?_ ?_ ?_;exact j.sp 1 [0];rintro hm ab ai fl _ w hk⟨O,rfl,j⟩o;refine o_<|y_<|bB (ab:Int)<|q_ o λaf al o=>r_ 0 j nS al λau j=>m_ 0 af j jN λav j=>zQ j tc.z λaw w j=>?_;refine aG (ab:Int)<|zR 0 j 1 zr jN λw j=>?_;refine p_<|g_<|zU 0 j zr jN λax j=>?_;refine q_ o λae an o=>k_ (gj Tryz.func70) (jF N (i0:=0) j zr an) λw j=>aG ae<|l_<|bB ae<|ic ae 0<|h_<|dZ o (λo=>?_) λo=>?_;exact g_<|bB ae<|aG ae<|h_<|zN<|bZ<|aH<|oi o▸⟨rfl,aX ⟨rfl,j.drop 5⟩⟩;refine z4<|q_ o λah hj o=>zX (λ(ah:Bool)=>SH E V [(0,v0),(9,v0),(10,vi p0.length),(11,vi ab),(33,vb ah)] [rd v0 p0]) ah ?_ ?_;refine Af mixed ?_;have j:=j.drew;refine Ae<|bB (ab:Int)<|d5<|ic ((ab:Int)) 0<|d5<|iF (decide<|(ab:Int)>0)<|hY hj (λaa hj=>?_) λaa hj=>?_;refine d5<|j_ (hg:=cg aa) zr md<|d5<|t_ (hg:=cg aa) 1 j zr eK eF<|d5<|w_ v0 (cg aa)<|d5<|w_ (vi ab) (cg aa)<|d5<|zY (hg:=cg aa) (ab:Int) 1<|d5 ?_;refine q_ hj λag ao hj=>r_ (hg:=cg aa) 4 j nS ao λay j=>d5<|zO (hg:=cg aa) 0 j zr md eK λaz j=>d5<|zZ ag.Name 0 (cg aa) j eF<|d5<|z9 af.Name ag.Name (cg aa)<|d5<|hZ aa (vb<|af.Name.iC ag.Name||af.Name.fe ag.Name)<|z5 ?_;exact oi hj▸⟨rfl,j.sp 7 [6]⟩;refine d5<|bL aa<|d5<|bL aa<|d5<|bL aa<|d5<|bL aa<|d5<|bL aa<|d5<|bL aa<|d5<|bL aa<|d5<|bL aa<|d5<|bL aa ?_;exact d5<|hZ aa (vb false)<|z5<|oi hj▸⟨rfl,j.sp 5 [4]⟩;rintro _ w⟨O,rfl,j⟩;refine aD<|dZ o (λo=>?_) λo=>?_;exact g_<|aG 8<|h_<|zI<|aH<|oi o▸⟨rfl,aX ⟨rfl,j.drop 1⟩⟩;exact zS<|bI<|aD<|u_<|zP hk hm<|bB ((ab+1:Nat):Int)<|i_<|oi o▸⟨rfl,j.sp 1 [0]⟩;intro r U w o hK;exact aH<|oi o▸hK;rintro ai _ w o⟨O,rfl,j⟩;exact aD<|g_<|aG 0<|h_<|s_<|oi o▸aX ⟨rfl,j.drop 1⟩
theorem hU{p0:aQ}{res:Bool}(o:Holds E w V)(j:dO N p0=some res):c_ 55 [str p0] w<|aT E V res:=by
 unfold dO at j;refine enter Tryz.func55 zr zr<|g_<|bK false<|p_<|g_<|mv (str p0)<|q_ j λaa ah j=>Al xb (kF N (p0:=p0) (p1:=⟨[47]⟩) o ah) λae w o=>AT 0 aa zt zr o zr zr vR<|bB 0<|h_<|z3 E V (λ(af:Unit)=>[own 9 ae aa]) (λ_=>[(0,str p0)]) (λab _=>[(6,ae),(7,vi aa.length),(8,vi ab)]) (λr=>g7 bC 19 Tryz.f55 (aT E V r) .ret) j ?_ ?_ ?_ ?_;exact o.sp 1 [0];rintro hm ab af fl _ w hk⟨O,rfl,o⟩j;refine o_<|y_<|q_ j λad ag j=>AD 0 zr o zr zr zr u9 ag<|BK 0 o ag eF<|ju (str ad)<|l_<|mv (str ad)<|q_ j λak al j=>k_ wF (fV N (p0:=ad) o al) λw o=>z7 ak<|h_<|dZ j (λj=>?_) λj=>?_;exact g_<|bK false<|h_<|zI<|aH<|oi j▸⟨rfl,aX ⟨rfl,o.drop 1⟩⟩;exact zS<|bI<|aD<|u_<|zP hk hm<|bB ((ab+1:Nat):Int)<|i_<|oi j▸⟨rfl,o.sp 1 [0]⟩;intro r U w j hK;exact aH<|oi j▸hK;rintro af _ w j⟨O,rfl,o⟩;refine aD<|g_<|mv (str p0)<|Ah p0 om<|ic ((p0.bF.length:Int)) 200<|bK (decide<|(p0.bF.length:Int)<=200)<|h_<|s_ ?_;exact oi j▸aX ⟨rfl,o.drop 1⟩
theorem fW{p0:List aC}{p1:aQ}(j:Holds E w V)(h0:V[i0]? =some (rd v0 p0))(o:dP N p0 p1=some res):c_ 40 [v0,str p1] w<|aA E V res:=by
 unfold dP at o;refine enter Tryz.func40 zr zr ?_;have j:=j.dup (i0+0) h0;refine g_<|aG 0<|p_<|g_<|mv v0<|x_ 0 p0 j tZ<|bB 0<|h_<|z3 E V (λ(ab:Unit)=>[rd v0 p0]) (λ_=>[]) (λaa _=>[(1,str p1),(7,v0),(8,vi p0.length),(9,vi aa)]) (λr=>g7 bC 20 Tryz.f40 (aA E V r) .ret) o ?_ ?_ ?_ ?_;exact j.sp 1 [0];rintro hm aa ab fl _ w hk⟨O,rfl,j⟩o;refine o_<|y_<|bB (aa:Int)<|q_ o λad ag o=>r_ 0 j nS ag λaj j=>m_ 0 ad j jN λak j=>zQ j tc.z λal w j=>?_;refine aG (aa:Int)<|zR 0 j 1 zr jN λw j=>?_;refine l_<|j_ zr md<|t_ 0 j zr eK eF<|mv (str p1)<|z9 ad.Name p1 zt<|h_<|dZ o (λo=>?_) λo=>?_;exact g_<|bB (aa:Int)<|aG (aa:Int)<|h_<|zI<|aH<|oi o▸⟨rfl,aX ⟨rfl,j.drop 4⟩⟩;exact zS<|bI<|aD<|u_<|zP hk hm<|bB ((aa+1:Nat):Int)<|i_<|oi o▸⟨rfl,j.sp 4 [3]⟩;intro r U w o hK;exact aH<|oi o▸hK;rintro ab _ w o⟨O,rfl,j⟩;exact aD<|g_<|aG (-1)<|h_<|s_<|oi o▸aX ⟨rfl,j.drop 1⟩
theorem eA{p0:List Part}{p1:aQ}(j:Holds E w V)(h0:V[i0]? =some (rd v0 p0))(o:dA N p0 p1=some res):c_ 21 [v0,str p1] w<|aA E V res:=by
 unfold dA at o;refine enter Tryz.func21 zr zr ?_;have j:=j.dup (i0+0) h0;refine g_<|aG 0<|p_<|g_<|mv v0<|x_ 0 p0 j td<|bB 0<|h_<|z3 E V (λ(ab:Unit)=>[rd v0 p0]) (λ_=>[]) (λaa _=>[(1,str p1),(7,v0),(8,vi p0.length),(9,vi aa)]) (λr=>g7 bC 20 Tryz.f21 (aA E V r) .ret) o ?_ ?_ ?_ ?_;exact j.sp 1 [0];rintro hm aa ab fl _ w hk⟨O,rfl,j⟩o;refine o_<|y_<|bB (aa:Int)<|q_ o λad ag o=>r_ 0 j lR ag λaj j=>m_ 0 ad j pq λak j=>zQ j u6.z λal w j=>?_;refine aG (aa:Int)<|zR 0 j 1 zr pq λw j=>?_;refine l_<|j_ zr lh<|t_ 0 j zr gP eF<|mv (str p1)<|z9 ad.Name p1 zt<|h_<|dZ o (λo=>?_) λo=>?_;exact g_<|bB (aa:Int)<|aG (aa:Int)<|h_<|zI<|aH<|oi o▸⟨rfl,aX ⟨rfl,j.drop 4⟩⟩;exact zS<|bI<|aD<|u_<|zP hk hm<|bB ((aa+1:Nat):Int)<|i_<|oi o▸⟨rfl,j.sp 4 [3]⟩;intro r U w o hK;exact aH<|oi o▸hK;rintro ab _ w o⟨O,rfl,j⟩;exact aD<|g_<|aG (-1)<|h_<|s_<|oi o▸aX ⟨rfl,j.drop 1⟩
theorem ix{p0:aC}{p1:aQ}(j:Holds E w V)(h0:V[i0]? =some (rd v0 p0))(o:eD N p0 p1=some res):c_ 42 [v0,str p1] w<|aA E V res:=by
 unfold eD at o;refine enter Tryz.func42 zr zr ?_;have j:=j.dup (i0+0) h0;refine g_<|zK 0 v0 j zr λaj w j=>?_;refine aG 0<|p_<|g_<|j_ zr g8<|zL 0 j zr cF nj λab j=>x_ 0 p0.aJ j oo<|bB 0<|h_<|z3 E V (λ(ad:Unit)=>[rd ab p0.aJ]) (λ_=>[]) (λaa _=>[(1,str p1),(8,ab),(9,vi p0.aJ.length),(10,vi aa)]) (λr=>g7 bC 21 Tryz.f42 (aA E V r) .ret) o ?_ ?_ ?_ ?_;exact j.sp 3 [0];rintro hm aa ad fl _ w hk⟨O,rfl,j⟩o;refine o_<|y_<|bB (aa:Int)<|q_ o λae ah o=>r_ 0 j lf ah λal j=>m_ 0 ae j me λan j=>zQ j r6.z λao w j=>?_;refine aG (aa:Int)<|zR 0 j 1 zr me λw j=>?_;refine l_<|j_ zr lg<|t_ 0 j zr eH eF<|mv (str p1)<|z9 ae.Name p1 zt<|h_<|dZ o (λo=>?_) λo=>?_;exact g_<|bB (aa:Int)<|aG (aa:Int)<|h_<|zI<|aH<|oi o▸⟨rfl,aX ⟨rfl,j.drop 4⟩⟩;exact zS<|bI<|aD<|u_<|zP hk hm<|bB ((aa+1:Nat):Int)<|i_<|oi o▸⟨rfl,j.sp 4 [3]⟩;intro r U w o hK;exact aH<|oi o▸hK;rintro ad _ w o⟨O,rfl,j⟩;exact aD<|g_<|aG (-1)<|h_<|s_<|oi o▸aX ⟨rfl,j.drop 1⟩
theorem kL{p0:List aC}{p1:aF}{p2:bP}{res:Bool}(j:Holds E w V)(h0:V[i0]? =some (rd v0 p0))(h1:V[i1]? =some (rd v1 p1))(h2:V[i2]? =some (rd v2 p2))(hb:fB N p0 p1 p2=some res):c_ 56 [v0,v1,v2] w<|aT E V res:=by
 unfold fB at hb;refine enter Tryz.func56 zr zr ?_;have j:=((j.dup (i0+0) h0).dup (i1+1) h1).dup (i2+2) h2;refine g_<|zK 1 v1 j zr λaq w j=>?_;refine zK 1 v2 j zr λag w j=>?_;refine bK false<|l_<|j_ zr fG<|zL 1 j zr bN j9 λar j=>j_ zr iG<|t_ 1 j zr fR eF<|q_ hb λad ai hb=>k_ vV (eA N (p1:=p2.Part) (i0:=0) j zr ai) λw j=>aG ad<|p_<|q_ hb λae hj hb=>zX (λ(ae:Bool)=>SH E V [(6,vb ae)] []) ae ?_ ?_;have j:=j.drew;refine Aw (λw=>Holds E w<|[bx 51 ag p2]++V) mixed zr [0,0,0,1,0,0,0,0,0,0,0,2,0,0,1,1,2,0,0,0] [0,1,2,3,4,5,6,7,8,9,10,14,15,11,12,13,16,17,18,19] (j.pk 6 [1])<|zM zr zr<|bB ad<|eB zr<|ic ad 0<|eB zr<|iF (decide<|ad>=0)<|zT<|hY hj (λo hj=>?_) λo hj=>?_;refine z1 v0 zr (λw=>w_ v0 (cg o) zW)<|zM zr zr<|w_ v0 (cg o)<|eB zr<|j_ (hg:=cg o) zr fG<|eB zr<|zL (hg:=cg o) 2 j zr bN j9 λau j=>eB zr<|w_ (vi ad) (cg o)<|eB zr<|q_ hj λah aj hj=>r_ (hg:=cg o) 0 j lR aj λav j=>eB zr<|zO (hg:=cg o) 0 j zr je fk λaw j=>eB zr<|zZ ah.bR 0 (cg o) j eF<|zT<|z1 (vp ag 1) zr (λw=>j_ (hg:=cg o) zr lj zW)<|Av (str p2.bP) zr (λw j=>t_ (hg:=cg o) 0 j zr iq eF zW)<|z6 zr zr ?_;refine q_ hj λax ak hj=>k_ (hg:=cg o) wG (fW N (p1:=ah.bR) (i0:=8) j zr ak) λw j=>z2 (j.pk 9 [4])<|zM zr zr<|q_ hj λal an hj=>r_ (hg:=cg o) 8 j nS an λay j=>eB zr<|m_ (hg:=cg o) 0 al j jN λaz j=>u4 zr<|q_ hj λaf ao hj=>k_ (hg:=cg o) xt (ix N (p1:=p2.bP) (i0:=0) j zr ao) λw j=>z2 (j.pk 11 [6])<|zM zr zr<|Ag af 0 (cg o)<|eB zr<|hZ o (vb<|decide<|af>=0)<|eB zr<|bK (decide<|af>=0)<|zT ?_;exact Ad<|oi hj▸⟨rfl,j.sp 11 []⟩;refine z1 undef zr (λw=>bL o zW)<|zM zr zr<|bL o<|eB zr<|bL o<|eB zr<|bL o<|eB zr<|bL o<|eB zr<|bL o<|eB zr<|bL o<|eB zr<|bL o<|zT<|z1 undef zr (λw=>bL o zW)<|z1 undef zr (λw=>bL o zW) ?_;refine z6 zr zr<|bL o<|z2 (j.pk 6 [1])<|zM zr zr<|bL o<|eB zr<|bL o<|u4 zr<|bL o<|z2 (j.pk 6 [1])<|zM zr zr<|bL o<|eB zr<|hZ o (vb false)<|eB zr<|bK false<|zT<|Ad ?_;exact oi hj▸⟨rfl,j.sp 6 []⟩;rintro _ w⟨O,rfl,j⟩;exact aD<|s_<|oi hb▸aX ⟨rfl,j.drop 0⟩
theorem kM{p0 p1:bP}{res:Bool}(j:Holds E w V)(h0:V[i0]? =some (rd v0 p0))(h1:V[i1]? =some (rd v1 p1))(hb:fC N p0 p1=some res):c_ 57 [v0,v1] w<|aT E V res:=by
 unfold fC at hb;refine enter Tryz.func57 zr zr ?_;have j:=(j.dup (i0+0) h0).dup (i1+1) h1;refine g_<|zK 1 v0 j zr λo w j=>?_;refine zK 1 v1 j zr λaa w j=>?_;refine bK false<|l_<|j_ zr iG<|t_ 1 j zr fR eF<|j_ zr iG<|t_ 0 j zr fR eF<|z9 p0.Part p1.Part zt<|iF (p0.Part.iC p1.Part)<|Ab true (p0.Part.iC p1.Part) (vp o 0) zr zr zr (iM iG) ?_;refine Ab true (p0.Part.iC p1.Part) (str p0.Part) rfl rfl rfl (eJ 1 rfl j (by exact z_ (vp o 0)) rfl fR eF)<|Ab true (p0.Part.iC p1.Part) (vp aa 0) rfl rfl rfl (iM iG)<|Ab true (p0.Part.iC p1.Part) (str p1.Part) rfl rfl rfl (eJ 0 rfl j (by exact z_ (vp aa 0)) rfl fR eF)<|zV (vb<|p0.Part.fe p1.Part) rfl rfl (xT .eql)<|zV (vb<|p0.Part.fe p1.Part) rfl rfl p5<|Ai (vp o 1) rfl rfl (iM lj)<|Ai (str p0.bP) rfl rfl (eJ 1 rfl j (by exact z_ (vp o 1)) rfl iq eF)<|Ai (vp aa 1) rfl rfl (iM lj)<|Ai (str p1.bP) rfl rfl (eJ 0 rfl j (by exact z_ (vp aa 1)) rfl iq eF) ?_;exact Ai (vb<|p0.bP.iC p1.bP) zr zr (xT .lss)<|zV (vb<|p0.Part.fe p1.Part&&p0.bP.iC p1.bP) zr zr zz<|Aa (b:=p0.Part.iC p1.Part) (v:=vb<|p0.Part.iC p1.Part||(p0.Part.fe p1.Part&&p0.bP.iC p1.bP)) zt zr zr (nG true)<|bK (p0.Part.iC p1.Part||(p0.Part.fe p1.Part&&p0.bP.iC p1.bP))<|h_<|s_<|oi hb▸aX ⟨rfl,j.drop 4⟩
theorem mW{p0:List bP}{p1:bP}(j:Holds E w V)(h0:V[i0]? =some (rd v0 p0))(h1:V[i1]? =some (rd v1 p1))(o:iE N p0 p1=some res):c_ 90 [v0,v1] w<|aA E V res:=by
 unfold iE at o;refine enter Tryz.func90 zr zr ?_;have j:=(j.dup (i0+0) h0).dup (i1+1) h1;refine g_<|zK 0 v1 j zr λab w j=>?_;refine aG 0<|p_<|g_<|mv v0<|x_ 2 p0 j nW<|bB 0<|h_<|z3 E V (λ(ad:Unit)=>[rd v0 p0,bx 51 ab p1]) (λ_=>[]) (λaa _=>[(0,v0),(3,vp ab 0),(7,vi p0.length),(8,vi aa)]) (λr=>g7 bC 19 Tryz.f90 (aA E V r) .ret) o ?_ ?_ ?_ ?_;exact j.sp 3 [2,0];rintro hm aa ad fl _ w hk⟨O,rfl,j⟩o;refine o_<|y_<|bB (aa:Int)<|aG (aa:Int)<|p_<|Af mixed ?_;have j:=j.drew;refine Ae<|zU 1 j zr gQ λak j=>d5<|mv v0<|d5<|bB (aa:Int)<|d5<|q_ o λae ah o=>r_ 1 j nX ah λal j=>d5<|m_ 0 ae j gQ λan j=>d5<|A9 2 0 p1 ae zt zr j zr zr zr zr vc zr<|z5<|aD<|dZ o (λo=>?_) λo=>?_;exact g_<|bB (aa:Int)<|aG (aa:Int)<|h_<|zI<|aH<|oi o▸⟨rfl,aX ⟨rfl,j.drop 5⟩⟩;exact zS<|bI<|aD<|u_<|zP hk hm<|bB ((aa+1:Nat):Int)<|i_<|oi o▸⟨rfl,j.sp 5 [3,4]⟩;intro r U w o hK;exact aH<|oi o▸hK;rintro ad _ w o⟨O,rfl,j⟩;exact aD<|g_<|aG (-1)<|h_<|s_<|oi o▸aX ⟨rfl,j.drop 2⟩
theorem lz{p0:List bP}{p1:bP}{res:Bool}(j:Holds E w V)(h0:V[i0]? =some (rd v0 p0))(h1:V[i1]? =some (rd v1 p1))(o:fM N p0 p1=some res):c_ 72 [v0,v1] w<|aT E V res:=by
 unfold fM at o;refine enter Tryz.func72 zr zr ?_;have j:=(j.dup (i0+0) h0).dup (i1+1) h1;refine g_<|zK 0 v1 j zr λad w j=>?_;refine bK false<|l_<|mv v0<|zU 0 j zr gQ λae j=>?_;refine q_ o λaa ab o=>k_ (gj Tryz.func90) (mW N (i0:=3) (i1:=0) j zr zr ab) λw j=>ic aa 0<|bK (decide<|aa>=0)<|h_<|s_ ?_;exact oi o▸aX ⟨rfl,j.drop 4⟩
theorem kN{p0:List Net}{p1:bP}{res:Bool}(j:Holds E w V)(h0:V[i0]? =some (rd v0 p0))(h1:V[i1]? =some (rd v1 p1))(o:eu N p0 p1=some res):c_ 58 [v0,v1] w<|aT E V res:=by
 unfold eu at o;refine enter Tryz.func58 zr zr ?_;have j:=(j.dup (i0+0) h0).dup (i1+1) h1;refine g_<|zK 0 v1 j zr λab w j=>?_;refine bK false<|p_<|g_<|mv v0<|x_ 2 p0 j r8<|bB 0<|h_<|z3 E V (λ(ad:Unit)=>[bx 51 ab p1,rd v0 p0]) (λ_=>[]) (λaa _=>[(3,vp ab 0),(7,v0),(8,vi p0.length),(9,vi aa)]) (λr=>g7 bC 18 Tryz.f58 (aT E V r) .ret) o ?_ ?_ ?_ ?_;exact j.sp 3 [0,2];rintro hm aa ad fl _ w hk⟨O,rfl,j⟩o;refine o_<|y_<|q_ o λag ah o=>r_ 1 j nU ah λal j=>m_ 0 ag j nV λan j=>zQ j va.z λao w j=>?_;refine zR 0 j 1 zr nV λw j=>?_;refine l_<|j_ zr jz<|zL 0 j zr gF pr λaq j=>zU 4 j zr gQ λar j=>?_;refine q_ o λau ai o=>k_ (gj Tryz.func72) (lz N (i0:=1) (i1:=0) j zr zr ai) λw j=>h_<|dZ o (λo=>?_) λo=>?_;exact g_<|bK true<|h_<|zI<|aH<|oi o▸⟨rfl,aX ⟨rfl,j.drop 7⟩⟩;exact zS<|bI<|aD<|u_<|zP hk hm<|bB ((aa+1:Nat):Int)<|i_<|oi o▸⟨rfl,j.sp 7 [5,6]⟩;intro r U w o hK;exact aH<|oi o▸hK;rintro ad _ w o⟨O,rfl,j⟩;exact aD<|g_<|bK false<|h_<|s_<|oi o▸aX ⟨rfl,j.drop 2⟩
def fh(E:World)(V:List HP)(r:Int)(U:Nat->Value)(w:World):Prop:=g7 bC 132 Tryz.f39 (aA E V r) .ret U w
theorem gI{p0:List aC}{p1:aF}(j:Holds E w V)(h0:V[i0]? =some (rd v0 p0))(h1:V[i1]? =some (rd v1 p1))(o:cT N p0 p1=some res):c_ 39 [v0,v1] w<|aA E V res:=by
 unfold cT at o;refine enter Tryz.func39 zr zr ?_;have j:=(j.dup (i0+0) h0).dup (i1+1) h1;refine g_<|zK 0 v1 j zr λah w j=>?_;refine aG 0<|p_<|g_<|j_ zr fG<|zL 0 j zr bN j9 λbw j=>x_ 0 p1.aU j td<|ic ((p1.aU.length:Int)) 1000<|h_<|dZ o (λo=>?_) λo=>?_;exact g_<|aG 2<|h_<|zN<|oi o▸aX ⟨rfl,j.drop 4⟩;refine z4<|g_<|j_ zr fG<|zL 1 j zr bN j9 λau j=>x_ 0 p1.aU j td<|bB 0<|h_<|z3 E V (λ(a2:Unit)=>[rd v0 p0,bx 26 ah p1,rd au p1.aU]) (λ_=>[(0,v0),(3,vp ah 0)]) (λai _=>[(16,au),(17,vi p1.aU.length),(18,vi ai)]) (fh E V) o ?_ ?_ ?_ ?_;exact j.sp 5 [4,2,0];rintro hm ai a2 fl _ w hk⟨O,rfl,j⟩o;refine o_<|y_<|bB (ai:Int)<|q_ o λak bc o=>r_ 2 j lR bc λbz j=>m_ 0 ak j pq λb0 j=>zQ j u6.z λb2 w j=>?_;refine aG (ai:Int)<|zR 0 j 1 zr pq λw j=>?_;refine h_<|y_<|j_ zr lh<|t_ 0 j zr gP eF<|q_ o λa4 bf o=>k_ xr (hU N (p0:=ak.Name) j bf) λw j=>z7 a4<|bK (!a4)<|h_<|dZ o (λo=>?_) λo=>?_;exact g_<|aG 5<|h_<|zI<|bZ<|aH<|oi o▸⟨rfl,aX ⟨rfl,j.drop 6⟩⟩;refine g_<|mv v0<|j_ zr je<|t_ 0 j zr fk eF<|q_ o λa5 bg o=>k_ wG (fW N (p1:=ak.bR) (i0:=3) j zr bg) λw j=>ic a5 0<|bK (decide<|a5<0)<|h_<|dZ o (λo=>?_) λo=>?_;exact g_<|aG 9<|h_<|zI<|bZ<|aH<|oi o▸⟨rfl,aX ⟨rfl,j.drop 6⟩⟩;refine o_<|q_ o λay hj o=>zX (λ(ay:Bool)=>SH E V [(0,v0),(3,vp ah 0),(16,au),(17,vi p1.aU.length),(18,vi ai),(34,vb ay)] [rd v0 p0,bx 26 ah p1,rd au p1.aU]) ay ?_ ?_;refine Af mixed ?_;have j:=j.drew;refine Ae<|bB (ai:Int)<|d5<|ic ((ai:Int)) 0<|d5<|iF (decide<|(ai:Int)>0)<|hY hj (λab hj=>?_) λab hj=>?_;refine d5<|j_ (hg:=cg ab) zr lh<|d5<|t_ (hg:=cg ab) 0 j zr gP eF<|d5<|j_ (hg:=cg ab) zr fG<|d5<|zL (hg:=cg ab) 4 j zr bN j9 λb3 j=>d5<|w_ (vi ai) (cg ab)<|d5<|zY (hg:=cg ab) (ai:Int) 1<|d5 ?_;refine q_ hj λan bh hj=>r_ (hg:=cg ab) 0 j lR bh λb4 j=>d5<|zO (hg:=cg ab) 0 j zr lh gP λb5 j=>d5<|zZ an.Name 0 (cg ab) j eF<|d5<|z9 ak.Name an.Name (cg ab)<|d5<|hZ ab (vb<|ak.Name.iC an.Name||ak.Name.fe an.Name)<|d5<|bK (ak.Name.iC an.Name||ak.Name.fe an.Name)<|z5 ?_;exact oi hj▸⟨rfl,j.sp 9 [6,7,8]⟩;refine d5<|bL ab<|d5<|bL ab<|d5<|bL ab<|d5<|bL ab<|d5<|bL ab<|d5<|bL ab<|d5<|bL ab<|d5<|bL ab<|d5<|bL ab ?_;exact d5<|bL ab<|d5<|hZ ab (vb false)<|d5<|bK false<|z5<|oi hj▸⟨rfl,j.sp 6 [3,4,5]⟩;rintro _ w⟨O,rfl,j⟩;refine aD<|dZ o (λo=>?_) λo=>?_;exact g_<|aG 8<|h_<|zI<|bZ<|aH<|oi o▸⟨rfl,aX ⟨rfl,j.drop 3⟩⟩;exact zS<|bI<|bI<|aD<|u_<|zP hk hm<|bB ((ai+1:Nat):Int)<|i_<|oi o▸⟨rfl,j.sp 3 [0,1,2]⟩;intro r U w o hK;exact aH<|oi o▸hK;rintro a2 _ w o⟨O,rfl,j⟩;refine aD<|o_<|g_<|j_ zr iu<|zL 1 j zr cR nT λb6 j=>x_ 0 p1.aY j r8<|ic ((p1.aY.length:Int)) 1000<|h_<|dZ o (λo=>?_) λo=>?_;exact g_<|aG 2<|h_<|zN<|oi o▸aX ⟨rfl,j.drop 4⟩;refine z4<|g_<|j_ zr iu<|zL 2 j zr cR nT λal j=>x_ 0 p1.aY j r8<|bB 0<|h_<|z3 E V (λ(a6:Unit)=>[rd v0 p0,bx 26 ah p1,rd al p1.aY]) (λ_=>[]) (λag _=>[(0,v0),(3,vp ah 0),(55,al),(56,vi p1.aY.length),(57,vi ag)]) (fh E V) o ?_ ?_ ?_ ?_;exact j.sp 5 [2,3,0];rintro hm ag a6 fl _ w hk⟨O,rfl,j⟩o;refine o_<|y_<|bB (ag:Int)<|q_ o λaf bj o=>r_ 2 j nU bj λb7 j=>m_ 0 af j nV λb8 j=>zQ j va.z λav w j=>?_;refine aG (ag:Int)<|zR 0 j 1 zr nV λw j=>?_;refine p_<|y_<|j_ zr mg<|t_ 0 j zr iX eF<|q_ o λa7 bk o=>k_ xr (hU N (p0:=af.Name) j bk) λw j=>z7 a7<|bK (!a7)<|h_<|dZ o (λo=>?_) λo=>?_;exact g_<|aG 5<|h_<|zI<|aH<|bZ<|aH<|oi o▸⟨rfl,aX ⟨rfl,j.drop 6⟩⟩;refine g_<|j_ zr jz<|zL 0 j zr gF pr λb9 j=>x_ 0 af.aJ j nW<|ic ((af.aJ.length:Int)) 0<|bK ((af.aJ.length:Int)==0)<|h_<|dZ o (λo=>?_) λo=>?_;exact g_<|aG 9<|h_<|zI<|aH<|bZ<|aH<|oi o▸⟨rfl,aX ⟨rfl,j.drop 7⟩⟩;refine g_<|j_ zr jz<|zL 1 j zr gF pr λca j=>x_ 0 af.aJ j nW<|ic ((af.aJ.length:Int)) 500<|bK (decide<|(af.aJ.length:Int)>500)<|h_<|dZ o (λo=>?_) λo=>?_;exact g_<|aG 2<|h_<|zI<|aH<|bZ<|aH<|oi o▸⟨rfl,aX ⟨rfl,j.drop 8⟩⟩;refine zS<|bI<|aD<|o_<|g_<|j_ zr jz<|zL 2 j zr gF pr λaw j=>x_ 0 af.aJ j nW<|bB 0<|h_<|z3 E V (λ(a8:Unit)=>[rd v0 p0,bx 26 ah p1,bx 49 av af,rd al p1.aY,rd aw af.aJ]) (λ_=>[(0,v0),(3,vp ah 0),(7,vi ag),(8,vp av 0),(55,al),(56,vi p1.aY.length),(57,vi ag)]) (λaj _=>[(78,aw),(79,vi af.aJ.length),(80,vi aj)]) (fh E V) o ?_ ?_ ?_ ?_;exact j.sp 9 [6,7,3,8,0];rintro hm aj a8 fl _ w hk⟨O,rfl,j⟩o;refine o_<|y_<|bB (aj:Int)<|q_ o λa9 bl o=>r_ 4 j nX bl λcb j=>m_ 0 a9 j gQ λcc j=>zQ j qb.z λba w j=>?_;refine aG (aj:Int)<|zR 0 j 1 zr gQ λw j=>?_;refine h_<|y_<|mv v0<|zU 4 j zr gV λcd j=>zU 1 j zr gQ λcf j=>?_;refine q_ o λbb bm o=>k_ (gj Tryz.func56) (kL N (i0:=5) (i1:=1) (i2:=0) j zr zr zr bm) λw j=>z7 bb<|bK (!bb)<|h_<|dZ o (λo=>?_) λo=>?_;exact g_<|aG 9<|h_<|zI<|bZ<|aH<|oi o▸⟨rfl,aX ⟨rfl,j.drop 10⟩⟩;refine o_<|q_ o λaz hj o=>zX (λ(az:Bool)=>SH E V [(0,v0),(3,vp ah 0),(7,vi ag),(8,vp av 0),(10,vp ba 0),(55,al),(56,vi p1.aY.length),(57,vi ag),(78,aw),(79,vi af.aJ.length),(80,vi aj),(91,vb az)] [rd v0 p0,bx 26 ah p1,bx 49 av af,bx 51 ba a9,rd al p1.aY,rd aw af.aJ]) az ?_ ?_;refine Aq mixed [0,0,0,0,0,0,0,0,0,0,2,0,0,0] [0,1,2,3,4,5,6,7,8,9,10,11,12,13] ?_;have j:=j.drew;refine zM zr zr<|bB (aj:Int)<|eB zr<|ic ((aj:Int)) 0<|eB zr<|iF (decide<|(aj:Int)>0)<|zT<|hY hj (λae hj=>?_) λae hj=>?_;refine zM zr zr<|j_ (hg:=cg ae) zr jz<|eB zr<|zL (hg:=cg ae) 7 j zr gF pr λch j=>eB zr<|w_ (vi aj) (cg ae)<|eB zr<|zY (hg:=cg ae) (aj:Int) 1<|eB zr<|q_ hj λbn bo hj=>r_ (hg:=cg ae) 0 j nX bo λcj j=>eB zr<|m_ (hg:=cg ae) 0 bn j gQ λck j=>eB zr<|zU (hg:=cg ae) 5 j zr gQ λcl j=>u4 zr ?_;exact q_ hj λa0 bp hj=>k_ (hg:=cg ae) (gj Tryz.func57) (kM N (i0:=1) (i1:=0) j zr zr bp) λw j=>w3 zr zr<|z7 (hg:=cg ae) a0<|eB zr<|hZ ae (vb<|!a0)<|eB zr<|bK (!a0)<|zT<|Ad<|oi hj▸⟨rfl,j.sp 14 [9,10,11,6,12,13]⟩;refine zM zr zr<|bL ae<|eB zr<|bL ae<|eB zr<|bL ae<|eB zr<|bL ae<|eB zr<|bL ae<|eB zr<|bL ae<|eB zr<|bL ae<|u4 zr<|bL ae<|w3 zr zr<|bL ae ?_;exact eB zr<|hZ ae (vb false)<|eB zr<|bK false<|zT<|Ad<|oi hj▸⟨rfl,j.sp 10 [5,6,7,2,8,9]⟩;rintro _ w⟨O,rfl,j⟩;refine aD<|dZ o (λo=>?_) λo=>?_;exact g_<|aG 8<|h_<|zI<|bZ<|aH<|oi o▸⟨rfl,aX ⟨rfl,j.drop 6⟩⟩;refine o_<|Aq mixed [0,0,0,0,0,2,0] [0,1,2,3,4,5,6] ?_;have j:=j.drew;refine zM zr zr<|j_ zr iu<|eB zr<|zL 1 j zr cR nT λcm j=>eB zr<|bB (ag:Int)<|eB zr<|q_ o λcn bq o=>AJ 0 zr j zr zr nU (.inr ⟨rfl,zr⟩) bq λcp j=>eB zr<|zU 5 j zr gQ λcq j=>u4 zr<|q_ o λbr bt o=>k_ (gj Tryz.func58) (kN N (i0:=1) (i1:=0) j zr zr bt) λw j=>w3 zr zr<|bK br<|zT<|Ad<|aD<|dZ o (λo=>?_) λo=>?_;exact g_<|aG 7<|h_<|zI<|bZ<|aH<|oi o▸⟨rfl,aX ⟨rfl,j.drop 9⟩⟩;exact zS<|bI<|bI<|aD<|u_<|zP hk hm<|bB ((aj+1:Nat):Int)<|i_<|oi o▸⟨rfl,j.sp 9 [3,4,5,7,8]⟩;intro r U w o hK;exact aH<|bZ<|aH<|oi o▸⟨rfl,hK⟩;rintro a8 _ w o⟨O,rfl,j⟩;refine aD<|o_<|g_<|j_ zr vd<|zL 2 j zr rZ xf λcr j=>x_ 0 af.jh j vR<|ic ((af.jh.length:Int)) 0<|h_<|dZ o (λo=>?_) λo=>?_;exact g_<|aG 3<|h_<|zN<|bZ<|aH<|oi o▸⟨rfl,aX ⟨rfl,j.drop 6⟩⟩;refine z4<|q_ o λa1 hj o=>zX (λ(a1:Bool)=>SH E V [(0,v0),(3,vp ah 0),(55,al),(56,vi p1.aY.length),(57,vi ag),(130,vb a1)] [rd v0 p0,bx 26 ah p1,rd al p1.aY]) a1 ?_ ?_;refine Af mixed ?_;have j:=j.drew;refine Ae<|bB (ag:Int)<|d5<|ic ((ag:Int)) 0<|d5<|iF (decide<|(ag:Int)>0)<|hY hj (λad hj=>?_) λad hj=>?_;refine d5<|j_ (hg:=cg ad) zr mg<|d5<|t_ (hg:=cg ad) 3 j zr iX eF<|d5<|j_ (hg:=cg ad) zr iu<|d5<|zL (hg:=cg ad) 2 j zr cR nT λct j=>d5<|w_ (vi ag) (cg ad)<|d5<|zY (hg:=cg ad) (ag:Int) 1<|d5 ?_;refine q_ hj λax bu hj=>r_ (hg:=cg ad) 0 j nU bu λcu j=>d5<|zO (hg:=cg ad) 0 j zr mg iX λcv j=>d5<|zZ ax.Name 0 (cg ad) j eF<|d5<|z9 af.Name ax.Name (cg ad)<|d5<|hZ ad (vb<|af.Name.iC ax.Name||af.Name.fe ax.Name)<|z5 ?_;exact oi hj▸⟨rfl,j.sp 9 [4,5,7]⟩;refine d5<|bL ad<|d5<|bL ad<|d5<|bL ad<|d5<|bL ad<|d5<|bL ad<|d5<|bL ad<|d5<|bL ad<|d5<|bL ad<|d5<|bL ad ?_;exact d5<|bL ad<|d5<|hZ ad (vb false)<|z5<|oi hj▸⟨rfl,j.sp 6 [1,2,4]⟩;rintro _ w⟨O,rfl,j⟩;refine aD<|dZ o (λo=>?_) λo=>?_;exact g_<|aG 8<|h_<|zI<|aH<|oi o▸⟨rfl,aX ⟨rfl,j.drop 3⟩⟩;exact zS<|bI<|aD<|u_<|zP hk hm<|bB ((ag+1:Nat):Int)<|i_<|oi o▸⟨rfl,j.sp 3 [0,1,2]⟩;intro r U w o hK;exact aH<|oi o▸hK;rintro a6 _ w o⟨O,rfl,j⟩;exact aD<|g_<|aG 0<|h_<|s_<|oi o▸aX ⟨rfl,j.drop 3⟩
theorem jH{p0:List aC}{p1:aF}(j:Holds E w V)(h0:V[i0]? =some (rd v0 p0))(h1:V[i1]? =some (rd v1 p1))(o:dQ N p0 p1=some res):c_ 38 [v0,v1] w<|aA E V res:=by
 unfold dQ at o;refine enter Tryz.func38 zr zr ?_;have j:=(j.dup (i0+0) h0).dup (i1+1) h1;refine g_<|zK 0 v1 j zr λaf w j=>?_;refine aG 0<|p_<|g_<|mv v0<|q_ o λaa ab o=>k_ (gj Tryz.func54) (jq N (i0:=2) j zr ab) λw j=>aG aa<|l_<|bB aa<|ic aa 0<|h_<|dZ o (λo=>?_) λo=>?_;exact g_<|bB aa<|aG aa<|h_<|zN<|oi o▸aX ⟨rfl,j.drop 3⟩;refine Ac<|mv v0<|zU 0 j zr gV λag j=>?_;exact q_ o λad ae o=>k_ xu (gI N (i0:=3) (i1:=0) j zr zr ae) λw j=>aG ad<|h_<|s_<|oi o▸aX ⟨rfl,j.drop 4⟩
theorem my{p0:List aC}{p1 p2:aF}(j:Holds E w V)(h0:V[i0]? =some (rd v0 p0))(h1:V[i1]? =some (rd v1 p1))(h2:V[i2]? =some (rd v2 p2))(o:fD N p0 p1 p2=some res):c_ 20 [v0,v1,v2] w<|aA E V res:=by
 unfold fD at o;refine enter Tryz.func20 zr zr ?_;have j:=((j.dup (i0+0) h0).dup (i1+1) h1).dup (i2+2) h2;refine g_<|zK 1 v1 j zr λaf w j=>?_;refine zK 1 v2 j zr λag w j=>?_;refine aG 0<|p_<|g_<|mv v0<|zU 1 j zr gV λah j=>?_;refine q_ o λaa ab o=>k_ (gj Tryz.func38) (jH N (i0:=5) (i1:=0) j zr zr ab) λw j=>aG aa<|l_<|bB aa<|ic aa 0<|h_<|dZ o (λo=>?_) λo=>?_;exact g_<|bB aa<|aG aa<|h_<|zN<|oi o▸aX ⟨rfl,j.drop 6⟩;refine Ac<|mv v0<|zU 1 j zr gV λai j=>?_;exact q_ o λad ae o=>k_ xu (gI N (i0:=6) (i1:=0) j zr zr ae) λw j=>aG ad<|h_<|s_<|oi o▸aX ⟨rfl,j.drop 7⟩
theorem gJ{p0:List aI}(j:Holds E w V)(h0:V[i0]? =some (rd v0 p0))(hb:cU N p0 p1=some res):c_ 22 [v0,vi p1] w<|aA E V res:=by
 unfold cU at hb;refine enter Tryz.func22 zr zr ?_;have j:=j.dup (i0+0) h0;refine g_<|aG 0<|p_<|o_<|q_ hb λaf hj hb=>zX (λ(af:Bool)=>SH E V [(0,v0),(1,vi p1),(22,vb af)] [rd v0 p0]) af ?_ ?_;refine Af mixed ?_;have j:=j.drew;refine Ae<|bB p1<|d5<|ic p1 0<|d5<|iF (decide<|p1>0)<|hY hj (λo hj=>?_) λo hj=>?_;refine d5<|w_ v0 (cg o)<|d5<|w_ (vi p1) (cg o)<|d5<|q_ hj λad an hj=>r_ (hg:=cg o) 0 j oq an λay j=>d5<|zO (hg:=cg o) 0 j zr jA d6 λaz j=>d5<|zZ ad.A 0 (cg o) j eF<|d5<|w_ v0 (cg o)<|d5<|w_ (vi p1) (cg o) ?_;refine d5<|zY (hg:=cg o) p1 1<|d5<|q_ hj λae ao hj=>r_ (hg:=cg o) 2 j oq ao λa0 j=>d5<|zO (hg:=cg o) 0 j zr jA d6 λa1 j=>d5<|zZ ae.A 0 (cg o) j eF<|d5<|z9 ad.A ae.A (cg o)<|d5<|hZ o (vb<|ad.A.iC ae.A||ad.A.fe ae.A) ?_;exact z5<|oi hj▸⟨rfl,j.sp 5 [4]⟩;refine d5<|bL o<|d5<|bL o<|d5<|bL o<|d5<|bL o<|d5<|bL o<|d5<|bL o<|d5<|bL o<|d5<|bL o<|d5<|bL o ?_;exact d5<|bL o<|d5<|bL o<|d5<|bL o<|d5<|hZ o (vb false)<|z5<|oi hj▸⟨rfl,j.sp 1 [0]⟩;rintro _ w⟨O,rfl,j⟩;refine aD<|dZ hb (λhb=>?_) λhb=>?_;exact g_<|aG 8<|h_<|zN<|oi hb▸aX ⟨rfl,j.drop 1⟩;refine z4<|g_<|mv v0<|bB p1<|q_ hb λag aq hb=>AJ 0 zr j zr zr oq (.inr ⟨rfl,zr⟩) aq λai j=>x_ 0 ag j oO<|bB 0<|h_<|z3 E V (λ(aj:Unit)=>[rd v0 p0,rd ai ag]) (λ_=>[]) (λah _=>[(0,v0),(1,vi p1),(25,ai),(26,vi ag.length),(27,vi ah)]) (λr=>g7 bC 40 Tryz.f22 (aA E V r) .ret) hb ?_ ?_ ?_ ?_;exact j.sp 2 [1,0];rintro hm ah aj fl _ w hk⟨O,rfl,j⟩hb;refine o_<|y_<|q_ hb λak av hb=>r_ 1 j oq av λa3 j=>m_ 0 ak j mQ λa4 j=>zQ j r9.z λa5 w j=>?_;refine zR 0 j 1 zr mQ λw j=>?_;refine p_<|Af mixed ?_;have j:=j.drew;refine Ae<|j_ zr jB<|d5<|t_ 0 j zr d7 eF<|d5<|mv v0<|d5<|bB p1<|d5<|q_ hb λal aw hb=>r_ 3 j oq aw λa6 j=>d5<|zO 0 j zr jB d7 λa7 j=>d5<|zZ al.B 0 zt j eF<|d5<|z9 ak.B al.B zt<|z5<|aD ?_;refine dZ hb (λhb=>?_) λhb=>?_;exact g_<|aG 7<|h_<|zI<|aH<|oi hb▸⟨rfl,aX ⟨rfl,j.drop 7⟩⟩;exact zS<|bI<|aD<|u_<|zP hk hm<|bB ((ah+1:Nat):Int)<|i_<|oi hb▸⟨rfl,j.sp 7 [5,6]⟩;intro r U w hb hK;exact aH<|oi hb▸hK;rintro aj _ w hb⟨O,rfl,j⟩;exact aD<|g_<|aG 0<|h_<|s_<|oi hb▸aX ⟨rfl,j.drop 2⟩
theorem ef{p0:aF}{p1:aQ}(j:Holds E w V)(h0:V[i0]? =some (rd v0 p0))(o:cL N p0 p1=some res):c_ 23 [v0,str p1] w<|aA E V res:=by
 unfold cL at o;refine enter Tryz.func23 zr zr ?_;have j:=j.dup (i0+0) h0;refine g_<|zK 0 v0 j zr λaj w j=>?_;refine aG 0<|p_<|g_<|j_ zr iu<|zL 0 j zr cR nT λab j=>x_ 0 p0.aY j r8<|bB 0<|h_<|z3 E V (λ(ad:Unit)=>[rd ab p0.aY]) (λ_=>[]) (λaa _=>[(1,str p1),(8,ab),(9,vi p0.aY.length),(10,vi aa)]) (λr=>g7 bC 21 Tryz.f23 (aA E V r) .ret) o ?_ ?_ ?_ ?_;exact j.sp 3 [0];rintro hm aa ad fl _ w hk⟨O,rfl,j⟩o;refine o_<|y_<|bB (aa:Int)<|q_ o λae ah o=>r_ 0 j nU ah λal j=>m_ 0 ae j nV λan j=>zQ j va.z λao w j=>?_;refine aG (aa:Int)<|zR 0 j 1 zr nV λw j=>?_;refine l_<|j_ zr mg<|t_ 0 j zr iX eF<|mv (str p1)<|z9 ae.Name p1 zt<|h_<|dZ o (λo=>?_) λo=>?_;exact g_<|bB (aa:Int)<|aG (aa:Int)<|h_<|zI<|aH<|oi o▸⟨rfl,aX ⟨rfl,j.drop 4⟩⟩;exact zS<|bI<|aD<|u_<|zP hk hm<|bB ((aa+1:Nat):Int)<|i_<|oi o▸⟨rfl,j.sp 4 [3]⟩;intro r U w o hK;exact aH<|oi o▸hK;rintro ad _ w o⟨O,rfl,j⟩;exact aD<|g_<|aG (-1)<|h_<|s_<|oi o▸aX ⟨rfl,j.drop 1⟩
theorem lW{p0:aC}(j:Holds E w V)(h0:V[i0]? =some (rd v0 p0))(hb:eW N p0 p1=some res):c_ 41 [v0,vi p1] w<|aA E V res:=by
 unfold eW at hb;refine enter Tryz.func41 zr zr ?_;have j:=j.dup (i0+0) h0;refine g_<|zK 0 v0 j zr λae w j=>?_;refine aG 0<|p_<|g_<|bB p1<|bB 0<|h_<|A2 E V (λ(ab:Int)=>[bx 55 ae p0]) (λ_=>[(1,vi p1)]) (λab=>[(2,vp ae 0),(6,vi p1),(7,vi ab)]) (λr=>g7 bC 35 Tryz.f41 (aA E V r) .ret) hb ?_ ?_ ?_ ?_;exact j.sp 2 [0];rintro ab fl _ w⟨O,rfl,j⟩hb;refine g_<|ic ab p1<|p_<|dZ hb (λhb=>?_) λhb=>?_;refine z4<|y_<|bB ab<|aG ab<|p_<|q_ hb λaf hj hb=>zX (λ(af:Bool)=>SH E V [(1,vi p1),(2,vp ae 0),(5,vi ab),(6,vi p1),(7,vi ab),(31,vb af)] [bx 55 ae p0]) af ?_ ?_;refine Af mixed ?_;have j:=j.drew;refine Ae<|j_ zr g8<|d5<|zL 0 j zr cF nj λaq j=>d5<|bB p1<|d5<|q_ hj λag aj hj=>r_ 0 j lf aj λar j=>d5<|zO 0 j zr ir cQ λau j=>d5<|zZ ag.aN 0 zt j mf<|d5<|ic ag.aN 0<|d5<|iF (decide<|ag.aN>0) ?_;refine hY hj (λo hj=>?_) λo hj=>?_;refine d5<|j_ (hg:=cg o) zr g8<|d5<|zL (hg:=cg o) 3 j zr cF nj λav j=>d5<|w_ (vi ab) (cg o)<|d5<|q_ hj λah ak hj=>r_ (hg:=cg o) 0 j lf ak λaw j=>d5<|zO (hg:=cg o) 0 j zr ir cQ λax j=>d5<|zZ ah.aN 0 (cg o) j mf<|d5<|j_ (hg:=cg o) zr g8<|d5<|zL (hg:=cg o) 6 j zr cF nj λay j=>?_;refine d5<|w_ (vi p1) (cg o)<|d5<|q_ hj λai al hj=>r_ (hg:=cg o) 0 j lf al λaz j=>d5<|zO (hg:=cg o) 0 j zr ir cQ λa0 j=>d5<|zZ ai.aN 0 (cg o) j mf<|d5<|Ag ah.aN ai.aN (cg o)<|d5<|hZ o (vb<|ah.aN==ai.aN) ?_;exact z5<|oi hj▸⟨rfl,j.sp 10 [9]⟩;refine d5<|bL o<|d5<|bL o<|d5<|bL o<|d5<|bL o<|d5<|bL o<|d5<|bL o<|d5<|bL o<|d5<|bL o<|d5<|bL o ?_;refine d5<|bL o<|d5<|bL o<|d5<|bL o<|d5<|bL o<|d5<|hZ o (vb false)<|z5 ?_;exact oi hj▸⟨rfl,j.sp 4 [3]⟩;rintro _ w⟨O,rfl,j⟩;refine aD<|dZ hb (λhb=>?_) λhb=>?_;exact g_<|bB ab<|aG ab<|h_<|zI<|aH<|oi hb▸⟨rfl,aX ⟨rfl,j.drop 1⟩⟩;refine zS<|bI<|aD<|u_<|zY ab 1<|bB (wrap .i64<|ab+1)<|i_ ?_;exact oi hb▸⟨rfl,j.sp 1 [0]⟩;exact Ak<|oi hb▸⟨rfl,j.sp 1 [0]⟩;intro r U w hb hK;exact aH<|oi hb▸hK;rintro ab _ w hb⟨O,rfl,j⟩;exact aD<|g_<|bB p1<|aG p1<|h_<|s_<|oi hb▸aX ⟨rfl,j.drop 1⟩
def kO(E:World)(V:List HP)(res:List Int)(v:Value)(w:World):Prop:=Holds E w<|[own 3 v res]++V
theorem g0{p0:List aC}{p1:aF}{p2:Net}{p3:aQ}{res:List Int}(j:Holds E w V)(h0:V[i0]? =some (rd v0 p0))(h1:V[i1]? =some (rd v1 p1))(h2:V[i2]? =some (rd v2 p2))(hb:dF N p0 p1 p2 p3=some res):c_ 25 [v0,v1,v2,str p3] w<|kO E V res:=by
 unfold dF at hb;refine enter Tryz.func25 zr zr ?_;have j:=((j.dup (i0+0) h0).dup (i1+1) h1).dup (i2+2) h2;refine g_<|zK 1 v1 j zr λa6 w j=>?_;refine zK 1 v2 j zr λbc w j=>?_;refine ju n_<|l_<|ju n_<|p_ ?_;obtain⟨bk,bl,hb⟩:=bd hb;obtain⟨a3,bm,hb⟩:=bd hb;obtain⟨bn,bo,hb⟩:=bd hb;refine q_ hb λax bp hb=>Au E V mixed [1,1,1,0,1,0,1,0,0,0,0,0,0,0,0,0] [3,5,8,9,12,13,14,15] (λ(x:Value×Value×Value×Value×Value×Value×Nat)=>(λaf ag ah ai aj ak ae=>[(0,13,v0),(1,14,v0),(2,15,vp a6 0),(3,16,af),(4,17,vp a6 0),(5,18,ag),(6,19,str p3),(7,20,vi bk),(8,21,ah),(9,22,ai),(10,23,str a3.bR),(11,24,vi bn),(12,25,aj),(13,26,ak),(14,10,vp ae 0)]) x.1 x.2.1 x.2.2.1 x.2.2.2.1 x.2.2.2.2.1 x.2.2.2.2.2.1 x.2.2.2.2.2.2) [(0,v0),(3,str p3),(5,vp a6 0),(6,vp bc 0),(9,n_)] [] (λ(D:Nat->Bool)(x:Value×Value×Value×Value×Value×Value×Nat)=>(λaf ag ah ai aj ak ae=>[bif D 0 then rd af p1.aU else aW,bif D 1 then rd ag p1.aU else aW,bif D 2 then pt ah a3 else aW,bif D 3 then pt ai a3.bR else aW,bif D 4 then pt aj ax else aW,bif D 5 then rd ak ax else aW,bif D 7 then bx 55 ae ax else(bif D 6 then raw 55 ae 2 else aW),bx 49 bc p2,bx 26 a6 p1,rd v2 p2,rd v1 p1,rd v0 p0]) x.1 x.2.1 x.2.2.1 x.2.2.2.1 x.2.2.2.2.1 x.2.2.2.2.2.1 x.2.2.2.2.2.2) (λx=>by kernel_rfl) ?_ ⟨λ_=>sZ gn,λ_=>sZ gn,λ_=>l8 gn fG,?_,λ_=>l8 gn fG,?_,λ_=>sZ gn,?_,?_,?_,?_,?_,?_,?_,?_,?_,trivial⟩ ?_;have j:=(((((((j.drew).aW).aW).aW).aW).aW).aW).aW;exact⟨(undef,undef,undef,undef,undef,undef,0),cB.none,vO zr,zt,j⟩;rintro D U w hD aa al⟨⟨af,ag,ah,ai,aj,ak,ae⟩,o,ha,_,j⟩;obtain⟨O,rfl⟩:=o.o1 2 aa;have j:=j.dL 0 hD;refine zL 8 j zr bN j9 λbq j=>?_;have j:=j.nw 0;exact v_ (bq,ag,ah,ai,aj,ak,ae) 3 o ha j;rintro D U w hD aa al⟨⟨af,ag,ah,ai,aj,ak,ae⟩,o,ha,_,j⟩;obtain⟨O,rfl⟩:=o.o1 4 aa;have j:=j.dL 1 hD;refine zL 8 j zr bN j9 λbr j=>?_;have j:=j.nw 1;exact v_ (af,br,ah,ai,aj,ak,ae) 5 o ha j;rintro D U w hD aa al⟨⟨af,ag,ah,ai,aj,ak,ae⟩,o,ha,_,j⟩;obtain⟨O,rfl⟩:=o.o2 5 6 aa;have j:=j.ea 1<|aa.1 rfl;refine k_ vV (eA N (p1:=p3) (i0:=1) j zr bl) λw j=>?_;have j:=j.cS 1 (D 5) (aa.1 rfl) aW;exact v_ (af,ag,ah,ai,aj,ak,ae) 7 o ha j;rintro D U w hD aa al⟨⟨af,ag,ah,ai,aj,ak,ae⟩,o,ha,_,j⟩;obtain⟨O,rfl⟩:=o.o2 3 7 aa;have j:=(j.ea 0<|aa.1 rfl).dL 2 hD;refine r_ 0 j lR bm λbt j=>?_;have j:=((j.pl 13 [1,2,0,4,5,6,7,8,9,10,11,12] rfl).cS 0 (D 3) (aa.1 rfl) aW).cS 2 true rfl aW;exact v_ (af,ag,bt,ai,aj,ak,ae) 8 o ha j;rintro D U w hD aa al⟨⟨af,ag,ah,ai,aj,ak,ae⟩,o,ha,_,j⟩;obtain⟨O,rfl⟩:=o.o1 8 aa;have j:=(j.ea 2<|aa.1 rfl).dL 3 hD;refine zO 2 j zr je fk λbu j=>?_;have j:=((j.pl 13 [1,2,3,0,5,6,7,8,9,10,11,12] rfl).cS 2 (D 8) (aa.1 rfl) aW).cS 3 true rfl aW;exact v_ (af,ag,ah,bu,aj,ak,ae) 9 o ha j;rintro D U w hD aa al⟨⟨af,ag,ah,ai,aj,ak,ae⟩,o,ha,_,j⟩;obtain⟨O,rfl⟩:=o.o1 9 aa;have j:=j.ea 3<|aa.1 rfl;refine zZ a3.bR 3 zt j eF ?_;have j:=j.cS 3 (D 9) (aa.1 rfl) aW;exact v_ (af,ag,ah,ai,aj,ak,ae) 10 o ha j;rintro D U w hD aa al⟨⟨af,ag,ah,ai,aj,ak,ae⟩,o,ha,_,j⟩;obtain⟨O,rfl⟩:=o.o2 1 10 aa;refine k_ wG (fW N (p1:=a3.bR) (i0:=11) j zr bo) λw j=>?_;exact v_ (af,ag,ah,ai,aj,ak,ae) 11 o ha j;rintro D U w hD aa al⟨⟨af,ag,ah,ai,aj,ak,ae⟩,o,ha,_,j⟩;obtain⟨O,rfl⟩:=o.o2 0 11 aa;have j:=j.dL 4 hD;refine r_ 11 j nS bp λbw j=>?_;have j:=j.nw 4;exact v_ (af,ag,ah,ai,bw,ak,ae) 12 o ha j;rintro D U w hD aa al⟨⟨af,ag,ah,ai,aj,ak,ae⟩,o,ha,_,j⟩;obtain⟨O,rfl⟩:=o.o1 12 aa;have j:=(j.ea 4<|aa.1 rfl).dL 5 hD;refine m_ 4 ax j jN λbz j=>?_;have j:=((j.pl 13 [1,2,3,4,5,0,7,8,9,10,11,12] rfl).cS 4 (D 12) (aa.1 rfl) aW).cS 5 true rfl aW;exact v_ (af,ag,ah,ai,aj,bz,ae) 13 o ha j;rintro D U w hD aa al⟨⟨af,ag,ah,ai,aj,ak,ae⟩,o,ha,_,j⟩;obtain⟨O,rfl⟩:=xS U;have j:=(j.dL 6<|nh al hD 15).dL 6 hD;refine zQ j tc.z λbf w j=>?_;have j:=(j.nw 6).tP 6 (D 15) (nh al hD 15)<|bx 55 bf ax;exact v_ (af,ag,ah,ai,aj,ak,bf) 14 o ha j;rintro D U w hD aa al⟨⟨af,ag,ah,ai,aj,ak,ae⟩,o,ha,_,j⟩;obtain⟨O,rfl⟩:=o.o2 14 13 aa;have j:=((j.ea 5<|aa.2.1 rfl).dL 6 hD).ea 6<|aa.1 rfl;refine zR 6 j 5 zr jN λw j=>?_;have j:=(j.cS 5 (D 13) (aa.2.1 rfl) aW).cS 6 true rfl (bif D 14 then raw 55 ae 2 else aW);exact A3 (af,ag,ah,ai,aj,ak,ae) o ha j;rintro D U w av⟨⟨af,ag,ah,ai,aj,ak,ae⟩,o,ha,_,j⟩;simp only[List.getD_cons_zero,List.getD_cons_succ,av 3 (by decide),av 5 (by decide),av 8 (by decide),av 9 (by decide),av 12 (by decide),av 13 (by decide),av 15 (by decide),bQ]at j;obtain⟨O,rfl⟩:=(ac (o.at 14 rfl<|qX av 14) ha).ko;refine aD<|o_<|g_<|j_ zr jz<|zL 7 j zr gF pr λa1 j=>x_ 0 p2.aJ j nW<|bB 0<|h_<|AO E V (λ(a4:List Int)(a8:Value)=>[bx 55 ae ax,rd a1 p2.aJ,own 3 a8 a4]) (λ_ a8=>[(9,a8)]) (λa5 _ _=>[(3,str p3),(10,vp ae 0),(28,a1),(29,vi p2.aJ.length),(30,vi a5)]) hb ?_ ?_ ?_;have j:=j.kY Int 3;exact⟨n_,j.sp 14 [8,1,0]⟩;rintro hm a5 a4 s' _ w hk⟨a2,O,rfl,j⟩hb;refine o_<|y_<|q_ hb λa0 b3 hb=>r_ 1 j nX b3 λb4 j=>m_ 0 a0 j gQ λb5 j=>zQ j qb.z λa9 w j=>?_;refine zR 0 j 1 zr gQ λw j=>?_;refine l_<|j_ zr iG<|t_ 0 j zr fR eF<|mv (str p3)<|z9 a0.Part p3 zt<|h_<|q_ hb λba hj hb=>zX (λ(ba:List Int)U w=>∃a7:Value,SH E V [(3,str p3),(9,a7),(10,vp ae 0),(28,a1),(29,vi p2.aJ.length),(30,vi a5)] [bx 55 ae ax,rd a1 p2.aJ,own 3 a7 ba] U w) ba ?_ ?_;refine dZ hj (λhj=>?_) λhj=>?_;obtain⟨bg,b6,hj⟩:=bd hj;obtain⟨ay,b7,hj⟩:=bd hj;refine q_ hj λb8 b9 hj=>Au E V mixed [0,0,0,1,0,0,0,0,0,1] [1,2,7,8] (λ(x:Value×Value×Value×Value)=>(λar au an ao=>[(0,38,a2),(1,39,ar),(2,40,au),(3,41,vp a9 1),(4,42,str a0.bP),(5,43,vi bg),(6,44,vi ay),(7,45,an),(8,46,ao),(9,9,ao)]) x.1 x.2.1 x.2.2.1 x.2.2.2) [(3,str p3),(10,vp ae 0),(12,vp a9 0),(28,a1),(29,vi p2.aJ.length),(30,vi a5)] [(9,9,a2)] (λ(D:Nat->Bool)(x:Value×Value×Value×Value)=>(λar au an ao=>[bif D 0 then rd ar ax else aW,bif D 1 then rd au ax else aW,bif D 3 then rd an ([ay]:List Int)else(bif D 2 then own 3 an ([ay]:List Int)else aW),bx 51 a9 a0,rd b5 a0,pt b4 a0,bx 55 ae ax,rd a1 p2.aJ,bif D 3 then own 3 ao b8 else own 3 a2 a4]) x.1 x.2.1 x.2.2.1 x.2.2.2) (λx=>by kernel_rfl) ?_ ⟨?_,?_,?_,λ_=>l8 gn lj,?_,?_,?_,?_,?_,λ_=>uZ gn rfl,trivial⟩ ?_;have j:=(((j.drew).aW).aW).aW;exact⟨(undef,undef,undef,undef),cB.none,vO zr,⟨λ_=>zr,zt⟩,j⟩;rintro D U w hD aa al⟨⟨ar,au,an,ao⟩,o,ha,ho,j⟩;obtain⟨O,rfl⟩:=(ac (ho.at 0 rfl<|nh al hD 9) az).ko;exact mv a2<|i_ ⟨rfl,(ar,au,an,ao),o.pu 0,ha.u,ho.up zr,j⟩;rintro D U w hD aa al⟨⟨ar,au,an,ao⟩,o,ha,ho,j⟩;obtain⟨O,rfl⟩:=ha.ko;have j:=j.dL 0 hD;refine zU 6 j zr jN λca j=>?_;have j:=j.nw 0;exact i_ ⟨rfl,(ca,au,an,ao),o.pu 1,ha.u,ho.up zr,j⟩;rintro D U w hD aa al⟨⟨ar,au,an,ao⟩,o,ha,ho,j⟩;obtain⟨O,rfl⟩:=ha.ko;have j:=j.dL 1 hD;refine zU 6 j zr jN λcb j=>?_;have j:=j.nw 1;exact i_ ⟨rfl,(ar,cb,an,ao),o.pu 2,ha.u,ho.up zr,j⟩;rintro D U w hD aa al⟨⟨ar,au,an,ao⟩,o,ha,ho,j⟩;obtain⟨O,rfl⟩:=o.o1 3 aa;exact t_ 3 j zr iq eF<|i_ ⟨rfl,(ar,au,an,ao),o.pu 4,ha.u,ho.up zr,j⟩;rintro D U w hD aa al⟨⟨ar,au,an,ao⟩,o,ha,ho,j⟩;obtain⟨O,rfl⟩:=o.o2 2 4 aa;have j:=j.ea 1<|aa.1 rfl;refine k_ xt (ix N (p1:=a0.bP) (i0:=1) j zr b6) λw j=>?_;have j:=j.cS 1 (D 2) (aa.1 rfl) aW;exact i_ ⟨rfl,(ar,au,an,ao),o.pu 5,ha.u,ho.up zr,j⟩;rintro D U w hD aa al⟨⟨ar,au,an,ao⟩,o,ha,ho,j⟩;obtain⟨O,rfl⟩:=o.o2 1 5 aa;have j:=j.ea 0<|aa.1 rfl;refine k_ (gj Tryz.func41) (lW N (p1:=bg) (i0:=0) j zr b7) λw j=>?_;have j:=j.cS 0 (D 1) (aa.1 rfl) aW;exact i_ ⟨rfl,(ar,au,an,ao),o.pu 6,ha.u,ho.up zr,j⟩;rintro D U w hD aa al⟨⟨ar,au,an,ao⟩,o,ha,ho,j⟩;obtain⟨O,rfl⟩:=o.o1 6 aa;have j:=((j.dL 2<|nh al hD 8).dL 2 hD).sc Int ay;refine Ay ([ay]:List Int) j [vi ay] wH zj (λM hs g=>⟨(g.sat 0 _ zr).1,zt⟩) λbh w j=>?_;have j:=((j.pl 11 [2,3,0,5,6,7,8,9,10] rfl).cS 2 true rfl aW).tP 2 (D 8) (nh al hD 8)<|rd bh ([ay]:List Int);exact i_ ⟨rfl,(ar,au,bh,ao),o.pu 7,ha.u,ho.up zr,j⟩;rintro D U w hD aa al⟨⟨ar,au,an,ao⟩,o,ha,ho,j⟩;obtain⟨O,rfl⟩:=o.o2 0 7 aa;have j:=(((j.dL 2 hD).ea 2<|aa.2.1 rfl).dL 8 hD).freeze 2;refine AS 8 2 zt zr j zr zr zr zr yF b9 λbj w j=>?_;have j:=(j.cS 2 true rfl (bif D 7 then own 3 an ([ay]:List Int)else aW)).cS 8 true rfl<|own 3 a2 a4;have o:=o.re 9 rfl (v':=bj)<|λh=>ft hD<|(al 9 _ rfl h).1 rfl;exact i_ ⟨rfl,(ar,au,an,bj),o.pu 8,ha.u,ho.up zr,j⟩;rintro D U w av⟨⟨ar,au,an,ao⟩,o,ha,_,j⟩;have j:=(((j.ea 0<|qX av 1).ea 1<|qX av 2).ea 2<|qX av 8).ea 8<|qX av 8;obtain⟨O,rfl⟩:=(ac (o.at 9 rfl<|qX av 9) ha).ko;exact oi hj▸⟨rfl,ao,j.sp 9 [6,7,8]⟩;exact zS<|oi hj▸⟨rfl,a2,j.sp 6 [3,4,5]⟩;rintro _ w⟨a7,O,rfl,j⟩;exact bI<|aD<|u_<|zP hk hm<|bB ((a5+1:Nat):Int)<|i_<|oi hb▸⟨rfl,a7,j.sp 3 [0,1,2]⟩;rintro a4 _ w hb⟨bb,O,rfl,j⟩;refine aD<|g_<|mv bb ?_;obtain⟨cd,cc,hb⟩:=bd hb;have j:=j.pull 2;refine k_ (gj Tryz.func43) (vn Tryz.lay43 j cc) λw j=>l_<|mv bb<|ju bb<|h_<|s_ ?_;obtain rfl:=oi hb;exact aX<|j.pk 4 [0]
end Go.Gk
namespace Go.Gk
open Go IntKind Go.Proofs
variable (N:Nat){E w:World}{i0 i1 i2 i3 i4:Nat}{res:Int}{v0 v1 v2 v3 v4:Value}{V:List HP}
theorem mX{p0:List Int}{p1:List Int}{res:Bool}(j:Holds E w V)(h0:V[i0]? =some (rd v0 p0))(h1:V[i1]? =some (rd v1 p1))(o:gO N p0 p1=some res):c_ 24 [v0,v1] w<|aT E V res:=by
 unfold gO at o;refine enter Tryz.func24 zr zr ?_;have j:=(j.dup (i0+0) h0).dup (i1+1) h1;refine g_<|bK false<|p_<|g_<|mv v0<|x_ 1 p0 j wI<|mv v1<|x_ 0 p1 j wI<|ic ((p0.length:Int)) ((p1.length:Int))<|h_<|dZ o (λo=>?_) λo=>?_;exact g_<|bK false<|h_<|zN<|oi o▸aX ⟨rfl,j.drop 2⟩;refine z4<|g_<|mv v0<|x_ 1 p0 j wI<|bB 0<|h_<|z3 E V (λ(ab:Unit)=>[rd v0 p0,rd v1 p1]) (λ_=>[]) (λaa _=>[(0,v0),(1,v1),(12,vi p0.length),(13,vi aa)]) (λr=>g7 bC 26 Tryz.f24 (aT E V r) .ret) o ?_ ?_ ?_ ?_;exact j.sp 2 [1,0];rintro hm aa ab fl _ w hk⟨O,rfl,j⟩o;refine o_<|y_<|bB (aa:Int)<|aG (aa:Int)<|p_<|Af mixed ?_;have j:=j.drew;refine Ae<|mv v0<|d5<|bB (aa:Int)<|d5<|q_ o λad ah o=>r_ 0 j wH ah λal j=>d5<|zZ ad 0 zt j mf<|d5<|mv v1<|d5<|bB (aa:Int)<|d5 ?_;refine q_ o λae ai o=>r_ 2 j wH ai λan j=>d5<|zZ ae 0 zt j mf<|d5<|ic ad ae<|z5<|aD<|dZ o (λo=>?_) λo=>?_;exact g_<|bK false<|h_<|zI<|aH<|oi o▸⟨rfl,aX ⟨rfl,j.drop 4⟩⟩;exact zS<|bI<|aD<|u_<|zP hk hm<|bB ((aa+1:Nat):Int)<|i_<|oi o▸⟨rfl,j.sp 4 [2,3]⟩;intro r U w o hK;exact aH<|oi o▸hK;rintro ab _ w o⟨O,rfl,j⟩;exact aD<|g_<|bK true<|h_<|s_<|oi o▸aX ⟨rfl,j.drop 2⟩
def d9(E:World)(V:List HP)(r:Int)(U:Nat->Value)(w:World):Prop:=g7 bC 150 Tryz.f5 (aA E V r) .ret U w
theorem jr{p0:List aC}{p1 p2:aF}{p3:List aI}{p4:List aI}(j:Holds E w V)(h0:V[i0]? =some (rd v0 p0))(h1:V[i1]? =some (rd v1 p1))(h2:V[i2]? =some (rd v2 p2))(h3:V[i3]? =some (rd v3 p3))(h4:V[i4]? =some (rd v4 p4))(hb:dK N p0 p1 p2 p3 p4=some res):
    c_ 5 [v0,v1,v2,v3,v4] w<|aA E V res:=by
 unfold dK at hb
 refine enter Tryz.func5 zr zr ?_
 have j:=((((j.dup (i0+0) h0).dup (i1+1) h1).dup (i2+2) h2).dup (i3+3) h3).dup (i4+4) h4
 refine g_<|zK 3 v1 j zr λaw w j=>?_
 refine zK 3 v2 j zr λax w j=>?_
 refine aG 0<|p_<|g_<|mv v0<|zU 1 j zr gV λdm j=>zU 1 j zr gV λdn j=>?_
 obtain⟨bh,cd,hb⟩:=bd hb
 refine k_ (gj Tryz.func20) (my N (i0:=8) (i1:=1) (i2:=0) j zr zr zr cd) λw j=>aG bh<|l_<|bB bh<|ic bh 0<|h_<|dZ hb (λhb=>?_) λhb=>?_
 ·refine g_<|bB bh<|aG bh<|h_<|zN ?_
  obtain rfl:=oi hb
  exact aX ⟨rfl,j.drop 9⟩
 refine z4<|o_ ?_
 obtain⟨br,hj,hb⟩:=bd hb
 refine zX (λ(br:Bool)=>SH E V [(0,v0),(3,v3),(4,v4),(6,vp aw 0),(7,vp ax 0),(38,vb br)] [rd v0 p0,rd v3 p3,rd v4 p4,bx 26 aw p1,bx 26 ax p2]) br ?_ ?_
 ·refine u_<|mv v3<|x_ 5 p3 j oO<|ic ((p3.length:Int)) 1000<|iF (decide<|(p3.length:Int)>1000)<|hY hj (λa4 hj=>?_) λa4 hj=>?_
  ·refine bL a4<|bL a4<|bL a4<|hZ a4 (vb true)<|i_ ?_
   obtain rfl:=oi hj
   exact⟨rfl,j.sp 9 [8,5,4,3,2]⟩
  refine w_ v4 (cg a4)<|x_ (hg:=cg a4) 4 p4 j oO<|Ag (p4.length:Int) 1000 (cg a4)<|hZ a4 (vb<|decide<|(p4.length:Int)>1000)<|i_ ?_
  obtain rfl:=oi hj
  exact⟨rfl,j.sp 9 [8,5,4,3,2]⟩
 rintro _ w⟨O,rfl,j⟩
 refine aD<|dZ hb (λhb=>?_) λhb=>?_
 ·refine g_<|aG 2<|h_<|zN ?_
  obtain rfl:=oi hb
  exact aX ⟨rfl,j.drop 5⟩
 refine z4<|g_<|mv v3<|x_ 1 p3 j oO<|bB 0<|h_<|z3 E V (λ(b2:Unit)=>[rd v0 p0,rd v3 p3,rd v4 p4,bx 26 aw p1,bx 26 ax p2]) (λ_=>[(0,v0),(3,v3),(4,v4),(6,vp aw 0),(7,vp ax 0)]) (λa5 _=>[(39,v3),(40,vi p3.length),(41,vi a5)]) (d9 E V) hb ?_ ?_ ?_ ?_
 ·exact j.sp 5 [0,1,2,3,4]
 ·rintro hm a5 b2 fl _ w hk⟨O,rfl,j⟩hb
  refine o_<|y_<|bB (a5:Int) ?_
  obtain⟨a7,cf,hb⟩:=bd hb
  refine r_ 1 j oq cf λch j=>m_ 0 a7 j mQ λcj j=>zQ j r9.z λbm w j=>?_
  refine aG (a5:Int)<|zR 0 j 1 zr mQ λw j=>?_
  refine p_ ?_
  obtain⟨pZ,ck,hb⟩:=bd hb
  obtain⟨bf,cm,hb⟩:=bd hb
  refine Au E V mixed [1,0,1,0,0,1,0,1,0,0,1,1] [1,6] (λ(x:Value×Value)=>(λa1 a2=>[(0,46,vp aw 0),(1,47,a1),(2,48,vp bm 0),(3,49,str a7.A),(4,50,vi pZ),(5,51,vp ax 0),(6,52,a2),(7,53,vp bm 1),(8,54,str a7.B),(9,55,vi bf),(10,14,vi pZ),(11,15,vi bf)]) x.1 x.2) [(0,v0),(3,v3),(4,v4),(6,vp aw 0),(7,vp ax 0),(12,vi a5),(13,vp bm 0),(39,v3),(40,vi p3.length),(41,vi a5)] [] (λ(D:Nat->Bool)(x:Value×Value)=>(λa1 a2=>[bif D 0 then rd a1 p1.aU else aW,bif D 1 then rd a2 p2.aU else aW,bx 44 bm a7,rd cj a7,pt ch a7,rd v0 p0,rd v3 p3,rd v4 p4,bx 26 aw p1,bx 26 ax p2]) x.1 x.2) (λx=>by kernel_rfl) ?_ ⟨λ_=>l8 gn fG,?_,λ_=>l8 gn jA,?_,?_,λ_=>l8 gn fG,?_,λ_=>l8 gn jB,?_,?_,λ_=>uZ gn rfl,λ_=>uZ gn rfl,trivial⟩ ?_
  ·have j:=((j.drew).aW).aW
   exact⟨(undef,undef),cB.none,vO zr,zt,j⟩
  ·rintro D U w hD ab av⟨⟨a1,a2⟩,o,ha,_,j⟩
   obtain⟨O,rfl⟩:=o.o1 0 ab
   have j:=j.dL 0 hD
   refine zL 8 j zr bN j9 λcn j=>?_
   have j:=j.nw 0
   exact v_ (cn,a2) 1 o ha j
  ·rintro D U w hD ab av⟨⟨a1,a2⟩,o,ha,_,j⟩
   obtain⟨O,rfl⟩:=o.o1 2 ab
   refine t_ 2 j zr d6 eF ?_
   exact v_ (a1,a2) 3 o ha j
  ·rintro D U w hD ab av⟨⟨a1,a2⟩,o,ha,_,j⟩
   obtain⟨O,rfl⟩:=o.o2 1 3 ab
   have j:=j.ea 0<|ab.1 rfl
   refine k_ vV (eA N (p1:=a7.A) (i0:=0) j zr ck) λw j=>?_
   have j:=j.cS 0 (D 1) (ab.1 rfl) aW
   exact v_ (a1,a2) 4 o ha j
  ·rintro D U w hD ab av⟨⟨a1,a2⟩,o,ha,_,j⟩
   obtain⟨O,rfl⟩:=o.o1 5 ab
   have j:=j.dL 1 hD
   refine zL 9 j zr bN j9 λcp j=>?_
   have j:=j.nw 1
   exact v_ (a1,cp) 6 o ha j
  ·rintro D U w hD ab av⟨⟨a1,a2⟩,o,ha,_,j⟩
   obtain⟨O,rfl⟩:=o.o1 7 ab
   refine t_ 2 j zr d7 eF ?_
   exact v_ (a1,a2) 8 o ha j
  ·rintro D U w hD ab av⟨⟨a1,a2⟩,o,ha,_,j⟩
   obtain⟨O,rfl⟩:=o.o2 6 8 ab
   have j:=j.ea 1<|ab.1 rfl
   refine k_ vV (eA N (p1:=a7.B) (i0:=1) j zr cm) λw j=>?_
   have j:=j.cS 1 (D 6) (ab.1 rfl) aW
   exact v_ (a1,a2) 9 o ha j
  rintro D U w ay⟨⟨a1,a2⟩,o,ha,_,j⟩
  have j:=(j.ea 0<|qX ay 1).ea 1<|qX ay 6
  obtain⟨O,rfl⟩:=(ac (o.at 10 rfl<|qX ay 10)<|ac (o.at 11 rfl<|qX ay 11) ha).ko
  refine aD<|o_<|g_<|bB pZ<|ic pZ 0<|iF (decide<|pZ<0)<|zV (vi bf) zr zr p5<|zV (vb<|decide<|bf<0) zr zr (rv .lss)<|Aa (b:=decide<|pZ<0) (v:=vb<|decide (pZ<0)||decide (bf<0)) zt zr zr (nG true) ?_
  refine h_<|dZ hb (λhb=>?_) λhb=>?_
  ·refine g_<|aG 9<|h_<|zN<|bZ<|aH ?_
   obtain rfl:=oi hb
   exact⟨rfl,aX ⟨rfl,j.drop 10⟩⟩
  refine z4<|o_<|Af mixed ?_
  have j:=j.drew
  refine Ae<|j_ zr fG<|d5<|zL 8 j zr bN j9 λdp j=>d5<|bB pZ<|d5 ?_
  obtain⟨b3,cq,hb⟩:=bd hb
  refine r_ 0 j lR cq λdq j=>d5<|zO 0 j zr je fk λdr j=>d5<|zZ b3.bR 0 zt j eF<|d5<|j_ zr fG<|d5<|zL 12 j zr bN j9 λds j=>?_
  refine d5<|bB bf<|d5 ?_
  obtain⟨b4,cr,hb⟩:=bd hb
  refine r_ 0 j lR cr λdt j=>d5<|zO 0 j zr je fk λdu j=>d5<|zZ b4.bR 0 zt j eF<|d5<|z9 b3.bR b4.bR zt<|z5<|aD ?_
  refine dZ hb (λhb=>?_) λhb=>?_
  ·refine g_<|aG 6<|h_<|zN<|bZ<|aH ?_
   obtain rfl:=oi hb
   exact⟨rfl,aX ⟨rfl,j.drop 16⟩⟩
  refine Ac<|mv v3<|bB (a5:Int) ?_
  obtain⟨bj,ct,hb⟩:=bd hb
  refine k_ xv (gJ N (p1:=(a5:Int)) (i0:=12) j zr ct) λw j=>aG bj<|l_<|bB bj<|ic bj 0<|h_<|dZ hb (λhb=>?_) λhb=>?_
  rotate_left
  ·refine zS<|bI<|aD<|u_<|zP hk hm<|bB ((a5+1:Nat):Int)<|i_ ?_
   obtain rfl:=oi hb
   exact⟨rfl,j.sp 16 [11,12,13,14,15]⟩
  refine g_<|bB bj<|aG bj<|h_<|zI<|aH ?_
  obtain rfl:=oi hb
  exact⟨rfl,aX ⟨rfl,j.drop 16⟩⟩
 ·intro r U w hb hK
  refine aH ?_
  obtain rfl:=oi hb
  exact hK
 rintro b2 _ w hb⟨O,rfl,j⟩
 refine aD<|o_<|g_<|mv v4<|x_ 2 p4 j oO<|bB 0<|h_<|z3 E V (λ(b5:Unit)=>[rd v0 p0,rd v3 p3,rd v4 p4,bx 26 aw p1,bx 26 ax p2]) (λ_=>[(0,v0),(3,v3),(4,v4),(6,vp aw 0),(7,vp ax 0)]) (λa6 _=>[(82,v4),(83,vi p4.length),(84,vi a6)]) (d9 E V) hb ?_ ?_ ?_ ?_
 ·exact j.sp 5 [0,1,2,3,4]
 ·rintro hm a6 b5 fl _ w hk⟨O,rfl,j⟩hb
  refine o_<|y_<|bB (a6:Int) ?_
  obtain⟨bu,cu,hb⟩:=bd hb
  refine r_ 2 j oq cu λdv j=>m_ 0 bu j mQ λdw j=>zQ j r9.z λdx w j=>?_
  refine aG (a6:Int)<|zR 0 j 1 zr mQ λw j=>?_
  refine p_<|o_ ?_
  obtain⟨bw,hj,hb⟩:=bd hb
  refine zX (λ(bw:Bool)=>SH E V [(0,v0),(3,v3),(4,v4),(6,vp aw 0),(7,vp ax 0),(17,vi a6),(82,v4),(83,vi p4.length),(84,vi a6),(100,vb bw)] [rd v0 p0,rd v3 p3,rd v4 p4,bx 26 aw p1,bx 26 ax p2]) bw ?_ ?_
  ·refine u_<|zU 6 j zr gV λdy j=>j_ zr jA<|t_ 1 j zr d6 eF ?_
   obtain⟨b6,cv,hj⟩:=bd hj
   refine k_ vW (ef N (p1:=bu.A) (i0:=0) j zr cv) λw j=>ic b6 0<|iF (decide<|b6<0)<|hY hj (λa3 hj=>?_) λa3 hj=>?_
   ·refine bL a3<|bL a3<|bL a3<|bL a3<|bL a3<|hZ a3 (vb true)<|i_ ?_
    obtain rfl:=oi hj
    exact⟨rfl,j.sp 9 [4,5,6,7,8]⟩
   refine zU (hg:=cg a3) 8 j zr gV λdz j=>j_ (hg:=cg a3) zr jB<|t_ (hg:=cg a3) 2 j zr d7 eF ?_
   obtain⟨b7,cw,hj⟩:=bd hj
   refine k_ (hg:=cg a3) vW (ef N (p1:=bu.B) (i0:=0) j zr cw) λw j=>Ag b7 0 (cg a3)<|hZ a3 (vb<|decide<|b7<0)<|i_ ?_
   obtain rfl:=oi hj
   exact⟨rfl,j.sp 10 [5,6,7,8,9]⟩
  rintro _ w⟨O,rfl,j⟩
  refine aD<|dZ hb (λhb=>?_) λhb=>?_
  ·refine g_<|aG 9<|h_<|zN<|bZ<|aH ?_
   obtain rfl:=oi hb
   exact⟨rfl,aX ⟨rfl,j.drop 5⟩⟩
  refine Ac<|mv v4<|bB (a6:Int) ?_
  obtain⟨bk,cx,hb⟩:=bd hb
  refine k_ xv (gJ N (p1:=(a6:Int)) (i0:=2) j zr cx) λw j=>aG bk<|l_<|bB bk<|ic bk 0<|h_<|dZ hb (λhb=>?_) λhb=>?_
  rotate_left
  ·refine zS<|bI<|aD<|u_<|zP hk hm<|bB ((a6+1:Nat):Int)<|i_ ?_
   obtain rfl:=oi hb
   exact⟨rfl,j.sp 5 [0,1,2,3,4]⟩
  refine g_<|bB bk<|aG bk<|h_<|zI<|aH ?_
  obtain rfl:=oi hb
  exact⟨rfl,aX ⟨rfl,j.drop 5⟩⟩
 ·intro r U w hb hK
  refine aH ?_
  obtain rfl:=oi hb
  exact hK
 rintro b5 _ w hb⟨O,rfl,j⟩
 refine aD<|o_<|g_<|mv v4<|x_ 2 p4 j oO<|bB 0<|h_<|z3 E V (λ(b8:Unit)=>[rd v0 p0,rd v3 p3,bx 26 aw p1,bx 26 ax p2,rd v4 p4]) (λ_=>[]) (λbl _=>[(0,v0),(3,v3),(6,vp aw 0),(7,vp ax 0),(108,v4),(109,vi p4.length),(110,vi bl)]) (d9 E V) hb ?_ ?_ ?_ ?_
 ·exact j.sp 5 [0,1,3,4,2]
 ·rintro hm bl b8 fl _ w hk⟨O,rfl,j⟩hb
  refine o_<|y_ ?_
  obtain⟨bc,cy,hb⟩:=bd hb
  refine r_ 4 j oq cy λd0 j=>m_ 0 bc j mQ λd1 j=>zQ j r9.z λbg w j=>?_
  refine zR 0 j 1 zr mQ λw j=>?_
  refine l_<|mv v3<|x_ 4 p3 j oO<|bB 0<|h_<|z3 E V (λ(b9:Unit)=>[rd v0 p0,rd v3 p3,bx 26 aw p1,bx 26 ax p2,bx 44 bg bc,rd v4 p4]) (λ_=>[(0,v0),(3,v3),(6,vp aw 0),(7,vp ax 0),(108,v4),(109,vi p4.length),(110,vi bl)]) (λbn _=>[(21,vp bg 0),(114,v3),(115,vi p3.length),(116,vi bn)]) (d9 E V) hb ?_ ?_ ?_ ?_
  ·exact j.sp 8 [3,4,5,6,0,7]
  ·rintro hm bn b9 fl _ w hk⟨O,rfl,j⟩hb
   refine o_<|y_ ?_
   obtain⟨a8,cz,hb⟩:=bd hb
   refine r_ 1 j oq cz λc0 j=>m_ 0 a8 j mQ λc1 j=>zQ j r9.z λbo w j=>?_
   refine zR 0 j 1 zr mQ λw j=>?_
   refine p_ ?_
   obtain⟨c2,c3,hb⟩:=bd hb
   obtain⟨bz,c4,hb⟩:=bd hb
   obtain⟨bp,c5,hb⟩:=bd hb
   obtain⟨c6,c7,hb⟩:=bd hb
   obtain⟨b0,c8,hb⟩:=bd hb
   obtain⟨bq,c9,hb⟩:=bd hb
   obtain⟨ca,da,hb⟩:=bd hb
   refine Au E V mixed [1,0,1,0,0,1,0,0,0,0,1,0,0,1,0,1,0,0,1,0,0,0,0,1,0,0,0,1] [1,3,4,8,9,12,14,16,17,21,22,25,26] (λ(x:Value×Value×Value×Value×Value×Value×Value×Value×Value×Value×Value×Value)=>(λah ai aj ak al af an ao aq ar au ag=>[(0,120,v0),(1,121,ah),(2,122,vp aw 1),(3,123,ai),(4,124,aj),(5,125,vp bg 0),(6,126,str bc.A),(7,127,vi c2),(8,128,ak),(9,129,al),(10,130,vp bo 0),(11,131,str a8.A),(12,132,af),(13,133,v0),(14,134,an),(15,135,vp ax 1),(16,136,ao),(17,137,aq),(18,138,vp bg 1),(19,139,str bc.B),(20,140,vi c6),(21,141,ar),(22,142,au),(23,143,vp bo 1),(24,144,str a8.B),(25,145,ag),(26,146,vb ca),(27,147,vb<|!ca)]) x.1 x.2.1 x.2.2.1 x.2.2.2.1 x.2.2.2.2.1 x.2.2.2.2.2.1 x.2.2.2.2.2.2.1 x.2.2.2.2.2.2.2.1 x.2.2.2.2.2.2.2.2.1 x.2.2.2.2.2.2.2.2.2.1 x.2.2.2.2.2.2.2.2.2.2.1 x.2.2.2.2.2.2.2.2.2.2.2) [(0,v0),(3,v3),(6,vp aw 0),(7,vp ax 0),(21,vp bg 0),(23,vp bo 0),(108,v4),(109,vi p4.length),(110,vi bl),(114,v3),(115,vi p3.length),(116,vi bn)] [] (λ(D:Nat->Bool)(x:Value×Value×Value×Value×Value×Value×Value×Value×Value×Value×Value×Value)=>(λah ai aj ak al af an ao aq ar au ag=>[bif D 0 then rd ah p1 else aW,bif D 1 then rd ai p1.aY else aW,bif D 2 then rd aj p1 else aW,bif D 3 then pt ak bz else aW,bif D 4 then rd al bz else aW,bif D 12 then rd af bp else(bif D 5 then own 3 af bp else aW),bif D 6 then rd an p2 else aW,bif D 7 then rd ao p2.aY else aW,bif D 8 then rd aq p2 else aW,bif D 9 then pt ar b0 else aW,bif D 10 then rd au b0 else aW,bif D 12 then rd ag bq else(bif D 11 then own 3 ag bq else aW),bx 44 bo a8,rd c1 a8,pt c0 a8,rd v0 p0,rd v3 p3,bx 26 aw p1,bx 26 ax p2,bx 44 bg bc,rd v4 p4]) x.1 x.2.1 x.2.2.1 x.2.2.2.1 x.2.2.2.2.1 x.2.2.2.2.2.1 x.2.2.2.2.2.2.1 x.2.2.2.2.2.2.2.1 x.2.2.2.2.2.2.2.2.1 x.2.2.2.2.2.2.2.2.2.1 x.2.2.2.2.2.2.2.2.2.2.1 x.2.2.2.2.2.2.2.2.2.2.2) (λx=>by kernel_rfl) ?_ ⟨λ_=>sZ gn,?_,λ_=>l8 gn iu,?_,?_,λ_=>l8 gn jA,?_,?_,?_,?_,λ_=>l8 gn jA,?_,?_,λ_=>sZ gn,?_,λ_=>l8 gn iu,?_,?_,λ_=>l8 gn jB,?_,?_,?_,?_,λ_=>l8 gn jB,?_,?_,?_,λ_=>xR gn rfl,trivial⟩ ?_
   ·have j:=((((((((((((j.drew).aW).aW).aW).aW).aW).aW).aW).aW).aW).aW).aW).aW
    exact⟨(undef,undef,undef,undef,undef,undef,undef,undef,undef,undef,undef,undef),cB.none,vO zr,zt,j⟩
   ·rintro D U w hD ab av⟨⟨ah,ai,aj,ak,al,af,an,ao,aq,ar,au,ag⟩,o,ha,_,j⟩
    dsimp only at o j
    obtain⟨O,rfl⟩:=ha.ko
    have j:=j.dL 0 hD
    refine zU 17 j zr gV λdb j=>?_
    have j:=j.nw 0
    exact v_ (db,ai,aj,ak,al,af,an,ao,aq,ar,au,ag) 1 o ha j
   ·rintro D U w hD ab av⟨⟨ah,ai,aj,ak,al,af,an,ao,aq,ar,au,ag⟩,o,ha,_,j⟩
    dsimp only at o j
    obtain⟨O,rfl⟩:=o.o1 2 ab
    have j:=j.dL 1 hD
    refine zL 17 j zr cR nT λdc j=>?_
    have j:=j.nw 1
    exact v_ (ah,dc,aj,ak,al,af,an,ao,aq,ar,au,ag) 3 o ha j
   ·rintro D U w hD ab av⟨⟨ah,ai,aj,ak,al,af,an,ao,aq,ar,au,ag⟩,o,ha,_,j⟩
    dsimp only at o j
    obtain⟨O,rfl⟩:=ha.ko
    have j:=j.dL 2 hD
    refine zU 17 j zr gV λdd j=>?_
    have j:=j.nw 2
    exact v_ (ah,ai,dd,ak,al,af,an,ao,aq,ar,au,ag) 4 o ha j
   ·rintro D U w hD ab av⟨⟨ah,ai,aj,ak,al,af,an,ao,aq,ar,au,ag⟩,o,ha,_,j⟩
    dsimp only at o j
    obtain⟨O,rfl⟩:=o.o1 5 ab
    refine t_ 19 j zr d6 eF ?_
    exact v_ (ah,ai,aj,ak,al,af,an,ao,aq,ar,au,ag) 6 o ha j
   ·rintro D U w hD ab av⟨⟨ah,ai,aj,ak,al,af,an,ao,aq,ar,au,ag⟩,o,ha,_,j⟩
    dsimp only at o j
    obtain⟨O,rfl⟩:=o.o2 4 6 ab
    have j:=j.ea 2<|ab.1 rfl
    refine k_ vW (ef N (p1:=bc.A) (i0:=2) j zr c3) λw j=>?_
    have j:=j.cS 2 (D 4) (ab.1 rfl) aW
    exact v_ (ah,ai,aj,ak,al,af,an,ao,aq,ar,au,ag) 7 o ha j
   ·rintro D U w hD ab av⟨⟨ah,ai,aj,ak,al,af,an,ao,aq,ar,au,ag⟩,o,ha,_,j⟩
    dsimp only at o j
    obtain⟨O,rfl⟩:=o.o2 3 7 ab
    have j:=(j.ea 1<|ab.1 rfl).dL 3 hD
    refine r_ 1 j nU c4 λde j=>?_
    have j:=((j.pl 22 [1,2,3,0,5,6,7,8,9,10,11,12,13,14,15,16,17,18,19,20,21] rfl).cS 1 (D 3) (ab.1 rfl) aW).cS 3 true rfl aW
    exact v_ (ah,ai,aj,de,al,af,an,ao,aq,ar,au,ag) 8 o ha j
   ·rintro D U w hD ab av⟨⟨ah,ai,aj,ak,al,af,an,ao,aq,ar,au,ag⟩,o,ha,_,j⟩
    dsimp only at o j
    obtain⟨O,rfl⟩:=o.o1 8 ab
    have j:=(j.ea 3<|ab.1 rfl).dL 4 hD
    refine m_ 3 bz j nV λdf j=>?_
    have j:=((j.pl 22 [1,2,3,4,0,6,7,8,9,10,11,12,13,14,15,16,17,18,19,20,21] rfl).cS 3 (D 8) (ab.1 rfl) aW).cS 4 true rfl aW
    exact v_ (ah,ai,aj,ak,df,af,an,ao,aq,ar,au,ag) 9 o ha j
   ·rintro D U w hD ab av⟨⟨ah,ai,aj,ak,al,af,an,ao,aq,ar,au,ag⟩,o,ha,_,j⟩
    dsimp only at o j
    obtain⟨O,rfl⟩:=o.o1 10 ab
    refine t_ 12 j zr d6 eF ?_
    exact v_ (ah,ai,aj,ak,al,af,an,ao,aq,ar,au,ag) 11 o ha j
   ·rintro D U w hD ab av⟨⟨ah,ai,aj,ak,al,af,an,ao,aq,ar,au,ag⟩,o,ha,_,j⟩
    dsimp only at o j
    obtain⟨O,rfl⟩:=(ac (o.at 0 rfl<|ab.1 rfl)<|ac (o.at 1 rfl<|ab.2.1 rfl)<|ac (o.at 9 rfl<|ab.2.2.1 rfl)<|ac (o.at 11 rfl<|ab.2.2.2.1 rfl) az).ko
    have j:=(((j.ea 0<|ab.2.1 rfl).ea 4<|ab.2.2.1 rfl).dL 5<|nh av hD 26).dL 5 hD
    refine Al xw (g0 N (p3:=a8.A) (i0:=15) (i1:=0) (i2:=4) j zr zr zr c5) λcb w j=>?_
    have j:=((((j.pl 22 [1,2,3,4,5,0,7,8,9,10,11,12,13,14,15,16,17,18,19,20,21] rfl).cS 0 (D 1) (ab.2.1 rfl) aW).cS 4 (D 9) (ab.2.2.1 rfl) aW).cS 5 true rfl aW).tP 5 (D 26) (nh av hD 26)<|rd cb bp
    exact v_ (ah,ai,aj,ak,al,cb,an,ao,aq,ar,au,ag) 12 o ha j
   ·rintro D U w hD ab av⟨⟨ah,ai,aj,ak,al,af,an,ao,aq,ar,au,ag⟩,o,ha,_,j⟩
    dsimp only at o j
    obtain⟨O,rfl⟩:=ha.ko
    have j:=j.dL 6 hD
    refine zU 18 j zr gV λdg j=>?_
    have j:=j.nw 6
    exact v_ (ah,ai,aj,ak,al,af,dg,ao,aq,ar,au,ag) 14 o ha j
   ·rintro D U w hD ab av⟨⟨ah,ai,aj,ak,al,af,an,ao,aq,ar,au,ag⟩,o,ha,_,j⟩
    dsimp only at o j
    obtain⟨O,rfl⟩:=o.o1 15 ab
    have j:=j.dL 7 hD
    refine zL 18 j zr cR nT λdh j=>?_
    have j:=j.nw 7
    exact v_ (ah,ai,aj,ak,al,af,an,dh,aq,ar,au,ag) 16 o ha j
   ·rintro D U w hD ab av⟨⟨ah,ai,aj,ak,al,af,an,ao,aq,ar,au,ag⟩,o,ha,_,j⟩
    dsimp only at o j
    obtain⟨O,rfl⟩:=ha.ko
    have j:=j.dL 8 hD
    refine zU 18 j zr gV λdi j=>?_
    have j:=j.nw 8
    exact v_ (ah,ai,aj,ak,al,af,an,ao,di,ar,au,ag) 17 o ha j
   ·rintro D U w hD ab av⟨⟨ah,ai,aj,ak,al,af,an,ao,aq,ar,au,ag⟩,o,ha,_,j⟩
    dsimp only at o j
    obtain⟨O,rfl⟩:=o.o1 18 ab
    refine t_ 19 j zr d7 eF ?_
    exact v_ (ah,ai,aj,ak,al,af,an,ao,aq,ar,au,ag) 19 o ha j
   ·rintro D U w hD ab av⟨⟨ah,ai,aj,ak,al,af,an,ao,aq,ar,au,ag⟩,o,ha,_,j⟩
    dsimp only at o j
    obtain⟨O,rfl⟩:=o.o2 17 19 ab
    have j:=j.ea 8<|ab.1 rfl
    refine k_ vW (ef N (p1:=bc.B) (i0:=8) j zr c7) λw j=>?_
    have j:=j.cS 8 (D 17) (ab.1 rfl) aW
    exact v_ (ah,ai,aj,ak,al,af,an,ao,aq,ar,au,ag) 20 o ha j
   ·rintro D U w hD ab av⟨⟨ah,ai,aj,ak,al,af,an,ao,aq,ar,au,ag⟩,o,ha,_,j⟩
    dsimp only at o j
    obtain⟨O,rfl⟩:=o.o2 16 20 ab
    have j:=(j.ea 7<|ab.1 rfl).dL 9 hD
    refine r_ 7 j nU c8 λdj j=>?_
    have j:=((j.pl 22 [1,2,3,4,5,6,7,8,9,0,11,12,13,14,15,16,17,18,19,20,21] rfl).cS 7 (D 16) (ab.1 rfl) aW).cS 9 true rfl aW
    exact v_ (ah,ai,aj,ak,al,af,an,ao,aq,dj,au,ag) 21 o ha j
   ·rintro D U w hD ab av⟨⟨ah,ai,aj,ak,al,af,an,ao,aq,ar,au,ag⟩,o,ha,_,j⟩
    dsimp only at o j
    obtain⟨O,rfl⟩:=o.o1 21 ab
    have j:=(j.ea 9<|ab.1 rfl).dL 10 hD
    refine m_ 9 b0 j nV λdk j=>?_
    have j:=((j.pl 22 [1,2,3,4,5,6,7,8,9,10,0,12,13,14,15,16,17,18,19,20,21] rfl).cS 9 (D 21) (ab.1 rfl) aW).cS 10 true rfl aW
    exact v_ (ah,ai,aj,ak,al,af,an,ao,aq,ar,dk,ag) 22 o ha j
   ·rintro D U w hD ab av⟨⟨ah,ai,aj,ak,al,af,an,ao,aq,ar,au,ag⟩,o,ha,_,j⟩
    dsimp only at o j
    obtain⟨O,rfl⟩:=o.o1 23 ab
    refine t_ 12 j zr d7 eF ?_
    exact v_ (ah,ai,aj,ak,al,af,an,ao,aq,ar,au,ag) 24 o ha j
   ·rintro D U w hD ab av⟨⟨ah,ai,aj,ak,al,af,an,ao,aq,ar,au,ag⟩,o,ha,_,j⟩
    dsimp only at o j
    obtain⟨O,rfl⟩:=(ac (o.at 13 rfl<|ab.1 rfl)<|ac (o.at 14 rfl<|ab.2.1 rfl)<|ac (o.at 22 rfl<|ab.2.2.1 rfl)<|ac (o.at 24 rfl<|ab.2.2.2.1 rfl) az).ko
    have j:=(((j.ea 6<|ab.2.1 rfl).ea 10<|ab.2.2.1 rfl).dL 11<|nh av hD 26).dL 11 hD
    refine Al xw (g0 N (p3:=a8.B) (i0:=15) (i1:=6) (i2:=10) j zr zr zr c9) λcc w j=>?_
    have j:=((((j.pl 22 [1,2,3,4,5,6,7,8,9,10,11,0,13,14,15,16,17,18,19,20,21] rfl).cS 6 (D 14) (ab.2.1 rfl) aW).cS 10 (D 22) (ab.2.2.1 rfl) aW).cS 11 true rfl aW).tP 11 (D 26) (nh av hD 26)<|rd cc bq
    exact v_ (ah,ai,aj,ak,al,af,an,ao,aq,ar,au,cc) 25 o ha j
   ·rintro D U w hD ab av⟨⟨ah,ai,aj,ak,al,af,an,ao,aq,ar,au,ag⟩,o,ha,_,j⟩
    dsimp only at o j
    obtain⟨O,rfl⟩:=o.o2 12 25 ab
    have j:=(((((j.dL 5 hD).ea 5<|ab.1 rfl).dL 11 hD).ea 11<|ab.2.1 rfl).freeze 5).freeze 11
    refine k_ (gj Tryz.func24) (mX N (i0:=5) (i1:=11) j zr zr da) λw j=>?_
    have j:=(j.cS 5 true rfl (bif D 12 then own 3 af bp else aW)).cS 11 true rfl (bif D 25 then own 3 ag bq else aW)
    exact v_ (ah,ai,aj,ak,al,af,an,ao,aq,ar,au,ag) 26 o ha j
   rintro D U w ay⟨⟨ah,ai,aj,ak,al,af,an,ao,aq,ar,au,ag⟩,o,ha,_,j⟩
   simp only[List.getD_cons_zero,List.getD_cons_succ,ay 1 (by decide),ay 3 (by decide),ay 4 (by decide),ay 8 (by decide),ay 9 (by decide),ay 26 (by decide),ay 14 (by decide),ay 16 (by decide),ay 17 (by decide),ay 21 (by decide),ay 22 (by decide),ay 26 (by decide),bQ]at j
   obtain⟨O,rfl⟩:=(ac (o.at 27 rfl<|qX ay 27) ha).ko
   refine aD<|dZ hb (λhb=>?_) λhb=>?_
   rotate_left
   ·refine zS<|bI<|aD<|u_<|zP hk hm<|bB ((bn+1:Nat):Int)<|i_ ?_
    obtain rfl:=oi hb
    exact⟨rfl,j.sp 21 [15,16,17,18,19,20]⟩
   refine g_<|aG 12<|h_<|zI<|aH ?_
   obtain rfl:=oi hb
   exact⟨rfl,aX ⟨rfl,j.drop 21⟩⟩
  ·intro r U w hb hK
   refine bZ<|aH ?_
   obtain rfl:=oi hb
   exact⟨rfl,hK⟩
  rintro b9 _ w hb⟨O,rfl,j⟩
  refine bI<|aD<|u_<|zP hk hm<|bB ((bl+1:Nat):Int)<|i_ ?_
  obtain rfl:=oi hb
  exact⟨rfl,j.sp 6 [0,1,2,3,5]⟩
 ·intro r U w hb hK
  refine aH ?_
  obtain rfl:=oi hb
  exact hK
 rintro b8 _ w hb⟨O,rfl,j⟩
 refine aD<|g_<|aG 0<|h_<|s_ ?_
 obtain rfl:=oi hb
 exact aX ⟨rfl,j.drop 5⟩
def pF(E:World)(V:List HP)(res:List (bP×Int))(v:Value)(w:World):Prop:=Holds E w<|[mp v res]++V
theorem oQ{p0:aF}{res:List (bP×Int)}(j:Holds E w V)(h0:V[i0]? =some (rd v0 p0))(o:k9 N p0=some res):c_ 61 [v0] w<|pF E V res:=by
 unfold k9 at o;refine enter Tryz.func61 zr zr ?_;have j:=j.dup (i0+0) h0;refine g_<|zK 0 v0 j zr λaq w j=>?_;refine ju (.map none)<|l_<|Ar (κ:=bP) (ν:=Int) j λab w j=>ju ab<|p_<|g_<|j_ zr iu<|zL 1 j zr cR nT λad j=>x_ 0 p0.aY j r8<|bB 0<|h_<|AB E V (λ(af:List (bP×Int))=>[mp ab af,rd ad p0.aY]) (λ_=>[(3,ab)]) (λaa _=>[(10,ad),(11,vi p0.aY.length),(12,vi aa)]) o ?_ ?_ ?_;exact j.sp 4 [1,0];rintro hm aa af s' _ w hk⟨O,rfl,j⟩o;refine o_<|y_<|bB (aa:Int)<|q_ o λae an o=>r_ 1 j nU an λar j=>m_ 0 ae j nV λau j=>zQ j va.z λav w j=>?_;refine aG (aa:Int)<|zR 0 j 1 zr nV λw j=>?_;refine l_<|j_ zr jz<|zL 0 j zr gF pr λak j=>x_ 0 ae.aJ j nW<|bB 0<|h_<|AB E V (λ(ai:List (bP×Int))=>[mp ab ai,rd ad p0.aY,rd ak ae.aJ]) (λ_=>[(3,ab),(10,ad),(11,vi p0.aY.length),(12,vi aa)]) (λaj _=>[(4,vi aa),(18,ak),(19,vi ae.aJ.length),(20,vi aj)]) o ?_ ?_ ?_;exact j.sp 6 [4,5,0];rintro hm aj ai s' _ w hk⟨O,rfl,j⟩o;refine o_<|y_<|q_ o λal ao o=>r_ 2 j nX ao λaw j=>m_ 0 al j gQ λax j=>zQ j qb.z λay w j=>?_;refine zR 0 j 1 zr gQ λw j=>?_;refine h_<|u_<|mv ab<|zU 0 j zr gQ λaz j=>bB (aa:Int) ?_;have j:=j.sc Int (aa:Int);exact AE 5 0 al j zr (k8 1 j zr) zr zr zr xx λw j=>i_<|bI<|aD<|u_<|zP hk hm<|bB ((aj+1:Nat):Int)<|i_<|oi o▸⟨rfl,j.sp 8 [5,6,7]⟩;rintro ai _ w o⟨O,rfl,j⟩;exact bI<|aD<|u_<|zP hk hm<|bB ((aa+1:Nat):Int)<|i_<|oi o▸⟨rfl,j.sp 3 [0,1]⟩;rintro af _ w o⟨O,rfl,j⟩;refine aD<|g_<|mv ab<|ju ab<|h_<|s_ ?_;obtain rfl:=oi o;exact aX<|j.pk 2 [0]
theorem n3{p0:List aC}{p1:Part}{res:List bP}(j:Holds E w V)(h0:V[i0]? =some (rd v0 p0))(h1:V[i1]? =some (rd v1 p1))(o:jx N p0 p1=some res):c_ 62 [v0,v1] w<|kA E V res:=by
 unfold jx at o;refine enter Tryz.func62 zr zr ?_;have j:=(j.dup (i0+0) h0).dup (i1+1) h1;refine g_<|zK 0 v1 j zr λag w j=>?_;refine ju n_<|l_<|ju n_<|p_<|g_<|mv v0<|mv v0<|j_ zr je<|t_ 0 j zr fk eF<|q_ o λaw ak o=>k_ u7 (fE N (p1:=p1.bR) (i0:=2) j zr ak) λw j=>?_;refine q_ o λab al o=>r_ 2 j nS al λax j=>zO 0 j zr g8 cF λay j=>m_ 0 ab.aJ j nj λah j=>x_ 0 ab.aJ j oo<|bB 0<|h_<|AO E V (λ(ad:List bP)(ae:Value)=>[bx 39 ag p1,rd ah ab.aJ,own 51 ae ad]) (λ_ ae=>[(5,ae)]) (λaf _ _=>[(3,vp ag 0),(15,ah),(16,vi ab.aJ.length),(17,vi af)]) o ?_ ?_ ?_;have j:=j.kY bP 51;exact⟨n_,j.sp 7 [4,1,0]⟩;rintro hm af ad s' _ w hk⟨aq,O,rfl,j⟩o;refine o_<|y_<|q_ o λaa ar o=>r_ 1 j lf ar λaz j=>m_ 0 aa j me λa0 j=>zQ j r6.z λa1 w j=>?_;refine zR 0 j 1 zr me λw j=>?_;refine h_<|u_<|mv aq<|j_ zr lh<|t_ 3 j zr gP eF<|j_ zr lg<|t_ 0 j zr eH eF ?_;have j:=(j.sc aQ p1.Name).sc aQ aa.Name;refine Ao (⟨p1.Name,aa.Name⟩:bP) trivial rfl j [(0,str p1.Name),(1,str aa.Name)] rfl xy rfl (λM hs g=>by have h:=we M;exact fw.cons (f:=λ(x:bP)y=>{x with Part:=y}) h rX (g.sat 1 _ rfl).1 λ_ h=>fw.cons (f:=λ(x:bP)y=>{x with bP:=y}) h rY (g.sat 0 _ rfl).1 λ_ h=>fw.nil h) λau j=>?_;refine Ay ([(⟨p1.Name,aa.Name⟩:bP)]:List bP) j [au] nX qb (λM hs g=>⟨(g.sat 0 _ zr).1,zt⟩) λa2 w j=>?_;have j:=j.freeze 0;refine q_ o λa3 av o=>AS 9 0 zt zr j zr zr zr zr xz av λai w j=>?_;exact ju ai<|i_<|bI<|aD<|u_<|zP hk hm<|bB ((af+1:Nat):Int)<|i_<|oi o▸⟨rfl,ai,j.sp 10 [7,8,9]⟩;rintro ad _ w o⟨aj,O,rfl,j⟩;refine aD<|g_<|mv aj<|ju aj<|h_<|s_ ?_;obtain rfl:=oi o;exact aX<|j.pk 3 [2]
theorem nz{p0:List aC}{p1:aF}{res:List bP}(j:Holds E w V)(h0:V[i0]? =some (rd v0 p0))(h1:V[i1]? =some (rd v1 p1))(o:jc N p0 p1=some res):c_ 44 [v0,v1] w<|kA E V res:=by
 unfold jc at o;refine enter Tryz.func44 zr zr ?_;have j:=(j.dup (i0+0) h0).dup (i1+1) h1;refine g_<|zK 0 v1 j zr λa8 w j=>?_;refine ju n_<|l_<|zU 0 j zr gV λa9 j=>?_;refine q_ o λaa a0 o=>Al (gj Tryz.func61) (oQ N (i0:=0) j zr a0) λad w j=>ju ad<|l_<|ju n_<|p_<|g_<|j_ zr fG<|zL 2 j zr bN j9 λaf j=>x_ 0 p1.aU j td<|bB 0<|h_<|AO E V (λ(al:List bP)(an:Value)=>[rd v0 p0,mp ad aa,rd af p1.aU,own 51 an al]) (λ_ an=>[(6,an)]) (λag _ _=>[(0,v0),(5,ad),(16,af),(17,vi p1.aU.length),(18,vi ag)]) o ?_ ?_ ?_;have j:=j.kY bP 51;exact⟨n_,j.sp 7 [6,2,1,0]⟩;rintro hm ag al s' _ w hk⟨a1,O,rfl,j⟩o;refine o_<|y_<|q_ o λa2 a3 o=>r_ 2 j lR a3 λba j=>m_ 0 a2 j pq λbb j=>zQ j u6.z λbc w j=>?_;refine zR 0 j 1 zr pq λw j=>?_;refine l_<|mv v0<|zU 0 j zr pq λbf j=>?_;refine q_ o λah a4 o=>Al (gj Tryz.func62) (n3 N (i0:=4) (i1:=0) j zr zr a4) λai w j=>AT 0 ah zt zr j zr zr nW<|bB 0<|h_<|AO E V (λ(ar:List bP)(au:Value)=>[rd v0 p0,mp ad aa,rd af p1.aU,own 51 ai ah,own 51 au ar]) (λ_ au=>[(0,v0),(5,ad),(6,au),(16,af),(17,vi p1.aU.length),(18,vi ag)]) (λaj _ _=>[(24,ai),(25,vi ah.length),(26,vi aj)]) o ?_ ?_ ?_;exact⟨a1,j.sp 9 [5,6,7,0,8]⟩;rintro hm aj ar s' _ w hk⟨aw,O,rfl,j⟩o;refine o_<|y_<|q_ o λab ax o=>AD 3 zr j zr zr zr nX ax<|Bf 3 j ax gQ λbg j=>?_;refine zQ j qb.z λbh w j=>?_;refine zR 0 j 1 zr gQ λw j=>?_;refine l_<|mv ad<|zU 0 j zr gQ λbj j=>AZ 4 ab zr j zr (k8 0 j zr) zr xx<|mv (.tuple #[vi<|bM aa ab (0:Int),vb<|ig aa ab])<|z8 (vi<|bM aa ab (0:Int))<|z8 (vb<|ig aa ab)<|aG (bM aa ab (0:Int))<|bK (ig aa ab) ?_;refine l_<|iF (ig aa ab)<|z7 (ig aa ab)<|h_<|q_ o λav hj o=>zX (λ(av:List bP)U w=>∃ak:Value,SH E V [(0,v0),(5,ad),(6,ak),(16,af),(17,vi p1.aU.length),(18,vi ag),(24,ai),(25,vi ah.length),(26,vi aj)] [rd v0 p0,mp ad aa,rd af p1.aU,own 51 ai ah,own 51 ak av] U w) av ?_ ?_;refine dZ hj (λhj=>?_) λhj=>?_;refine u_<|mv aw<|zU 1 j zr gQ λa5 j=>Ay ([ab]:List bP) j [a5] nX qb (λM hs g=>⟨(g.sat 0 _ zr).1,zt⟩) λbk w j=>?_;have j:=j.freeze 0;refine q_ hj λbl a6 hj=>AS 9 0 zt zr j zr zr zr zr xz a6 λay w j=>?_;exact ju ay<|i_<|oi hj▸⟨rfl,ay,j.sp 10 [5,6,7,8,9]⟩;exact zS<|oi hj▸⟨rfl,aw,j.sp 8 [3,4,5,6,7]⟩;rintro _ w⟨ak,O,rfl,j⟩;exact bI<|aD<|u_<|zP hk hm<|bB ((aj+1:Nat):Int)<|i_<|oi o▸⟨rfl,ak,j.sp 5 [0,1,2,3,4]⟩;rintro ar _ w o⟨a7,O,rfl,j⟩;exact bI<|aD<|u_<|zP hk hm<|bB ((ag+1:Nat):Int)<|i_<|oi o▸⟨rfl,a7,j.sp 5 [0,1,2,4]⟩;rintro al _ w o⟨az,O,rfl,j⟩;refine aD<|g_<|mv az<|ju az<|h_<|s_ ?_;obtain rfl:=oi o;exact aX<|j.pk 4 [3]
def oR(E:World)(V:List HP)(res:List bP×Int)(v:Value)(w:World):Prop:=∃u0:Value,v = .tuple #[u0,vi res.2]/\Holds E w ([own 51 u0 res.1]++V)
theorem ox{p0:List aC}{p1:aF}{res:List bP×Int}(j:Holds E w V)(h0:V[i0]? =some (rd v0 p0))(h1:V[i1]? =some (rd v1 p1))(o:j8 N p0 p1=some res):c_ 26 [v0,v1] w<|oR E V res:=by
 unfold j8 at o;refine enter Tryz.func26 zr zr ?_;have j:=(j.dup (i0+0) h0).dup (i1+1) h1;refine g_<|zK 0 v1 j zr λaf w j=>?_;refine ju n_<|aG 0<|p_<|g_<|mv v0<|zU 0 j zr gV λag j=>?_;refine q_ o λaa ad o=>k_ wA (gH N (i0:=3) (i1:=0) j zr zr ad) λw j=>aG aa<|l_<|bB aa<|ic aa 0<|h_<|dZ o (λo=>?_) λo=>?_;refine g_<|bB aa<|ju n_<|aG aa<|h_<|zN ?_;obtain rfl:=oi o;have j:=j.kY bP 51;exact tN ⟨n_,zr,j.pk 5 [0]⟩;refine Ac<|mv v0<|zU 1 j zr gV λah j=>?_;exact q_ o λai ae o=>Al (gj Tryz.func44) (nz N (i0:=4) (i1:=0) j zr zr ae) λab w j=>ju ab<|aG 0<|h_<|s_<|oi o▸tN ⟨ab,zr,j.pk 6 [0]⟩
theorem lB{res:Bool}(j:Holds E w V)(hb:fN N=some res):c_ 6 [] w<|aT E V res:=by
 unfold fN at hb;refine enter Tryz.func6 zr zr<|g_<|bK false<|l_ ?_;have j:=(j.sc aQ ⟨[49]⟩).sc Int 6;refine Ao (⟨⟨[49]⟩,6,0⟩:aP) trivial rfl j [(0,str ⟨[49]⟩),(1,vi 6)] rfl yI rfl (λM hs g=>by have h:=tY M;exact fw.cons (f:=λ(x:aP)y=>{x with Name:=y}) h q5 (g.sat 1 _ rfl).1 λ_ h=>fw.cons (f:=λ(x:aP)y=>{x with Kind:=y}) h q6 (g.sat 0 _ rfl).1 λ_ h=>fw.nil h) λak j=>?_;refine Ay ([(⟨⟨[49]⟩,6,0⟩:aP)]:List aP) j [ak] lf r6 (λM hs g=>⟨(g.sat 0 _ zr).1,zt⟩) λal w j=>?_;have j:=(j.sc aQ ⟨[114]⟩).freeze 1;refine Ao (⟨⟨[114]⟩,([(⟨⟨[49]⟩,6,0⟩:aP)]:List aP)⟩:aC) trivial rfl j [(0,str ⟨[114]⟩),(1,al)] rfl yJ rfl (λM hs g=>by have h:=tb M;exact fw.cons (f:=λ(x:aC)y=>{x with Name:=y}) h p9 (g.sat 0 _ rfl).1 λ_ h=>fw.cons (f:=λ(x:aC)y=>{x with aJ:=y}) h qa (g.sat 1 _ rfl).1 λ_ h=>fw.nil h) λan j=>?_;refine Ay ([(⟨⟨[114]⟩,([(⟨⟨[49]⟩,6,0⟩:aP)]:List aP)⟩:aC)]:List aC) j [an] nS tc (λM hs g=>⟨(g.sat 0 _ zr).1,zt⟩) λai w j=>ju ai<|l_<|mv ai ?_;have j:=(j.sc aQ ⟨[97]⟩).sc aQ ⟨[114]⟩;refine Ao (⟨⟨[97]⟩,⟨[114]⟩⟩:Part) trivial rfl j [(0,str ⟨[97]⟩),(1,str ⟨[114]⟩)] rfl yK rfl (λM hs g=>by have h:=wy M;exact fw.cons (f:=λ(x:Part)y=>{x with Name:=y}) h tV (g.sat 1 _ rfl).1 λ_ h=>fw.cons (f:=λ(x:Part)y=>{x with bR:=y}) h tW (g.sat 0 _ rfl).1 λ_ h=>fw.nil h) λao j=>?_;refine Ay ([(⟨⟨[97]⟩,⟨[114]⟩⟩:Part)]:List Part) j [ao] lR u6 (λM hs g=>⟨(g.sat 0 _ zr).1,zt⟩) λaq w j=>?_;have j:=j.freeze 0;refine Ao (⟨([(⟨⟨[97]⟩,⟨[114]⟩⟩:Part)]:List Part),[]⟩:aF) trivial rfl j [(0,aq)] rfl yL rfl (λM hs g=>by have h:=tX M;exact fw.cons (f:=λ(x:aF)y=>{x with aU:=y}) h q7 (g.sat 0 _ rfl).1 λ_ h=>fw.nil h) λau j=>?_;have j:=j.freeze 5;refine q_ hb λab ar hb=>Al (gj Tryz.func26) (ox N (i0:=5) (i1:=0) j zr zr ar) ?_;rintro _ w⟨af,rfl,j⟩;refine mv (.tuple #[af,vi ab.2])<|z8 af<|z8 (vi ab.2)<|ju af<|aG ab.2<|p_<|q_ hb λag hj hb=>zX (λ(ag:Bool)=>SH E V [(0,vb ag)] []) ag ?_ ?_;refine u_<|bB ab.2<|ic ab.2 0<|iF (ab.2==0)<|hY hj (λad hj=>?_) λad hj=>?_;refine w_ af (cg ad)<|AT 0 ab.1 (cg ad) zr j zr zr nW<|Ag (ab.1.length:Int) 1 (cg ad)<|hZ ad (vb<|(ab.1.length:Int)==1)<|iF ((ab.1.length:Int)==1)<|hY hj (λo hj=>?_) λo hj=>?_;refine w_ af (cg o)<|q_ hj λah aj hj=>AD (hg:=cg o) 0 zr j zr zr zr nX aj<|Bf (hg:=cg o) 0 j aj gQ λav j=>?_;have j:=(j.sc aQ ⟨[97]⟩).sc aQ ⟨[49]⟩;refine Ao (⟨⟨[97]⟩,⟨[49]⟩⟩:bP) (cg o) rfl j [(0,str ⟨[97]⟩),(1,str ⟨[49]⟩)] rfl xy rfl (λM hs g=>by have h:=we M;exact fw.cons (f:=λ(x:bP)y=>{x with Part:=y}) h rX (g.sat 1 _ rfl).1 λ_ h=>fw.cons (f:=λ(x:bP)y=>{x with bP:=y}) h rY (g.sat 0 _ rfl).1 λ_ h=>fw.nil h) λaw j=>?_;exact A9 3 0 ah (⟨⟨[97]⟩,⟨[49]⟩⟩:bP) (cg o) zr j zr zr zr zr vc zr<|hZ o (vb<|decide<|ah=(⟨⟨[97]⟩,⟨[49]⟩⟩:bP))<|bK (decide<|ah=(⟨⟨[97]⟩,⟨[49]⟩⟩:bP))<|i_<|oi hj▸⟨rfl,j.sp 17 []⟩;exact bL o<|bL o<|bL o<|bL o<|bL o<|hZ o (vb false)<|bK false<|i_<|oi hj▸⟨rfl,j.sp 13 []⟩;refine bL ad<|bL ad<|bL ad<|hZ ad (vb false)<|iF false<|vw<|vw<|vw<|vw<|vw<|Aa (b:=false) (v:=vb false) zt zr zr zr<|bK false<|i_ ?_;exact oi hj▸⟨rfl,j.sp 13 []⟩;rintro _ w⟨O,rfl,j⟩;exact aD<|s_<|oi hb▸aX ⟨rfl,j.drop 0⟩
theorem gy{p0:List aC}{p1 p2:aF}{p3:List aI}{p4:List aI}{res:Bool}(j:Holds E w V)(h0:V[i0]? =some (rd v0 p0))(h1:V[i1]? =some (rd v1 p1))(h2:V[i2]? =some (rd v2 p2))(h3:V[i3]? =some (rd v3 p3))(h4:V[i4]? =some (rd v4 p4))(hb:cH N p0 p1 p2 p3 p4=some res):c_ 3 [v0,v1,v2,v3,v4] w<|aT E V res:=by
 unfold cH at hb;refine enter Tryz.func3 zr zr ?_;have j:=((((j.dup (i0+0) h0).dup (i1+1) h1).dup (i2+2) h2).dup (i3+3) h3).dup (i4+4) h4;refine g_<|zK 3 v1 j zr λak w j=>?_;have j:=j.eM (i:=0) rfl;refine zK 3 v2 j zr λal w j=>?_;have j:=j.eM (i:=0) rfl;refine bK false<|p_<|q_ hb λad o hb=>zX (λ(ad:Bool)=>SH E V [(10,vb ad)] []) ad ?_ ?_;refine Aq mixed [0,0,0,0,0,2,1,1,1,1,1,2,0,0,2,0,0] [0,1,2,3,4,6,7,8,9,10,5,11,12,13,14,15,16] ?_;have j:=j.drew;refine zM zr zr<|mv v0<|eB zr<|m_ 1 p1 j gV λan j=>eB zr<|m_ 1 p2 j gV λao j=>eB zr<|mv v3<|eB zr<|mv v4<|zT<|z1 v0 zr (λw=>w_ v0 zt zW)<|AA p1 3 zr j gV λaq a59 ar j=>AA p2 4 zr j gV λau a62 av j=>z1 v3 zr (λw=>w_ v3 zt zW)<|z1 v4 zr (λw=>w_ v4 zt zW)<|z6 zr zr ?_;refine q_ o λae ah o=>k_ (gj Tryz.func4) (lU N (i0:=12) (i1:=5) (i2:=4) (i3:=9) (i4:=8) j zr zr zr zr zr ah) λw j=>z2 (⟨⟨zt,j.l9 2⟩,j.l9 0⟩)<|z6 zr zr<|q_ o λaf ai o=>k_ (gj Tryz.func5) (jr N (i0:=12) (i1:=3) (i2:=1) (i3:=9) (i4:=8) j zr zr zr zr zr ai) λw j=>z2 (⟨⟨zt,j.l9 2⟩,j.l9 0⟩)<|zM zr zr<|ic ae af<|eB zr<|iF (ae==af)<|zT<|hY o (λaa o=>?_) λaa o=>?_;refine z6 zr zr<|q_ o λag aj o=>k_ (hg:=cg aa) (gj Tryz.func6) (lB N j aj) λw j=>z2 (⟨⟨zt,j.l9 2⟩,j.l9 0⟩)<|zM zr zr<|hZ aa (vb ag)<|eB zr<|bK ag<|zT ?_;have j:=j.pl 13 [1,3,4,5,6,7,8,9,10,11,12] rfl;exact Ad<|oi o▸⟨rfl,j.sp 11 []⟩;refine z6 zr zr<|bL aa<|z2 (⟨⟨zt,j.l9 2⟩,j.l9 0⟩)<|zM zr zr<|hZ aa (vb false)<|eB zr<|bK false<|zT ?_;have j:=j.pl 13 [1,3,4,5,6,7,8,9,10,11,12] rfl;exact Ad<|oi o▸⟨rfl,j.sp 11 []⟩;rintro _ w⟨O,rfl,j⟩;exact aD<|s_<|oi hb▸aX ⟨rfl,j.drop 0⟩
end Go.Gk
