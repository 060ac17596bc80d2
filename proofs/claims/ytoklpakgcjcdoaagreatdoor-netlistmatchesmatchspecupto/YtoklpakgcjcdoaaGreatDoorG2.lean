/-
  Printed texts: Go functions as plain functions, and that they are. No statement of the seed is proved here.
-/
import Derived.Test.YtoklpakgcjcdoaaGreatDoorG1
import Derived.Test.YtoklpakgcjcdoaaGreatDoorA2
set_option linter.unusedVariables false
set_option linter.unusedSimpArgs false
set_option linter.unusedSectionVars false
set_option maxRecDepth 100000
set_option maxHeartbeats 40000000
namespace Go.Gk
open Go IntKind Go.Proofs
variable (N:Nat){E w:World}{b3 i0 i1 i2 i3 i4:Nat}{p0 p1 p2 res:Int}{v0 v1 v2 v3 d_ e_ v4:Value}{V:List HP}
theorem gH{p0:List aC}{p1:aF}(j:Holds E w V)(h0:V[i0]? =some (rd v0 p0))(h1:V[i1]? =some (rd v1 p1))(o:dB N p0 p1=some res):c_ 27 [v0,v1] w<|aA E V res:=by
 unfold dB at o;refine enter Tryz.func27 zr zr ?_;have j:=(j.dup (i0+0) h0).dup (i1+1) h1;refine g_<|zK 1 v0 j zr λaf w j=>?_;have j:=j.eM (i:=0) rfl;refine zK 1 v1 j zr λag w j=>?_;have j:=j.eM (i:=0) rfl;refine aG 0<|p_<|g_<|m_ 1 p0 j r5 λa3 j=>?_;refine q_ o λaj ar o=>k_ (gj Tryz.func45) (lS N (i0:=0) j zr ar) λw j=>aG aj<|l_<|bB aj<|ic aj 0<|h_<|dZ o (λo=>?_) λo=>?_;exact g_<|bB aj<|aG aj<|h_<|zN<|oi o▸aX ⟨rfl,j.drop 5⟩;refine z4<|g_<|m_ 2 p0 j r5 λa4 j=>zO 2 j zr fG bN λa5 j=>m_ 0 p1.aU j j9 λa6 j=>?_;refine q_ o λak au o=>k_ (gj Tryz.func46) (lT N (i0:=2) (i1:=0) j rfl rfl ⟨47,[],rfl,xc,λw Γl v y0 r i j hi hr=>by obtain rfl:=j.kp (γ:=aQ) hi;exact cG (jX N (p0:=y0) j hr) λ_ _ h=>h⟩ au) λw j=>aG ak<|l_<|bB ak<|ic ak 0<|h_<|dZ o (λo=>?_) λo=>?_;exact g_<|bB ak<|aG ak<|h_<|zN<|oi o▸aX ⟨rfl,j.drop 8⟩;refine z4<|g_<|zO 4 j zr iu cR λa7 j=>m_ 0 p1.aY j nT λa8 j=>x_ 0 p1.aY j r8<|ic ((p1.aY.length:Int)) 1000<|h_<|dZ o (λo=>?_) λo=>?_;exact g_<|aG 2<|h_<|zN<|oi o▸aX ⟨rfl,j.drop 10⟩;refine Ac<|Ar (κ:=bP) (ν:=Bool) j λah w j=>ju ah<|p_<|g_<|zO 7 j zr iu cR λa9 j=>m_ 0 p1.aY j nT λal j=>x_ 0 p1.aY j r8<|bB 0<|h_<|z3 E V (λ(ao:List (bP×Bool))=>[pt (vp af 0) p0,pt (vp ag 0) p1,mp ah ao,rd al p1.aY]) (λ_=>[]) (λab _=>[(2,vp af 0),(3,vp ag 0),(7,ah),(29,al),(30,vi p1.aY.length),(31,vi ab)]) (λr=>g7 bC 71 Tryz.f27 (aA E V r) .ret) o ?_ ?_ ?_ ?_;exact j.sp 13 [10,9,2,0];rintro hm ab ao fl _ w hk⟨O,rfl,j⟩o;refine o_<|y_<|bB (ab:Int)<|q_ o λad ax o=>r_ 3 j nU ax λbb j=>m_ 0 ad j nV λbc j=>zQ j va.z λbf w j=>?_;refine aG (ab:Int)<|zR 0 j 1 zr nV λw j=>?_;refine p_<|g_<|j_ zr mg<|t_ 0 j zr iX eF<|q_ o λay az o=>k_ xc (jX N (p0:=ad.Name) j az) λw j=>z7 ay<|h_<|dZ o (λo=>?_) λo=>?_;exact g_<|aG 5<|h_<|zN<|bZ<|aH<|oi o▸⟨rfl,aX ⟨rfl,j.drop 7⟩⟩;refine z4<|g_<|j_ zr jz<|zL 0 j zr gF pr λbg j=>x_ 0 ad.aJ j nW<|ic ((ad.aJ.length:Int)) 0<|h_<|dZ o (λo=>?_) λo=>?_;exact g_<|aG 9<|h_<|zN<|bZ<|aH<|oi o▸⟨rfl,aX ⟨rfl,j.drop 8⟩⟩;refine z4<|g_<|j_ zr jz<|zL 1 j zr gF pr λbh j=>As [vp af 0,vp ag 0]<|mv ah ?_;have j:=j.pull 7;refine q_ o λai a0 o=>k_ (gj Tryz.func48) (kI N (i0:=0) j rfl ⟨49,[vp af 0,vp ag 0],rfl,(gj Tryz.func49),λw Γl v y0 r i j hi hr=>by exact cG (kH N (i0:=i) (i1:=Γl.length+5) (i2:=Γl.length+6) j hi j6 j6 hr) λ_ _ h=>h⟩ a0) λw j=>aG ai.1<|l_<|bB ai.1<|ic ai.1 0<|h_<|dZ o (λo=>?_) λo=>?_;exact g_<|bB ai.1<|aG ai.1<|h_<|zN<|bZ<|aH<|oi o▸⟨rfl,aX ⟨rfl,j.drop 10⟩⟩;refine z4<|g_<|j_ zr vd<|zL 3 j zr rZ xf λbj j=>x_ 0 ad.jh j vR<|ic ((ad.jh.length:Int)) 0<|h_<|dZ o (λo=>?_) λo=>?_;exact g_<|aG 3<|h_<|zN<|bZ<|aH<|oi o▸⟨rfl,aX ⟨rfl,j.drop 11⟩⟩;refine z4<|q_ o λaq hj o=>zX (λ(aq:Bool)=>SH E V [(2,vp af 0),(3,vp ag 0),(7,ah),(29,al),(30,vi p1.aY.length),(31,vi ab),(69,vb aq)] [pt (vp af 0) p0,pt (vp ag 0) p1,mp ah ai.2,rd al p1.aY]) aq ?_ ?_;refine Af mixed ?_;have j:=j.drew;refine Ae<|bB (ab:Int)<|d5<|ic ((ab:Int)) 0<|d5<|iF (decide<|(ab:Int)>0)<|hY hj (λaa hj=>?_) λaa hj=>?_;refine d5<|j_ (hg:=cg aa) zr mg<|d5<|t_ (hg:=cg aa) 4 j zr iX eF<|d5<|zO (hg:=cg aa) 8 j zr iu cR λbk j=>d5<|m_ (hg:=cg aa) 0 p1.aY j nT λbl j=>d5<|w_ (vi ab) (cg aa)<|d5<|zY (hg:=cg aa) (ab:Int) 1<|d5 ?_;refine q_ hj λan a1 hj=>r_ (hg:=cg aa) 0 j nU a1 λbm j=>d5<|zO (hg:=cg aa) 0 j zr mg iX λbn j=>d5<|zZ an.Name 0 (cg aa) j eF<|d5<|z9 ad.Name an.Name (cg aa)<|d5<|hZ aa (vb<|ad.Name.iC an.Name||ad.Name.fe an.Name)<|z5 ?_;exact oi hj▸⟨rfl,j.sp 15 [11,12,5,14]⟩;refine d5<|bL aa<|d5<|bL aa<|d5<|bL aa<|d5<|bL aa<|d5<|bL aa<|d5<|bL aa<|d5<|bL aa<|d5<|bL aa<|d5<|bL aa ?_;exact d5<|bL aa<|d5<|hZ aa (vb false)<|z5<|oi hj▸⟨rfl,j.sp 11 [7,8,1,10]⟩;rintro _ w⟨O,rfl,j⟩;refine aD<|dZ o (λo=>?_) λo=>?_;exact g_<|aG 8<|h_<|zI<|aH<|oi o▸⟨rfl,aX ⟨rfl,j.drop 4⟩⟩;exact zS<|bI<|aD<|u_<|zP hk hm<|bB ((ab+1:Nat):Int)<|i_<|oi o▸⟨rfl,j.sp 4 [0,1,2,3]⟩;intro r U w o hK;exact aH<|oi o▸hK;rintro ao _ w o⟨O,rfl,j⟩;exact aD<|g_<|aG 0<|h_<|s_<|oi o▸aX ⟨rfl,j.drop 4⟩
theorem mU{p0:List aC}{p1 p2:aF}(j:Holds E w V)(h0:V[i0]? =some (rd v0 p0))(h1:V[i1]? =some (rd v1 p1))(h2:V[i2]? =some (rd v2 p2))(o:fP N p0 p1 p2=some res):c_ 7 [v0,v1,v2] w<|aA E V res:=by
 unfold fP at o;refine enter Tryz.func7 zr zr ?_;have j:=((j.dup (i0+0) h0).dup (i1+1) h1).dup (i2+2) h2;refine g_<|zK 1 v1 j zr λaf w j=>?_;refine zK 1 v2 j zr λag w j=>?_;refine aG 0<|p_<|g_<|mv v0<|zU 1 j zr gV λah j=>?_;refine q_ o λaa ab o=>k_ wA (gH N (i0:=5) (i1:=0) j zr zr ab) λw j=>aG aa<|l_<|bB aa<|ic aa 0<|h_<|dZ o (λo=>?_) λo=>?_;exact g_<|bB aa<|aG aa<|h_<|zN<|oi o▸aX ⟨rfl,j.drop 6⟩;refine Ac<|mv v0<|zU 1 j zr gV λai j=>?_;exact q_ o λad ae o=>k_ wA (gH N (i0:=6) (i1:=0) j zr zr ae) λw j=>aG ad<|h_<|s_<|oi o▸aX ⟨rfl,j.drop 7⟩
theorem ke{p2 p3:aF}{res:Bool}(j:Holds E w V)(h2:V[i2]? =some (pt v2 p2))(h3:V[i3]? =some (pt v3 p3))(o:ff N p0 p1 p2 p3=some res):c_ 15 [vi p0,vi p1,v2,v3] w<|aT E V res:=by
 unfold ff at o;refine enter Tryz.func15 zr zr ?_;have j:=(j.j7 (i:=i2+0) h2).j7 (i:=i3+1) h3;refine g_<|bK false<|p_<|Af mixed ?_;have j:=j.drew;refine Ae<|zO 1 j zr fG bN λaf j=>d5<|m_ 0 p2.aU j j9 λag j=>d5<|bB p0<|d5<|q_ o λaa ad o=>r_ 0 j lR ad λah j=>d5<|zO 0 j zr je fk λai j=>d5<|zZ aa.bR 0 zt j eF<|d5<|zO 4 j zr fG bN λaj j=>d5<|m_ 0 p3.aU j j9 λak j=>?_;refine d5<|bB p1<|d5<|q_ o λab ae o=>r_ 0 j lR ae λal j=>d5<|zO 0 j zr je fk λan j=>d5<|zZ ab.bR 0 zt j eF<|d5<|z9 aa.bR ab.bR zt<|d5<|bK (aa.bR.fe ab.bR) ?_;exact z5<|aD<|s_<|oi o▸aX ⟨rfl,j.drop 10⟩
theorem gB{p0:aQ}{p1:aF}(j:Holds E w V)(h1:V[i1]? =some (pt v1 p1))(o:cN N p0 p1=some res):c_ 9 [str p0,v1] w<|aA E V res:=by
 unfold cN at o;refine enter Tryz.func9 zr zr ?_;have j:=j.j7 (i:=i1+0) h1;exact g_<|aG 0<|l_<|zO 0 j zr fG bN λad j=>m_ 0 p1.aU j j9 λae j=>mv (str p0)<|q_ o λaa ab o=>k_ vS (gA N (p1:=p0) (i0:=0) j zr ab) λw j=>aG aa<|h_<|s_<|oi o▸aX ⟨rfl,j.drop 3⟩
def kJ(E:World)(V:List HP)(res:aF)(v:Value)(w:World):Prop:=∃f_:Value,v=(.func (.func 9) #[] #[f_])/\Holds E w ([pt f_ res]++V)
theorem gY{p0:aF}{res:aF}(j:Holds E w V)(h0:V[i0]? =some (rd v0 p0))(hb:dD N p0=some res):c_ 8 [v0] w<|kJ E V res:=by
 unfold dD at hb;refine enter Tryz.func8 zr zr ?_;have j:=j.dup (i0+0) h0;refine g_<|zK 0 v0 j zr λo w j=>?_;have j:=j.eM (i:=0) rfl;exact ju .nilFunc<|l_<|As [vp o 0]<|ju (.func (.func 9) #[] #[vp o 0])<|h_<|s_<|oi hb▸aX ⟨vp o 0,zr,j.pk 2 [0]⟩
theorem iD{p0:List aI}{p1 p2:aQ->Option Int}{p3:Int->Int->Option Bool}(j:Holds E w V)(h0:V[i0]? =some (rd v0 p0))(h1:uD bC E V v1 p1 (λ(r:Int)=>Value.int .i64 r))(h2:uD bC E V v2 p2 (λ(r:Int)=>Value.int .i64 r))(h3:vF bC E V v3 p3 (λ(r:Bool)=>Value.bool r))(o:ej N p0 p1 p2 p3=some res):c_ 14 [v0,v1,v2,v3] w<|aA E V res:=by
 unfold ej at o;refine enter Tryz.func14 zr zr ?_;have j:=j.dup (i0+0) h0;refine g_<|aG 0<|l_<|Ar (κ:=aQ) (ν:=Bool) j λaf w j=>ju af<|p_<|g_<|mv v0<|x_ 1 p0 j oO<|bB 0<|h_<|z3 E V (λ(aj:List (aQ×Bool))=>[rd v0 p0,mp af aj]) (λ_=>[]) (λad _=>[(0,v0),(1,v1),(2,v2),(3,v3),(9,af),(15,v0),(16,vi p0.length),(17,vi ad)]) (λr=>g7 bC 66 Tryz.f14 (aA E V r) .ret) o ?_ ?_ ?_ ?_;exact j.sp 2 [1,0];rintro hm ad aj fl _ w hk⟨O,rfl,j⟩o;refine o_<|y_<|bB (ad:Int)<|q_ o λab ar o=>r_ 0 j oq ar λa0 j=>m_ 0 ab j mQ λa1 j=>zQ j r9.z λak w j=>?_;refine aG (ad:Int)<|zR 0 j 1 zr mQ λw j=>?_;refine p_ ?_;have j:=j.drew;refine Aw (λw=>Holds E w<|[bx 44 ak ab]++V) mixed zr [0,0,0,2,1,1,1,2,0,0] [0,1,2,4,5,6,3,7,8,9] (j.pk 5 [0])<|zM zr zr<|mv v1<|eB zr<|j_ zr jA<|eB zr<|t_ 0 j zr d6 eF<|zT<|z1 v2 zr (λw=>w_ v2 zt zW) ?_;refine z1 (vp ak 1) zr (λw=>j_ zr jB zW)<|Av (str ab.B) zr (λw j=>t_ 0 j zr d7 eF zW)<|z6 zr zr ?_;have j:=j.sc aQ ab.A;refine q_ o λae au o=>Az 0 j h1 6 au λw j=>z2 (j.pk 6 [1])<|z6 zr zr ?_;have j:=j.sc aQ ab.B;refine q_ o λag av o=>Az 0 j h2 7 av λw j=>z2 (j.pk 7 [2])<|zM zr zr<|aG ae<|eB zr<|aG ag<|zT<|Ad<|aD<|o_<|y_<|bB ae<|ic ae 0<|iF (decide<|ae<0)<|zV (vi ag) zr zr p5<|zV (vb<|decide<|ag<0) zr zr (rv .lss)<|Aa (b:=decide<|ae<0) (v:=vb<|decide (ae<0)||decide (ag<0)) zt zr zr (nG true)<|bK (decide (ae<0)||decide (ag<0)) ?_;refine h_<|dZ o (λo=>?_) λo=>?_;exact g_<|aG 9<|h_<|zI<|aH<|bZ<|aH<|oi o▸⟨rfl,aX ⟨rfl,j.drop 7⟩⟩;refine g_<|mv v3<|bB ae<|bB ag ?_;have j:=(j.sc Int ae).sc Int ag;refine q_ o λan aw o=>Am 1 0 zt j h3 9 aw λw j=>z7 an<|bK (!an)<|h_<|dZ o (λo=>?_) λo=>?_;exact g_<|aG 6<|h_<|zI<|aH<|bZ<|aH<|oi o▸⟨rfl,aX ⟨rfl,j.drop 9⟩⟩;refine o_<|q_ o λal hj o=>zX (λ(al:Bool)=>SH E V [(0,v0),(1,v1),(2,v2),(3,v3),(9,af),(11,vp ak 0),(15,v0),(16,vi p0.length),(17,vi ad),(43,vb al)] [rd v0 p0,mp af aj,bx 44 ak ab]) al ?_ ?_;refine Af mixed ?_;have j:=j.drew;refine Ae<|bB (ad:Int)<|d5<|ic ((ad:Int)) 0<|d5<|iF (decide<|(ad:Int)>0)<|hY hj (λaa hj=>?_) λaa hj=>?_;refine d5<|j_ (hg:=cg aa) zr jA<|d5<|t_ (hg:=cg aa) 4 j zr d6 eF<|d5<|w_ v0 (cg aa)<|d5<|w_ (vi ad) (cg aa)<|d5<|zY (hg:=cg aa) (ad:Int) 1<|d5 ?_;refine q_ hj λai ax hj=>r_ (hg:=cg aa) 7 j oq ax λa2 j=>d5<|zO (hg:=cg aa) 0 j zr jA d6 λa3 j=>d5<|zZ ai.A 0 (cg aa) j eF<|d5<|z9 ab.A ai.A (cg aa)<|d5<|hZ aa (vb<|ab.A.iC ai.A||ab.A.fe ai.A)<|d5<|bK (ab.A.iC ai.A||ab.A.fe ai.A)<|z5 ?_;exact oi hj▸⟨rfl,j.sp 11 [9,10,6]⟩;refine d5<|bL aa<|d5<|bL aa<|d5<|bL aa<|d5<|bL aa<|d5<|bL aa<|d5<|bL aa<|d5<|bL aa<|d5<|bL aa<|d5<|bL aa ?_;exact d5<|hZ aa (vb false)<|d5<|bK false<|z5<|oi hj▸⟨rfl,j.sp 9 [7,8,4]⟩;rintro _ w⟨O,rfl,j⟩;refine aD<|dZ o (λo=>?_) λo=>?_;exact g_<|aG 8<|h_<|zI<|aH<|bZ<|aH<|oi o▸⟨rfl,aX ⟨rfl,j.drop 3⟩⟩;refine g_<|mv af<|j_ zr jB<|t_ 2 j zr d7 eF<|AK 1 ab.B zt zr j zr zr zr xg<|bK (bM aj ab.B (false:Bool))<|h_<|dZ o (λo=>?_) λo=>?_;exact g_<|aG 7<|h_<|zI<|aH<|bZ<|aH<|oi o▸⟨rfl,aX ⟨rfl,j.drop 3⟩⟩;refine zS<|bI<|aD<|u_<|mv af<|j_ zr jB<|t_ 2 j zr d7 eF ?_;have j:=j.sc Bool true;exact AE 2 0 ab.B j zr zr zr zr zr xg λw j=>i_<|bI<|aD<|u_<|zP hk hm<|bB ((ad+1:Nat):Int)<|i_<|oi o▸⟨rfl,j.sp 4 [1,2]⟩;intro r U w o hK;exact aH<|oi o▸hK;rintro aj _ w o⟨O,rfl,j⟩;exact aD<|g_<|aG 0<|h_<|s_<|oi o▸aX ⟨rfl,j.drop 2⟩
theorem gR{p0:List Net}{p1:aQ}{p2:Net->aQ->Option Int}{res:Int×Bool}(o:Holds E w V)(h0:V[i0]? =some (rd v0 p0))(h2:vF bC E V v2 p2 (λ(r:Int)=>Value.int .i64 r))(hb:dM N p0 p1 p2=some res):c_ 31 [v0,str p1,v2] w<|bW E V res:=by
 unfold dM at hb;refine enter Tryz.func31 zr zr ?_;have o:=o.dup (i0+0) h0;refine g_<|aG 0<|bK false<|l_<|mv v0<|x_ 0 p0 o r8<|aG (p0.length:Int)<|l_<|bB (p0.length:Int)<|aG 0<|aG (p0.length:Int)<|p_<|AF E V (λ(j:Int×Int)=>[rd v0 p0]) (λj=>[(0,v0),(1,str p1),(2,v2),(8,vi p0.length),(9,vi j.1)]) (λj=>[(10,vi j.2)]) hb ?_ ?_ ?_;exact o.sp 1 [0];rintro j fl _ w⟨O,rfl,o⟩hb;refine o_<|g_<|bB j.1<|bB j.2<|ic j.1 j.2<|h_<|dZ hb (λhb=>?_) λhb=>?_;refine Aj<|y_<|bB j.1<|bB j.2<|zY j.1 j.2<|Ap (wrap .i64<|j.1+j.2) ⟨_,tB⟩ r7<|AH (.int .u64<|wrap .u64<|wrap .i64<|j.1+j.2) (.int .u64 1) (.int .u64<|Int.fdiv (wrap .u64<|wrap .i64<|j.1+j.2) 2) zr zr zr<|Ap (Int.fdiv (wrap .u64<|wrap .i64<|j.1+j.2) 2) ⟨_,r7⟩ tB<|aG (wrap .i64<|Int.fdiv (wrap .u64<|wrap .i64<|j.1+j.2) 2) ?_;refine l_<|mv v2<|mv v0<|bB (wrap .i64<|Int.fdiv (wrap .u64<|wrap .i64<|j.1+j.2) 2)<|q_ hb λah ai hb=>r_ 0 o nU ai λar o=>m_ 0 ah o nV λau o=>mv (str p1) ?_;have o:=o.sc aQ p1;refine q_ hb λaj ak hb=>Am 1 0 zt o h2 4 ak λw o=>ic aj 0<|h_<|q_ hb λae hj hb=>zX (λ(ae:Int×Int)=>SH E V [(0,v0),(1,str p1),(2,v2),(8,vi p0.length),(9,vi ae.1),(10,vi ae.2)] [rd v0 p0]) ae ?_ ?_;refine dZ hj (λhj=>?_) λhj=>?_;refine u_<|bB (wrap .i64<|Int.fdiv (wrap .u64<|wrap .i64<|j.1+j.2) 2)<|zY (wrap .i64<|Int.fdiv (wrap .u64<|wrap .i64<|j.1+j.2) 2) 1<|aG (wrap .i64<|wrap .i64 (Int.fdiv (wrap .u64<|wrap .i64<|j.1+j.2) 2)+1)<|i_ ?_;exact oi hj▸⟨rfl,o.sp 4 [3]⟩;refine u_<|bB (wrap .i64<|Int.fdiv (wrap .u64<|wrap .i64<|j.1+j.2) 2)<|aG (wrap .i64<|Int.fdiv (wrap .u64<|wrap .i64<|j.1+j.2) 2)<|i_ ?_;exact oi hj▸⟨rfl,o.sp 4 [3]⟩;rintro _ w⟨O,rfl,o⟩;exact bI<|oi hb▸⟨rfl,o.sp 1 [0]⟩;exact Ak<|oi hb▸⟨rfl,o.sp 1 [0]⟩;rintro j _ w hb⟨O,rfl,o⟩;refine aD<|o_<|q_ hb λaf hj hb=>zX (λ(af:Bool)=>SH E V [(6,vi j.1),(7,vb af)] []) af ?_ ?_;refine u_<|bB j.1<|bB j.1<|bB (p0.length:Int)<|ic j.1 ((p0.length:Int))<|iF (decide<|j.1<(p0.length:Int))<|hY hj (λaa hj=>?_) λaa hj=>?_;refine w_ v2 (cg aa)<|w_ v0 (cg aa)<|w_ (vi j.1) (cg aa)<|q_ hj λal an hj=>r_ (hg:=cg aa) 0 o nU an λav o=>m_ (hg:=cg aa) 0 al o nV λaw o=>w_ (str p1) (cg aa) ?_;have o:=o.sc aQ p1;refine q_ hj λag ao hj=>Am 1 0 (cg aa) o h2 4 ao λw o=>Ag ag 0 (cg aa)<|hZ aa (vb<|ag==0)<|aG j.1<|bK (ag==0)<|i_ ?_;exact oi hj▸⟨rfl,o.sp 4 []⟩;refine bL aa<|bL aa<|bL aa<|bL aa<|bL aa<|bL aa<|bL aa<|bL aa<|hZ aa (vb false)<|aG j.1<|bK false<|i_ ?_;exact oi hj▸⟨rfl,o.sp 1 []⟩;rintro _ w⟨O,rfl,o⟩;exact aD<|s_<|oi hb▸tN ⟨rfl,o.drop 0⟩
theorem mV{p0:Net}{p1:aQ}(j:Holds E w V)(h0:V[i0]? =some (rd v0 p0))(o:fQ N p0 p1=some res):c_ 32 [v0,str p1] w<|aA E V res:=by
 unfold fQ at o;refine enter Tryz.func32 zr zr ?_;have j:=j.dup (i0+0) h0;refine g_<|zK 0 v0 j zr λad w j=>?_;exact aG 0<|l_<|j_ zr mg<|t_ 0 j zr iX eF<|mv (str p1)<|q_ o λaa ab o=>k_ t3 (ek N (p0:=p0.Name) (p1:=p1) j ab) λw j=>aG aa<|h_<|s_<|oi o▸aX ⟨rfl,j.drop 2⟩
theorem iK{p0:aF}{p1:aQ}(o:Holds E w V)(h0:V[i0]? =some (rd v0 p0))(hb:fF N p0 p1=some res):c_ 13 [v0,str p1] w<|aA E V res:=by
 unfold fF at hb;refine enter Tryz.func13 zr zr ?_;have o:=o.dup (i0+0) h0;refine g_<|zK 0 v0 o zr λaf w o=>?_;refine aG 0<|l_<|j_ zr iu<|zL 0 o zr cR nT λag o=>mv (str p1) ?_;refine q_ hb λaa ad hb=>k_ (gj Tryz.func31) (gR N (p1:=p1) (i0:=0) o rfl ⟨32,[],rfl,(gj Tryz.func32),λw Γl v v' y0 y1 r i j o hi hj hr=>by obtain rfl:=o.kp (γ:=aQ) hj;exact cG (mV N (p1:=y1) (i0:=i) o hi hr) λ_ _ h=>h⟩ ad) λw o=>mv (.tuple #[vi aa.1,vb aa.2])<|z8 (vi aa.1)<|z8 (vb aa.2)<|aG aa.1<|bK aa.2<|p_<|g_<|iF aa.2 ?_;refine z7 aa.2<|h_<|dZ hb (λhb=>?_) λhb=>?_;exact g_<|aG (-1)<|h_<|zN<|oi hb▸aX ⟨rfl,o.drop 3⟩;exact Ac<|bB aa.1<|aG aa.1<|h_<|s_<|oi hb▸aX ⟨rfl,o.drop 3⟩
theorem gC{p0:aQ}{p1:aF}(j:Holds E w V)(h1:V[i1]? =some (pt v1 p1))(o:cO N p0 p1=some res):c_ 12 [str p0,v1] w<|aA E V res:=by
 unfold cO at o;refine enter Tryz.func12 zr zr ?_;have j:=j.j7 (i:=i1+0) h1;exact g_<|aG 0<|l_<|m_ 0 p1 j gV λad j=>mv (str p0)<|q_ o λaa ab o=>k_ wB (iK N (p1:=p0) (i0:=0) j zr ab) λw j=>aG aa<|h_<|s_<|oi o▸aX ⟨rfl,j.drop 2⟩
def kK(E:World)(V:List HP)(res:aF)(v:Value)(w:World):Prop:=∃f_:Value,v=(.func (.func 12) #[] #[f_])/\Holds E w ([pt f_ res]++V)
theorem gZ{p0:aF}{res:aF}(j:Holds E w V)(h0:V[i0]? =some (rd v0 p0))(hb:dE N p0=some res):c_ 11 [v0] w<|kK E V res:=by
 unfold dE at hb;refine enter Tryz.func11 zr zr ?_;have j:=j.dup (i0+0) h0;refine g_<|zK 0 v0 j zr λo w j=>?_;have j:=j.eM (i:=0) rfl;exact ju .nilFunc<|l_<|As [vp o 0]<|ju (.func (.func 12) #[] #[vp o 0])<|h_<|s_<|oi hb▸aX ⟨vp o 0,zr,j.pk 2 [0]⟩
theorem kf{res:Bool}(o:Holds E w V)(j:gv N p0 p1=some res):c_ 16 [vi p0,vi p1] w<|aT E V res:=by
 unfold gv at j;exact enter Tryz.func16 zr zr<|g_<|bK false<|l_<|bK true<|h_<|s_<|oi j▸aX ⟨rfl,o.drop 0⟩
theorem nu{p0:aP}{res:Bool}(j:Holds E w V)(h0:V[i0]? =some (rd v0 p0))(h1:V[i1]? =some (pt v1 p1))(o:fj N p0 p1=some res):c_ 37 [v0,v1] w<|aT E V res:=by
 unfold fj at o;refine enter Tryz.func37 zr zr ?_;have j:=(j.dup (i0+0) h0).j7 (i:=i1+1) h1;refine g_<|zK 1 v0 j zr λaa w j=>?_;refine bK false<|l_<|j_ zr ir<|t_ 0 j zr cQ mf<|zZ p1 1 zt j mf<|ic p0.aN p1<|bK (p0.aN==p1)<|h_<|s_ ?_;exact oi o▸aX ⟨rfl,j.drop 3⟩
theorem lN{p0:aC}{p1:aQ}(j:Holds E w V)(h0:V[i0]? =some (rd v0 p0))(o:fZ N p0 p1=some res):c_ 19 [v0,str p1] w<|aA E V res:=by
 unfold fZ at o;refine enter Tryz.func19 zr zr ?_;have j:=j.dup (i0+0) h0;refine g_<|zK 0 v0 j zr λai w j=>?_;refine aG 0<|l_<|zU 0 j zr jN λaj j=>mv (str p1)<|q_ o λaa ae o=>k_ xd (kG N (p1:=p1) (i0:=0) j zr ae) λw j=>aG aa<|p_<|g_<|j_ zr g8<|zL 1 j zr cF nj λak j=>bB aa<|q_ o λab af o=>r_ 0 j lf af λal j=>zO 0 j zr ir cQ λan j=>zZ ab.aN 0 zt j mf<|zQ j zj.z λad w j=>?_;have j:=j.sc Int ab.aN;refine zR 1 j 0 zr mf λw j=>?_;refine l_<|t_ (f:=(λx=>x)) 1 j zr Fd.self mf<|ic ab.aN 0<|h_<|dZ o (λo=>?_) λo=>?_;refine g_<|j_ zr g8<|zL 6 j zr cF nj λao j=>?_;have j:=j.eM (i:=2) rfl;refine As [vp ad 0] ?_;refine q_ o λag ah o=>k_ w9 (gz N (i0:=0) j rfl ⟨37,[vp ad 0],rfl,(gj Tryz.func37),λw Γl v y0 r i j hi hr=>by exact cG (nu N (i0:=i) (i1:=Γl.length+2) j hi j6 hr) λ_ _ h=>h⟩ ah) λw j=>aG ag<|h_<|zN ?_;exact oi o▸aX ⟨rfl,j.drop 9⟩;exact Ac<|bB aa<|aG aa<|h_<|s_<|oi o▸aX ⟨rfl,j.drop 8⟩
theorem i5{p0:aF}{p2:aQ}{a_:List (aQ×Int)}{b_:List (aQ×Int)}{p4:List aC}{res:List (aE×Int)}(j:Holds E w (bc 42 b3 [d_,e_]::mp d_ a_::mp e_ b_::V))(h0:V[i0]? =some (rd v0 p0))(h4:V[i4]? =some (pt v4 p4))(hb:cX N p0 p2 a_ b_ p4=some res):
    c_ 17 [v0,vi 0,str p2,vp b3 0,v4] w<|gk E V b3 d_ a_ e_ b_ res:=by
 unfold cX at hb
 refine enter Tryz.func17 zr zr ?_
 have j:=(j.dup (i0+3) h0).j7 (i:=i4+4) h4
 refine g_<|zK 1 v0 j zr λa2 w j=>?_
 have j:=j.eM (i:=0) rfl
 refine ju (.map none)<|l_<|Ar (κ:=aE) (ν:=Int) j λax w j=>ju ax<|p_<|o_<|Aq mixed [1,1,0,0,2,0,0,0,0,1] [0,1,2,3,9,4,5,6,7,8] ?_
 have j:=j.drew
 refine Be 1 zr zr zt zr j zr zr iu cR λb8 j=>AA p0.aY 0 zr j nT λb9 a35 ca j=>zM zr zr<|m_ 4 p0 j gV λcb j=>eB zr<|mv (str p2)<|zT<|z1 (vi 0) zr (λw=>w_ (vi 0) zt zW)<|z6 zr zr ?_
 obtain⟨cc,ba,hb⟩:=bd hb
 refine k_ wB (iK N (p1:=p2) (i0:=0) j zr ba) λw j=>z2 (⟨zt,j.l9 1⟩)<|zM zr zr ?_
 obtain⟨a1,bb,hb⟩:=bd hb
 refine r_ 2 j nU bb λcd j=>eB zr<|zO 0 j zr jz gF λcf j=>eB zr<|m_ 0 a1.aJ j pr λa3 j=>eB zr<|x_ 0 a1.aJ j nW<|zT ?_
 have j:=j.pl 14 [0,1,2,3,5,6,7,8,9,10,11,12,13] rfl
 refine Ad<|aD<|AB E V (λ(a0:List (aE×Int))=>[bc 42 b3 [d_,e_],mp d_ a_,mp e_ b_,pt v4 p4,pt (vp a2 0) p0,mp ax a0,rd a3 a1.aJ]) (λ_=>[(3,vp b3 0),(9,ax)]) (λa4 _=>[(1,vi 0),(4,v4),(5,vp a2 0),(23,a3),(24,vi a1.aJ.length),(25,vi a4)]) hb ?_ ?_ ?_
 ·exact j.sp 13 [10,11,12,8,7,6,0]
 ·rintro hm a4 a0 s' _ w hk⟨O,rfl,j⟩hb
  refine o_<|y_ ?_
  obtain⟨ar,bh,hb⟩:=bd hb
  refine r_ 6 j nX bh λbj j=>m_ 0 ar j gQ λbk j=>zQ j qb.z λa7 w j=>?_
  refine zR 0 j 1 zr gQ λw j=>?_
  refine p_<|Af mixed ?_
  have j:=j.drew
  refine Ae<|bB 0<|d5<|AM zr zr zr ve<|d5<|AL 3 d_ zr j zr zr zr vT<|d5<|j_ zr iG<|d5 ?_
  refine t_ 0 j zr fR eF<|d5<|AZ 4 ar.Part zr j zr zr zr vU<|d5<|mv (.tuple #[vi<|bM a_ ar.Part (0:Int),vb<|ig a_ ar.Part])<|d5<|z8 (vi<|bM a_ ar.Part (0:Int))<|d5<|z8 (vb<|ig a_ ar.Part) ?_
  refine d5<|aG (bM a_ ar.Part (0:Int))<|d5<|bK (ig a_ ar.Part)<|z5<|aD<|g_<|iF (ig a_ ar.Part)<|h_ ?_
  obtain⟨a8,hj,hb⟩:=bd hb
  refine zX (λ(a8:List (aE×Int))=>SH E V [(1,vi 0),(3,vp b3 0),(4,v4),(5,vp a2 0),(9,ax),(23,a3),(24,vi a1.aJ.length),(25,vi a4)] [bc 42 b3 [d_,e_],mp d_ a_,mp e_ b_,pt v4 p4,pt (vp a2 0) p0,mp ax a8,rd a3 a1.aJ]) a8 ?_ ?_
  ·refine dZ hj (λhj=>?_) λhj=>?_
   rotate_left
   ·refine zS ?_
    obtain rfl:=oi hj
    exact⟨rfl,j.sp 10 [3,4,5,6,7,8,9]⟩
   refine o_ ?_
   obtain⟨bl,bm,hj⟩:=bd hj
   obtain⟨a5,bn,hj⟩:=bd hj
   obtain⟨bo,bp,hj⟩:=bd hj
   obtain⟨a6,bq,hj⟩:=bd hj
   refine Au E V mixed [0,0,0,0,0,0,1,0,0,0,0,0,0,0,0,0,0] [0,1,2,3,4,5,9,10,13,14,15,16] (λ(x:Value×Value×Value×Value×Value×Value×Value×Value×Value×Value×Nat)=>(λae af ag ah ai aj ak al an ao ab=>[(0,39,ae),(1,40,af),(2,41,ag),(3,42,ah),(4,43,ai),(5,44,aj),(6,45,vp a7 0),(7,46,str ar.Part),(8,47,vi bl),(9,48,ak),(10,49,al),(11,50,str a5.bR),(12,51,vi bo),(13,52,an),(14,53,ao),(15,14,vp ab 0)]) x.1 x.2.1 x.2.2.1 x.2.2.2.1 x.2.2.2.2.1 x.2.2.2.2.2.1 x.2.2.2.2.2.2.1 x.2.2.2.2.2.2.2.1 x.2.2.2.2.2.2.2.2.1 x.2.2.2.2.2.2.2.2.2.1 x.2.2.2.2.2.2.2.2.2.2) [(1,vi 0),(3,vp b3 0),(4,v4),(5,vp a2 0),(9,ax),(11,vp a7 0),(12,vi<|bM a_ ar.Part (0:Int)),(23,a3),(24,vi a1.aJ.length),(25,vi a4)] [] (λ(D:Nat->Bool)(x:Value×Value×Value×Value×Value×Value×Value×Value×Value×Value×Nat)=>(λae af ag ah ai aj ak al an ao ab=>[bif D 0 then rd ae p4 else aW,bif D 1 then rd af p4 else aW,bif D 2 then pt ag p0.aU else aW,bif D 3 then rd ah p0.aU else aW,bif D 4 then pt ai p0.aU else aW,bif D 5 then rd aj p0.aU else aW,bif D 6 then pt ak a5 else aW,bif D 7 then pt al a5.bR else aW,bif D 8 then pt an a6 else aW,bif D 9 then rd ao a6 else aW,bif D 11 then bx 55 ab a6 else(bif D 10 then raw 55 ab 2 else aW),bx 51 a7 ar,rd bk ar,pt bj ar,bc 42 b3 [d_,e_],mp d_ a_,mp e_ b_,pt v4 p4,pt (vp a2 0) p0,mp ax a0,rd a3 a1.aJ]) x.1 x.2.1 x.2.2.1 x.2.2.2.1 x.2.2.2.2.1 x.2.2.2.2.2.1 x.2.2.2.2.2.2.1 x.2.2.2.2.2.2.2.1 x.2.2.2.2.2.2.2.2.1 x.2.2.2.2.2.2.2.2.2.1 x.2.2.2.2.2.2.2.2.2.2) (λx=>by kernel_rfl) ?_ ⟨?_,?_,?_,?_,?_,?_,λ_=>l8 gn iG,?_,?_,?_,?_,?_,?_,?_,?_,?_,?_,trivial⟩ ?_
   ·have j:=(((((((((((j.drew).aW).aW).aW).aW).aW).aW).aW).aW).aW).aW).aW
    exact⟨(undef,undef,undef,undef,undef,undef,undef,undef,undef,undef,0),cB.none,vO zr,zt,j⟩
   ·rintro D U w hD aa au⟨⟨ae,af,ag,ah,ai,aj,ak,al,an,ao,ab⟩,o,ha,_,j⟩
    dsimp only at o j
    obtain⟨O,rfl⟩:=ha.ko
    have j:=j.dL 0 hD
    refine m_ 17 p4 j r5 λbr j=>?_
    have j:=j.nw 0
    exact v_ (br,af,ag,ah,ai,aj,ak,al,an,ao,ab) 0 o ha j
   ·rintro D U w hD aa au⟨⟨ae,af,ag,ah,ai,aj,ak,al,an,ao,ab⟩,o,ha,_,j⟩
    dsimp only at o j
    obtain⟨O,rfl⟩:=ha.ko
    have j:=j.dL 1 hD
    refine m_ 17 p4 j r5 λbt j=>?_
    have j:=j.nw 1
    exact v_ (ae,bt,ag,ah,ai,aj,ak,al,an,ao,ab) 1 o ha j
   ·rintro D U w hD aa au⟨⟨ae,af,ag,ah,ai,aj,ak,al,an,ao,ab⟩,o,ha,_,j⟩
    dsimp only at o j
    obtain⟨O,rfl⟩:=ha.ko
    have j:=j.dL 2 hD
    refine zO 18 j zr fG bN λbu j=>?_
    have j:=j.nw 2
    exact v_ (ae,af,bu,ah,ai,aj,ak,al,an,ao,ab) 2 o ha j
   ·rintro D U w hD aa au⟨⟨ae,af,ag,ah,ai,aj,ak,al,an,ao,ab⟩,o,ha,_,j⟩
    dsimp only at o j
    obtain⟨O,rfl⟩:=o.o1 2 aa
    have j:=(j.ea 2<|aa.1 rfl).dL 3 hD
    refine m_ 2 p0.aU j j9 λbw j=>?_
    have j:=((j.pl 22 [1,2,3,0,5,6,7,8,9,10,11,12,13,14,15,16,17,18,19,20,21] rfl).cS 2 (D 2) (aa.1 rfl) aW).cS 3 true rfl aW
    exact v_ (ae,af,ag,bw,ai,aj,ak,al,an,ao,ab) 3 o ha j
   ·rintro D U w hD aa au⟨⟨ae,af,ag,ah,ai,aj,ak,al,an,ao,ab⟩,o,ha,_,j⟩
    dsimp only at o j
    obtain⟨O,rfl⟩:=ha.ko
    have j:=j.dL 4 hD
    refine zO 18 j zr fG bN λbz j=>?_
    have j:=j.nw 4
    exact v_ (ae,af,ag,ah,bz,aj,ak,al,an,ao,ab) 4 o ha j
   ·rintro D U w hD aa au⟨⟨ae,af,ag,ah,ai,aj,ak,al,an,ao,ab⟩,o,ha,_,j⟩
    dsimp only at o j
    obtain⟨O,rfl⟩:=o.o1 4 aa
    have j:=(j.ea 4<|aa.1 rfl).dL 5 hD
    refine m_ 4 p0.aU j j9 λb0 j=>?_
    have j:=((j.pl 22 [1,2,3,4,5,0,7,8,9,10,11,12,13,14,15,16,17,18,19,20,21] rfl).cS 4 (D 4) (aa.1 rfl) aW).cS 5 true rfl aW
    exact v_ (ae,af,ag,ah,ai,b0,ak,al,an,ao,ab) 5 o ha j
   ·rintro D U w hD aa au⟨⟨ae,af,ag,ah,ai,aj,ak,al,an,ao,ab⟩,o,ha,_,j⟩
    dsimp only at o j
    obtain⟨O,rfl⟩:=o.o1 6 aa
    refine t_ 11 j zr fR eF ?_
    exact v_ (ae,af,ag,ah,ai,aj,ak,al,an,ao,ab) 7 o ha j
   ·rintro D U w hD aa au⟨⟨ae,af,ag,ah,ai,aj,ak,al,an,ao,ab⟩,o,ha,_,j⟩
    dsimp only at o j
    obtain⟨O,rfl⟩:=o.o2 5 7 aa
    have j:=j.ea 5<|aa.1 rfl
    refine k_ vS (gA N (p1:=ar.Part) (i0:=5) j zr bm) λw j=>?_
    have j:=j.cS 5 (D 5) (aa.1 rfl) aW
    exact v_ (ae,af,ag,ah,ai,aj,ak,al,an,ao,ab) 8 o ha j
   ·rintro D U w hD aa au⟨⟨ae,af,ag,ah,ai,aj,ak,al,an,ao,ab⟩,o,ha,_,j⟩
    dsimp only at o j
    obtain⟨O,rfl⟩:=o.o2 3 8 aa
    have j:=(j.ea 3<|aa.1 rfl).dL 6 hD
    refine r_ 3 j lR bn λb2 j=>?_
    have j:=((j.pl 22 [1,2,3,4,5,6,0,8,9,10,11,12,13,14,15,16,17,18,19,20,21] rfl).cS 3 (D 3) (aa.1 rfl) aW).cS 6 true rfl aW
    exact v_ (ae,af,ag,ah,ai,aj,b2,al,an,ao,ab) 9 o ha j
   ·rintro D U w hD aa au⟨⟨ae,af,ag,ah,ai,aj,ak,al,an,ao,ab⟩,o,ha,_,j⟩
    dsimp only at o j
    obtain⟨O,rfl⟩:=o.o1 9 aa
    have j:=(j.ea 6<|aa.1 rfl).dL 7 hD
    refine zO 6 j zr je fk λb4 j=>?_
    have j:=((j.pl 22 [1,2,3,4,5,6,7,0,9,10,11,12,13,14,15,16,17,18,19,20,21] rfl).cS 6 (D 9) (aa.1 rfl) aW).cS 7 true rfl aW
    exact v_ (ae,af,ag,ah,ai,aj,ak,b4,an,ao,ab) 10 o ha j
   ·rintro D U w hD aa au⟨⟨ae,af,ag,ah,ai,aj,ak,al,an,ao,ab⟩,o,ha,_,j⟩
    dsimp only at o j
    obtain⟨O,rfl⟩:=o.o1 10 aa
    have j:=j.ea 7<|aa.1 rfl
    refine zZ a5.bR 7 zt j eF ?_
    have j:=j.cS 7 (D 10) (aa.1 rfl) aW
    exact v_ (ae,af,ag,ah,ai,aj,ak,al,an,ao,ab) 11 o ha j
   ·rintro D U w hD aa au⟨⟨ae,af,ag,ah,ai,aj,ak,al,an,ao,ab⟩,o,ha,_,j⟩
    dsimp only at o j
    obtain⟨O,rfl⟩:=o.o2 1 11 aa
    have j:=j.ea 1<|aa.1 rfl
    refine k_ u7 (fE N (p1:=a5.bR) (i0:=1) j zr bp) λw j=>?_
    have j:=j.cS 1 (D 1) (aa.1 rfl) aW
    exact v_ (ae,af,ag,ah,ai,aj,ak,al,an,ao,ab) 12 o ha j
   ·rintro D U w hD aa au⟨⟨ae,af,ag,ah,ai,aj,ak,al,an,ao,ab⟩,o,ha,_,j⟩
    dsimp only at o j
    obtain⟨O,rfl⟩:=o.o2 0 12 aa
    have j:=(j.ea 0<|aa.1 rfl).dL 8 hD
    refine r_ 0 j nS bq λb5 j=>?_
    have j:=((j.pl 22 [1,2,3,4,5,6,7,8,0,10,11,12,13,14,15,16,17,18,19,20,21] rfl).cS 0 (D 0) (aa.1 rfl) aW).cS 8 true rfl aW
    exact v_ (ae,af,ag,ah,ai,aj,ak,al,b5,ao,ab) 13 o ha j
   ·rintro D U w hD aa au⟨⟨ae,af,ag,ah,ai,aj,ak,al,an,ao,ab⟩,o,ha,_,j⟩
    dsimp only at o j
    obtain⟨O,rfl⟩:=o.o1 13 aa
    have j:=(j.ea 8<|aa.1 rfl).dL 9 hD
    refine m_ 8 a6 j jN λb6 j=>?_
    have j:=((j.pl 22 [1,2,3,4,5,6,7,8,9,0,11,12,13,14,15,16,17,18,19,20,21] rfl).cS 8 (D 13) (aa.1 rfl) aW).cS 9 true rfl aW
    exact v_ (ae,af,ag,ah,ai,aj,ak,al,an,b6,ab) 14 o ha j
   ·rintro D U w hD aa au⟨⟨ae,af,ag,ah,ai,aj,ak,al,an,ao,ab⟩,o,ha,_,j⟩
    dsimp only at o j
    obtain⟨O,rfl⟩:=xS U
    have j:=(j.dL 10<|nh au hD 16).dL 10 hD
    refine zQ j tc.z λa9 w j=>?_
    have j:=(j.nw 10).tP 10 (D 16) (nh au hD 16)<|bx 55 a9 a6
    exact v_ (ae,af,ag,ah,ai,aj,ak,al,an,ao,a9) 15 o ha j
   ·rintro D U w hD aa au⟨⟨ae,af,ag,ah,ai,aj,ak,al,an,ao,ab⟩,o,ha,_,j⟩
    dsimp only at o j
    obtain⟨O,rfl⟩:=o.o2 15 14 aa
    have j:=((j.ea 9<|aa.2.1 rfl).dL 10 hD).ea 10<|aa.1 rfl
    refine zR 10 j 9 zr jN λw j=>?_
    have j:=(j.cS 9 (D 14) (aa.2.1 rfl) aW).cS 10 true rfl (bif D 15 then raw 55 ab 2 else aW)
    exact A3 (ae,af,ag,ah,ai,aj,ak,al,an,ao,ab) o ha j
   rintro D U w ay⟨⟨ae,af,ag,ah,ai,aj,ak,al,an,ao,ab⟩,o,ha,_,j⟩
   simp only[List.getD_cons_zero,List.getD_cons_succ,ay 0 (by decide),ay 1 (by decide),ay 2 (by decide),ay 3 (by decide),ay 4 (by decide),ay 5 (by decide),ay 9 (by decide),ay 10 (by decide),ay 13 (by decide),ay 14 (by decide),ay 16 (by decide),bQ]at j
   obtain⟨O,rfl⟩:=(ac (o.at 15 rfl<|qX ay 15) ha).ko
   refine aD ?_
   have j:=j.drew
   refine Aw (λw=>Holds E w<|[wx ax a0 (0:Int)]++V) mixed zr [1,1,0,0,0,2,0,1,1,2,0,2] [0,1,2,3,4,5,6,7,8,9,10,11] ((j.pk 21 [19]).vP _)<|z1 ax zr (λw=>w_ ax zt zW)<|z1 (vi<|bM a_ ar.Part (0:Int)) zr (λw=>w_ (vi<|bM a_ ar.Part (0:Int)) zt zW)<|zM zr zr<|zU 10 j zr jN λcg j=>eB zr<|j_ zr lj<|eB zr<|t_ 12 j zr iq eF ?_
   refine u4 zr ?_
   obtain⟨az,b7,hj⟩:=bd hj
   refine k_ xl (lN N (p1:=ar.bP) (i0:=0) j zr b7) λw j=>z2 ((j.pk 22 [20]).vP _)<|zM zr zr ?_
   have j:=(j.sc Int<|bM a_ ar.Part (0:Int)).sc Int az
   refine Ao (⟨bM a_ ar.Part (0:Int),0,az⟩:aE) trivial rfl j [(0,vi<|bM a_ ar.Part (0:Int)),(2,vi az)] rfl xm rfl (λM hs g=>by have h:=m1 M;exact fw.cons (f:=λ(x:aE)y=>{x with part:=y}) h ky (g.sat 1 _ rfl).1 λ_ h=>fw.cons (f:=λ(x:aE)y=>{x with mark:=y}) h kz (g.sat 0 _ rfl).1 λ_ h=>fw.nil h) λch j=>?_
   obtain rfl:=k8 0 j rfl
   refine zT<|Av (vi<|bM a0 (⟨bM a_ ar.Part (0:Int),0,az⟩:aE) (0:Int)) zr (λw j=>Bh 0 (⟨bM a_ ar.Part (0:Int),0,az⟩:aE) zt zr j zr zr zr vg zW)<|z1 (vi<|wrap .i64<|bM a0 (⟨bM a_ ar.Part (0:Int),0,az⟩:aE) (0:Int)+1) zr (λw=>zY (bM a0 (⟨bM a_ ar.Part (0:Int),0,az⟩:aE) (0:Int)) 1 zW)<|z6 zr zr<|Bi 23 (⟨bM a_ ar.Part (0:Int),0,az⟩:aE) zt zr j zr zr zr vg λcj a245 w j=>z2 ((j.pk 25 [23]).w6)<|zM zr zr<|z8 (vi a245)<|zT ?_
   refine Bb zr zr ?_
   have j:=j.sc Int<|wrap .i64<|bM a0 (⟨bM a_ ar.Part (0:Int),0,az⟩:aE) (0:Int)+1
   refine Bj 24 0 (⟨bM a_ ar.Part (0:Int),0,az⟩:aE) zt j zr zr zr zr zr λw j=>z2 zt<|Ad ?_
   obtain rfl:=oi hj
   exact⟨rfl,j.sp 26 [19,20,21,22,23,24,25]⟩
  rintro _ w⟨O,rfl,j⟩
  refine bI<|aD<|u_<|zP hk hm<|bB ((a4+1:Nat):Int)<|i_ ?_
  obtain rfl:=oi hb
  exact⟨rfl,j.sp 7 [0,1,2,3,4,5,6]⟩
 rintro a0 _ w hb⟨O,rfl,j⟩
 refine aD<|g_<|mv ax<|ju ax<|h_<|s_ ?_
 obtain rfl:=oi hb
 exact aX<|j.pk 7 [5,0,1,2]
theorem i6{p0:aF}{p2:aQ}{a_:List (aQ×Int)}{b_:List (aQ×Int)}{p4:List aC}{res:List (aE×Int)}(j:Holds E w (bc 42 b3 [d_,e_]::mp d_ a_::mp e_ b_::V))(h0:V[i0]? =some (rd v0 p0))(h4:V[i4]? =some (pt v4 p4))(hb:cY N p0 p2 a_ b_ p4=some res):
    c_ 17 [v0,vi 1,str p2,vp b3 0,v4] w<|gk E V b3 d_ a_ e_ b_ res:=by
 unfold cY at hb
 refine enter Tryz.func17 zr zr ?_
 have j:=(j.dup (i0+3) h0).j7 (i:=i4+4) h4
 refine g_<|zK 1 v0 j zr λa2 w j=>?_
 have j:=j.eM (i:=0) rfl
 refine ju (.map none)<|l_<|Ar (κ:=aE) (ν:=Int) j λax w j=>ju ax<|p_<|o_<|Aq mixed [1,1,0,0,2,0,0,0,0,1] [0,1,2,3,9,4,5,6,7,8] ?_
 have j:=j.drew
 refine Be 1 zr zr zt zr j zr zr iu cR λb8 j=>AA p0.aY 0 zr j nT λb9 a35 ca j=>zM zr zr<|m_ 4 p0 j gV λcb j=>eB zr<|mv (str p2)<|zT<|z1 (vi 0) zr (λw=>w_ (vi 0) zt zW)<|z6 zr zr ?_
 obtain⟨cc,ba,hb⟩:=bd hb
 refine k_ wB (iK N (p1:=p2) (i0:=0) j zr ba) λw j=>z2 (⟨zt,j.l9 1⟩)<|zM zr zr ?_
 obtain⟨a1,bb,hb⟩:=bd hb
 refine r_ 2 j nU bb λcd j=>eB zr<|zO 0 j zr jz gF λcf j=>eB zr<|m_ 0 a1.aJ j pr λa3 j=>eB zr<|x_ 0 a1.aJ j nW<|zT ?_
 have j:=j.pl 14 [0,1,2,3,5,6,7,8,9,10,11,12,13] rfl
 refine Ad<|aD<|AB E V (λ(a0:List (aE×Int))=>[bc 42 b3 [d_,e_],mp d_ a_,mp e_ b_,pt v4 p4,pt (vp a2 0) p0,mp ax a0,rd a3 a1.aJ]) (λ_=>[(3,vp b3 0),(9,ax)]) (λa4 _=>[(1,vi 1),(4,v4),(5,vp a2 0),(23,a3),(24,vi a1.aJ.length),(25,vi a4)]) hb ?_ ?_ ?_
 ·exact j.sp 13 [10,11,12,8,7,6,0]
 ·rintro hm a4 a0 s' _ w hk⟨O,rfl,j⟩hb
  refine o_<|y_ ?_
  obtain⟨ar,bh,hb⟩:=bd hb
  refine r_ 6 j nX bh λbj j=>m_ 0 ar j gQ λbk j=>zQ j qb.z λa7 w j=>?_
  refine zR 0 j 1 zr gQ λw j=>?_
  refine p_<|Af mixed ?_
  have j:=j.drew
  refine Ae<|bB 1<|d5<|AM zr zr zr vf<|d5<|AL 3 e_ zr j zr zr zr vT<|d5<|j_ zr iG<|d5 ?_
  refine t_ 0 j zr fR eF<|d5<|AZ 5 ar.Part zr j zr zr zr vU<|d5<|mv (.tuple #[vi<|bM b_ ar.Part (0:Int),vb<|ig b_ ar.Part])<|d5<|z8 (vi<|bM b_ ar.Part (0:Int))<|d5<|z8 (vb<|ig b_ ar.Part) ?_
  refine d5<|aG (bM b_ ar.Part (0:Int))<|d5<|bK (ig b_ ar.Part)<|z5<|aD<|g_<|iF (ig b_ ar.Part)<|h_ ?_
  obtain⟨a8,hj,hb⟩:=bd hb
  refine zX (λ(a8:List (aE×Int))=>SH E V [(1,vi 1),(3,vp b3 0),(4,v4),(5,vp a2 0),(9,ax),(23,a3),(24,vi a1.aJ.length),(25,vi a4)] [bc 42 b3 [d_,e_],mp d_ a_,mp e_ b_,pt v4 p4,pt (vp a2 0) p0,mp ax a8,rd a3 a1.aJ]) a8 ?_ ?_
  ·refine dZ hj (λhj=>?_) λhj=>?_
   rotate_left
   ·refine zS ?_
    obtain rfl:=oi hj
    exact⟨rfl,j.sp 10 [3,4,5,6,7,8,9]⟩
   refine o_ ?_
   obtain⟨bl,bm,hj⟩:=bd hj
   obtain⟨a5,bn,hj⟩:=bd hj
   obtain⟨bo,bp,hj⟩:=bd hj
   obtain⟨a6,bq,hj⟩:=bd hj
   refine Au E V mixed [0,0,0,0,0,0,1,0,0,0,0,0,0,0,0,0,0] [0,1,2,3,4,5,9,10,13,14,15,16] (λ(x:Value×Value×Value×Value×Value×Value×Value×Value×Value×Value×Nat)=>(λae af ag ah ai aj ak al an ao ab=>[(0,39,ae),(1,40,af),(2,41,ag),(3,42,ah),(4,43,ai),(5,44,aj),(6,45,vp a7 0),(7,46,str ar.Part),(8,47,vi bl),(9,48,ak),(10,49,al),(11,50,str a5.bR),(12,51,vi bo),(13,52,an),(14,53,ao),(15,14,vp ab 0)]) x.1 x.2.1 x.2.2.1 x.2.2.2.1 x.2.2.2.2.1 x.2.2.2.2.2.1 x.2.2.2.2.2.2.1 x.2.2.2.2.2.2.2.1 x.2.2.2.2.2.2.2.2.1 x.2.2.2.2.2.2.2.2.2.1 x.2.2.2.2.2.2.2.2.2.2) [(1,vi 1),(3,vp b3 0),(4,v4),(5,vp a2 0),(9,ax),(11,vp a7 0),(12,vi<|bM b_ ar.Part (0:Int)),(23,a3),(24,vi a1.aJ.length),(25,vi a4)] [] (λ(D:Nat->Bool)(x:Value×Value×Value×Value×Value×Value×Value×Value×Value×Value×Nat)=>(λae af ag ah ai aj ak al an ao ab=>[bif D 0 then rd ae p4 else aW,bif D 1 then rd af p4 else aW,bif D 2 then pt ag p0.aU else aW,bif D 3 then rd ah p0.aU else aW,bif D 4 then pt ai p0.aU else aW,bif D 5 then rd aj p0.aU else aW,bif D 6 then pt ak a5 else aW,bif D 7 then pt al a5.bR else aW,bif D 8 then pt an a6 else aW,bif D 9 then rd ao a6 else aW,bif D 11 then bx 55 ab a6 else(bif D 10 then raw 55 ab 2 else aW),bx 51 a7 ar,rd bk ar,pt bj ar,bc 42 b3 [d_,e_],mp d_ a_,mp e_ b_,pt v4 p4,pt (vp a2 0) p0,mp ax a0,rd a3 a1.aJ]) x.1 x.2.1 x.2.2.1 x.2.2.2.1 x.2.2.2.2.1 x.2.2.2.2.2.1 x.2.2.2.2.2.2.1 x.2.2.2.2.2.2.2.1 x.2.2.2.2.2.2.2.2.1 x.2.2.2.2.2.2.2.2.2.1 x.2.2.2.2.2.2.2.2.2.2) (λx=>by kernel_rfl) ?_ ⟨?_,?_,?_,?_,?_,?_,λ_=>l8 gn iG,?_,?_,?_,?_,?_,?_,?_,?_,?_,?_,trivial⟩ ?_
   ·have j:=(((((((((((j.drew).aW).aW).aW).aW).aW).aW).aW).aW).aW).aW).aW
    exact⟨(undef,undef,undef,undef,undef,undef,undef,undef,undef,undef,0),cB.none,vO zr,zt,j⟩
   ·rintro D U w hD aa au⟨⟨ae,af,ag,ah,ai,aj,ak,al,an,ao,ab⟩,o,ha,_,j⟩
    dsimp only at o j
    obtain⟨O,rfl⟩:=ha.ko
    have j:=j.dL 0 hD
    refine m_ 17 p4 j r5 λbr j=>?_
    have j:=j.nw 0
    exact v_ (br,af,ag,ah,ai,aj,ak,al,an,ao,ab) 0 o ha j
   ·rintro D U w hD aa au⟨⟨ae,af,ag,ah,ai,aj,ak,al,an,ao,ab⟩,o,ha,_,j⟩
    dsimp only at o j
    obtain⟨O,rfl⟩:=ha.ko
    have j:=j.dL 1 hD
    refine m_ 17 p4 j r5 λbt j=>?_
    have j:=j.nw 1
    exact v_ (ae,bt,ag,ah,ai,aj,ak,al,an,ao,ab) 1 o ha j
   ·rintro D U w hD aa au⟨⟨ae,af,ag,ah,ai,aj,ak,al,an,ao,ab⟩,o,ha,_,j⟩
    dsimp only at o j
    obtain⟨O,rfl⟩:=ha.ko
    have j:=j.dL 2 hD
    refine zO 18 j zr fG bN λbu j=>?_
    have j:=j.nw 2
    exact v_ (ae,af,bu,ah,ai,aj,ak,al,an,ao,ab) 2 o ha j
   ·rintro D U w hD aa au⟨⟨ae,af,ag,ah,ai,aj,ak,al,an,ao,ab⟩,o,ha,_,j⟩
    dsimp only at o j
    obtain⟨O,rfl⟩:=o.o1 2 aa
    have j:=(j.ea 2<|aa.1 rfl).dL 3 hD
    refine m_ 2 p0.aU j j9 λbw j=>?_
    have j:=((j.pl 22 [1,2,3,0,5,6,7,8,9,10,11,12,13,14,15,16,17,18,19,20,21] rfl).cS 2 (D 2) (aa.1 rfl) aW).cS 3 true rfl aW
    exact v_ (ae,af,ag,bw,ai,aj,ak,al,an,ao,ab) 3 o ha j
   ·rintro D U w hD aa au⟨⟨ae,af,ag,ah,ai,aj,ak,al,an,ao,ab⟩,o,ha,_,j⟩
    dsimp only at o j
    obtain⟨O,rfl⟩:=ha.ko
    have j:=j.dL 4 hD
    refine zO 18 j zr fG bN λbz j=>?_
    have j:=j.nw 4
    exact v_ (ae,af,ag,ah,bz,aj,ak,al,an,ao,ab) 4 o ha j
   ·rintro D U w hD aa au⟨⟨ae,af,ag,ah,ai,aj,ak,al,an,ao,ab⟩,o,ha,_,j⟩
    dsimp only at o j
    obtain⟨O,rfl⟩:=o.o1 4 aa
    have j:=(j.ea 4<|aa.1 rfl).dL 5 hD
    refine m_ 4 p0.aU j j9 λb0 j=>?_
    have j:=((j.pl 22 [1,2,3,4,5,0,7,8,9,10,11,12,13,14,15,16,17,18,19,20,21] rfl).cS 4 (D 4) (aa.1 rfl) aW).cS 5 true rfl aW
    exact v_ (ae,af,ag,ah,ai,b0,ak,al,an,ao,ab) 5 o ha j
   ·rintro D U w hD aa au⟨⟨ae,af,ag,ah,ai,aj,ak,al,an,ao,ab⟩,o,ha,_,j⟩
    dsimp only at o j
    obtain⟨O,rfl⟩:=o.o1 6 aa
    refine t_ 11 j zr fR eF ?_
    exact v_ (ae,af,ag,ah,ai,aj,ak,al,an,ao,ab) 7 o ha j
   ·rintro D U w hD aa au⟨⟨ae,af,ag,ah,ai,aj,ak,al,an,ao,ab⟩,o,ha,_,j⟩
    dsimp only at o j
    obtain⟨O,rfl⟩:=o.o2 5 7 aa
    have j:=j.ea 5<|aa.1 rfl
    refine k_ vS (gA N (p1:=ar.Part) (i0:=5) j zr bm) λw j=>?_
    have j:=j.cS 5 (D 5) (aa.1 rfl) aW
    exact v_ (ae,af,ag,ah,ai,aj,ak,al,an,ao,ab) 8 o ha j
   ·rintro D U w hD aa au⟨⟨ae,af,ag,ah,ai,aj,ak,al,an,ao,ab⟩,o,ha,_,j⟩
    dsimp only at o j
    obtain⟨O,rfl⟩:=o.o2 3 8 aa
    have j:=(j.ea 3<|aa.1 rfl).dL 6 hD
    refine r_ 3 j lR bn λb2 j=>?_
    have j:=((j.pl 22 [1,2,3,4,5,6,0,8,9,10,11,12,13,14,15,16,17,18,19,20,21] rfl).cS 3 (D 3) (aa.1 rfl) aW).cS 6 true rfl aW
    exact v_ (ae,af,ag,ah,ai,aj,b2,al,an,ao,ab) 9 o ha j
   ·rintro D U w hD aa au⟨⟨ae,af,ag,ah,ai,aj,ak,al,an,ao,ab⟩,o,ha,_,j⟩
    dsimp only at o j
    obtain⟨O,rfl⟩:=o.o1 9 aa
    have j:=(j.ea 6<|aa.1 rfl).dL 7 hD
    refine zO 6 j zr je fk λb4 j=>?_
    have j:=((j.pl 22 [1,2,3,4,5,6,7,0,9,10,11,12,13,14,15,16,17,18,19,20,21] rfl).cS 6 (D 9) (aa.1 rfl) aW).cS 7 true rfl aW
    exact v_ (ae,af,ag,ah,ai,aj,ak,b4,an,ao,ab) 10 o ha j
   ·rintro D U w hD aa au⟨⟨ae,af,ag,ah,ai,aj,ak,al,an,ao,ab⟩,o,ha,_,j⟩
    dsimp only at o j
    obtain⟨O,rfl⟩:=o.o1 10 aa
    have j:=j.ea 7<|aa.1 rfl
    refine zZ a5.bR 7 zt j eF ?_
    have j:=j.cS 7 (D 10) (aa.1 rfl) aW
    exact v_ (ae,af,ag,ah,ai,aj,ak,al,an,ao,ab) 11 o ha j
   ·rintro D U w hD aa au⟨⟨ae,af,ag,ah,ai,aj,ak,al,an,ao,ab⟩,o,ha,_,j⟩
    dsimp only at o j
    obtain⟨O,rfl⟩:=o.o2 1 11 aa
    have j:=j.ea 1<|aa.1 rfl
    refine k_ u7 (fE N (p1:=a5.bR) (i0:=1) j zr bp) λw j=>?_
    have j:=j.cS 1 (D 1) (aa.1 rfl) aW
    exact v_ (ae,af,ag,ah,ai,aj,ak,al,an,ao,ab) 12 o ha j
   ·rintro D U w hD aa au⟨⟨ae,af,ag,ah,ai,aj,ak,al,an,ao,ab⟩,o,ha,_,j⟩
    dsimp only at o j
    obtain⟨O,rfl⟩:=o.o2 0 12 aa
    have j:=(j.ea 0<|aa.1 rfl).dL 8 hD
    refine r_ 0 j nS bq λb5 j=>?_
    have j:=((j.pl 22 [1,2,3,4,5,6,7,8,0,10,11,12,13,14,15,16,17,18,19,20,21] rfl).cS 0 (D 0) (aa.1 rfl) aW).cS 8 true rfl aW
    exact v_ (ae,af,ag,ah,ai,aj,ak,al,b5,ao,ab) 13 o ha j
   ·rintro D U w hD aa au⟨⟨ae,af,ag,ah,ai,aj,ak,al,an,ao,ab⟩,o,ha,_,j⟩
    dsimp only at o j
    obtain⟨O,rfl⟩:=o.o1 13 aa
    have j:=(j.ea 8<|aa.1 rfl).dL 9 hD
    refine m_ 8 a6 j jN λb6 j=>?_
    have j:=((j.pl 22 [1,2,3,4,5,6,7,8,9,0,11,12,13,14,15,16,17,18,19,20,21] rfl).cS 8 (D 13) (aa.1 rfl) aW).cS 9 true rfl aW
    exact v_ (ae,af,ag,ah,ai,aj,ak,al,an,b6,ab) 14 o ha j
   ·rintro D U w hD aa au⟨⟨ae,af,ag,ah,ai,aj,ak,al,an,ao,ab⟩,o,ha,_,j⟩
    dsimp only at o j
    obtain⟨O,rfl⟩:=xS U
    have j:=(j.dL 10<|nh au hD 16).dL 10 hD
    refine zQ j tc.z λa9 w j=>?_
    have j:=(j.nw 10).tP 10 (D 16) (nh au hD 16)<|bx 55 a9 a6
    exact v_ (ae,af,ag,ah,ai,aj,ak,al,an,ao,a9) 15 o ha j
   ·rintro D U w hD aa au⟨⟨ae,af,ag,ah,ai,aj,ak,al,an,ao,ab⟩,o,ha,_,j⟩
    dsimp only at o j
    obtain⟨O,rfl⟩:=o.o2 15 14 aa
    have j:=((j.ea 9<|aa.2.1 rfl).dL 10 hD).ea 10<|aa.1 rfl
    refine zR 10 j 9 zr jN λw j=>?_
    have j:=(j.cS 9 (D 14) (aa.2.1 rfl) aW).cS 10 true rfl (bif D 15 then raw 55 ab 2 else aW)
    exact A3 (ae,af,ag,ah,ai,aj,ak,al,an,ao,ab) o ha j
   rintro D U w ay⟨⟨ae,af,ag,ah,ai,aj,ak,al,an,ao,ab⟩,o,ha,_,j⟩
   simp only[List.getD_cons_zero,List.getD_cons_succ,ay 0 (by decide),ay 1 (by decide),ay 2 (by decide),ay 3 (by decide),ay 4 (by decide),ay 5 (by decide),ay 9 (by decide),ay 10 (by decide),ay 13 (by decide),ay 14 (by decide),ay 16 (by decide),bQ]at j
   obtain⟨O,rfl⟩:=(ac (o.at 15 rfl<|qX ay 15) ha).ko
   refine aD ?_
   have j:=j.drew
   refine Aw (λw=>Holds E w<|[wx ax a0 (0:Int)]++V) mixed zr [1,1,0,0,0,2,0,1,1,2,0,2] [0,1,2,3,4,5,6,7,8,9,10,11] ((j.pk 21 [19]).vP _)<|z1 ax zr (λw=>w_ ax zt zW)<|z1 (vi<|bM b_ ar.Part (0:Int)) zr (λw=>w_ (vi<|bM b_ ar.Part (0:Int)) zt zW)<|zM zr zr<|zU 10 j zr jN λcg j=>eB zr<|j_ zr lj<|eB zr<|t_ 12 j zr iq eF ?_
   refine u4 zr ?_
   obtain⟨az,b7,hj⟩:=bd hj
   refine k_ xl (lN N (p1:=ar.bP) (i0:=0) j zr b7) λw j=>z2 ((j.pk 22 [20]).vP _)<|zM zr zr ?_
   have j:=(j.sc Int<|bM b_ ar.Part (0:Int)).sc Int az
   refine Ao (⟨bM b_ ar.Part (0:Int),0,az⟩:aE) trivial rfl j [(0,vi<|bM b_ ar.Part (0:Int)),(2,vi az)] rfl xm rfl (λM hs g=>by have h:=m1 M;exact fw.cons (f:=λ(x:aE)y=>{x with part:=y}) h ky (g.sat 1 _ rfl).1 λ_ h=>fw.cons (f:=λ(x:aE)y=>{x with mark:=y}) h kz (g.sat 0 _ rfl).1 λ_ h=>fw.nil h) λch j=>?_
   obtain rfl:=k8 0 j rfl
   refine zT<|Av (vi<|bM a0 (⟨bM b_ ar.Part (0:Int),0,az⟩:aE) (0:Int)) zr (λw j=>Bh 0 (⟨bM b_ ar.Part (0:Int),0,az⟩:aE) zt zr j zr zr zr vg zW)<|z1 (vi<|wrap .i64<|bM a0 (⟨bM b_ ar.Part (0:Int),0,az⟩:aE) (0:Int)+1) zr (λw=>zY (bM a0 (⟨bM b_ ar.Part (0:Int),0,az⟩:aE) (0:Int)) 1 zW)<|z6 zr zr<|Bi 23 (⟨bM b_ ar.Part (0:Int),0,az⟩:aE) zt zr j zr zr zr vg λcj a245 w j=>z2 ((j.pk 25 [23]).w6)<|zM zr zr<|z8 (vi a245)<|zT ?_
   refine Bb zr zr ?_
   have j:=j.sc Int<|wrap .i64<|bM a0 (⟨bM b_ ar.Part (0:Int),0,az⟩:aE) (0:Int)+1
   refine Bj 24 0 (⟨bM b_ ar.Part (0:Int),0,az⟩:aE) zt j zr zr zr zr zr λw j=>z2 zt<|Ad ?_
   obtain rfl:=oi hj
   exact⟨rfl,j.sp 26 [19,20,21,22,23,24,25]⟩
  rintro _ w⟨O,rfl,j⟩
  refine bI<|aD<|u_<|zP hk hm<|bB ((a4+1:Nat):Int)<|i_ ?_
  obtain rfl:=oi hb
  exact⟨rfl,j.sp 7 [0,1,2,3,4,5,6]⟩
 rintro a0 _ w hb⟨O,rfl,j⟩
 refine aD<|g_<|mv ax<|ju ax<|h_<|s_ ?_
 obtain rfl:=oi hb
 exact aX<|j.pk 7 [5,0,1,2]
def i7(E:World)(V:List HP)(r:Int)(U:Nat->Value)(w:World):Prop:=g7 bC 120 Tryz.f4 (aA E V r) .ret U w
theorem lU{p0:List aC}{p1 p2:aF}{p3:List aI}{p4:List aI}(o:Holds E w V)(h0:V[i0]? =some (rd v0 p0))(h1:V[i1]? =some (rd v1 p1))(h2:V[i2]? =some (rd v2 p2))(h3:V[i3]? =some (rd v3 p3))(h4:V[i4]? =some (rd v4 p4))(hb:eV N p0 p1 p2 p3 p4=some res):c_ 4 [v0,v1,v2,v3,v4] w<|aA E V res:=by
 unfold eV at hb;refine enter Tryz.func4 zr zr ?_;have o:=((((o.dup (i0+0) h0).dup (i1+1) h1).dup (i2+2) h2).dup (i3+3) h3).dup (i4+4) h4;refine g_<|zK 4 v0 o zr λaf w o=>?_;have o:=o.eM (i:=0) rfl;refine zK 4 v1 o zr λan w o=>?_;have o:=o.eM (i:=0) rfl;refine zK 4 v2 o zr λao w o=>?_;have o:=o.eM (i:=0) rfl;refine aG 0<|p_<|g_<|m_ 2 p0 o r5 λcl o=>m_ 2 p1 o gV λcm o=>m_ 2 p2 o gV λcn o=>?_;refine q_ hb λa4 bp hb=>k_ (gj Tryz.func7) (mU N (i0:=2) (i1:=1) (i2:=0) o zr zr zr bp) λw o=>aG a4<|l_<|bB a4<|ic a4 0<|h_<|dZ hb (λhb=>?_) λhb=>?_;exact g_<|bB a4<|aG a4<|h_<|zN<|oi hb▸aX ⟨rfl,o.drop 11⟩;refine z4<|o_<|q_ hb λba hj hb=>zX (λ(ba:Bool)=>SH E V [(3,v3),(4,v4),(5,vp af 0),(6,vp an 0),(7,vp ao 0),(40,vb ba)] [rd v3 p3,rd v4 p4,pt (vp af 0) p0,pt (vp an 0) p1,pt (vp ao 0) p2]) ba ?_ ?_;refine u_<|mv v3<|x_ 7 p3 o oO<|ic ((p3.length:Int)) 1000<|iF (decide<|(p3.length:Int)>1000)<|hY hj (λay hj=>?_) λay hj=>?_;exact bL ay<|bL ay<|bL ay<|hZ ay (vb true)<|i_<|oi hj▸⟨rfl,o.sp 11 [7,6,5,4,3]⟩;refine w_ v4 (cg ay)<|x_ (hg:=cg ay) 6 p4 o oO<|Ag (p4.length:Int) 1000 (cg ay)<|hZ ay (vb<|decide<|(p4.length:Int)>1000)<|i_ ?_;exact oi hj▸⟨rfl,o.sp 11 [7,6,5,4,3]⟩;rintro _ w⟨O,rfl,o⟩;refine aD<|dZ hb (λhb=>?_) λhb=>?_;exact g_<|aG 2<|h_<|zN<|oi hb▸aX ⟨rfl,o.drop 5⟩;refine Ac<|ju (.func (.func 8) #[] #[])<|l_<|ju (.func (.func 11) #[] #[])<|p_<|o_<|Aq mixed [1,0,0,2,1,1,2,1,2,0] [0,1,2,4,5,7,3,6,8,9] ?_;have o:=o.drew;refine z1 v3 zr (λw=>w_ v3 zt zW)<|zM zr zr<|mv (.func (.func 8) #[] #[])<|eB zr<|m_ 3 p1 o gV λbq o=>zT<|z1 (.func (.func 8) #[] #[]) zr (λw=>w_ (.func (.func 8) #[] #[]) zt zW)<|AA p2 5 zr o gV λbr a43 cp o=>z1 (.func (.func 15) #[] #[vp an 0,vp ao 0]) zr (λw=>As [vp an 0,vp ao 0] zW)<|z6 zr zr<|q_ hb λcq bt hb=>An [] zr zh zr [bq] zr<|cG (gY N (i0:=2) o zr bt) ?_;rintro _ w⟨bu,rfl,o⟩;refine z2 (⟨zt,o.l9 1⟩)<|z6 zr zr<|q_ hb λcr bw hb=>An [] zr zh zr [br] zr<|cG (gY N (i0:=2) o zr bw) ?_;rintro _ w⟨bz,rfl,o⟩;refine z2 (⟨zt,o.l9 2⟩)<|z6 zr zr ?_;refine q_ hb λa5 b0 hb=>k_ xh (iD N (i0:=5) o rfl ⟨9,[bu],rfl,zi,λw Γl v y0 r i o hi hr=>by obtain rfl:=o.kp (γ:=aQ) hi;exact cG (gB N (p0:=y0) (i1:=Γl.length+1) o j6 hr) λ_ _ h=>h⟩ ⟨9,[bz],rfl,zi,λw Γl v y0 r i o hi hr=>by obtain rfl:=o.kp (γ:=aQ) hi;exact cG (gB N (p0:=y0) (i1:=Γl.length+0) o j6 hr) λ_ _ h=>h⟩ ⟨15,[vp an 0,vp ao 0],rfl,(gj Tryz.func15),λw Γl v v' y0 y1 r i j o hi hj hr=>by obtain rfl:=o.kp (γ:=Int) hi;obtain rfl:=o.kp (γ:=Int) hj;exact cG (ke N (p0:=y0) (p1:=y1) (i2:=Γl.length+8) (i3:=Γl.length+9) o j6 j6 hr) λ_ _ h=>h⟩ b0) λw o=>z2 (⟨trivial,o.l9 2⟩)<|zM rfl rfl<|aG a5<|zT ?_;have o:=o.pl 10 [0,1,3,4,5,6,7,8,9] rfl;refine Ad<|aD<|g_<|bB a5<|ic a5 0<|h_<|dZ hb (λhb=>?_) λhb=>?_;exact g_<|bB a5<|aG a5<|h_<|zN<|oi hb▸aX ⟨rfl,o.drop 9⟩;refine z4<|o_<|Aq mixed [1,0,0,2,1,1,2,2,0] [0,1,2,4,5,3,6,7,8] ?_;have o:=o.drew;refine z1 v4 zr (λw=>w_ v4 zt zW)<|zM zr zr<|mv (.func (.func 11) #[] #[])<|eB zr<|m_ 7 p1 o gV λb2 o=>zT<|z1 (.func (.func 11) #[] #[]) zr (λw=>w_ (.func (.func 11) #[] #[]) zt zW)<|AA p2 9 zr o gV λb3 a52 ct o=>z6 zr zr<|q_ hb λcu b4 hb=>An [] zr xi zr [b2] zr<|cG (gZ N (i0:=2) o zr b4) ?_;rintro _ w⟨b5,rfl,o⟩;refine z2 (⟨zt,o.l9 1⟩)<|z6 zr zr<|q_ hb λcv b6 hb=>An [] zr xi zr [b3] zr<|cG (gZ N (i0:=2) o zr b6) ?_;rintro _ w⟨b7,rfl,o⟩;refine z2 (⟨zt,o.l9 2⟩)<|z6 zr zr ?_;refine q_ hb λa6 b8 hb=>k_ xh (iD N (i0:=10) o rfl ⟨12,[b5],rfl,xj,λw Γl v y0 r i o hi hr=>by obtain rfl:=o.kp (γ:=aQ) hi;exact cG (gC N (p0:=y0) (i1:=Γl.length+1) o j6 hr) λ_ _ h=>h⟩ ⟨12,[b7],rfl,xj,λw Γl v y0 r i o hi hr=>by obtain rfl:=o.kp (γ:=aQ) hi;exact cG (gC N (p0:=y0) (i1:=Γl.length+0) o j6 hr) λ_ _ h=>h⟩ ⟨16,[],rfl,(gj Tryz.func16),λw Γl v v' y0 y1 r i j o hi hj hr=>by obtain rfl:=o.kp (γ:=Int) hi;obtain rfl:=o.kp (γ:=Int) hj;exact cG (kf N (p0:=y0) (p1:=y1) o hr) λ_ _ h=>h⟩ b8) λw o=>z2 (⟨trivial,o.l9 2⟩)<|zM rfl rfl<|aG a6<|zT ?_;have o:=o.pl 14 [0,1,3,4,5,6,7,8,9,10,11,12,13] rfl;refine Ad<|aD<|g_<|bB a6<|ic a6 0<|h_<|dZ hb (λhb=>?_) λhb=>?_;exact g_<|bB a6<|aG a6<|h_<|zN<|oi hb▸aX ⟨rfl,o.drop 13⟩;refine Ac<|Ar (κ:=aQ) (ν:=Int) o λaj w o=>Ar (κ:=aQ) (ν:=Int) o λah w o=>BL (zs:=[(.map none),(.map none)]) (cs:=[aj,ah]) zt zr [(0,aj),(1,ah)] zr xk ⟨qM 1 o zr,qM 0 o zr,zt⟩ zr<|By zt zr o yq zr λag w o=>?_;refine Bz (i:=0) (cs:=[aj,ah]) zt o zr zr zr (tR.all (⟨qM 2 o zr,qM 1 o zr,zt⟩:tR [aj,ah])) yr zr zr λw o=>?_;refine p_<|g_<|mv v3<|x_ 11 p3 o oO<|bB 0<|h_<|AB E V (λ(ar:List (aQ×Int)×List (aQ×Int))=>[rd v4 p4,pt (vp af 0) p0,pt (vp an 0) p1,pt (vp ao 0) p2,bc 42 ag [aj,ah],mp aj ar.1,mp ah ar.2,rd v3 p3]) (λ_=>[(4,v4),(5,vp af 0),(6,vp an 0),(7,vp ao 0),(16,vp ag 0)]) (λav _=>[(67,v3),(68,vi p3.length),(69,vi av)]) hb ?_ ?_ ?_;exact o.sp 16 [12,13,14,15,0,2,1,11];rintro hm av ar s' _ w hk⟨O,rfl,o⟩hb;refine o_<|y_<|bB (av:Int)<|q_ hb λa7 b9 hb=>r_ 7 o oq b9 λcw o=>m_ 0 a7 o mQ λcx o=>zQ o r9.z λbk w o=>?_;refine aG (av:Int)<|zR 0 o 1 zr mQ λw o=>?_;refine h_ ?_;have o:=o.drew;refine Aw (λw=>Holds E w<|[bx 44 bk a7,bc 42 ag [aj,ah]]++V) mixed zr [0,0,0,0,1,1,1,1,0,1,2,2] [0,1,2,3,4,5,6,7,8,9,10,11] (o.pk 11 [0,7])<|zM zr zr<|AM zr zr zr ve<|eB zr<|AL 7 aj zr o zr zr zr vT<|eB zr<|j_ zr jA<|eB zr<|t_ 0 o zr d6 eF ?_;refine zT<|z1 (vp ag 1) zr (λw=>AM zr zr zr vf zW)<|Av ah zr (λw o=>AL 1 ah zr o zr zr zr vT zW)<|z1 (vp bk 1) zr (λw=>j_ zr jB zW)<|Av (str a7.B) zr (λw o=>t_ 0 o zr d7 eF zW)<|zM zr zr<|bB (av:Int)<|zT<|z1 (vi av) zr (λw=>w_ (vi av) zt zW)<|z6 zr zr ?_;have o:=o.sc Int (av:Int);refine AE 9 0 a7.A o zr zr zr zr zr vU λw o=>z2 (o.pk 12 [1,8])<|z6 zr zr ?_;have o:=o.sc Int (av:Int);exact AE 11 0 a7.B o zr zr zr zr zr vU λw o=>z2 (o.pk 13 [2,9])<|Ad<|bI<|aD<|u_<|zP hk hm<|bB ((av+1:Nat):Int)<|i_<|oi hb▸⟨rfl,o.sp 13 [5,6,7,8,9,10,11,12]⟩;rintro ar _ w hb⟨O,rfl,o⟩;refine aD<|g_<|As [vp ag 0,vp af 0]<|ju (.func (.func 17) #[] #[vp ag 0,vp af 0])<|p_<|g_<|mv v4<|x_ 0 p4 o oO<|bB 0<|h_<|z3 E V (λ(bl:Unit)=>[pt (vp an 0) p1,pt (vp ao 0) p2,bc 42 ag [aj,ah],mp aj ar.1,mp ah ar.2,pt (vp af 0) p0,rd v4 p4]) (λ_=>[]) (λa2 _=>[(6,vp an 0),(7,vp ao 0),(19,(.func (.func 17) #[] #[vp ag 0,vp af 0])),(86,v4),(87,vi p4.length),(88,vi a2)]) (i7 E V) hb ?_ ?_ ?_ ?_;exact o.sp 8 [2,3,4,5,6,1,0];rintro hm a2 bl fl _ w hk⟨O,rfl,o⟩hb;refine o_<|y_<|q_ hb λaw cb hb=>r_ 6 o oq cb λcc o=>m_ 0 aw o mQ λcd o=>zQ o r9.z λa9 w o=>?_;refine zR 0 o 1 zr mQ λw o=>?_;refine p_ ?_;obtain⟨bg,cf,hb⟩:=bd hb;refine q_ hb λa8 ch hb=>Au E V mixed [1,0,1,0,0,1,0,1,0,0,1,1] [1,4,6,9] (λ(x:Value×Value×Value×Value)=>(λak ae al ad=>[(0,92,(.func (.func 17) #[] #[vp ag 0,vp af 0])),(1,93,ak),(2,94,vp a9 0),(3,95,str aw.A),(4,96,ae),(5,97,(.func (.func 17) #[] #[vp ag 0,vp af 0])),(6,98,al),(7,99,vp a9 1),(8,100,str aw.B),(9,101,ad),(10,22,ae),(11,23,ad)]) x.1 x.2.1 x.2.2.1 x.2.2.2) [(6,vp an 0),(7,vp ao 0),(19,(.func (.func 17) #[] #[vp ag 0,vp af 0])),(21,vp a9 0),(86,v4),(87,vi p4.length),(88,vi a2)] [] (λ(D:Nat->Bool)(x:Value×Value×Value×Value)=>(λak ae al ad=>[bif D 0 then rd ak p1 else aW,bif D 1 then mp ae bg else aW,bif D 2 then rd al p2 else aW,bif D 3 then mp ad a8 else aW,bx 44 a9 aw,rd cd aw,pt cc aw,pt (vp an 0) p1,pt (vp ao 0) p2,bc 42 ag [aj,ah],mp aj ar.1,mp ah ar.2,pt (vp af 0) p0,rd v4 p4]) x.1 x.2.1 x.2.2.1 x.2.2.2) (λx=>by kernel_rfl) ?_ ⟨λ_=>sZ gn,?_,λ_=>l8 gn jA,?_,?_,λ_=>sZ gn,?_,λ_=>l8 gn jB,?_,?_,λ_=>uZ gn rfl,λ_=>uZ gn rfl,trivial⟩ ?_;have o:=((((o.drew).aW).aW).aW).aW;exact⟨(undef,undef,undef,undef),cB.none,vO zr,zt,o⟩;rintro D U w hD ai a1⟨⟨ak,ae,al,ad⟩,hv,ha,_,o⟩;obtain⟨O,rfl⟩:=ha.ko;have o:=o.dL 0 hD;refine m_ 7 p1 o gV λcj o=>?_;have o:=o.nw 0;exact v_ (cj,ae,al,ad) 1 hv ha o;rintro D U w hD ai a1⟨⟨ak,ae,al,ad⟩,hv,ha,_,o⟩;obtain⟨O,rfl⟩:=hv.o1 2 ai;exact t_ 4 o zr d6 eF<|v_ (ak,ae,al,ad) 3 hv ha o;rintro D U w hD ai a1⟨⟨ak,ae,al,ad⟩,hv,ha,_,o⟩;obtain⟨O,rfl⟩:=(ac (hv.at 0 rfl<|ai.1 rfl)<|ac (hv.at 1 rfl<|ai.2.1 rfl)<|ac (hv.at 3 rfl<|ai.2.2.1 rfl) az).ko;have o:=((((o.ea 0<|ai.2.1 rfl).dL 1 hD).pull 11).pull 11).pull 11;refine An [vp ag 0,vp af 0] zr xp zr [ak,vi 0,str aw.A] zr<|cG (i5 N (p2:=aw.A) (i0:=0) (i4:=12) o zr zr cf) ?_;rintro bm w o;have o:=((o.pl 18 [4,0,6,7,8,9,10,11,12,1,2,3,16,17] rfl).cS 0 (D 1) (ai.2.1 rfl) aW).cS 1 true rfl aW;have hv:=hv.re 10 rfl (v':=bm)<|λh=>ft hD<|(a1 10 _ rfl h).1 rfl;exact v_ (ak,bm,al,ad) 4 hv ha o;rintro D U w hD ai a1⟨⟨ak,ae,al,ad⟩,hv,ha,_,o⟩;obtain⟨O,rfl⟩:=ha.ko;have o:=o.dL 2 hD;refine m_ 8 p2 o gV λck o=>?_;have o:=o.nw 2;exact v_ (ak,ae,ck,ad) 6 hv ha o;rintro D U w hD ai a1⟨⟨ak,ae,al,ad⟩,hv,ha,_,o⟩;obtain⟨O,rfl⟩:=hv.o1 7 ai;exact t_ 4 o zr d7 eF<|v_ (ak,ae,al,ad) 8 hv ha o;rintro D U w hD ai a1⟨⟨ak,ae,al,ad⟩,hv,ha,_,o⟩;obtain⟨O,rfl⟩:=(ac (hv.at 5 rfl<|ai.1 rfl)<|ac (hv.at 6 rfl<|ai.2.1 rfl)<|ac (hv.at 8 rfl<|ai.2.2.1 rfl) az).ko;have o:=((((o.ea 2<|ai.2.1 rfl).dL 3 hD).pull 11).pull 11).pull 11;refine An [vp ag 0,vp af 0] zr xp zr [al,vi 1,str aw.B] zr<|cG (i6 N (p2:=aw.B) (i0:=2) (i4:=12) o zr zr ch) ?_;rintro bn w o;have o:=((o.pl 18 [4,5,6,0,8,9,10,11,12,1,2,3,16,17] rfl).cS 2 (D 6) (ai.2.1 rfl) aW).cS 3 true rfl aW;have hv:=hv.re 11 rfl (v':=bn)<|λh=>ft hD<|(a1 11 _ rfl h).1 rfl;exact v_ (ak,ae,al,bn) 9 hv ha o;rintro D U w a3⟨⟨ak,ae,al,ad⟩,hv,ha,_,o⟩;have o:=(((o.ea 0<|qX a3 1).ea 1<|qX a3 4).ea 2<|qX a3 6).ea 3<|qX a3 9;obtain⟨O,rfl⟩:=(ac (hv.at 10 rfl<|qX a3 10)<|ac (hv.at 11 rfl<|qX a3 11) ha).ko;refine aD<|o_<|g_<|mv ae<|Ba 1 zt zr o zr zr wD<|mv ad<|Ba 3 zt zr o zr zr wD<|ic ((bg.length:Int)) ((a8.length:Int))<|h_<|dZ hb (λhb=>?_) λhb=>?_;exact g_<|aG 12<|h_<|zN<|bZ<|aH<|oi hb▸⟨rfl,aX ⟨rfl,o.drop 14⟩⟩;refine Ac<|mv ae<|BB (i:=1) zt zr o zr zr wD λbo w o=>h_<|BD (λ(pre130:List (aE×Int))(bh:Unit)=>SH E V [(6,vp an 0),(7,vp ao 0),(19,(.func (.func 17) #[] #[vp ag 0,vp af 0])),(23,ad),(86,v4),(87,vi p4.length),(88,vi a2),(108,vp bo 0)] [pt (vp an 0) p1,pt (vp ao 0) p2,bc 42 ag [aj,ah],mp aj ar.1,mp ah ar.2,pt (vp af 0) p0,mp ad a8,rd v4 p4,vL ae bo bg pre130]) (λ(bh:Unit)=>SH E V [(6,vp an 0),(7,vp ao 0),(19,(.func (.func 17) #[] #[vp ag 0,vp af 0])),(86,v4),(87,vi p4.length),(88,vi a2)] [pt (vp an 0) p1,pt (vp ao 0) p2,bc 42 ag [aj,ah],mp aj ar.1,mp ah ar.2,pt (vp af 0) p0,mp ad a8,rd v4 p4]) (i7 E V) hb ?_ ?_ ?_ ?_;exact o.sp 14 [7,8,9,10,11,12,3,13,1];rintro pre130 bh _ w⟨O,rfl,o⟩hB;refine BE (i:=8) zr o zr zr hB ?_ ?_;exact z8 (vb false)<|p_<|AV zr<|Ak<|⟨rfl,o.sp 9 [0,1,2,3,4,5,6,7]⟩;rintro a0 cy fl w hb o;obtain rfl:=o.kp (γ:=Int) (i:=0) rfl;have o:=o.kv a0.1;refine z8 (vb true)<|p_<|AU zr<|Aj<|y_<|BC (i:=10) zt zr o zr zr λcz o=>?_;obtain rfl:=o.kp (γ:=Int) (i:=0) rfl;have o:=o.kv a0.1;refine z8 (KV.enc a0.1)<|z8 (vi a0.2)<|zQ o yu.z λc0 w o=>?_;refine zR 0 o 1 zr xq λw o=>?_;refine aG a0.2<|l_<|mv ad<|zU 0 o zr xq λc1 o=>AK 12 a0.1 zt zr o zr (k8 0 o zr) zr vg<|bB a0.2<|ic (bM a8 a0.1 (0:Int)) a0.2<|h_<|dZ hb (λhb=>?_) λhb=>?_;exact g_<|aG 12<|h_<|zI<|oi hb▸⟨rfl,aX ⟨rfl,o.drop 15⟩⟩;exact zS<|bI<|oi hb▸⟨rfl,o.sp 15 [6,7,8,9,10,11,12,13,14]⟩;intro r U w hb hK;exact bZ<|aH<|oi hb▸⟨rfl,hK⟩;rintro bh _ w hb⟨O,rfl,o⟩;exact bI<|aD<|u_<|zP hk hm<|bB ((a2+1:Nat):Int)<|i_<|oi hb▸⟨rfl,o.sp 8 [0,1,2,3,4,5,7]⟩;intro r U w hb hK;exact aH<|oi hb▸hK;rintro bl _ w hb⟨O,rfl,o⟩;exact aD<|g_<|aG 0<|h_<|s_<|oi hb▸aX ⟨rfl,o.drop 7⟩
theorem fU{res:Bool}(o:Holds E w V)(j:cK N p0 p1 p2=some res):c_ 89 [vi p0,vi p1,vi p2] w<|aT E V res:=by
 unfold cK at j;refine enter Tryz.func89 zr zr<|g_<|bK false<|l_<|bB p1<|bB p0<|ic p1 p0<|iF (decide<|p1<=p0)<|zV (vi p0) zr zr p5 ?_;refine zV (vi p2) zr zr p5<|zV (vb<|decide<|p0<=p2) zr zr (rv .leq)<|Aa (b:=decide<|p1<=p0) (v:=vb<|decide (p1<=p0)&&decide (p0<=p2)) zt zr zr (kW true)<|bK (decide (p1<=p0)&&decide (p0<=p2))<|h_<|s_ ?_;exact oi j▸aX ⟨rfl,o.drop 0⟩
end Go.Gk
