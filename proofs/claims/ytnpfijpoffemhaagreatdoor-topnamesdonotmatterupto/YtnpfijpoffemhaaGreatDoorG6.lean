/-
  Printed texts: Go functions as plain functions, and that they are. No statement of the seed is proved here.
-/
import Derived.Test.YtnpfijpoffemhaaGreatDoorG1
import Derived.Test.YtnpfijpoffemhaaGreatDoorG2
import Derived.Test.YtnpfijpoffemhaaGreatDoorG3
import Derived.Test.YtnpfijpoffemhaaGreatDoorG5
import Derived.Test.YtnpfijpoffemhaaGreatDoorA2
set_option linter.unusedVariables false
set_option linter.unusedSimpArgs false
set_option linter.unusedSectionVars false
set_option maxRecDepth 100000
set_option maxHeartbeats 40000000
namespace Go.Gk
open Go IntKind Go.Proofs
variable (N:Nat){E w:World}{b0 i0 i0_0 i0_1 i1:Nat}{p1 res:Int}{v0 b_ f_ i_ k_ a_ d_ j_ e_ g_ s_ o_ m_ v1 v2:Value}{V:List HP}
theorem wz{p0:List aJ}{p1:Part}{res:List aS}(j:Holds E w V)(h0:V[i0]? =some (rd v0 p0))(h1:V[i1]? =some (rd v1 p1))(o:kU N p0 p1=some res):c_ 21 [v0,v1] w<|lC E V res:=by
 unfold kU at o;refine enter Tryz.func21 zr zr ?_;have j:=(j.dup (i0+0) h0).dup (i1+1) h1;refine AI<|QH 0 v1 j zr λag w j=>?_;refine dU n_<|IN<|dU n_<|IT<|AI<|mv v0<|mv v0<|AT zr BQ<|Qj 0 j zr tX oC<|q_ o λaw ak o=>Qp Lo (mM N (p1:=p1.iB) (i0:=2) j zr ak) λw j=>?_;refine q_ o λab al o=>Qm 2 j Gw al λax j=>QR 0 j zr BO pZ λay j=>Qs 0 ab.aP j H8 λah j=>Ql 0 ab.aP j y7<|aX 0<|AS<|Re E V (λ(ad:List aS)(ae:Value)=>[bx 85 ag p1,rd ah ab.aP,own 59 ae ad]) (λ_ ae=>[(5,ae)]) (λaf _ _=>[(3,vp ag 0),(15,ah),(16,vi ab.aP.length),(17,vi af)]) o ?_ ?_ ?_;have j:=j.cH aS 59;exact⟨n_,j.sp 7 [4,1,0]⟩;rintro hm af ad s' _ w hk⟨aq,O,rfl,j⟩o;refine IS<|Qt<|q_ o λaa ar o=>Qm 1 j xV ar λaz j=>Qs 0 aa j v7 λa0 j=>QD j H9.z λa1 w j=>?_;refine QB 0 j 1 zr v7 λw j=>?_;refine AS<|BY<|mv aq<|AT zr xf<|Qj 3 j zr oz oC<|AT zr v8<|Qj 0 j zr mI oC ?_;have j:=(j.sc bG p1.Name).sc bG aa.Name;refine Ri (⟨p1.Name,aa.Name⟩:aS) trivial rfl j [(0,str p1.Name),(1,str aa.Name)] rfl Lu rfl (λM hs g=>by have h:=FK M;exact cR.cons (f:=λ(x:aS)y=>{x with Part:=y}) h yT (g.sat 1 _ rfl).1 λ_ h=>cR.cons (f:=λ(x:aS)y=>{x with aS:=y}) h yU (g.sat 0 _ rfl).1 λ_ h=>cR.nil h) λau j=>?_;refine QM ([(⟨p1.Name,aa.Name⟩:aS)]:List aS) j [au] p6 rp (λM hs g=>⟨(g.sat 0 _ zr).1,zt⟩) λa2 w j=>?_;have j:=j.freeze 0;refine q_ o λa3 av o=>QW 9 0 j y9 av λai w j=>?_;exact dU ai<|By<|bJ<|aC<|BY<|Qw hk hm<|aX ((af+1:Nat):Int)<|By<|oi o▸⟨rfl,ai,j.sp 10 [7,8,9]⟩;rintro ad _ w o⟨aj,O,rfl,j⟩;refine aC<|AI<|mv aj<|dU aj<|AS<|Qk ?_;obtain rfl:=oi o;exact bT<|j.pk 3 [2]
theorem vk{p0:List aJ}{p1:aT}{res:List aS}(j:Holds E w V)(h0:V[i0]? =some (rd v0 p0))(h1:V[i1]? =some (rd v1 p1))(o:kg N p0 p1=some res):c_ 10 [v0,v1] w<|lC E V res:=by
 unfold kg at o;refine enter Tryz.func10 zr zr ?_;have j:=(j.dup (i0+0) h0).dup (i1+1) h1;refine AI<|QH 0 v1 j zr λa8 w j=>?_;refine dU n_<|IN<|Qx 0 j zr y4 λa9 j=>?_;refine q_ o λaa a0 o=>QA PE (r5 N (i0:=0) j zr a0) λad w j=>dU ad<|IN<|dU n_<|IT<|AI<|AT zr xe<|QL 2 j zr mK Gx λaf j=>Ql 0 p1.cJ j Ia<|aX 0<|AS<|Re E V (λ(al:List aS)(an:Value)=>[rd v0 p0,mp ad aa,rd af p1.cJ,own 59 an al]) (λ_ an=>[(6,an)]) (λag _ _=>[(0,v0),(5,ad),(16,af),(17,vi p1.cJ.length),(18,vi ag)]) o ?_ ?_ ?_;have j:=j.cH aS 59;exact⟨n_,j.sp 7 [6,2,1,0]⟩;rintro hm ag al s' _ w hk⟨a1,O,rfl,j⟩o;refine IS<|Qt<|q_ o λa2 a3 o=>Qm 2 j Dk a3 λba j=>Qs 0 a2 j BP λbb j=>QD j JU.z λbc w j=>?_;refine QB 0 j 1 zr BP λw j=>?_;refine IN<|mv v0<|Qx 0 j zr BP λbf j=>?_;refine q_ o λah a4 o=>QA (gH Tryz.func21) (wz N (i0:=4) (i1:=0) j zr zr a4) λai w j=>Q2 (i:=0) (l:=ah) zt zr j zr zr p5<|aX 0<|AS<|Re E V (λ(ar:List aS)(au:Value)=>[rd v0 p0,mp ad aa,rd af p1.cJ,own 59 ai ah,own 59 au ar]) (λ_ au=>[(0,v0),(5,ad),(6,au),(16,af),(17,vi p1.cJ.length),(18,vi ag)]) (λaj _ _=>[(24,ai),(25,vi ah.length),(26,vi aj)]) o ?_ ?_ ?_;exact⟨a1,j.sp 9 [5,6,7,0,8]⟩;rintro hm aj ar s' _ w hk⟨aw,O,rfl,j⟩o;refine IS<|Qt<|q_ o λab ax o=>Qz 3 j zr zr p6 ax<|Rv 3 j ax jd λbg j=>?_;refine QD j rp.z λbh w j=>?_;refine QB 0 j 1 zr jd λw j=>?_;refine IN<|mv ad<|Qx 0 j zr jd λbj j=>R8 4 ab zr j zr (oH 0 j) zr J6<|mv (.tuple #[vi<|dR aa ab (0:Int),vb<|gX aa ab])<|QQ (vi<|dR aa ab (0:Int))<|QQ (vb<|gX aa ab)<|aL (dR aa ab (0:Int))<|bY (gX aa ab) ?_;refine IN<|gU (gX aa ab)<|Q4 (gX aa ab)<|AS<|q_ o λav hj o=>Qu (λ(av:List aS)U w=>∃ak:Value,SH E V [(0,v0),(5,ad),(6,ak),(16,af),(17,vi p1.cJ.length),(18,vi ag),(24,ai),(25,vi ah.length),(26,vi aj)] [rd v0 p0,mp ad aa,rd af p1.cJ,own 59 ai ah,own 59 ak av] U w) av ?_ ?_;refine eH hj (λhj=>?_) λhj=>?_;refine BY<|mv aw<|Qx 1 j zr jd λa5 j=>QM ([ab]:List aS) j [a5] p6 rp (λM hs g=>⟨(g.sat 0 _ zr).1,zt⟩) λbk w j=>?_;have j:=j.freeze 0;refine q_ hj λbl a6 hj=>QW 9 0 j y9 a6 λay w j=>?_;exact dU ay<|By<|oi hj▸⟨rfl,ay,j.sp 10 [5,6,7,8,9]⟩;exact QJ<|oi hj▸⟨rfl,aw,j.sp 8 [3,4,5,6,7]⟩;rintro _ w⟨ak,O,rfl,j⟩;exact bJ<|aC<|BY<|Qw hk hm<|aX ((aj+1:Nat):Int)<|By<|oi o▸⟨rfl,ak,j.sp 5 [0,1,2,3,4]⟩;rintro ar _ w o⟨a7,O,rfl,j⟩;exact bJ<|aC<|BY<|Qw hk hm<|aX ((ag+1:Nat):Int)<|By<|oi o▸⟨rfl,a7,j.sp 5 [0,1,2,4]⟩;rintro al _ w o⟨az,O,rfl,j⟩;refine aC<|AI<|mv az<|dU az<|AS<|Qk ?_;obtain rfl:=oi o;exact bT<|j.pk 4 [3]
theorem lT{p0:List dD}{p1:aS}{p2:dD->aS->Option Int}{res:Int×Bool}(o:Holds E w V)(h0:V[i0]? =some (rd v0 p0))(h1:V[i1]? =some (rd v1 p1))(h2:Js aZ E V v2 p2 (λ(r:Int)=>Value.int .i64 r))(hb:eJ N p0 p1 p2=some res):c_ 22 [v0,v1,v2] w<|dC E V res:=by
 unfold eJ at hb;refine enter Tryz.func22 zr zr ?_;have o:=(o.dup (i0+0) h0).dup (i1+1) h1;refine AI<|QH 0 v1 o zr λae w o=>?_;refine aL 0<|bY false<|IN<|mv v0<|Ql 2 p0 o Er<|aL (p0.length:Int)<|IN<|aX (p0.length:Int)<|aL 0<|aL (p0.length:Int)<|IT<|RF E V (λ(j:Int×Int)=>[rd v0 p0,bx 59 ae p1]) (λj=>[(0,v0),(2,v2),(4,vp ae 0),(8,vi p0.length),(9,vi j.1)]) (λj=>[(10,vi j.2)]) hb ?_ ?_ ?_;exact o.sp 3 [2,0];rintro j fl _ w⟨O,rfl,o⟩hb;refine IS<|AI<|aX j.1<|aX j.2<|ic j.1 j.2<|AS<|eH hb (λhb=>?_) λhb=>?_;refine Rl<|Qt<|aX j.1<|aX j.2<|Qr j.1 j.2<|RI (wrap .i64<|j.1+j.2) ⟨_,FL⟩ Dl<|RH (v:=(.int .u64<|wrap .u64<|wrap .i64<|j.1+j.2)) (v':=(.int .u64 1)) (u:=(.int .u64<|Int.fdiv (wrap .u64<|wrap .i64<|j.1+j.2) 2)) zt zr zr zr (λ_=>zr) (λ_=>zr)<|RI (Int.fdiv (wrap .u64<|wrap .i64<|j.1+j.2) 2) ⟨_,Dl⟩ FL<|aL (wrap .i64<|Int.fdiv (wrap .u64<|wrap .i64<|j.1+j.2) 2) ?_;refine IT<|Rn mixed [0,0,0,0,0,0,2,0] [0,1,2,3,4,5,6,7] ?_;have o:=o.drew;refine QF zr zr<|mv v2<|cV zr<|mv v0<|cV zr<|aX (wrap .i64<|Int.fdiv (wrap .u64<|wrap .i64<|j.1+j.2) 2)<|cV zr ?_;refine q_ hb λai aj hb=>Qm 0 o BZ aj λau o=>cV zr<|Qs 0 ai o va λav o=>cV zr<|Qx 3 o zr jd λaw o=>wZ zr<|q_ hb λak al hb=>RE 1 0 zt o h2 5 al λw o=>Eo zr<|ic ak 0<|QO<|Q5<|aC<|q_ hb λaf hj hb=>Qu (λ(af:Int×Int)=>SH E V [(0,v0),(2,v2),(4,vp ae 0),(8,vi p0.length),(9,vi af.1),(10,vi af.2)] [rd v0 p0,bx 59 ae p1]) af ?_ ?_;refine eH hj (λhj=>?_) λhj=>?_;refine BY<|aX (wrap .i64<|Int.fdiv (wrap .u64<|wrap .i64<|j.1+j.2) 2)<|Qr (wrap .i64<|Int.fdiv (wrap .u64<|wrap .i64<|j.1+j.2) 2) 1<|aL (wrap .i64<|wrap .i64 (Int.fdiv (wrap .u64<|wrap .i64<|j.1+j.2) 2)+1)<|By ?_;exact oi hj▸⟨rfl,o.sp 5 [3,4]⟩;refine BY<|aX (wrap .i64<|Int.fdiv (wrap .u64<|wrap .i64<|j.1+j.2) 2)<|aL (wrap .i64<|Int.fdiv (wrap .u64<|wrap .i64<|j.1+j.2) 2)<|By ?_;exact oi hj▸⟨rfl,o.sp 5 [3,4]⟩;rintro _ w⟨O,rfl,o⟩;exact bJ<|oi hb▸⟨rfl,o.sp 2 [0,1]⟩;exact Q7<|oi hb▸⟨rfl,o.sp 2 [0,1]⟩;rintro j _ w hb⟨O,rfl,o⟩;refine aC<|IS<|q_ hb λag hj hb=>Qu (λ(ag:Bool)=>SH E V [(6,vi j.1),(7,vb ag)] []) ag ?_ ?_;refine Rn mixed [1,0,0,0,0,0,0,0,0,0,0,2,0,0,0,0] [0,1,2,3,4,5,6,7,8,9,10,11,12,13,14,15] ?_;have o:=o.drew;refine QX (vi j.1) zr (λw=>Qq (vi j.1) zt QP)<|QF zr zr<|aX j.1<|cV zr<|aX (p0.length:Int)<|cV zr<|ic j.1 ((p0.length:Int))<|cV zr<|gU (decide<|j.1<(p0.length:Int)) ?_;refine QO<|gK hj (λaa hj=>?_) λaa hj=>?_;refine QF zr zr<|Qq v2 (cg aa)<|cV zr<|Qq v0 (cg aa)<|cV zr<|Qq (vi j.1) (cg aa)<|cV zr<|q_ hj λan ao hj=>Qm (hg:=cg aa) 0 o BZ ao λax o=>cV zr<|Qs (hg:=cg aa) 0 an o va λay o=>cV zr<|Qx (hg:=cg aa) 3 o zr jd λaz o=>wZ zr ?_;refine q_ hj λah aq hj=>RE 1 0 (cg aa) o h2 5 aq λw o=>Eo zr<|Q1 ah 0 (cg aa)<|cV zr<|gT aa (vb<|ah==0)<|cV zr<|aL j.1<|cV zr<|bY (ah==0)<|QO<|Q5 ?_;exact oi hj▸⟨rfl,o.sp 5 []⟩;refine QF zr zr<|bS aa<|cV zr<|bS aa<|cV zr<|bS aa<|cV zr<|bS aa<|cV zr<|bS aa<|cV zr<|bS aa<|wZ zr<|bS aa<|Eo zr<|bS aa<|cV zr<|gT aa (vb false) ?_;exact cV zr<|aL j.1<|cV zr<|bY false<|QO<|Q5<|oi hj▸⟨rfl,o.sp 2 []⟩;rintro _ w⟨O,rfl,o⟩;exact aC<|Qk<|oi hb▸nT ⟨rfl,o.drop 0⟩
theorem uF{p0:dD}{p1:aS}(j:Holds E w V)(h0:V[i0]? =some (rd v0 p0))(h1:V[i1]? =some (rd v1 p1))(o:gI N p0 p1=some res):c_ 23 [v0,v1] w<|aD E V res:=by
 unfold gI at o;refine enter Tryz.func23 zr zr ?_;have j:=(j.dup (i0+0) h0).dup (i1+1) h1;refine AI<|QH 1 v0 j zr λae w j=>?_;have j:=j.ji (i:=0) rfl;refine QH 1 v1 j zr λaf w j=>?_;have j:=j.ji (i:=0) rfl;refine aL 0<|IT<|Rn mixed [0,2,1,2,0] [0,2,1,3,4] ?_;have j:=j.drew;refine QF zr zr<|Qs 1 p0 j va λag j=>QO<|RM p1 1 zr zt j jd λah a35 ai j=>Rh zr zr<|q_ o λaj aa o=>QA GG (jr N (i0:=2) j zr aa) λak w j=>Q0 (⟨zt,j.nG 1⟩)<|Rh zr zr<|q_ o λab ad o=>Qp JW (iJ N (i0:=0) (i1:=2) j zr zr ad) λw j=>Q0 (⟨zt,j.nG 1⟩)<|QF zr zr<|aL ab<|QO ?_;have j:=j.pl 8 [0,2,3,4,5,6,7] rfl;exact Q5<|aC<|Qk<|oi o▸bT ⟨rfl,j.drop 7⟩
theorem qJ{p0:jg}{p1:aS}(o:Holds E w V)(h0:V[i0]? =some (rd v0 p0))(h1:V[i1]? =some (rd v1 p1))(hb:kr N p0 p1=some res):c_ 11 [v0,v1] w<|aD E V res:=by
 unfold kr at hb;refine enter Tryz.func11 zr zr ?_;have o:=(o.dup (i0+0) h0).dup (i1+1) h1;refine AI<|QH 1 v0 o zr λaf w o=>?_;refine QH 1 v1 o zr λag w o=>?_;refine aL 0<|IN<|AT zr oO<|QL 1 o zr nH y8 λah o=>Qx 1 o zr jd λai o=>?_;refine q_ hb λaa ad hb=>Qp (gH Tryz.func22) (lT N (i0:=1) (i1:=0) o rfl rfl ⟨23,[],rfl,(gH Tryz.func23),λw Γl v v' y0 y1 r i j o hi hj hr=>by exact fA (uF N (i0:=i) (i1:=j) o hi hj hr) λ_ _ h=>h⟩ ad) λw o=>mv (.tuple #[vi aa.1,vb aa.2])<|QQ (vi aa.1)<|QQ (vb aa.2)<|aL aa.1<|bY aa.2<|IT<|AI<|gU aa.2 ?_;refine Q4 aa.2<|AS<|eH hb (λhb=>?_) λhb=>?_;exact AI<|aL (-1)<|AS<|QE<|oi hb▸bT ⟨rfl,o.drop 6⟩;exact Ra<|aX aa.1<|aL aa.1<|AS<|Qk<|oi hb▸bT ⟨rfl,o.drop 6⟩
theorem rB{res:List aS}(j:Holds E w V)(hb:iC N p1=some res):c_ 57 [n_,vi p1] w<|lC E V res:=by
 unfold iC at hb;refine enter Tryz.func57 zr zr<|AI<|dU n_<|IT<|AI<|aX p1<|ic p1 0<|AS<|eH hb (λhb=>?_) λhb=>?_;cases hb;refine QN<|AI<|aX p1<|mv n_<|SK zt zr zr p5<|mv n_<|R4 (m:=0) zt zr zr p5<|Qr ((0:Nat):Int) ((0:Nat):Int)<|Qr p1 (wrap .i64<|((0:Nat):Int) -((0:Nat):Int)) ?_;refine aL (wrap .i64<|p1 -(wrap .i64<|((0:Nat):Int) -((0:Nat):Int)))<|IN<|aX (wrap .i64<|p1 -(wrap .i64<|((0:Nat):Int) -((0:Nat):Int)))<|ic (wrap .i64<|p1 -(wrap .i64<|((0:Nat):Int) -((0:Nat):Int))) 0<|AS ?_;refine q_ hb λad o hb=>Qu (λ(ad:List aS)U w=>∃ab:Value,SH E V [(0,ab)] [own 59 ab ad] U w) ad ?_ ?_;refine eH o (λo=>?_) λo=>?_;refine BY<|mv n_<|mv n_<|SK zt zr zr p5<|S9 aS zt zr zr p6 (.inr ⟨rfl,zr⟩) (.inl zr) zr zr<|aX (wrap .i64<|p1 -(wrap .i64<|((0:Nat):Int) -((0:Nat):Int)))<|q_ o λah af o=>S8 (k:=wrap .i64<|p1 -(wrap .i64<|((0:Nat):Int) -((0:Nat):Int))) zt zr j zr zr y9 FL OP af λai w j=>?_;exact mv n_<|R4 (m:=0) zt zr zr p5<|q_ o λaj ag o=>Sg 0 zr j zr zr p6 (.inr ⟨rfl,zr⟩) ag λae j=>dU ae<|By<|oi o▸⟨rfl,ae,j.sp 1 [0]⟩;refine QJ ?_;obtain rfl:=oi o;have j:=j.cH aS 59;exact⟨rfl,n_,j.sp 1 [0]⟩;rintro _ w⟨ab,O,rfl,j⟩;refine aC<|AI<|mv ab<|dU ab<|AS<|Qk ?_;obtain rfl:=oi hb;exact bT<|j.pk 1 [0]
theorem tt{p0:List (List aS)}{res:List aS}(j:Holds E w V)(h0:V[i0]? =some (rd v0 p0))(o:jF N p0=some res):c_ 27 [v0] w<|lC E V res:=by
 unfold jF at o;refine enter Tryz.func27 zr zr ?_;have j:=j.dup (i0+0) h0;refine AI<|dU n_<|IN<|aL 0<|IT<|AI<|mv v0<|Ql 0 p0 j Ka<|aX 0<|AS<|Ry E V (λ(aa:Int)=>[rd v0 p0]) (λaa=>[(0,v0),(3,vi aa)]) (λad _=>[(9,v0),(10,vi p0.length),(11,vi ad)]) o ?_ ?_ ?_;exact j.sp 1 [0];rintro hm ad aa s' _ w hk⟨O,rfl,j⟩o;refine IS<|Qt<|q_ o λab aq o=>Qm 0 j It aq λay j=>Qs 0 ab j sV λaj j=>dU aj<|IN<|aX aa<|mv aj<|Ql 0 ab j p5<|Qr aa (ab.length:Int)<|aL (wrap .i64<|aa+(ab.length:Int)) ?_;refine IN<|aX (wrap .i64<|aa+(ab.length:Int))<|ic (wrap .i64<|aa+(ab.length:Int)) 0<|AS<|eH o (λo=>?_) λo=>?_;cases o;exact QJ<|bJ<|aC<|BY<|Qw hk hm<|aX ((ad+1:Nat):Int)<|By<|oi o▸⟨rfl,j.sp 3 [2]⟩;rintro aa _ w o⟨O,rfl,j⟩;refine aC<|AI<|aX aa<|q_ o λaz ar o=>QA (gH Tryz.func57) (rB N (p1:=aa) j ar) λak w j=>dU ak<|IT<|AI<|mv v0<|Ql 1 p0 j Ka<|aX 0<|AS<|Re E V (λ(ag:List aS)(ah:Value)=>[rd v0 p0,own 59 ah ag]) (λ_ ah=>[(6,ah)]) (λai _ _=>[(25,v0),(26,vi p0.length),(27,vi ai)]) o ?_ ?_ ?_;exact⟨ak,j.sp 2 [1,0]⟩;rintro hm ai ag s' _ w hk⟨au,O,rfl,j⟩o;refine IS<|Qt<|q_ o λav aw o=>Qm 0 j It aw λa0 j=>Qs 0 av j sV λal j=>dU al<|AS<|BY<|mv au<|mv al<|q_ o λa1 ax o=>QW 3 0 j y9 ax λan w j=>?_;exact dU an<|By<|bJ<|aC<|BY<|Qw hk hm<|aX ((ai+1:Nat):Int)<|By<|oi o▸⟨rfl,an,j.sp 4 [2,3]⟩;rintro ag _ w o⟨ao,O,rfl,j⟩;refine aC<|AI<|mv ao<|dU ao<|AS<|Qk ?_;obtain rfl:=oi o;exact bT<|j.pk 2 [1]
def uG(E:World)(V:List HP)(b0:Nat)(b_ f_:Value)(a_ d_:Value)(j_ e_:Value)(g_ s_:Value)(o_ m_:Value)(i_ k_:Value)(res:List aS)(v:Value)(w:World):Prop:=Holds E w<|[own 59 v res,bc 73 b0 [b_,f_,a_,d_,j_,e_,g_,s_,o_,m_,i_,k_]]++V
theorem tu{r_:List (List aI)}{x_:List aI}{h_:List cK}{p_:List dD}{u_:List Int}{p1:Net}{res:List aS}(o:Holds E w (bc 73 b0 [b_,f_,a_,d_,j_,e_,g_,s_,o_,m_,i_,k_]::rd b_ r_::rd f_ x_::rd a_ h_::rd d_ p_::rd i_ u_::V))(h1:V[i1]? =some (rd v1 p1))(hb:jG N r_ x_ h_ p_ u_ p1=some res):c_ 14 [vp b0 0,v1] w<|uG E V b0 b_ f_ a_ d_ j_ e_ g_ s_ o_ m_ i_ k_ res:=by
 unfold jG at hb;refine enter Tryz.func14 zr zr ?_;have o:=o.dup (i1+6) h1;refine AI<|QH 0 v1 o zr λbn w o=>?_;refine dU n_<|IN<|dU n_<|IN<|RQ (κ:=Int) (ν:=Int) o λaq w o=>dU aq<|IT<|AI<|AT zr sU<|QL 1 o zr qt sV λaw o=>Ql 0 p1.aP o p5<|aX 0<|AS<|Sa E V (λ(ag:List (List aS)×List (Int×Int))(a3:Value)(us125:List RV)=>[bc 73 b0 [b_,f_,a_,d_,j_,e_,g_,s_,o_,m_,i_,k_],rd b_ r_,rd f_ x_,rd a_ h_,rd d_ p_,rd i_ u_,mp aq ag.2,rd aw p1.aP,own 45 a3 us125,gY (XS 59 aS) us125 ag.1 none]) (λ_ a3 _=>[(0,vp b0 0),(5,a3)]) (λax _ _ _=>[(6,aq),(15,aw),(16,vi p1.aP.length),(17,vi ax)]) hb ?_ ?_ ?_;have o:=(o.yl<|XS 59 aS).cH RV 45;exact⟨n_,([]:List RV),o.sp 12 [6,7,8,9,10,11,3,2,0,1]⟩;rintro hm ax ag s' _ w hk⟨az,us129,O,rfl,o⟩hb;refine IS<|Qt<|q_ hb λar bb hb=>Qm 7 o p6 bb λbo o=>Qs 0 ar o jd λbp o=>QD o rp.z λa0 w o=>?_;refine QB 0 o 1 zr jd λw o=>?_;refine IT<|Rn mixed [0,0,0,0,0,2,0] [0,1,2,3,4,5,6] ?_;have o:=o.drew;refine QF zr zr<|mv (vp b0 0)<|cV zr<|QU zt zr zr<|cV zr<|AT zr ru<|cV zr<|Tc (i:=3) (cs:=[b_,f_,a_,d_]) zt zr o zr zr y5 zr zr<|cV zr<|Qx 0 o zr jd λbq o=>wZ zr ?_;have o:=o.HO (cs:=[b_,f_,a_,d_]) (x:=(⟨r_,x_,h_,p_⟩:jg)) (λM hs g=>⟨[b_],[f_,a_,d_],rfl,lK (g.sat 5 _ rfl).1,⟨[f_],[a_,d_],rfl,lK (g.sat 6 _ rfl).1,⟨[a_],[d_],rfl,lK (g.sat 7 _ rfl).1,lK (g.sat 8 _ rfl).1⟩⟩⟩) rfl;refine q_ hb λa1 bf hb=>Qp M1 (qJ N (i0:=0) (i1:=1) o zr zr bf) λw o=>Eo zr<|aL a1<|QO<|Q5<|aC<|IS<|AI<|aX a1<|ic a1 0<|AS<|eH hb (λhb=>?_) λhb=>?_;exact Q7<|HE<|aC<|BY<|Qw hk hm<|aX ((ax+1:Nat):Int)<|By<|oi hb▸⟨rfl,az,us129,o.sp 15 [5,6,7,8,9,10,11,12,13,14]⟩;refine Ra<|mv (vp b0 0)<|QU zt zr zr<|AT zr EB<|Qy 5 i_ o fT<|aX a1<|q_ hb λah bg hb=>Qm 10 o fU bg λbr o=>QG ah 0 o cY<|aL ah<|IN<|mv aq<|aX ah<|R8 12 ah zr o zr zr zr Eu<|mv (.tuple #[vi<|dR ag.2 ah (0:Int),vb<|gX ag.2 ah])<|QQ (vi<|dR ag.2 ah (0:Int)) ?_;refine QQ (vb<|gX ag.2 ah)<|aL (dR ag.2 ah (0:Int))<|bY (gX ag.2 ah)<|IT<|AI<|gU (gX ag.2 ah)<|Q4 (gX ag.2 ah)<|gU (!(gX ag.2 ah))<|QI (vi ah) zr zr w3 ?_;refine QI (vb<|decide<|ah<0) zr zr (w4 .lss)<|QV (b:=(!(gX ag.2 ah))) (v:=vb<|(!(gX ag.2 ah))||decide (ah<0)) zt zr zr (sG true)<|AS<|q_ hb λaa hj hb=>Qu (λ(aa:List (List aS)×List (Int×Int)×Int)U w=>∃(an:Value)(us143:List RV),SH E V [(0,vp b0 0),(5,an),(6,aq),(8,vp a0 0),(11,vi aa.2.2),(15,aw),(16,vi p1.aP.length),(17,vi ax)] [bc 73 b0 [b_,f_,a_,d_,j_,e_,g_,s_,o_,m_,i_,k_],rd b_ r_,rd f_ x_,rd a_ h_,rd d_ p_,rd i_ u_,mp aq aa.2.1,bx 59 a0 ar,rd aw p1.aP,own 45 an us143,gY (XS 59 aS) us143 aa.1 none] U w) aa ?_ ?_;refine eH hj (λhj=>?_) λhj=>?_;refine AI<|mv az<|RT 14 15 ag.1 o Ka<|aL (ag.1.length:Int)<|IN<|mv aq<|aX ah<|aX (ag.1.length:Int) ?_;have o:=o.sc Int (ag.1.length:Int);refine RR 13 0 ah o zr zr zr zr Eu λw o=>AS<|BY<|mv az ?_;have o:=(o.cH aS 59).C3 (i:=0) rfl;refine QM ([rv<|.slice none 0 0]:List RV) o [n_] It ON (λM hs g=>⟨(g.sat 0 _ zr).1,zt⟩) λbt w o=>?_;obtain⟨bu,bh,hj⟩:=bd hj;have o:=o.freeze 0;refine Sw 18 0 19 2 zr o zr zr zr zr zr zr OO bh λa8 w o=>?_;refine dU a8<|By ?_;obtain rfl:=oi hj;exact⟨rfl,a8,us129++[rv<|.slice none 0 0],o.sp 20 [10,11,12,13,14,15,16,7,17,18,19]⟩;exact QJ<|oi hj▸⟨rfl,az,us129,o.sp 16 [6,7,8,9,10,11,12,3,13,14,15]⟩;rintro _ w⟨an,us143,O,rfl,o⟩;refine aC ?_;obtain⟨bw,a2,hb⟩:=bd hb;obtain⟨av,bj,hb⟩:=bd hb;refine q_ hb λbz a4 hb=>Ru E V mixed [1,1,1,1,0,0,0,0,0,0,0] [6,7,8,10] (λ(x:Value×Value×Value)=>(λal aj af=>[(0,56,an),(1,57,vi aa.2.2),(2,58,an),(3,59,vi aa.2.2),(4,60,yG an (Int.toNat aa.2.2) 1 0),(5,61,(us143.getD (Int.toNat aa.2.2) xT).v),(6,62,al),(7,63,aj),(8,64,af),(9,65,yG an (Int.toNat aa.2.2) 1 0)]) x.1 x.2.1 x.2.2) [(0,vp b0 0),(5,an),(6,aq),(8,vp a0 0),(11,vi aa.2.2),(15,aw),(16,vi p1.aP.length),(17,vi ax)] [] (λ(D:Nat->Bool)(x:Value×Value×Value)=>(λal aj af=>[bif D 0 then rd al ar else aW,bif D 2 then rd aj ([ar]:List aS)else(bif D 1 then own 59 aj ([ar]:List aS)else aW),bif D 3 then aW else(bif D 2 then own 59 af av else aW),bc 73 b0 [b_,f_,a_,d_,j_,e_,g_,s_,o_,m_,i_,k_],rd b_ r_,rd f_ x_,rd a_ h_,rd d_ p_,rd i_ u_,mp aq aa.2.1,bx 59 a0 ar,rd aw p1.aP,bif D 3 then own 45 an (us143.set (Int.toNat aa.2.2)<|rv af)else own 45 an us143,bif D 3 then gY (XS 59 aS) (us143.set (Int.toNat aa.2.2)<|rv af) (aa.1.set (Int.toNat aa.2.2) av) none else(bif D 2 then gY (XS 59 aS) us143 aa.1 (some<|Int.toNat aa.2.2)else gY (XS 59 aS) us143 aa.1 none)]) x.1 x.2.1 x.2.2) (λx=>by kernel_rfl) ?_ ⟨λ_=>jI gn,λ_=>jI gn,λ_=>jI gn,λ_=>jI gn,?_,?_,?_,?_,?_,?_,?_,trivial⟩ ?_;have o:=(((o.drew).aW).aW).aW;exact⟨(undef,undef,undef),cW.none,D9 zr,zt,o⟩;rintro D U w hD ak ad⟨⟨al,aj,af⟩,hv,ha,_,o⟩;obtain⟨O,rfl⟩:=hv.o2 2 3 ak;have o:=((o.bM 12<|nh ad hD 10).bM 13<|nh ad hD 10).bM 13<|nf<|λh=>ft hD<|(ad 5 _ rfl<|(ad 8 _ rfl h).1 rfl).1 rfl;have hl161:=o.fH 13;have hr162:=iH xT hl161 a2;refine Qz 12 o zr zr It hr162 ?_;have o:=(o.dV 12 (D 10) (nh ad hD 10)<|own 45 an<|us143.set (Int.toNat aa.2.2)<|rv af).dV 13 (D 8) (nf<|λh=>ft hD<|(ad 5 _ rfl<|(ad 8 _ rfl h).1 rfl).1 rfl)<|gY (XS 59 aS) us143 aa.1<|some<|Int.toNat aa.2.2;have o:=o.dV 13 (D 10) (nh ad hD 10)<|gY (XS 59 aS) (us143.set (Int.toNat aa.2.2)<|rv af) (aa.1.set (Int.toNat aa.2.2) av) none;exact OF (al,aj,af) 4 hv ha o;rintro D U w hD ak ad⟨⟨al,aj,af⟩,hv,ha,_,o⟩;obtain⟨O,rfl⟩:=hv.o1 4 ak;have o:=((o.bM 12<|nh ad hD 10).bM 13<|nh ad hD 10).bM 13<|nh ad hD 8;have hl163:=o.fH 13;have hr164:=iH xT hl163 a2;refine Sk 12 13 aa.2.2 (vM 59 aS) xT zr o zr (nR 12 o hr164 0) zr zr a2 sV ?_;have o:=(o.dV 12 (D 10) (nh ad hD 10)<|own 45 an<|us143.set (Int.toNat aa.2.2)<|rv af).dV 13 (D 8) (nh ad hD 8)<|gY (XS 59 aS) us143 aa.1<|some<|Int.toNat aa.2.2;have o:=o.dV 13 (D 10) (nh ad hD 10)<|gY (XS 59 aS) (us143.set (Int.toNat aa.2.2)<|rv af) (aa.1.set (Int.toNat aa.2.2) av) none;exact OF (al,aj,af) 5 hv ha o;rintro D U w hD ak ad⟨⟨al,aj,af⟩,hv,ha,_,o⟩;obtain⟨O,rfl⟩:=ha.pC;have o:=o.bM 0 hD;refine Qx 10 o zr jd λbk o=>?_;have o:=o.nw 0;exact OF (bk,aj,af) 6 hv ha o;rintro D U w hD ak ad⟨⟨al,aj,af⟩,hv,ha,_,o⟩;obtain⟨O,rfl⟩:=hv.o1 6 ak;have o:=((o.dT 0<|ak.1 rfl).bM 1<|nh ad hD 8).bM 1 hD;refine QM ([ar]:List aS) o [al] p6 rp (λM hs g=>⟨(g.sat 0 _ zr).1,zt⟩) λa9 w o=>?_;have o:=(((o.pl 15 [1,0,3,4,5,6,7,8,9,10,11,12,13,14] rfl).cI 0 (D 6) (ak.1 rfl) aW).cI 1 true rfl aW).dV 1 (D 8) (nh ad hD 8)<|rd a9 ([ar]:List aS);exact OF (al,a9,af) 7 hv ha o;rintro D U w hD ak ad⟨⟨al,aj,af⟩,hv,ha,_,o⟩;obtain⟨O,rfl⟩:=hv.o2 5 7 ak;have o:=(((((((o.bM 1 hD).dT 1<|ak.2.1 rfl).bM 2<|nh ad hD 10).bM 2 hD).bM 12<|nh ad hD 10).bM 13<|nh ad hD 10).bM 13 hD).yJ (j:=13) (jj:=aa.2.2) (vM 59 aS) xT rfl a2;have o:=o.freeze 2;refine QW 0 2 o y9 bj λa5 w o=>?_;have o:=((((o.pl 15 [1,2,0,4,5,6,7,8,9,10,11,12,13,14] rfl).cI 1 true rfl (bif D 7 then own 59 aj ([ar]:List aS)else aW)).cI 2 true rfl aW).dV 2 (D 10) (nh ad hD 10) aW).dV 12 (D 10) (nh ad hD 10)<|own 45 an<|us143.set (Int.toNat aa.2.2)<|rv a5;have o:=(o.cI 13 true rfl<|gY (XS 59 aS) us143 aa.1 none).dV 13 (D 10) (nh ad hD 10)<|gY (XS 59 aS) (us143.set (Int.toNat aa.2.2)<|rv a5) (aa.1.set (Int.toNat aa.2.2) av) none;exact OF (al,aj,a5) 8 hv ha o;rintro D U w hD ak ad⟨⟨al,aj,af⟩,hv,ha,_,o⟩;obtain⟨O,rfl⟩:=hv.o2 0 1 ak;have o:=((o.bM 12<|nh ad hD 10).bM 13<|nh ad hD 10).dT 13<|ak.2.2.2.2.2.2.2.2.2.2.1 rfl;have hl168:=o.fH 13;have hr169:=iH xT hl168 a4;refine Qz 12 o zr zr It hr169 ?_;have o:=((o.dV 12 (D 10) (nh ad hD 10)<|own 45 an<|us143.set (Int.toNat aa.2.2)<|rv af).cI 13 (D 8) (ak.2.2.2.2.2.2.2.2.2.2.1 rfl)<|gY (XS 59 aS) us143 aa.1 none).dV 13 (D 10) (nh ad hD 10)<|gY (XS 59 aS) (us143.set (Int.toNat aa.2.2)<|rv af) (aa.1.set (Int.toNat aa.2.2) av) none;exact OF (al,aj,af) 9 hv ha o;rintro D U w hD ak ad⟨⟨al,aj,af⟩,hv,ha,_,o⟩;obtain⟨O,rfl⟩:=hv.o2 9 8 ak;have o:=((((o.bM 2 hD).dT 2<|ak.2.1 rfl).bM 12 hD).bM 13 hD).dT 13<|ak.2.1 rfl;have hl170:=o.fH 13;have hr171:=iH xT hl170 a4;refine Si 12 13 2 aa.2.2 (vM 59 aS) xT o zr zr (nR 12 o hr171 0) zr zr zr a4 sV λw o=>?_;have o:=((o.cI 2 true rfl (bif D 8 then own 59 af av else aW)).cI 12 true rfl<|own 45 an us143).cI 13 true rfl (bif D 8 then gY (XS 59 aS) us143 aa.1 (some<|Int.toNat aa.2.2)else gY (XS 59 aS) us143 aa.1 none);exact Rr (al,aj,af) hv ha o;rintro D U w ay⟨⟨al,aj,af⟩,hv,ha,_,o⟩;simp only[List.getD_cons_zero,List.getD_cons_succ,ay 6 (by decide),ay 8 (by decide),ay 10 (by decide),ay 10 (by decide),ay 10 (by decide),aR]at o;obtain⟨O,rfl⟩:=ha.pC;refine bJ<|aC<|BY<|Qw hk hm<|aX ((ax+1:Nat):Int)<|By ?_;obtain rfl:=oi hb;exact⟨rfl,an,us143.set (Int.toNat aa.2.2)<|rv af,o.sp 14 [3,4,5,6,7,8,9,11,12,13]⟩;rintro ag _ w hb⟨ba,us127,O,rfl,o⟩;refine aC<|IS<|AI<|mv ba<|RT 8 9 ag.1 o Ka<|ic ((ag.1.length:Int)) 2<|AS<|eH hb (λhb=>?_) λhb=>?_;refine AI<|dU n_<|AS<|QE ?_;obtain rfl:=oi hb;have o:=o.cH aS 59;exact bT<|o.pk 11 [0,1];refine Ra<|mv ba ?_;have o:=o.ym (X:=XS 59 aS) (b:=9) (j:=8) rfl (λM h u x cs=>(HW 59) M h u x cs) rfl rfl (by decide);have o:=o.freeze 8;refine q_ hb λb2 bl hb=>QA (gH Tryz.func27) (tt N (i0:=8) o zr bl) λbm w o=>dU bm<|AS<|Qk ?_;obtain rfl:=oi hb;exact bT<|o.pk 11 [0,1]
def sB(E:World)(V:List HP)(a_:Value)(h_:List (aS×Int))(d_:Value)(p_:List (aS×Bool))(res:List bG×List aS×Bool)(v:Value)(w:World):Prop:=∃u0 u1:Value,v = .tuple #[u0,u1,vb res.2.2]/\Holds E w ([own 9 u0 res.1,own 59 u1 res.2.1,mp a_ h_,mp d_ p_]++V)
theorem rC [Nd E]{V:List HP}{i0_0:Nat}{b_:Value}{r_:List Part}{i0_1:Nat}{f_:Value}{x_:List Net}{a_:Value}{h_:List (aS×Int)}{d_:Value}{p_:List (aS×Bool)}{i1:Nat}{v1:Value}{p1:bK}{res:List bG×List aS×Bool}(o:Holds E w (mp a_ h_::mp d_ p_::V))(h0_0:V[i0_0]? =some (rd b_ r_))(h0_1:V[i0_1]? =some (rd f_ x_))(h1:V[i1]? =some (rd v1 p1))(hb:iD N r_ x_ h_ p_ p1=some res):Calls aZ 15 [(.agg ([b_,f_,a_,d_]:List Value).toArray),v1].toArray w (fP<|sB E V a_ h_ d_ p_ res):=by
 unfold iD at hb;refine enter Tryz.func15 zr zr ?_;have o:=((o.dup (i0_0+2) h0_0).dup (i0_1+3) h0_1).dup (i1+4) h1;refine AI<|Sj [b_,f_,a_,d_] zr o zr (uo.all (⟨nz 2 o,nz 1 o,sL 3 o,sL 4 o,zt⟩:uo [b_,f_,a_,d_])) λal w o=>?_;refine QH 1 v1 o zr λa2 w o=>?_;refine dU n_<|dU n_<|bY false<|IN<|RQ (κ:=bG) (ν:=Bool) o λae w o=>dU ae<|IN<|dU n_<|IN<|aL 0<|IT<|AI<|AT zr EA<|QL 1 o zr Ep sV λan o=>Ql 0 p1.aP o p5<|aX 0<|AS<|Re E V (λ(ab:List (bG×Bool)×List aS×Int)(ag:Value)=>[rd b_ r_,rd f_ x_,mp a_ h_,mp d_ p_,bc 56 al [b_,f_,a_,d_],mp ae ab.1,rd an p1.aP,own 59 ag ab.2.1]) (λab ag=>[(0,(.agg ([b_,f_,a_,d_]:List Value).toArray)),(7,ae),(8,ag),(9,vi ab.2.2)]) (λaf _ _=>[(2,vp al 0),(16,an),(17,vi p1.aP.length),(18,vi af)]) hb ?_ ?_ ?_;have o:=o.cH aS 59;exact⟨n_,o.sp 10 [7,6,8,9,4,2,1,0]⟩;rintro hm af ab s' _ w hk⟨aj,O,rfl,o⟩hb;refine IS<|Qt<|q_ hb λad av hb=>Qm 6 o p6 av λa3 o=>Qs 0 ad o jd λa4 o=>QD o rp.z λa5 w o=>?_;refine QB 0 o 1 zr jd λw o=>?_;refine IT<|AI<|AT zr Iu<|Qy 7 a_ o M3<|Qx 0 o zr jd λa6 o=>R8 6 ad zr o zr (oH 0 o) zr J6<|mv (.tuple #[vi<|dR h_ ad (0:Int),vb<|gX h_ ad])<|QQ (vi<|dR h_ ad (0:Int))<|QQ (vb<|gX h_ ad) ?_;refine aL (dR h_ ad (0:Int))<|bY (gX h_ ad)<|IN<|gU (gX h_ ad)<|AS<|eH hb (λhb=>?_) λhb=>?_;refine BY<|mv ae<|AT zr LC<|AT zr p4<|Qy 8 f_ o An<|aX (dR h_ ad (0:Int))<|q_ hb λao aw hb=>Qm 5 o Dm aw λa7 o=>QR 0 o zr xh qq λa8 o=>QG ao.Name 0 o oC ?_;have o:=o.sc Bool true;refine RR 12 0 ao.Name o zr zr zr zr OT λw o=>AS<|BY<|mv aj<|Qx 4 o zr jd λax o=>QM ([ad]:List aS) o [ax] p6 rp (λM hs g=>⟨(g.sat 0 _ zr).1,zt⟩) λa9 w o=>?_;have o:=o.freeze 0;refine q_ hb λba ay hb=>QW 16 0 o y9 ay λaq w o=>?_;exact dU aq<|By<|bJ<|aC<|BY<|Qw hk hm<|aX ((af+1:Nat):Int)<|By<|oi hb▸⟨rfl,aq,o.sp 17 [9,10,11,12,13,14,15,16]⟩;refine AI<|AT zr EC<|Qy 8 d_ o LB<|Qx 1 o zr jd λbb o=>R9 8 ad zr o zr (oH 0 o) zr Ie<|AS<|eH hb (λhb=>?_) λhb=>?_;refine BY<|aX ab.2.2<|Qr ab.2.2 1<|aL (wrap .i64<|ab.2.2+1)<|AS<|BY<|mv aj<|Qx 2 o zr jd λaz o=>QM ([ad]:List aS) o [az] p6 rp (λM hs g=>⟨(g.sat 0 _ zr).1,zt⟩) λbf w o=>?_;have o:=o.freeze 0;refine q_ hb λbg a0 hb=>QW 14 0 o y9 a0 λar w o=>?_;exact dU ar<|By<|bJ<|aC<|BY<|Qw hk hm<|aX ((af+1:Nat):Int)<|By<|oi hb▸⟨rfl,ar,o.sp 15 [7,8,9,10,11,12,13,14]⟩;exact Q7<|HE<|aC<|BY<|Qw hk hm<|aX ((af+1:Nat):Int)<|By<|oi hb▸⟨rfl,aj,o.sp 13 [5,6,7,8,9,10,11,12]⟩;rintro ab _ w hb⟨ak,O,rfl,o⟩;refine aC<|AI<|mv ae<|QA (gH Tryz.func29) (Kk Tryz.lay29 60 99 zr zr o (i:=5) zr) ?_;rintro _ w⟨bh,rfl,o⟩;refine q_ hb λbj a1 hb=>QA (gH Tryz.func28) (Au Tryz.lay29 Tryz.lay28 Tryz.lay59 60 9 zr zr (gH Tryz.func59) zr (gH Tryz.func60) ⟨rfl,zr,zr⟩ y6 o (i:=6) (j:=0) zr zr a1) λau w o=>mv ak<|mv ae<|S6 (i:=7) zt zr o zr zr OY<|aX ab.2.2<|Qr (ab.1.length:Int) ab.2.2<|ic (wrap .i64<|(ab.1.length:Int)+ab.2.2) 1<|dU au<|dU ak<|bY (decide<|wrap .i64 ((ab.1.length:Int)+ab.2.2)>1)<|AS<|Qk ?_;exact oi hb▸NF zr zr zr zr ⟨au,ak,zr,o.pk 10 [0,9,4,5]⟩
def tv(E:World)(V:List HP)(a_:Value)(h_:List (aS×Int))(d_:Value)(p_:List (aS×Bool))(res:Bool)(v:Value)(w:World):Prop:=v= vb res/\Holds E w ([mp a_ h_,mp d_ p_]++V)
theorem sC{r_:List Part}{x_:List Net}{h_:List (aS×Int)}{p_:List (aS×Bool)}{p1:aS}{res:Bool}(j:Holds E w (mp a_ h_::mp d_ p_::V))(h0_0:V[i0_0]? =some (rd b_ r_))(h0_1:V[i0_1]? =some (rd f_ x_))(h1:V[i1]? =some (rd v1 p1))(hb:iX N r_ x_ h_ p_ p1=some res):Calls aZ 16 [(.agg ([b_,f_,a_,d_]:List Value).toArray),v1].toArray w (fP<|tv E V a_ h_ d_ p_ res):=by
 unfold iX at hb;refine enter Tryz.func16 zr zr ?_;have j:=((j.dup (i0_0+2) h0_0).dup (i0_1+3) h0_1).dup (i1+4) h1;refine AI<|Sj [b_,f_,a_,d_] zr j zr (uo.all (⟨nz 2 j,nz 1 j,sL 3 j,sL 4 j,zt⟩:uo [b_,f_,a_,d_])) λae w j=>?_;refine QH 1 v1 j zr λaf w j=>?_;refine bY false<|IN<|AT zr Iu<|Qy 1 a_ j M3<|Qx 0 j zr jd λag j=>R8 6 p1 zr j zr (oH 0 j) zr J6<|mv (.tuple #[vi<|dR h_ p1 (0:Int),vb<|gX h_ p1])<|QQ (vi<|dR h_ p1 (0:Int))<|QQ (vb<|gX h_ p1) ?_;refine aL (dR h_ p1 (0:Int))<|bY (gX h_ p1)<|IT<|q_ hb λad hj hb=>Qu (λ(ad:Bool)=>SH E V [(0,(.agg ([b_,f_,a_,d_]:List Value).toArray)),(4,vb ad)] [rd b_ r_,rd f_ x_,mp a_ h_,mp d_ p_]) ad ?_ ?_;refine BY<|gU (gX h_ p1)<|gU (gX h_ p1)<|gK hj (λo hj=>?_) λo hj=>?_;exact bS o<|bS o<|bS o<|bS o<|gT o (vb true)<|bY true<|By<|oi hj▸⟨rfl,j.sp 8 [5,4,6,7]⟩;exact AT (hg:=cg o) zr EC<|Qy (hg:=cg o) 2 d_ j LB<|Qx (hg:=cg o) 1 j zr jd λah j=>R9 (hg:=cg o) 8 p1 zr j zr (oH 0 j) zr Ie<|gT o (vb<|dR p_ p1 (false:Bool))<|bY (dR p_ p1 (false:Bool))<|By<|oi hj▸⟨rfl,j.sp 9 [6,5,7,8]⟩;rintro _ w⟨O,rfl,j⟩;exact aC<|Qk<|oi hb▸bT ⟨rfl,j.pk 4 [2,3]⟩
def xv(E:World)(V:List HP)(res:List cP×Int)(v:Value)(w:World):Prop:=∃u0:Value,v = .tuple #[u0,vi res.2]/\Holds E w ([own 47 u0 res.1]++V)
theorem pL [Nd E]{V:List HP}{i0:Nat}{v0:Value}{p0:List aJ}{i1:Nat}{v1:Value}{p1:aT}{i2:Nat}{v2:Value}{p2:jg}{res:List cP×Int}(j:Holds E w V)(h0:V[i0]? =some (rd v0 p0))(h1:V[i1]? =some (rd v1 p1))(h2:V[i2]? =some (rd v2 p2))(hb:dQ N p0 p1 p2=some res):
    c_ 4 [v0,v1,v2] w<|xv E V res:=by
 unfold dQ at hb
 refine enter Tryz.func4 zr zr ?_
 have j:=((j.dup (i0+0) h0).dup (i1+1) h1).dup (i2+2) h2
 refine AI<|QH 1 v1 j zr λba w j=>?_
 refine QH 1 v2 j zr λao w j=>?_
 refine dU n_<|aL 0<|IN<|mv v0<|Qx 1 j zr y4 λdp j=>Qx 1 j zr y5 λdq j=>?_
 obtain⟨a7,dr,hb⟩:=bd hb
 refine QA (gH Tryz.func8) (vj N (i0:=6) (i1:=1) (i2:=0) j zr zr zr dr) ?_
 rintro _ w hK51
 rcases bz:a7.1 with _|o
 ·replace hb:=L3 bz hb
  obtain⟨rfl,j⟩:=KJ bz hK51
  refine mv (.tuple #[(.pointer none),vi a7.2])<|QQ (.pointer none)<|QQ (vi a7.2)<|dU (.pointer none)<|aL a7.2<|IT<|AI<|aX a7.2<|ic a7.2 0 ?_
  refine AS<|eH hb (λhb=>?_) λhb=>?_
  rotate_left
  ·cases hb
  refine AI<|aX a7.2<|dU n_<|aL a7.2<|AS<|QE ?_
  obtain rfl:=oi hb
  have j:=j.cH cP 47
  exact nT ⟨n_,zr,j.pk 8 [0]⟩
 replace hb:=L4 bz hb
 obtain⟨al,av,aw,ax,ay,a0,a1,a2,an,a3,a4,a8,a5,rfl,j⟩:=KK bz hK51
 refine mv (.tuple #[vp al 0,vi a7.2])<|QQ (vp al 0)<|QQ (vi a7.2)<|dU (vp al 0)<|aL a7.2<|IT<|AI<|aX a7.2<|ic a7.2 0 ?_
 refine AS<|eH hb (λhb=>?_) λhb=>?_
 ·refine AI<|aX a7.2<|dU n_<|aL a7.2<|AS<|QE ?_
  obtain rfl:=oi hb
  have j:=j.cH cP 47
  exact nT ⟨n_,zr,j.pk 21 [0]⟩
 refine QN ?_
 obtain⟨bb,ds,hb⟩:=bd hb
 refine Ru E V mixed [0,0,0,0,0,0,0] [0,1,2,3,4,5,6] (λ(x:Value×Value×Value×Value×Value×Value×Nat)=>(λaq ar ad ab ae af ah=>[(0,40,aq),(1,41,ar),(2,42,ad),(3,43,ab),(4,44,(.agg ([af,ae,ad,ab]:List Value).toArray)),(5,10,vp ah 0)]) x.1 x.2.1 x.2.2.1 x.2.2.2.1 x.2.2.2.2.1 x.2.2.2.2.2.1 x.2.2.2.2.2.2) [(0,v0),(4,vp ba 0),(5,vp ao 0),(8,vp al 0)] [] (λ(D:Nat->Bool)(x:Value×Value×Value×Value×Value×Value×Nat)=>(λaq ar ad ab ae af ah=>[bif D 0 then rd aq p1 else aW,bif D 1 then rd ar p1 else aW,bif D 2 then mp ad bb else aW,bif D 3 then mp ab ([]:List (aS×Bool))else aW,bif D 4 then rd ae p1.bA else aW,bif D 4 then rd af p1.cJ else aW,bif D 6 then bc 56 ah [af,ae,ad,ab]else(bif D 5 then bc 56 ah [n_,n_,(.map none),(.map none)]else aW),bc 73 al [av,aw,ax,ay,a0,a1,a2,an,a3,a4,a8,a5],rd av o.1,rd aw o.2.1,rd ax o.2.2.1,rd ay o.2.2.2.1,own 137 a0 o.2.2.2.2.1,rd a1 o.2.2.2.2.2.1,rd a2 o.2.2.2.2.2.2.1,own 75 an o.2.2.2.2.2.2.2.1,rd a3 o.2.2.2.2.2.2.2.2.1,rd a4 o.2.2.2.2.2.2.2.2.2.1,own 3 a8 o.2.2.2.2.2.2.2.2.2.2.1,own 164 a5 o.2.2.2.2.2.2.2.2.2.2.2,rd dq p2,rd dp p1,bx 32 ao p2,bx 26 ba p1,rd v2 p2,rd v1 p1,rd v0 p0]) x.1 x.2.1 x.2.2.1 x.2.2.2.1 x.2.2.2.2.1 x.2.2.2.2.2.1 x.2.2.2.2.2.2) (λx=>by kernel_rfl) ?_ ⟨?_,?_,?_,?_,?_,?_,?_,trivial⟩ ?_
 ·have j:=(((((((j.drew).aW).aW).aW).aW).aW).aW).aW
  exact⟨(undef,undef,undef,undef,undef,undef,0),cW.none,D9 zr,zt,j⟩
 ·rintro D U w hD ai a6⟨⟨aq,ar,ad,ab,ae,af,ah⟩,hv,ha,_,j⟩
  obtain⟨O,rfl⟩:=ha.pC
  have j:=j.bM 0 hD
  refine Qx 23 j zr y4 λdt j=>?_
  have j:=j.nw 0
  exact OF (dt,ar,ad,ab,ae,af,ah) 0 hv ha j
 ·rintro D U w hD ai a6⟨⟨aq,ar,ad,ab,ae,af,ah⟩,hv,ha,_,j⟩
  obtain⟨O,rfl⟩:=ha.pC
  have j:=j.bM 1 hD
  refine Qx 23 j zr y4 λdu j=>?_
  have j:=j.nw 1
  exact OF (aq,du,ad,ab,ae,af,ah) 1 hv ha j
 ·rintro D U w hD ai a6⟨⟨aq,ar,ad,ab,ae,af,ah⟩,hv,ha,_,j⟩
  obtain⟨O,rfl⟩:=hv.o1 1 ai
  have j:=((j.dT 1<|ai.1 rfl).bM 2 hD).bM 6<|nh a6 hD 6
  refine QA PE (r5 N (i0:=1) j zr ds) λcm w j=>?_
  have j:=(((j.pl 28 [1,2,0,4,5,6,7,8,9,10,11,12,13,14,15,16,17,18,19,20,21,22,23,24,25,26,27] rfl).cI 1 (D 1) (ai.1 rfl) aW).cI 2 true rfl aW).dV 6 (D 6) (nh a6 hD 6)<|bc 56 ah [af,ae,cm,ab]
  have hv:=hv.re 4 rfl (v':=(.agg ([af,ae,cm,ab]:List Value).toArray))<|λh=>ft hD<|(a6 4 _ rfl h).2.1 rfl
  exact OF (aq,ar,cm,ab,ae,af,ah) 2 hv ha j
 ·rintro D U w hD ai a6⟨⟨aq,ar,ad,ab,ae,af,ah⟩,hv,ha,_,j⟩
  obtain⟨O,rfl⟩:=Mf U
  have j:=(j.bM 3 hD).bM 6<|nh a6 hD 6
  refine RQ (κ:=aS) (ν:=Bool) j λcn w j=>?_
  have j:=(j.nw 3).dV 6 (D 6) (nh a6 hD 6)<|bc 56 ah [af,ae,ad,cn]
  have hv:=hv.re 4 rfl (v':=(.agg ([af,ae,ad,cn]:List Value).toArray))<|λh=>ft hD<|(a6 4 _ rfl h).2.2.1 rfl
  exact OF (aq,ar,ad,cn,ae,af,ah) 3 hv ha j
 ·rintro D U w hD ai a6⟨⟨aq,ar,ad,ab,ae,af,ah⟩,hv,ha,_,j⟩
  obtain⟨O,rfl⟩:=(ac (hv.at 0 rfl<|ai.1 rfl)<|ac (hv.at 2 rfl<|ai.2.1 rfl)<|ac (hv.at 3 rfl<|ai.2.2.1 rfl) az).pC
  have j:=(((((j.dT 0<|ai.1 rfl).dT 2<|ai.2.1 rfl).dT 3<|ai.2.2.1 rfl).bM 4 hD).bM 5 hD).bM 6<|nh a6 hD 6
  obtain⟨cs,hcs,hv324,j⟩:=j.FE (i:=0) rfl rfl
  obtain⟨b0,b2,rfl⟩:=NK hcs
  have j:=(j.gN (i:=0) (k:=0) (f:=λx=>x.cJ) rfl mK rfl rfl rfl).gN (i:=1) (k:=1) (f:=λx=>x.bA) rfl jJ rfl rfl rfl
  refine SO (zs:=[n_,n_,(.map none),(.map none)]) (cs:=[b0,b2,ad,ab]) zt zr [(0,aq),(1,ad),(2,ab)] [(0,[b0,b2]),(1,[ad]),(2,[ab])] zr OG ⟨rfl,congrArg Value.cells hv324,⟨rfl,cells_one<|sL 5 j,⟨rfl,cells_one<|sL 6 j,zt⟩⟩⟩ zr ?_
  have j:=((((((j.pl 30 [3,4,5,6,0,1,9,10,11,12,13,14,15,16,17,18,19,20,21,22,23,24,25,26,27,28,29] rfl).cI 0 (D 0) (ai.1 rfl) aW).cI 2 (D 2) (ai.2.1 rfl) aW).cI 3 (D 3) (ai.2.2.1 rfl) aW).cI 4 true rfl aW).cI 5 true rfl aW).dV 6 (D 6) (nh a6 hD 6)<|bc 56 ah [b0,b2,ad,ab]
  exact OF (aq,ar,ad,ab,b2,b0,ah) 4 hv ha j
 ·rintro D U w hD ai a6⟨⟨aq,ar,ad,ab,ae,af,ah⟩,hv,ha,_,j⟩
  obtain⟨O,rfl⟩:=Mf U
  have j:=(j.bM 6<|nh a6 hD 6).bM 6 hD
  refine RS j OH λc7 w j=>?_
  have j:=(j.nw 6).dV 6 (D 6) (nh a6 hD 6)<|bc 56 c7 [af,ae,ad,ab]
  exact OF (aq,ar,ad,ab,ae,af,c7) 5 hv ha j
 ·rintro D U w hD ai a6⟨⟨aq,ar,ad,ab,ae,af,ah⟩,hv,ha,_,j⟩
  obtain⟨O,rfl⟩:=hv.o2 5 4 ai
  have j:=(((((j.dT 2<|ai.2.2.1 rfl).dT 3<|ai.2.2.2.2.2.2.1 rfl).dT 4<|ai.2.1 rfl).dT 5<|ai.2.1 rfl).bM 6 hD).dT 6<|ai.1 rfl
  refine SJ (cs:=[af,ae,ad,ab]) 6 zt j zr zr zr (uo.all (⟨nz 5 j,nz 4 j,sL 2 j,sL 3 j,zt⟩:uo [af,ae,ad,ab])) LA zr zr λw j=>?_
  have j:=((((j.cI 2 (D 2) (ai.2.2.1 rfl) aW).cI 3 (D 3) (ai.2.2.2.2.2.2.1 rfl) aW).cI 4 (D 4) (ai.2.1 rfl) aW).cI 5 (D 4) (ai.2.1 rfl) aW).cI 6 true rfl (bif D 5 then bc 56 ah [n_,n_,(.map none),(.map none)]else aW)
  exact Rr (aq,ar,ad,ab,ae,af,ah) hv ha j
 rintro D U w bh⟨⟨aq,ar,ad,ab,ae,af,ah⟩,hv,ha,_,j⟩
 simp only[List.getD_cons_zero,List.getD_cons_succ,bh 0 (by decide),bh 1 (by decide),bh 2 (by decide),bh 3 (by decide),bh 4 (by decide),bh 4 (by decide),bh 6 (by decide),aR]at j
 obtain⟨O,rfl⟩:=(ac (hv.at 5 rfl<|yI bh 5) ha).pC
 refine aC<|IS<|AI<|mv v0<|Qx 23 j zr y4 λe3 j=>?_
 obtain⟨cp,dv,hb⟩:=bd hb
 refine QA (gH Tryz.func10) (vk N (i0:=27) (i1:=0) j zr zr dv) λc8 w j=>Q2 (i:=0) (l:=cp) zt zr j zr zr p5<|aX 0<|AS<|Ry E V (λ(a9:List (aS×Bool))=>[bx 26 ba p1,bx 32 ao p2,bc 73 al [av,aw,ax,ay,a0,a1,a2,an,a3,a4,a8,a5],rd av o.1,rd aw o.2.1,rd ax o.2.2.1,rd ay o.2.2.2.1,own 137 a0 o.2.2.2.2.1,rd a1 o.2.2.2.2.2.1,rd a2 o.2.2.2.2.2.2.1,own 75 an o.2.2.2.2.2.2.2.1,rd a3 o.2.2.2.2.2.2.2.2.1,rd a4 o.2.2.2.2.2.2.2.2.2.1,own 3 a8 o.2.2.2.2.2.2.2.2.2.2.1,own 164 a5 o.2.2.2.2.2.2.2.2.2.2.2,bc 56 ah [af,ae,ad,ab],rd af p1.cJ,rd ae p1.bA,mp ad bb,mp ab a9,own 59 c8 cp]) (λ_=>[(4,vp ba 0),(5,vp ao 0),(8,vp al 0),(10,vp ah 0)]) (λcq _=>[(47,c8),(48,vi cp.length),(49,vi cq)]) hb ?_ ?_ ?_
 ·exact j.sp 29 [25,24,9,10,11,12,13,14,15,16,17,18,19,20,21,8,7,6,4,5,0]
 ·rintro hm cq a9 s' _ w hk⟨O,rfl,j⟩hb
  refine IS<|Qt ?_
  obtain⟨dw,c9,hb⟩:=bd hb
  refine Qz 20 j zr zr p6 c9<|Rv 20 j c9 jd λe4 j=>?_
  refine QD j rp.z λe5 w j=>?_
  refine QB 0 j 1 zr jd λw j=>?_
  refine AS<|BY<|AT zr EC<|Qy 17 ab j LB<|Qx 0 j zr jd λe6 j=>?_
  have j:=j.sc Bool true
  refine RR 23 0 dw j zr (oH 1 j) zr zr Ie λw j=>By<|bJ<|aC<|BY<|Qw hk hm<|aX ((cq+1:Nat):Int)<|By ?_
  obtain rfl:=oi hb
  exact⟨rfl,j.sp 25 [4,5,6,7,8,9,10,11,12,13,14,15,16,17,18,19,20,21,22,23,24]⟩
 rintro a9 _ w hb⟨O,rfl,j⟩
 refine aC<|AI<|dU n_<|IN<|dU n_<|dU n_<|IT<|AI<|AT zr p4 ?_
 refine QL 0 j zr jJ An λbl j=>Ql 0 p1.bA j Gy<|aX 0<|AS<|Re E V (λ(cr:List aS)(ct:Value)=>[bx 26 ba p1,bx 32 ao p2,bc 73 al [av,aw,ax,ay,a0,a1,a2,an,a3,a4,a8,a5],rd av o.1,rd aw o.2.1,rd ax o.2.2.1,rd ay o.2.2.2.1,own 137 a0 o.2.2.2.2.1,rd a1 o.2.2.2.2.2.1,rd a2 o.2.2.2.2.2.2.1,own 75 an o.2.2.2.2.2.2.2.1,rd a3 o.2.2.2.2.2.2.2.2.1,rd a4 o.2.2.2.2.2.2.2.2.2.1,own 3 a8 o.2.2.2.2.2.2.2.2.2.2.1,own 164 a5 o.2.2.2.2.2.2.2.2.2.2.2,bc 56 ah [af,ae,ad,ab],rd af p1.cJ,rd ae p1.bA,mp ad bb,mp ab a9,rd bl p1.bA,own 59 ct cr]) (λ_ ct=>[(4,vp ba 0),(5,vp ao 0),(8,vp al 0),(10,vp ah 0),(13,n_),(14,ct),(15,n_)]) (λbq _ _=>[(58,bl),(59,vi p1.bA.length),(60,vi bq)]) hb ?_ ?_ ?_
 ·have j:=j.cH aS 59
  exact⟨n_,j.sp 23 [2,3,4,5,6,7,8,9,10,11,12,13,14,15,16,17,18,19,20,21,1,0]⟩
 ·rintro hm bq cr s' _ w hk⟨dx,O,rfl,j⟩hb
  refine IS<|Qt ?_
  obtain⟨bm,dy,hb⟩:=bd hb
  refine Qm 20 j Dm dy λe7 j=>Qs 0 bm j xg λe8 j=>QD j Gz.z λe9 w j=>?_
  refine QB 0 j 1 zr xg λw j=>?_
  refine IN<|AT zr sU<|QL 0 j zr qt sV λb3 j=>Ql 0 bm.aP j p5<|aX 0<|AS<|Re E V (λ(cu:List aS)(cv:Value)=>[bx 26 ba p1,bx 32 ao p2,bc 73 al [av,aw,ax,ay,a0,a1,a2,an,a3,a4,a8,a5],rd av o.1,rd aw o.2.1,rd ax o.2.2.1,rd ay o.2.2.2.1,own 137 a0 o.2.2.2.2.1,rd a1 o.2.2.2.2.2.1,rd a2 o.2.2.2.2.2.2.1,own 75 an o.2.2.2.2.2.2.2.1,rd a3 o.2.2.2.2.2.2.2.2.1,rd a4 o.2.2.2.2.2.2.2.2.2.1,own 3 a8 o.2.2.2.2.2.2.2.2.2.2.1,own 164 a5 o.2.2.2.2.2.2.2.2.2.2.2,bc 56 ah [af,ae,ad,ab],rd af p1.cJ,rd ae p1.bA,mp ad bb,mp ab a9,rd bl p1.bA,rd b3 bm.aP,own 59 cv cu]) (λ_ cv=>[(4,vp ba 0),(5,vp ao 0),(8,vp al 0),(10,vp ah 0),(13,n_),(14,cv),(15,n_),(58,bl),(59,vi p1.bA.length),(60,vi bq)]) (λb4 _ _=>[(65,b3),(66,vi bm.aP.length),(67,vi b4)]) hb ?_ ?_ ?_
  ·exact⟨dx,j.sp 26 [4,5,6,7,8,9,10,11,12,13,14,15,16,17,18,19,20,21,22,23,24,0,25]⟩
  ·rintro hm b4 cu s' _ w hk⟨da,O,rfl,j⟩hb
   refine IS<|Qt ?_
   obtain⟨db,dz,hb⟩:=bd hb
   refine Qm 21 j p6 dz λfa j=>Qs 0 db j jd λfb j=>QD j rp.z λfc w j=>?_
   refine QB 0 j 1 zr jd λw j=>?_
   refine IN<|Qx 4 j zr y5 λfe j=>Qx 1 j zr jd λff j=>?_
   obtain⟨d3,d4,hb⟩:=bd hb
   refine Qp M1 (qJ N (i0:=1) (i1:=0) j zr zr d4) λw j=>ic d3 0<|AS ?_
   obtain⟨cw,hj,hb⟩:=bd hb
   refine Qu (λ(cw:List aS)U w=>∃b5:Value,SH E V [(4,vp ba 0),(5,vp ao 0),(8,vp al 0),(10,vp ah 0),(13,n_),(14,b5),(15,n_),(58,bl),(59,vi p1.bA.length),(60,vi bq),(65,b3),(66,vi bm.aP.length),(67,vi b4)] [bx 26 ba p1,bx 32 ao p2,bc 73 al [av,aw,ax,ay,a0,a1,a2,an,a3,a4,a8,a5],rd av o.1,rd aw o.2.1,rd ax o.2.2.1,rd ay o.2.2.2.1,own 137 a0 o.2.2.2.2.1,rd a1 o.2.2.2.2.2.1,rd a2 o.2.2.2.2.2.2.1,own 75 an o.2.2.2.2.2.2.2.1,rd a3 o.2.2.2.2.2.2.2.2.1,rd a4 o.2.2.2.2.2.2.2.2.2.1,own 3 a8 o.2.2.2.2.2.2.2.2.2.2.1,own 164 a5 o.2.2.2.2.2.2.2.2.2.2.2,bc 56 ah [af,ae,ad,ab],rd af p1.cJ,rd ae p1.bA,mp ad bb,mp ab a9,rd bl p1.bA,rd b3 bm.aP,own 59 b5 cw] U w) cw ?_ ?_
   ·refine eH hj (λhj=>?_) λhj=>?_
    rotate_left
    ·refine QJ ?_
     obtain rfl:=oi hj
     exact⟨rfl,da,j.sp 28 [5,6,7,8,9,10,11,12,13,14,15,16,17,18,19,20,21,22,23,24,25,26,27]⟩
    refine BY<|mv da<|Qx 2 j zr jd λd5 j=>QM ([db]:List aS) j [d5] p6 rp (λM hs g=>⟨(g.sat 0 _ zr).1,zt⟩) λfg w j=>?_
    have j:=j.freeze 0
    obtain⟨fh,d6,hj⟩:=bd hj
    refine QW 29 0 j y9 d6 λdc w j=>?_
    refine dU dc<|By ?_
    obtain rfl:=oi hj
    exact⟨rfl,dc,j.sp 30 [7,8,9,10,11,12,13,14,15,16,17,18,19,20,21,22,23,24,25,26,27,28,29]⟩
   rintro _ w⟨b5,O,rfl,j⟩
   refine bJ<|aC<|BY<|Qw hk hm<|aX ((b4+1:Nat):Int)<|By ?_
   obtain rfl:=oi hb
   exact⟨rfl,b5,j.sp 23 [0,1,2,3,4,5,6,7,8,9,10,11,12,13,14,15,16,17,18,19,20,21,22]⟩
  rintro cu _ w hb⟨d7,O,rfl,j⟩
  refine bJ<|aC<|BY<|Qw hk hm<|aX ((bq+1:Nat):Int)<|By ?_
  obtain rfl:=oi hb
  exact⟨rfl,d7,j.sp 23 [0,1,2,3,4,5,6,7,8,9,10,11,12,13,14,15,16,17,18,19,20,22]⟩
 rintro cr _ w hb⟨b6,O,rfl,j⟩
 refine aC<|AI<|mv b6 ?_
 obtain⟨b7,d8,hb⟩:=bd hb
 have j:=j.pull 21
 refine Qp (gH Tryz.func12) (Cb Tryz.lay12 aS zr jd.Jr jd.sz JW (λj hi hj hr=>iJ N j hi hj hr) j d8) λw j=>IT<|AI<|mv b6<|Q2 (i:=0) (l:=b7) zt zr j zr zr p5<|ic ((b7.length:Int)) 0<|AS ?_
 obtain⟨cx,hj,hb⟩:=bd hb
 refine Qu (λ(cx:List cP)U w=>∃b8:Value,SH E V [(4,vp ba 0),(5,vp ao 0),(8,vp al 0),(10,vp ah 0),(13,b8),(15,n_)] [bx 26 ba p1,bx 32 ao p2,bc 73 al [av,aw,ax,ay,a0,a1,a2,an,a3,a4,a8,a5],rd av o.1,rd aw o.2.1,rd ax o.2.2.1,rd ay o.2.2.2.1,own 137 a0 o.2.2.2.2.1,rd a1 o.2.2.2.2.2.1,rd a2 o.2.2.2.2.2.2.1,own 75 an o.2.2.2.2.2.2.2.1,rd a3 o.2.2.2.2.2.2.2.2.1,rd a4 o.2.2.2.2.2.2.2.2.2.1,own 3 a8 o.2.2.2.2.2.2.2.2.2.2.1,own 164 a5 o.2.2.2.2.2.2.2.2.2.2.2,bc 56 ah [af,ae,ad,ab],rd af p1.cJ,rd ae p1.bA,mp ad bb,mp ab a9,own 47 b8 cx] U w) cx ?_ ?_
 ·refine eH hj (λhj=>?_) λhj=>?_
  rotate_left
  ·refine QJ ?_
   obtain rfl:=oi hj
   have j:=j.cH cP 47
   exact⟨rfl,n_,j.sp 24 [2,3,4,5,6,7,8,9,10,11,12,13,14,15,16,17,18,19,20,21,0]⟩
  refine BY<|mv n_<|mv b6 ?_
  have j:=(j.sc Int 1).freeze 1
  refine Ri (⟨1,[],b7⟩:cP) trivial rfl j [(0,vi 1),(2,b6)] rfl J7 rfl (λM hs g=>by have h:=yp M;exact cR.cons (f:=λ(x:cP)y=>{x with Kind:=y}) h rl (g.sat 0 _ rfl).1 λ_ h=>cR.cons (f:=λ(x:cP)y=>{x with aP:=y}) h rm (g.sat 1 _ rfl).1 λ_ h=>cR.nil h) λd9 j=>?_
  refine QM ([(⟨1,[],b7⟩:cP)]:List cP) j [d9] Ap J8 (λM hs g=>⟨(g.sat 0 _ zr).1,zt⟩) λfi w j=>?_
  have j:=(j.cH cP 47).freeze 1
  obtain⟨fj,ea,hj⟩:=bd hj
  refine QW 0 1 j J9 ea λdd w j=>?_
  refine dU dd<|By ?_
  obtain rfl:=oi hj
  exact⟨rfl,dd,j.sp 27 [5,6,7,8,9,10,11,12,13,14,15,16,17,18,19,20,21,22,23,24,0]⟩
 rintro _ w⟨b8,O,rfl,j⟩
 refine aC<|IS<|AI<|AT zr p4<|QL 0 j zr jJ An λb9 j=>Ql 0 p1.bA j Gy<|aX 0<|AS<|Sa E V (λ(br:List Int×List cP)(de cy:Value)=>[bx 32 ao p2,bc 73 al [av,aw,ax,ay,a0,a1,a2,an,a3,a4,de,a5],rd de br.1,rd av o.1,rd aw o.2.1,rd ax o.2.2.1,rd ay o.2.2.2.1,own 137 a0 o.2.2.2.2.1,rd a1 o.2.2.2.2.2.1,rd a2 o.2.2.2.2.2.2.1,own 75 an o.2.2.2.2.2.2.2.1,rd a3 o.2.2.2.2.2.2.2.2.1,rd a4 o.2.2.2.2.2.2.2.2.2.1,own 164 a5 o.2.2.2.2.2.2.2.2.2.2.2,bc 56 ah [af,ae,ad,ab],rd af p1.cJ,rd ae p1.bA,mp ad bb,mp ab a9,rd b9 p1.bA,own 47 cy br.2]) (λ_ _ cy=>[(5,vp ao 0),(8,vp al 0),(10,vp ah 0),(13,cy),(15,n_)]) (λca _ _ _=>[(92,b9),(93,vi p1.bA.length),(94,vi ca)]) hb ?_ ?_ ?_
 ·have j:=j.freeze 14
  exact⟨a8,b8,j.sp 22 [2,3,14,4,5,6,7,8,9,10,11,12,13,15,16,17,18,19,20,0,21]⟩
 ·rintro hm ca br s' _ w hk⟨cz,df,O,rfl,j⟩hb
  refine IS<|Qt ?_
  obtain⟨bn,eb,hb⟩:=bd hb
  refine Qm 19 j Dm eb λfk j=>Qs 0 bn j xg λfl j=>QD j Gz.z λfm w j=>?_
  refine QB 0 j 1 zr xg λw j=>?_
  refine IN<|mv (vp al 0)<|Qx 0 j zr xg λfo j=>?_
  have j:=(((((j.dup 6 rfl).dup 11 rfl).dup 11 rfl).dup 11 rfl).dup 11 rfl).pull 10
  obtain⟨cb,ec,hb⟩:=bd hb
  refine QA (gH Tryz.func14) (tu N (i1:=0) j zr ec) λcc w j=>dU cc<|IN<|mv cc<|Q2 (i:=0) (l:=cb) zt zr j zr zr p5<|ic ((cb.length:Int)) 0<|AS ?_
  obtain⟨c0,hj,hb⟩:=bd hb
  refine Qu (λ(c0:List cP)U w=>∃cd:Value,SH E V [(5,vp ao 0),(8,vp al 0),(10,vp ah 0),(13,cd),(15,n_),(92,b9),(93,vi p1.bA.length),(94,vi ca)] [bx 32 ao p2,bc 73 al [av,aw,ax,ay,a0,a1,a2,an,a3,a4,cz,a5],rd av o.1,rd aw o.2.1,rd ax o.2.2.1,rd ay o.2.2.2.1,own 137 a0 o.2.2.2.2.1,rd a1 o.2.2.2.2.2.1,rd a2 o.2.2.2.2.2.2.1,own 75 an o.2.2.2.2.2.2.2.1,rd a3 o.2.2.2.2.2.2.2.2.1,rd a4 o.2.2.2.2.2.2.2.2.2.1,rd cz br.1,own 164 a5 o.2.2.2.2.2.2.2.2.2.2.2,bc 56 ah [af,ae,ad,ab],rd af p1.cJ,rd ae p1.bA,mp ad bb,mp ab a9,rd b9 p1.bA,own 47 cd c0] U w) c0 ?_ ?_
  ·refine eH hj (λhj=>?_) λhj=>?_
   rotate_left
   ·refine QJ ?_
    obtain rfl:=oi hj
    exact⟨rfl,df,j.sp 27 [6,1,9,10,11,12,13,14,15,16,17,18,8,19,20,21,22,23,24,25,26]⟩
   refine BY<|mv df<|AT zr xh<|Qj 3 j zr qq oC ?_
   have j:=j.sc bG bn.Name
   refine QM ([bn.Name]:List bG) j [str bn.Name] Ic P4 (λM hs g=>⟨(g.sat 0 _ zr).1,zt⟩) λed w j=>mv cc ?_
   have j:=((j.sc Int 2).freeze 1).freeze 3
   refine Ri (⟨2,([bn.Name]:List bG),cb⟩:cP) trivial rfl j [(0,vi 2),(1,ed),(2,cc)] rfl J7 rfl (λM hs g=>by have h:=yp M;exact cR.cons (f:=λ(x:cP)y=>{x with Kind:=y}) h rl (g.sat 0 _ rfl).1 λ_ h=>cR.cons (f:=λ(x:cP)y=>{x with bA:=y}) h yX (g.sat 1 _ rfl).1 λ_ h=>cR.cons (f:=λ(x:cP)y=>{x with aP:=y}) h rm (g.sat 3 _ rfl).1 λ_ h=>cR.nil h) λee j=>?_
   refine QM ([(⟨2,([bn.Name]:List bG),cb⟩:cP)]:List cP) j [ee] Ap J8 (λM hs g=>⟨(g.sat 0 _ zr).1,zt⟩) λfp w j=>?_
   have j:=j.freeze 0
   obtain⟨fq,ef,hj⟩:=bd hj
   refine QW 31 0 j J9 ef λdg w j=>?_
   refine dU dg<|By ?_
   obtain rfl:=oi hj
   exact⟨rfl,dg,j.sp 32 [11,6,14,15,16,17,18,19,20,21,22,23,13,24,25,26,27,28,29,30,31]⟩
  rintro _ w⟨cd,O,rfl,j⟩
  refine bJ<|aC<|BY<|Qw hk hm<|aX ((ca+1:Nat):Int)<|By ?_
  obtain rfl:=oi hb
  exact⟨rfl,cz,cd,j.sp 21 [0,1,12,2,3,4,5,6,7,8,9,10,11,13,14,15,16,17,18,19,20]⟩
 rintro br _ w hb⟨fr,eg,O,rfl,j⟩
 refine aC<|IS<|AI<|mv (vp al 0)<|QU zt zr zr<|AT zr vc<|Qy 1 an j Ex<|Q2 (i:=10) (l:=o.2.2.2.2.2.2.2.1) zt zr j zr zr Lz<|aX 0 ?_
 refine AS<|Re E V (λ(bt:List cP)(c1:Value)=>[bx 32 ao p2,bc 56 ah [af,ae,ad,ab],rd af p1.cJ,rd ae p1.bA,mp ad bb,mp ab a9,own 75 an o.2.2.2.2.2.2.2.1,own 47 c1 bt]) (λ_ c1=>[(5,vp ao 0),(10,vp ah 0),(13,c1),(15,n_)]) (λcf _ _=>[(116,an),(117,vi o.2.2.2.2.2.2.2.1.length),(118,vi cf)]) hb ?_ ?_ ?_
 ·exact⟨eg,j.sp 21 [0,14,15,16,17,18,10,20]⟩
 ·rintro hm cf bt s' _ w hk⟨dh,O,rfl,j⟩hb
  refine IS<|Qt ?_
  obtain⟨fs,di,hb⟩:=bd hb
  refine Qz 6 j zr zr J4 di<|Rv 6 j di J3 λfu j=>?_
  refine QD j MX.z λfv w j=>?_
  refine QB 0 j 1 zr J3 λw j=>?_
  refine IN<|Sx 3 [af,ae,ad,ab] zr j zr zr LA zr<|Qx 0 j zr J3 λfw j=>?_
  have j:=(j.pull 8).pull 8
  obtain⟨bj,eh,hb⟩:=bd hb
  refine QA (gH Tryz.func15) (rC N (i0_0:=5) (i0_1:=6) (i1:=0) j zr zr zr eh) ?_
  rintro _ w⟨bu,bw,rfl,j⟩
  refine mv (.tuple #[bu,bw,vb bj.2.2])<|QQ bu<|QQ bw<|QQ (vb bj.2.2)<|dU bu<|dU bw<|bY bj.2.2<|IN<|gU bj.2.2 ?_
  refine AS ?_
  obtain⟨c2,hj,hb⟩:=bd hb
  refine Qu (λ(c2:List cP)U w=>∃cg:Value,SH E V [(5,vp ao 0),(10,vp ah 0),(13,cg),(15,n_),(116,an),(117,vi o.2.2.2.2.2.2.2.1.length),(118,vi cf)] [bx 32 ao p2,bc 56 ah [af,ae,ad,ab],rd af p1.cJ,rd ae p1.bA,mp ad bb,mp ab a9,own 75 an o.2.2.2.2.2.2.2.1,own 47 cg c2] U w) c2 ?_ ?_
  ·refine eH hj (λhj=>?_) λhj=>?_
   rotate_left
   ·refine QJ ?_
    obtain rfl:=oi hj
    exact⟨rfl,dh,j.sp 15 [7,8,9,10,2,3,13,14]⟩
   refine BY<|mv dh<|mv bu<|mv bw ?_
   have j:=((j.sc Int 3).freeze 1).freeze 2
   refine Ri (⟨3,bj.1,bj.2.1⟩:cP) trivial rfl j [(0,vi 3),(1,bu),(2,bw)] rfl J7 rfl (λM hs g=>by have h:=yp M;exact cR.cons (f:=λ(x:cP)y=>{x with Kind:=y}) h rl (g.sat 0 _ rfl).1 λ_ h=>cR.cons (f:=λ(x:cP)y=>{x with bA:=y}) h yX (g.sat 1 _ rfl).1 λ_ h=>cR.cons (f:=λ(x:cP)y=>{x with aP:=y}) h rm (g.sat 2 _ rfl).1 λ_ h=>cR.nil h) λei j=>?_
   refine QM ([(⟨3,bj.1,bj.2.1⟩:cP)]:List cP) j [ei] Ap J8 (λM hs g=>⟨(g.sat 0 _ zr).1,zt⟩) λfx w j=>?_
   have j:=j.freeze 0
   obtain⟨fy,ej,hj⟩:=bd hj
   refine QW 17 0 j J9 ej λdj w j=>?_
   refine dU dj<|By ?_
   obtain rfl:=oi hj
   exact⟨rfl,dj,j.sp 18 [10,11,12,13,5,6,16,17]⟩
  rintro _ w⟨cg,O,rfl,j⟩
  refine bJ<|aC<|BY<|Qw hk hm<|aX ((cf+1:Nat):Int)<|By ?_
  obtain rfl:=oi hb
  exact⟨rfl,cg,j.sp 8 [0,1,2,3,4,5,6,7]⟩
 rintro bt _ w hb⟨bo,O,rfl,j⟩
 refine aC<|IS<|AI<|AT zr oO<|QL 0 j zr nH y8 λch j=>Ql 0 p2.bC j Er<|aX 0<|AS<|Re E V (λ(bk:List aS)(c3:Value)=>[bc 56 ah [af,ae,ad,ab],rd af p1.cJ,rd ae p1.bA,mp ad bb,mp ab a9,own 47 bo bt,rd ch p2.bC,own 59 c3 bk]) (λ_ c3=>[(13,bo),(15,c3)]) (λcj _ _=>[(10,vp ah 0),(138,ch),(139,vi p2.bC.length),(140,vi cj)]) hb ?_ ?_ ?_
 ·have j:=j.cH aS 59
  exact⟨n_,j.sp 10 [3,4,5,6,7,9,1,0]⟩
 ·rintro hm cj bk s' _ w hk⟨dk,O,rfl,j⟩hb
  refine IS<|Qt ?_
  obtain⟨ek,el,hb⟩:=bd hb
  refine Qm 6 j BZ el λfz j=>Qs 0 ek j va λf3 j=>QD j JZ.z λf4 w j=>?_
  refine QB 0 j 1 zr va λw j=>?_
  refine IT ?_
  have j:=j.drew
  refine RZ (λw=>Holds E w<|[bc 56 ah [af,ae,ad,ab]]++V) mixed zr [1,0,2,2,0] [0,1,2,3,4] (j.pk 11 [3])<|RK (.agg ([af,ae,ad,ab]:List Value).toArray) zr (λw j=>Sx 0 [af,ae,ad,ab] zr j zr zr LA zr QP)<|QF zr zr<|Qx 0 j zr va λf5 j=>wZ zr ?_
  obtain⟨f6,en,hb⟩:=bd hb
  refine QA GG (jr N (i0:=0) j zr en) λf7 w j=>Q0 (j.pk 13 [5])<|Rh zr zr ?_
  have j:=(j.pull 9).pull 9
  obtain⟨er,et,hb⟩:=bd hb
  refine Qp (gH Tryz.func16) (sC N (i0_0:=6) (i0_1:=7) (i1:=0) j zr zr zr et) λw j=>Q0 (j.pk 15 [7])<|QF zr zr<|Q4 er<|QO<|Q5<|aC ?_
  obtain⟨c4,hj,hb⟩:=bd hb
  refine Qu (λ(c4:List aS)U w=>∃ck:Value,SH E V [(10,vp ah 0),(13,bo),(15,ck),(138,ch),(139,vi p2.bC.length),(140,vi cj)] [bc 56 ah [af,ae,ad,ab],rd af p1.cJ,rd ae p1.bA,mp ad bb,mp ab a9,own 47 bo bt,rd ch p2.bC,own 59 ck c4] U w) c4 ?_ ?_
  ·refine eH hj (λhj=>?_) λhj=>?_
   rotate_left
   ·refine QJ ?_
    obtain rfl:=oi hj
    exact⟨rfl,dk,j.sp 15 [7,8,9,0,1,12,13,14]⟩
   refine BY<|mv dk<|Qx 4 j zr va λf8 j=>?_
   obtain⟨eu,ev,hj⟩:=bd hj
   refine QA GG (jr N (i0:=0) j zr ev) λew w j=>QM ([eu]:List aS) j [ew] p6 rp (λM hs g=>⟨(g.sat 0 _ zr).1,zt⟩) λf9 w j=>?_
   have j:=j.freeze 0
   obtain⟨ga,ey,hj⟩:=bd hj
   refine QW 17 0 j y9 ey λdm w j=>?_
   refine dU dm<|By ?_
   obtain rfl:=oi hj
   exact⟨rfl,dm,j.sp 18 [10,11,12,3,4,15,16,17]⟩
  rintro _ w⟨ck,O,rfl,j⟩
  refine bJ<|aC<|BY<|Qw hk hm<|aX ((cj+1:Nat):Int)<|By ?_
  obtain rfl:=oi hb
  exact⟨rfl,ck,j.sp 8 [0,1,2,3,4,5,6,7]⟩
 rintro bk _ w hb⟨c5,O,rfl,j⟩
 refine aC<|IS<|AI<|mv c5<|Q2 (i:=7) (l:=bk) zt zr j zr zr p5<|ic ((bk.length:Int)) 0<|AS ?_
 obtain⟨c6,hj,hb⟩:=bd hb
 refine Qu (λ(c6:List cP)U w=>∃bp:Value,SH E V [(13,bp)] [own 47 bp c6] U w) c6 ?_ ?_
 ·refine eH hj (λhj=>?_) λhj=>?_
  rotate_left
  ·refine QJ ?_
   obtain rfl:=oi hj
   exact⟨rfl,bo,j.sp 8 [5]⟩
  refine BY<|mv bo<|mv c5 ?_
  have j:=(j.sc Int 4).freeze 8
  refine Ri (⟨4,[],bk⟩:cP) trivial rfl j [(0,vi 4),(2,c5)] rfl J7 rfl (λM hs g=>by have h:=yp M;exact cR.cons (f:=λ(x:cP)y=>{x with Kind:=y}) h rl (g.sat 0 _ rfl).1 λ_ h=>cR.cons (f:=λ(x:cP)y=>{x with aP:=y}) h rm (g.sat 8 _ rfl).1 λ_ h=>cR.nil h) λez j=>?_
  refine QM ([(⟨4,[],bk⟩:cP)]:List cP) j [ez] Ap J8 (λM hs g=>⟨(g.sat 0 _ zr).1,zt⟩) λgb w j=>?_
  have j:=j.freeze 0
  obtain⟨gd,e1,hj⟩:=bd hj
  refine QW 8 0 j J9 e1 λdn w j=>?_
  refine dU dn<|By ?_
  obtain rfl:=oi hj
  exact⟨rfl,dn,j.sp 11 [8]⟩
 rintro _ w⟨bp,O,rfl,j⟩
 refine aC<|AI<|mv bp<|dU bp<|aL 0<|AS<|Qk ?_
 obtain rfl:=oi hb
 exact nT ⟨bp,zr,j.pk 1 [0]⟩
theorem ye{p0:List aI}(j:Holds E w V)(h0:V[i0]? =some (rd v0 p0))(hb:mE N p0=some res):c_ 31 [v0] w<|aD E V res:=by
 unfold mE at hb;refine enter Tryz.func31 zr zr ?_;have j:=j.dup (i0+0) h0;refine AI<|aL 0<|IN<|aL 0<|IT<|AI<|mv v0<|Ql 0 p0 j r9<|aX 0<|AS<|Ry E V (λ(aa:Int)=>[rd v0 p0]) (λaa=>[(3,vi aa)]) (λad _=>[(6,v0),(7,vi p0.length),(8,vi ad)]) hb ?_ ?_ ?_;exact j.sp 1 [0];rintro hm ad aa s' _ w hk⟨O,rfl,j⟩hb;refine IS<|Qt<|q_ hb λo ag hb=>Qm 0 j mc ag λah j=>Qs 0 o j iZ λai j=>QD j pj.z λaj w j=>?_;refine QB 0 j 1 zr iZ λw j=>?_;refine AS<|BY<|aX aa<|AT zr kA<|Qj 0 j zr fS cY<|AT zr jW<|Qj 0 j zr eV cY<|Qr o.X1 o.X0<|AT zr nW<|Qj 0 j zr jo cY<|AT zr kz<|Qj 0 j zr fB cY<|Qr o.Y1 o.Y0<|Qr (wrap .i64<|o.X1 - o.X0) (wrap .i64<|o.Y1 - o.Y0)<|Qr aa (wrap .i64<|wrap .i64 (o.X1 - o.X0)* wrap .i64 (o.Y1 - o.Y0))<|aL (wrap .i64<|aa+ wrap .i64 (wrap .i64 (o.X1 - o.X0)* wrap .i64 (o.Y1 - o.Y0)))<|By<|bJ ?_;exact aC<|BY<|Qw hk hm<|aX ((ad+1:Nat):Int)<|By<|oi hb▸⟨rfl,j.sp 4 [3]⟩;rintro aa _ w hb⟨O,rfl,j⟩;exact aC<|AI<|aX aa<|aL aa<|AS<|Qk<|oi hb▸bT ⟨rfl,j.drop 1⟩
def Cd(E:World)(V:List HP)(res:Int×Int)(v:Value)(w:World):Prop:=v = .tuple #[vi res.1,vi res.2]/\Holds E w V
theorem Aw{p0:List aI}{res:Int×Int}(o:Holds E w V)(h0:V[i0]? =some (rd v0 p0))(j:oL N p0=some res):c_ 18 [v0] w<|Cd E V res:=by
 unfold oL at j;refine enter Tryz.func18 zr zr ?_;have o:=o.dup (i0+0) h0;refine AI<|aL 0<|aL 0<|IT<|AI<|mv v0<|q_ j λaa ab j=>Qp Lt (k6 N (i0:=0) o zr ab) λw o=>aL aa<|IN<|aX aa<|ic aa 0<|AS<|eH j (λj=>?_) λj=>?_;exact AI<|aX aa<|aL 0<|aL aa<|AS<|QE<|oi j▸nT ⟨rfl,o.drop 1⟩;exact Ra<|mv v0<|q_ j λad ae j=>Qp (gH Tryz.func31) (ye N (i0:=0) o zr ae) λw o=>aL ad<|aL 0<|AS<|Qk<|oi j▸nT ⟨rfl,o.drop 1⟩
theorem kC{res:Bool}(o:Holds E w V)(hb:fN N=some res):c_ 5 [] w<|bB E V res:=by
 unfold fN at hb;refine enter Tryz.func5 zr zr<|AI<|bY false<|IN ?_;have o:=(o.sc Int 2).sc Int 3;refine Ri (⟨0,0,2,3⟩:aI) trivial rfl o [(2,vi 2),(3,vi 3)] rfl GD rfl (λM hs g=>by have h:=u9 M;exact cR.cons (f:=λ(x:aI)y=>{x with X1:=y}) h qu (g.sat 1 _ rfl).1 λ_ h=>cR.cons (f:=λ(x:aI)y=>{x with Y1:=y}) h t3 (g.sat 0 _ rfl).1 λ_ h=>cR.nil h) λab o=>?_;refine QM ([(⟨0,0,2,3⟩:aI)]:List aI) o [ab] mc pj (λM hs g=>⟨(g.sat 0 _ zr).1,zt⟩) λae w o=>?_;have o:=o.freeze 0;refine q_ hb λj ad hb=>Qp (gH Tryz.func18) (Aw N (i0:=0) o zr ad) λw o=>mv (.tuple #[vi j.1,vi j.2])<|QQ (vi j.1)<|QQ (vi j.2)<|aL j.1<|aL j.2<|IN<|aX j.2<|ic j.2 0<|gU (j.2==0)<|QI (vi j.1) zr zr w3<|QI (vb<|j.1==6) zr zr (w4 .eql)<|QV (b:=j.2==0) (v:=vb<|(j.2==0)&&(j.1==6)) zt zr zr (ma true)<|bY ((j.2==0)&&(j.1==6))<|AS<|Qk ?_;exact oi hb▸bT ⟨rfl,o.drop 4⟩
def uH(E:World)(V:List HP)(res:List dD)(v:Value)(w:World):Prop:=Holds E w<|[own 42 v res]++V
theorem tw{p0:List dD}{res:List dD}(j:Holds E w V)(h0:V[i0]? =some (rd v0 p0))(o:jH N p0=some res):
    c_ 6 [v0] w<|uH E V res:=by
 unfold jH at o
 refine enter Tryz.func6 zr zr ?_
 have j:=j.dup (i0+0) h0
 refine AI<|dU n_<|IT<|AI<|mv v0<|SL 0 zt zr j zr zr zr Er<|AS<|R1 (b:=HS v0) zr (λhc=>?_)<|λhc=>?_
 ·have hx:=j.L1 (i:=0) rfl hc
  rw[hx]at o
  replace o:some ([]:List dD)=_:=o
  refine AI<|dU n_<|AS<|QE ?_
  obtain rfl:=oi o
  have j:=j.cH dD 42
  exact bT<|j.pk 2 [0]
 refine Ra<|QM ([]:List dD) j [] BZ JZ (λM hs g=>zt) λae w j=>mv v0 ?_
 obtain⟨af,ab,o⟩:=bd o
 refine QW 0 1 j O5 ab λad w j=>?_
 refine dU ad<|AS<|Qk ?_
 obtain rfl:=oi o
 exact bT<|j.pk 2 [0]
end Go.Gk
namespace Go.Gk
open Go IntKind Go.Proofs
variable (N:Nat){E w:World}{i0:Nat}{v0:Value}{V:List HP}
def qK(E:World)(V:List HP)(res:aT)(v:Value)(w:World):Prop:=Holds E w<|[rd v res]++V
theorem qf{p0:aT}{p1:bG}{res:aT}(j:Holds E w V)(h0:V[i0]? =some (rd v0 p0))(o:gG N p0 p1=some res):c_ 7 [v0,str p1] w<|qK E V res:=by
 unfold gG at o;refine enter Tryz.func7 zr zr ?_;have j:=j.dup (i0+0) h0;refine AI<|QH 0 v0 j zr λay w j=>?_;refine QD j O6.z λab w j=>?_;refine IN<|RS j O7 λad w j=>?_;refine IT<|AI<|AT zr xe<|QL 2 j zr mK Gx λaz j=>Ql 0 p0.cJ j Ia<|aX 0<|AS<|Re E V (λ(ae:List Part)(a0:Value)=>[bx 26 ay p0,raw 26 ab 2,bc 26 ad [a0,n_],own 85 a0 ae,rd az p0.cJ]) (λ_ _=>[(1,str p1),(2,vp ay 0),(4,vp ab 0),(5,vp ad 0)]) (λav _ _=>[(14,az),(15,vi p0.cJ.length),(16,vi av)]) o ?_ ?_ ?_;have j:=j.cH Part 85;exact⟨n_,j.sp 6 [4,3,2,0,1]⟩;rintro hm av ae s' _ w hk⟨a9,O,rfl,j⟩o;refine IS<|Qt<|q_ o λaf ba o=>Qm 4 j Dk ba λbt j=>Qs 0 af j BP λbu j=>QD j JU.z λbw w j=>?_;refine QB 0 j 1 zr BP λw j=>?_;refine AS<|BY<|AT zr xe<|Qy 5 a9 j Gx<|mv (str p1)<|AT zr xf<|Qj 0 j zr oz oC<|q_ o λao bb o=>Se p1 af.Name zr zr zr bb<|AT zr BQ<|Qj 0 j zr tX oC ?_;have j:=(j.sc bG ao).sc bG af.iB;refine Ri (⟨ao,af.iB⟩:Part) trivial rfl j [(0,str ao),(1,str af.iB)] rfl O8 rfl (λM hs g=>by have h:=Ll M;exact cR.cons (f:=λ(x:Part)y=>{x with Name:=y}) h Gt (g.sat 1 _ rfl).1 λ_ h=>cR.cons (f:=λ(x:Part)y=>{x with iB:=y}) h Gu (g.sat 0 _ rfl).1 λ_ h=>cR.nil h) λbf j=>?_;refine QM ([(⟨ao,af.iB⟩:Part)]:List Part) j [bf] Dk JU (λM hs g=>⟨(g.sat 0 _ zr).1,zt⟩) λbz w j=>?_;have j:=j.freeze 0;refine q_ o λb0 bg o=>QW 10 0 j O9 bg λa1 w j=>?_;refine AT zr xe<|Rm 9 a1 j zr zr (iG 10 j) Gx λw j=>?_;exact By<|bJ<|aC<|BY<|Qw hk hm<|aX ((av+1:Nat):Int)<|By<|oi o▸⟨rfl,a1,j.sp 12 [7,8,9,10,11]⟩;rintro ae _ w o⟨aj,O,rfl,j⟩;refine aC<|IS<|AI<|AT zr p4<|QL 0 j zr jJ An λaq j=>Ql 0 p0.bA j Gy<|aX 0<|AS<|Re E V (λ(ak:List Net)(a2:Value)=>[raw 26 ab 2,bc 26 ad [aj,a2],own 61 a2 ak,own 85 aj ae,rd aq p0.bA]) (λ_ _=>[(4,vp ab 0),(5,vp ad 0)]) (λar _ _=>[(1,str p1),(34,aq),(35,vi p0.bA.length),(36,vi ar)]) o ?_ ?_ ?_;have j:=j.cH Net 61;exact⟨n_,j.sp 7 [3,4,0,5,1]⟩;rintro hm ar ak s' _ w hk⟨aw,O,rfl,j⟩o;refine IS<|Qt<|q_ o λal bh o=>Qm 4 j Dm bh λb2 j=>Qs 0 al j xg λb3 j=>QD j Gz.z λb4 w j=>?_;refine QB 0 j 1 zr xg λw j=>?_;refine IN<|mv (str p1)<|AT zr xh<|Qj 0 j zr qq oC<|q_ o λaa bj o=>Se p1 al.Name zr zr zr bj<|SI (zs:=[(.string ⟨#[]⟩),n_,n_]) (cs:=[str aa,n_,n_]) zt zr [(0,str aa)] zr Pa ⟨rfl,zt⟩ zr<|RS j Pb λa3 w j=>?_;refine SJ (cs:=[str aa,n_,n_]) 0 zt j zr zr zr (uo.all (⟨zr,zr,zr,zt⟩:uo [str aa,n_,n_])) xg zr zr λw j=>?_;refine IT<|AI<|AT zr sU<|QL 1 j zr qt sV λa4 j=>Ql 0 al.aP j p5<|aX 0<|AS<|Re E V (λ(an:List aS)(a5:Value)=>[raw 26 ab 2,bc 26 ad [aj,aw],own 85 aj ae,own 61 aw ak,bc 61 a3 [str aa,a5,n_],own 59 a5 an,rd aq p0.bA,rd a4 al.aP]) (λ_ _=>[(1,str p1),(4,vp ab 0),(5,vp ad 0),(10,vp a3 0),(34,aq),(35,vi p0.bA.length),(36,vi ar)]) (λax _ _=>[(46,a4),(47,vi al.aP.length),(48,vi ax)]) o ?_ ?_ ?_;have j:=j.cH aS 59;exact⟨n_,j.sp 11 [6,7,9,8,2,0,10,1]⟩;rintro hm ax an s' _ w hk⟨bk,O,rfl,j⟩o;refine IS<|Qt<|q_ o λag bl o=>Qm 7 j p6 bl λb5 j=>Qs 0 ag j jd λb6 j=>QD j rp.z λb7 w j=>?_;refine QB 0 j 1 zr jd λw j=>?_;refine AS<|BY<|AT zr sU<|Qy 7 bk j sV<|mv (str p1)<|AT zr BR<|Qj 0 j zr vS oC<|q_ o λau bm o=>Se p1 ag.Part zr zr zr bm<|AT zr BS<|Qj 0 j zr vT oC ?_;have j:=(j.sc bG au).sc bG ag.aS;refine Ri (⟨au,ag.aS⟩:aS) trivial rfl j [(0,str au),(1,str ag.aS)] rfl Lu rfl (λM hs g=>by have h:=FK M;exact cR.cons (f:=λ(x:aS)y=>{x with Part:=y}) h yT (g.sat 1 _ rfl).1 λ_ h=>cR.cons (f:=λ(x:aS)y=>{x with aS:=y}) h yU (g.sat 0 _ rfl).1 λ_ h=>cR.nil h) λbn j=>?_;refine QM ([(⟨au,ag.aS⟩:aS)]:List aS) j [bn] p6 rp (λM hs g=>⟨(g.sat 0 _ zr).1,zt⟩) λb8 w j=>?_;have j:=j.freeze 0;refine q_ o λb9 bo o=>QW 12 0 j y9 bo λa6 w j=>?_;refine AT zr sU<|Rm 11 a6 j zr zr (iG 12 j) sV λw j=>?_;exact By<|bJ<|aC<|BY<|Qw hk hm<|aX ((ax+1:Nat):Int)<|By<|oi o▸⟨rfl,a6,j.sp 15 [7,8,9,10,11,12,13,14]⟩;rintro an _ w o⟨a7,O,rfl,j⟩;refine aC<|BY<|AT zr p4<|Qy 1 aw j An ?_;have j:=((j.freeze 5).Ei bG).vL (i:=5) (x:=(⟨aa,an,([]:List bG)⟩:Net)) rfl<|λM hs g=>⟨[str aa],[a7,n_],rfl,rfl,⟨[a7],[n_],rfl,lK (g.sat 6 _ rfl).1,lK (g.sat 0 _ rfl).1⟩⟩;refine Qx 5 j zr xg λbp j=>QM ([(⟨aa,an,([]:List bG)⟩:Net)]:List Net) j [bp] Dm Gz (λM hs g=>⟨(g.sat 0 _ zr).1,zt⟩) λca w j=>?_;have j:=j.freeze 0;refine q_ o λcb bq o=>QW 6 0 j Pc bq λa8 w j=>?_;refine AT zr p4<|Rm 4 a8 j zr zr (iG 6 j) An λw j=>?_;exact By<|bJ<|aC<|BY<|Qw hk hm<|aX ((ar+1:Nat):Int)<|By<|oi o▸⟨rfl,a8,j.sp 11 [3,4,6,5,9]⟩;rintro ak _ w o⟨br,O,rfl,j⟩;refine aC<|AI ?_;have j:=((j.freeze 3).freeze 2).vL (i:=1) (x:=(⟨ae,ak⟩:aT)) rfl<|λM hs g=>⟨[aj],[br],rfl,lK (g.sat 3 _ rfl).1,lK (g.sat 2 _ rfl).1⟩;refine Qx 1 j zr y4 λcc j=>QB 1 j 0 zr y4 λw j=>?_;refine AS<|Qk ?_;obtain rfl:=oi o;exact JG 1 zr j zr zr y4 λcd j=>j.pk 7 [0]
theorem lU [Nd E]{V:List HP}{i0:Nat}{v0:Value}{p0:List aJ}{i1:Nat}{v1:Value}{p1:aT}{i2:Nat}{v2:Value}{p2:jg}{p3:bG}{res:Bool}(o:Holds E w V)(h0:V[i0]? =some (rd v0 p0))(h1:V[i1]? =some (rd v1 p1))(h2:V[i2]? =some (rd v2 p2))(hb:eK N p0 p1 p2 p3=some res):c_ 3 [v0,v1,v2,str p3] w<|bB E V res:=by
 unfold eK at hb;refine enter Tryz.func3 zr zr ?_;have o:=((o.dup (i0+0) h0).dup (i1+1) h1).dup (i2+2) h2;refine AI<|QH 1 v1 o zr λa7 w o=>?_;refine QH 1 v2 o zr λcq w o=>?_;refine bY false<|IN<|mv v0<|Qx 1 o zr y4 λcr o=>Qx 1 o zr y5 λct o=>?_;refine q_ hb λai b5 hb=>QA PF (pL N (i0:=6) (i1:=1) (i2:=0) o zr zr zr b5) ?_;rintro _ w⟨aj,rfl,o⟩;refine mv (.tuple #[aj,vi ai.2])<|QQ aj<|QQ (vi ai.2)<|dU aj<|aL ai.2<|IT<|AI<|aX ai.2<|ic ai.2 0<|AS<|eH hb (λhb=>?_) λhb=>?_;refine IS<|q_ hb λbn hj hb=>Qu (λ(bn:Bool)=>SH E V [(8,vb bn)] []) bn ?_ ?_;refine BY<|mv aj<|Q2 (i:=0) (l:=ai.1) zt zr o zr zr Kb<|ic ((ai.1.length:Int)) 0<|gU ((ai.1.length:Int)==0)<|gK hj (λa5 hj=>?_) λa5 hj=>?_;exact q_ hj λbw b6 hj=>Qp (hg:=cg a5) O3 (kC N o b6) λw o=>gT a5 (vb bw)<|bY bw<|By<|oi hj▸⟨rfl,o.sp 8 []⟩;exact bS a5<|gT a5 (vb false)<|bY false<|By<|oi hj▸⟨rfl,o.sp 8 []⟩;rintro _ w⟨O,rfl,o⟩;exact aC<|QE<|oi hb▸bT ⟨rfl,o.drop 0⟩;refine Ra<|Qx 3 o zr y5 λcu o=>RS o O4 λa3 w o=>?_;refine S7 (i:=0) (j:=1) zt o zr zr zr zr y5 zr λw o=>?_;obtain⟨cs,hcs,o⟩:=o.JN (i:=0) rfl;obtain⟨a4,a0,ax,cv,rfl⟩:=L0 hcs;have o:=(((o.gN (i:=0) (k:=0) (f:=λx=>x.aN) rfl oN rfl rfl rfl).gN (i:=1) (k:=1) (f:=λx=>x.cL) rfl vV rfl rfl rfl).gN (i:=2) (k:=2) (f:=λx=>x.bN) rfl qz rfl rfl rfl).gN (i:=3) (k:=3) (f:=λx=>x.bC) rfl nH rfl rfl rfl;refine IN<|AT zr oO<|QL 10 o zr nH y8 λcw o=>?_;refine q_ hb λbz b7 hb=>QA (gH Tryz.func6) (tw N (i0:=0) o zr b7) λak w o=>AT zr oO<|Rm 7 ak o zr zr (iG 0 o) y8 λw o=>?_;refine IT<|AI<|AT zr oO<|Qy 7 ak o y8<|Q2 (i:=0) (l:=bz) zt zr o zr zr Er<|aX 0<|AS<|Ry E V (λ(aw:List dD)=>[rd v0 p0,bx 26 a7 p1,own 47 aj ai.1,bc 32 a3 [a4,a0,ax,ak],rd a4 p2.aN,rd a0 p2.cL,rd ax p2.bN,own 42 ak aw]) (λ_=>[(0,v0),(3,str p3),(5,vp a7 0),(9,aj),(11,vp a3 0)]) (λa1 _=>[(37,vi bz.length),(38,vi a1)]) hb ?_ ?_ ?_;exact o.sp 17 [16,13,9,7,5,4,3,0];rintro hm a1 aw s' _ w hk⟨O,rfl,o⟩hb;refine IS<|Qt<|aX (a1:Int)<|aL (a1:Int)<|AS<|Rn mixed [0,0,0,0,0,0,0,0,0,0,0,0,0,2] [0,1,2,3,4,5,6,7,8,9,10,11,12,13] ?_;have o:=o.drew;refine QF zr zr<|AT zr oO<|cV zr<|Qy 3 ak o y8<|cV zr<|aX (a1:Int)<|cV zr<|mv (str p3)<|cV zr<|AT zr oO<|cV zr<|Qy 3 ak o y8<|cV zr<|aX (a1:Int)<|cV zr ?_;refine q_ hb λb8 a8 hb=>Qz 7 o zr zr BZ a8<|cV zr<|Rj (α:=dD) (nR 7 o a8 0) B0<|cV zr<|Rp 7 o (nR 7 o a8 0) (dA a8).2.1 w9 oC<|cV zr<|q_ hb λb9 ca hb=>Se p3 b8.Part zr zr zr ca<|cV zr<|q_ hb λcx a9 hb=>Qz 7 o zr zr BZ a9<|cV zr<|Rj (α:=dD) (nR 7 o a9 0) B0<|wZ zr ?_;have o:=o.sc bG b9;refine Sf (i:=8) (j:=0) trivial o rfl rfl (nR 8 o a9 0) rfl (dA a9).2.1 rfl Gv (by decide) oC λw o=>?_;exact Q0 zt<|Q5<|bJ<|aC<|BY<|Qw hk hm<|aX ((a1+1:Nat):Int)<|By<|oi hb▸⟨rfl,o.sp 9 [1,2,3,4,5,6,7,8]⟩;rintro aw _ w hb⟨O,rfl,o⟩;refine aC<|IS ?_;obtain⟨cb,cc,hb⟩:=bd hb;refine q_ hb λaf cd hb=>Ru E V mixed [1,0,1,0,0,0,1,1,1,1,1] [1,3,4,5] (λ(x:Value×Value×Value×Value)=>(λaq ar au ag=>[(0,56,v0),(1,57,aq),(2,58,str p3),(3,59,ar),(4,60,au),(5,61,(.tuple #[ag,vi af.2])),(6,55,(.tuple #[ag,vi af.2])),(7,62,ag),(8,63,vi af.2),(9,13,ag),(10,10,vi af.2)]) x.1 x.2.1 x.2.2.1 x.2.2.2) [(0,v0),(3,str p3),(5,vp a7 0),(9,aj),(11,vp a3 0)] [] (λ(D:Nat->Bool)(x:Value×Value×Value×Value)=>(λaq ar au ag=>[bif D 0 then rd aq p1 else aW,bif D 1 then rd ar cb else aW,bif D 2 then rd au (⟨p2.aN,p2.cL,p2.bN,aw⟩:jg)else aW,bif D 3 then own 47 ag af.1 else aW,rd v0 p0,bx 26 a7 p1,own 47 aj ai.1,bif D 2 then bx 32 a3 (⟨p2.aN,p2.cL,p2.bN,aw⟩:jg)else bc 32 a3 [a4,a0,ax,ak],rd a4 p2.aN,rd a0 p2.cL,rd ax p2.bN,bif D 2 then rd ak aw else own 42 ak aw]) x.1 x.2.1 x.2.2.1 x.2.2.2) (λx=>by kernel_rfl) ?_ ⟨λ_=>jI gn,?_,λ_=>jI gn,?_,?_,?_,λ_=>jI gn,λ_=>Ma gn rfl,λ_=>Ma gn rfl,λ_=>L9 gn rfl,λ_=>L9 gn rfl,trivial⟩ ?_;have o:=((((o.drew).aW).aW).aW).aW;exact⟨(undef,undef,undef,undef),cW.none,D9 zr,zt,o⟩;rintro D U w hD al a2⟨⟨aq,ar,au,ag⟩,hv,ha,_,o⟩;obtain⟨O,rfl⟩:=ha.pC;have o:=o.bM 0 hD;refine Qx 5 o zr y4 λcf o=>?_;have o:=o.nw 0;exact OF (cf,ar,au,ag) 1 hv ha o;rintro D U w hD al a2⟨⟨aq,ar,au,ag⟩,hv,ha,_,o⟩;obtain⟨O,rfl⟩:=hv.o2 1 2 al;have o:=(o.dT 0<|al.1 rfl).bM 1 hD;refine QA (gH Tryz.func7) (qf N (p1:=p3) (i0:=0) o zr cc) λch w o=>?_;have o:=((o.pl 13 [1,0,3,4,5,6,7,8,9,10,11,12] rfl).cI 0 (D 1) (al.1 rfl) aW).cI 1 true rfl aW;exact OF (aq,ch,au,ag) 3 hv ha o;rintro D U w hD al a2⟨⟨aq,ar,au,ag⟩,hv,ha,_,o⟩;obtain⟨O,rfl⟩:=ha.pC;have o:=((((o.bM 2 hD).bM 7 hD).bM 11 hD).freeze 11).vL (i:=7) (x:=(⟨p2.aN,p2.cL,p2.bN,aw⟩:jg)) rfl<|λM hs g=>⟨[a4],[a0,ax,ak],rfl,lK (g.sat 8 _ rfl).1,⟨[a0],[ax,ak],rfl,lK (g.sat 9 _ rfl).1,⟨[ax],[ak],rfl,lK (g.sat 10 _ rfl).1,lK (g.sat 11 _ rfl).1⟩⟩⟩;refine Qx 7 o zr y5 λcj o=>?_;have o:=((o.nw 2).cI 7 true rfl<|bc 32 a3 [a4,a0,ax,ak]).cI 11 true rfl<|own 42 ak aw;exact OF (aq,ar,cj,ag) 4 hv ha o;rintro D U w hD al a2⟨⟨aq,ar,au,ag⟩,hv,ha,_,o⟩;obtain⟨O,rfl⟩:=(ac (hv.at 0 rfl<|al.1 rfl)<|ac (hv.at 3 rfl<|al.2.1 rfl)<|ac (hv.at 4 rfl<|al.2.2.1 rfl) az).pC;have o:=((o.dT 1<|al.2.1 rfl).dT 2<|al.2.2.1 rfl).bM 3 hD;refine QA PF (pL N (i0:=4) (i1:=1) (i2:=2) o zr zr zr cd) ?_;rintro _ w⟨ba,rfl,o⟩;have o:=(((o.pl 13 [1,2,3,0,5,6,7,8,9,10,11,12] rfl).cI 1 (D 3) (al.2.1 rfl) aW).cI 2 (D 4) (al.2.2.1 rfl) aW).cI 3 true rfl aW;have hv:=hv.re 6 rfl (v':=(.tuple #[ba,vi af.2]))<|λh=>ft hD<|(a2 6 _ rfl h).1 rfl;have hv:=hv.re 7 rfl (v':=ba)<|λh=>ft hD<|(a2 6 _ rfl<|(a2 7 _ rfl h).1 rfl).1 rfl;have hv:=hv.re 9 rfl (v':=ba)<|λh=>ft hD<|(a2 9 _ rfl h).2.1 rfl;exact OF (aq,ar,au,ba) 5 hv ha o;rintro D U w ay⟨⟨aq,ar,au,ag⟩,hv,ha,_,o⟩;simp only[List.getD_cons_zero,List.getD_cons_succ,ay 1 (by decide),ay 3 (by decide),ay 4 (by decide),ay 5 (by decide),ay 4 (by decide),ay 4 (by decide),aR]at o;obtain⟨O,rfl⟩:=(ac (hv.at 9 rfl<|yI ay 9)<|ac (hv.at 10 rfl<|yI ay 10) ha).pC;refine aC<|IS<|AI<|aX af.2<|ic af.2 0<|AS<|eH hb (λhb=>?_) λhb=>?_;refine IS<|q_ hb λbq hj hb=>Qu (λ(bq:Bool)=>SH E V [(8,vb bq)] []) bq ?_ ?_;refine BY<|aX af.2<|ic af.2 5<|gU (af.2==5)<|QI (vi af.2) zr zr w3<|QI (vb<|af.2==2) zr zr (w4 .eql)<|QV (b:=af.2==5) (v:=vb<|(af.2==5)||(af.2==2)) zt zr zr (sG true)<|gU ((af.2==5)||(af.2==2))<|gK hj (λa6 hj=>?_) λa6 hj=>?_;exact q_ hj λb0 ck hj=>Qp (hg:=cg a6) O3 (kC N o ck) λw o=>gT a6 (vb b0)<|bY b0<|By<|oi hj▸⟨rfl,o.sp 12 []⟩;exact bS a6<|gT a6 (vb false)<|bY false<|By<|oi hj▸⟨rfl,o.sp 12 []⟩;rintro _ w⟨O,rfl,o⟩;exact aC<|QE<|oi hb▸bT ⟨rfl,o.drop 0⟩;refine QN<|AI<|mv aj<|Q2 (i:=6) (l:=ai.1) zt zr o zr zr Kb<|mv ag<|Q2 (i:=3) (l:=af.1) zt zr o zr zr Kb<|ic ((ai.1.length:Int)) ((af.1.length:Int))<|AS<|eH hb (λhb=>?_) λhb=>?_;exact AI<|bY false<|AS<|QE<|oi hb▸bT ⟨rfl,o.drop 12⟩;refine QN<|AI<|mv aj<|Q2 (i:=6) (l:=ai.1) zt zr o zr zr Kb<|aX 0<|AS<|Rf E V (λ(b2:Unit)=>[own 47 aj ai.1,own 47 ag af.1]) (λ_=>[]) (λao _=>[(9,aj),(13,ag),(81,vi ai.1.length),(82,vi ao)]) (λr=>mq aZ 128 Tryz.f3 (bB E V r) .ret) hb ?_ ?_ ?_ ?_;exact o.sp 12 [6,3];rintro hm ao b2 fl _ w hk⟨O,rfl,o⟩hb;refine IS<|Qt<|aX (ao:Int)<|aL (ao:Int)<|IT<|q_ hb λbr hj hb=>Qu (λ(br:Bool)=>SH E V [(9,aj),(13,ag),(81,vi ai.1.length),(82,vi ao),(125,vb br)] [own 47 aj ai.1,own 47 ag af.1]) br ?_ ?_;refine Rc mixed ?_;have o:=o.drew;refine Rb<|mv aj<|w_<|aX (ao:Int)<|w_<|q_ hj λb3 bb hj=>Qz 0 o zr zr Ap bb<|w_<|Rj (α:=cP) (nR 0 o bb 0) Iv<|w_<|Rp 0 o (nR 0 o bb 0) (dA bb).2.1 yV cY<|w_<|mv ag<|w_<|aX (ao:Int) ?_;refine w_<|q_ hj λb4 bf hj=>Qz 1 o zr zr Ap bf<|w_<|Rj (α:=cP) (nR 1 o bf 0) Iv<|w_<|Rp 1 o (nR 1 o bf 0) (dA bf).2.1 yV cY<|w_<|ic b3.Kind b4.Kind<|w_<|gU (b3.Kind != b4.Kind) ?_;refine gK hj (λad hj=>?_) λad hj=>?_;refine w_<|bS ad<|w_<|bS ad<|w_<|bS ad<|w_<|bS ad<|w_<|bS ad<|w_<|bS ad<|w_<|bS ad<|w_<|bS ad<|w_<|bS ad ?_;refine w_<|bS ad<|w_<|bS ad<|w_<|bS ad<|w_<|bS ad<|w_<|gT ad (vb true)<|w_<|gU true<|w_<|mw<|w_<|mw<|w_<|mw ?_;refine w_<|mw<|w_<|mw<|w_<|mw<|w_<|mw<|w_<|mw<|w_<|mw<|w_<|mw<|w_<|mw<|w_<|mw ?_;exact w_<|mw<|w_<|QV (b:=true) (v:=vb true) zt zr zr zr<|QZ<|oi hj▸⟨rfl,o.sp 2 [0,1]⟩;refine w_<|Qq aj (cg ad)<|w_<|Qq (vi ao) (cg ad)<|w_<|q_ hj λbg bh hj=>Qz (hg:=cg ad) 0 o zr zr Ap bh<|w_<|Rj (hg:=cg ad) (α:=cP) (nR 0 o bh 0) Iw<|w_<|RP 0 (cg ad) zr o zr (nR 0 o bh 2) zr (dA bh).2.1 yY sV λcz o=>?_;refine w_<|Ql (hg:=cg ad) 0 bg.aP o p5<|w_<|Qq ag (cg ad)<|w_<|Qq (vi ao) (cg ad)<|w_<|q_ hj λbj bk hj=>Qz (hg:=cg ad) 2 o zr zr Ap bk<|w_<|Rj (hg:=cg ad) (α:=cP) (nR 2 o bk 0) Iw<|w_<|RP 2 (cg ad) zr o zr (nR 2 o bk 2) zr (dA bk).2.1 yY sV λc0 o=>?_;refine w_<|Ql (hg:=cg ad) 0 bj.aP o p5<|w_<|Q1 (bg.aP.length:Int) (bj.aP.length:Int) (cg ad)<|w_<|gT ad (vb<|(bg.aP.length:Int) != (bj.aP.length:Int))<|w_<|gU ((bg.aP.length:Int) != (bj.aP.length:Int))<|gK hj (λae hj=>?_) λae hj=>?_;refine w_<|bS ae<|w_<|bS ae<|w_<|bS ae<|w_<|bS ae<|w_<|bS ae<|w_<|bS ae<|w_<|bS ae<|w_<|bS ae<|w_<|bS ae ?_;refine w_<|bS ae<|w_<|bS ae<|w_<|bS ae<|w_<|bS ae<|w_<|gT ae (vb true)<|QZ ?_;exact oi hj▸⟨rfl,o.sp 4 [2,3]⟩;refine w_<|Qq aj (cg ae)<|w_<|Qq (vi ao) (cg ae)<|w_<|q_ hj λbt bl hj=>Qz (hg:=cg ae) 2 o zr zr Ap bl<|w_<|Rj (hg:=cg ae) (α:=cP) (nR 2 o bl 0) Ix<|w_<|RP 2 (cg ae) zr o zr (nR 2 o bl 1) zr (dA bl).2.1 yW Lr λc1 o=>?_;refine w_<|Ql (hg:=cg ae) 0 bt.bA o JV<|w_<|Qq ag (cg ae)<|w_<|Qq (vi ao) (cg ae)<|w_<|q_ hj λbu bm hj=>Qz (hg:=cg ae) 4 o zr zr Ap bm<|w_<|Rj (hg:=cg ae) (α:=cP) (nR 4 o bm 0) Ix<|w_<|RP 4 (cg ae) zr o zr (nR 4 o bm 1) zr (dA bm).2.1 yW Lr λc2 o=>?_;refine w_<|Ql (hg:=cg ae) 0 bu.bA o JV<|w_<|Q1 (bt.bA.length:Int) (bu.bA.length:Int) (cg ae)<|w_<|gT ae (vb<|(bt.bA.length:Int) != (bu.bA.length:Int))<|QZ ?_;exact oi hj▸⟨rfl,o.sp 6 [4,5]⟩;rintro _ w⟨O,rfl,o⟩;refine aC<|eH hb (λhb=>?_) λhb=>?_;exact AI<|bY false<|AS<|QY<|bL<|oi hb▸⟨rfl,bT ⟨rfl,o.drop 2⟩⟩;exact QJ<|bJ<|aC<|BY<|Qw hk hm<|aX ((ao+1:Nat):Int)<|By<|oi hb▸⟨rfl,o.sp 2 [0,1]⟩;intro r U w hb hK;exact bL<|oi hb▸hK;rintro b2 _ w hb⟨O,rfl,o⟩;exact aC<|AI<|q_ hb λcn cp hb=>Qp O3 (kC N o cp) λw o=>bY cn<|AS<|Qk<|oi hb▸bT ⟨rfl,o.drop 2⟩
end Go.Gk
