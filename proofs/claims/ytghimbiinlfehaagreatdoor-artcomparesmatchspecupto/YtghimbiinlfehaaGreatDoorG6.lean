/-
  Printed texts: Go functions as plain functions, and that they are. No statement of the seed is proved here.
-/
import Derived.Test.YtghimbiinlfehaaGreatDoorG1
import Derived.Test.YtghimbiinlfehaaGreatDoorG3
import Derived.Test.YtghimbiinlfehaaGreatDoorG5
import Derived.Test.YtghimbiinlfehaaGreatDoorA2
set_option linter.defProp false
set_option linter.unusedVariables false
set_option linter.unusedSimpArgs false
set_option linter.unusedSectionVars false
set_option maxRecDepth 100000
set_option maxHeartbeats 40000000
namespace Go.Gk
open Go IntKind Go.Proofs
variable (N:Nat){E w:aY}{b0 i0 i0_0 i0_1 i1:Nat}{p0 p1 p2 res:Int}{v0 d_ f_ l_ m_ a_ b_ h_ e_ g_ i_ s_ p_ v1 v2:aW}{V:Z HP}
def DT{p0:Z aS}{p1:Part}{res:Z bC}(j:Holds E w V)(h0:V[i0]? =some (rd v0 p0))(h1:V[i1]? =some (rd v1 p1))(o:pQ N p0 p1=some res):c_ 33 [v0,v1] w<|nS E V res:=by
 unfold pQ at o;refine enter Tryz.func33 zr zr ?_;have j:=(j.dup (i0+0) h0).dup (i1+1) h1;refine w_<|YC 0 v1 j zr λag w j=>?_;refine dG n_<|IS<|dG n_<|OF<|w_<|mv v0<|mv v0<|AT zr Bf<|T_ 0 j zr uT lI<|q_ o λaw ak o=>Yi Tf (sw N (p1:=p1.jR) (i0:=2) j zr ak) λw j=>?_;refine q_ o λab al o=>IT 2 j Ew al λax j=>Yw 0 j zr ru iK λay j=>Yk 0 ab.aT j zk λah j=>S_ 0 ab.aT j wu<|aX 0<|AI<|Zq E V (λ(ad:Z bC)(ae:aW)=>[bx 102 ag p1,rd ah ab.aT,own 55 ae ad]) (λ_ ae=>[(5,ae)]) (λaf _ _=>[(3,vp ag 0),(15,ah),(16,vi ab.aT.length),(17,vi af)]) o ?_ ?_ ?_;have j:=j.cJ bC 55;exact⟨n_,j.sp 7 [4,1,0]⟩;rintro hm af ad s' _ w hk⟨aq,O,rfl,j⟩o;refine BY<|Yr<|q_ o λaa ar o=>IT 1 j vk ar λaz j=>Yk 0 aa j tM λa0 j=>YN j GA.z λa1 w j=>?_;refine YH 0 j 1 zr tM λw j=>?_;refine AI<|IN<|mv aq<|AT zr tA<|T_ 3 j zr oV lI<|AT zr tz<|T_ 0 j zr kL lI ?_;have j:=(j.sc cD p1.Name).sc cD aa.Name;refine Ze (⟨p1.Name,aa.Name⟩:bC) trivial rfl j [(0,str p1.Name),(1,str aa.Name)] rfl RD rfl (λM hs g=>by have h:=KU M;exact cM.cons (f:=λ(x:bC)y=>{x with Part:=y}) h Dq (g.sat 1 _ rfl).1 λ_ h=>cM.cons (f:=λ(x:bC)y=>{x with bC:=y}) h Dr (g.sat 0 _ rfl).1 λ_ h=>cM.nil h) λau j=>?_;refine YR ([(⟨p1.Name,aa.Name⟩:bC)]:Z bC) j [au] n8 tN (λM hs g=>⟨(g.sat 0 _ zr).1,zt⟩) λa2 w j=>?_;have j:=j.freeze 0;refine q_ o λa3 av o=>YT 9 0 j zB av λai w j=>?_;exact dG ai<|By<|bE<|aC<|IN<|YL hk hm<|aX ((af+1:Nat):Int)<|By<|oi o▸⟨rfl,ai,j.sp 10 [7,8,9]⟩;rintro ad _ w o⟨aj,O,rfl,j⟩;refine aC<|w_<|mv aj<|dG aj<|AI<|Yj ?_;obtain rfl:=oi o;exact bL<|j.pk 3 [2]
def CO{p0:Z aS}{p1:cA}{res:Z bC}(j:Holds E w V)(h0:V[i0]? =some (rd v0 p0))(h1:V[i1]? =some (rd v1 p1))(o:oG N p0 p1=some res):c_ 11 [v0,v1] w<|nS E V res:=by
 unfold oG at o;refine enter Tryz.func11 zr zr ?_;have j:=(j.dup (i0+0) h0).dup (i1+1) h1;refine w_<|YC 0 v1 j zr λa8 w j=>?_;refine dG n_<|IS<|YA 0 j zr DA λa9 j=>?_;refine q_ o λaa a0 o=>Yv U5 (zo N (i0:=0) j zr a0) λad w j=>dG ad<|IS<|dG n_<|OF<|w_<|AT zr vl<|Yt 2 j zr ji GB λaf j=>S_ 0 p1.cR j KW<|aX 0<|AI<|Zq E V (λ(al:Z bC)(an:aW)=>[rd v0 p0,mp ad aa,rd af p1.cR,own 55 an al]) (λ_ an=>[(6,an)]) (λag _ _=>[(0,v0),(5,ad),(16,af),(17,vi p1.cR.length),(18,vi ag)]) o ?_ ?_ ?_;have j:=j.cJ bC 55;exact⟨n_,j.sp 7 [6,2,1,0]⟩;rintro hm ag al s' _ w hk⟨a1,O,rfl,j⟩o;refine BY<|Yr<|q_ o λa2 a3 o=>IT 2 j FT a3 λba j=>Yk 0 a2 j Ae λbb j=>YN j Ns.z λbc w j=>?_;refine YH 0 j 1 zr Ae λw j=>?_;refine IS<|mv v0<|YA 0 j zr Ae λbf j=>?_;refine q_ o λah a4 o=>Yv (fO Tryz.func33) (DT N (i0:=4) (i1:=0) j zr zr a4) λai w j=>Y_ (i:=0) (l:=ah) zt zr j zr zr q6<|aX 0<|AI<|Zq E V (λ(ar:Z bC)(au:aW)=>[rd v0 p0,mp ad aa,rd af p1.cR,own 55 ai ah,own 55 au ar]) (λ_ au=>[(0,v0),(5,ad),(6,au),(16,af),(17,vi p1.cR.length),(18,vi ag)]) (λaj _ _=>[(24,ai),(25,vi ah.length),(26,vi aj)]) o ?_ ?_ ?_;exact⟨a1,j.sp 9 [5,6,7,0,8]⟩;rintro hm aj ar s' _ w hk⟨aw,O,rfl,j⟩o;refine BY<|Yr<|q_ o λab ax o=>YG 3 j zr zr n8 ax<|Zv 3 j ax ij λbg j=>?_;refine YN j tN.z λbh w j=>?_;refine YH 0 j 1 zr ij λw j=>?_;refine IS<|mv ad<|YA 0 j zr ij λbj j=>Z6 4 ab zr j zr (ve 0 j) zr RG<|mv (.tuple #[vi<|fP aa ab (0:Int),vb<|k9 aa ab])<|Y4 (vi<|fP aa ab (0:Int))<|Y4 (vb<|k9 aa ab)<|aH (fP aa ab (0:Int))<|bV (k9 aa ab) ?_;refine IS<|eV (k9 aa ab)<|YU (k9 aa ab)<|AI<|q_ o λav hj o=>Yo (λ(av:Z bC)U w=>∃ak:aW,SH E V [(0,v0),(5,ad),(6,ak),(16,af),(17,vi p1.cR.length),(18,vi ag),(24,ai),(25,vi ah.length),(26,vi aj)] [rd v0 p0,mp ad aa,rd af p1.cR,own 55 ai ah,own 55 ak av] U w) av ?_ ?_;refine cW hj (λhj=>?_) λhj=>?_;refine IN<|mv aw<|YA 1 j zr ij λa5 j=>YR ([ab]:Z bC) j [a5] n8 tN (λM hs g=>⟨(g.sat 0 _ zr).1,zt⟩) λbk w j=>?_;have j:=j.freeze 0;refine q_ hj λbl a6 hj=>YT 9 0 j zB a6 λay w j=>?_;exact dG ay<|By<|oi hj▸⟨rfl,ay,j.sp 10 [5,6,7,8,9]⟩;exact YB<|oi hj▸⟨rfl,aw,j.sp 8 [3,4,5,6,7]⟩;rintro _ w⟨ak,O,rfl,j⟩;exact bE<|aC<|IN<|YL hk hm<|aX ((aj+1:Nat):Int)<|By<|oi o▸⟨rfl,ak,j.sp 5 [0,1,2,3,4]⟩;rintro ar _ w o⟨a7,O,rfl,j⟩;exact bE<|aC<|IN<|YL hk hm<|aX ((ag+1:Nat):Int)<|By<|oi o▸⟨rfl,a7,j.sp 5 [0,1,2,4]⟩;rintro al _ w o⟨az,O,rfl,j⟩;refine aC<|w_<|mv az<|dG az<|AI<|Yj ?_;obtain rfl:=oi o;exact bL<|j.pk 4 [3]
def q9{p0:Z eQ}{p1:bC}{p2:eQ->bC->aV Int}{res:Int×Bool}(o:Holds E w V)(h0:V[i0]? =some (rd v0 p0))(h1:V[i1]? =some (rd v1 p1))(h2:Pk bK E V v2 p2 (λ(r:Int)=>Value.int .i64 r))(hb:hZ N p0 p1 p2=some res):c_ 34 [v0,v1,v2] w<|eX E V res:=by
 unfold hZ at hb;refine enter Tryz.func34 zr zr ?_;have o:=(o.dup (i0+0) h0).dup (i1+1) h1;refine w_<|YC 0 v1 o zr λae w o=>?_;refine aH 0<|bV false<|IS<|mv v0<|S_ 2 p0 o Ie<|aH (p0.length:Int)<|IS<|aX (p0.length:Int)<|aH 0<|aH (p0.length:Int)<|OF<|Zx E V (λ(j:Int×Int)=>[rd v0 p0,bx 55 ae p1]) (λj=>[(0,v0),(2,v2),(4,vp ae 0),(8,vi p0.length),(9,vi j.1)]) (λj=>[(10,vi j.2)]) hb ?_ ?_ ?_;exact o.sp 3 [2,0];rintro j fl _ w⟨O,rfl,o⟩hb;refine BY<|w_<|aX j.1<|aX j.2<|ic j.1 j.2<|AI<|cW hb (λhb=>?_) λhb=>?_;refine Zi<|Yr<|aX j.1<|aX j.2<|W_ j.1 j.2<|ZM (cE<|j.1+j.2) ⟨_,L9⟩ Fg<|ZQ (v':=(.int .u64 1)) (.int .u64<|wrap .u64<|cE<|j.1+j.2) (.int .u64<|Int.fdiv (wrap .u64<|cE<|j.1+j.2) 2) zt zr zr zr<|ZM (Int.fdiv (wrap .u64<|cE<|j.1+j.2) 2) ⟨_,Fg⟩ L9<|aH (cE<|Int.fdiv (wrap .u64<|cE<|j.1+j.2) 2) ?_;refine OF<|Y8 mixed [0,0,0,0,0,0,2,0] [0,1,2,3,4,5,6,7] ?_;have o:=o.drew;refine Yn zr zr<|mv v2<|bA zr<|mv v0<|bA zr<|aX (cE<|Int.fdiv (wrap .u64<|cE<|j.1+j.2) 2)<|bA zr ?_;refine q_ hb λai aj hb=>IT 0 o DC aj λau o=>bA zr<|Yk 0 ai o t7 λav o=>bA zr<|YA 3 o zr ij λaw o=>o9 zr<|q_ hb λak al hb=>ZG 1 0 zt o h2 5 al λw o=>sS zr<|ic ak 0<|Yq<|YM<|aC<|q_ hb λaf hj hb=>Yo (λ(af:Int×Int)=>SH E V [(0,v0),(2,v2),(4,vp ae 0),(8,vi p0.length),(9,vi af.1),(10,vi af.2)] [rd v0 p0,bx 55 ae p1]) af ?_ ?_;refine cW hj (λhj=>?_) λhj=>?_;refine IN<|aX (cE<|Int.fdiv (wrap .u64<|cE<|j.1+j.2) 2)<|W_ (cE<|Int.fdiv (wrap .u64<|cE<|j.1+j.2) 2) 1<|aH (cE<|cE (Int.fdiv (wrap .u64<|cE<|j.1+j.2) 2)+1)<|By ?_;exact oi hj▸⟨rfl,o.sp 5 [3,4]⟩;refine IN<|aX (cE<|Int.fdiv (wrap .u64<|cE<|j.1+j.2) 2)<|aH (cE<|Int.fdiv (wrap .u64<|cE<|j.1+j.2) 2)<|By ?_;exact oi hj▸⟨rfl,o.sp 5 [3,4]⟩;rintro _ w⟨O,rfl,o⟩;exact bE<|oi hb▸⟨rfl,o.sp 2 [0,1]⟩;exact YD<|oi hb▸⟨rfl,o.sp 2 [0,1]⟩;rintro j _ w hb⟨O,rfl,o⟩;refine aC<|BY<|q_ hb λag hj hb=>Yo (λ(ag:Bool)=>SH E V [(6,vi j.1),(7,vb ag)] []) ag ?_ ?_;refine Y8 mixed [1,0,0,0,0,0,0,0,0,0,0,2,0,0,0,0] [0,1,2,3,4,5,6,7,8,9,10,11,12,13,14,15] ?_;have o:=o.drew;refine YE (vi j.1) zr (λw=>U_ (vi j.1) zt Yz)<|Yn zr zr<|aX j.1<|bA zr<|aX (p0.length:Int)<|bA zr<|ic j.1 ((p0.length:Int))<|bA zr<|eV (decide<|j.1<(p0.length:Int)) ?_;refine Yq<|eE hj (λaa hj=>?_) λaa hj=>?_;refine Yn zr zr<|U_ v2 (cg aa)<|bA zr<|U_ v0 (cg aa)<|bA zr<|U_ (vi j.1) (cg aa)<|bA zr<|q_ hj λan ao hj=>IT (hg:=cg aa) 0 o DC ao λax o=>bA zr<|Yk (hg:=cg aa) 0 an o t7 λay o=>bA zr<|YA (hg:=cg aa) 3 o zr ij λaz o=>o9 zr ?_;refine q_ hj λah aq hj=>ZG 1 0 (cg aa) o h2 5 aq λw o=>sS zr<|Y6 ah 0 (cg aa)<|bA zr<|eI aa (vb<|ah==0)<|bA zr<|aH j.1<|bA zr<|bV (ah==0)<|Yq<|YM ?_;exact oi hj▸⟨rfl,o.sp 5 []⟩;refine Yn zr zr<|bB aa<|bA zr<|bB aa<|bA zr<|bB aa<|bA zr<|bB aa<|bA zr<|bB aa<|bA zr<|bB aa<|o9 zr<|bB aa<|sS zr<|bB aa<|bA zr<|eI aa (vb false) ?_;exact bA zr<|aH j.1<|bA zr<|bV false<|Yq<|YM<|oi hj▸⟨rfl,o.sp 2 []⟩;rintro _ w⟨O,rfl,o⟩;exact aC<|Yj<|oi hb▸s8 ⟨rfl,o.drop 0⟩
def BW{p0:eQ}{p1:bC}(j:Holds E w V)(h0:V[i0]? =some (rd v0 p0))(h1:V[i1]? =some (rd v1 p1))(o:kq N p0 p1=some res):c_ 35 [v0,v1] w<|aD E V res:=by
 unfold kq at o;refine enter Tryz.func35 zr zr ?_;have j:=(j.dup (i0+0) h0).dup (i1+1) h1;refine w_<|YC 1 v0 j zr λae w j=>?_;have j:=j.kp (i:=0) rfl;refine YC 1 v1 j zr λaf w j=>?_;have j:=j.kp (i:=0) rfl;refine aH 0<|OF<|Y8 mixed [0,2,1,2,0] [0,2,1,3,4] ?_;have j:=j.drew;refine Yn zr zr<|Yk 1 p0 j t7 λag j=>Yq<|ZD p1 1 zr zt j ij λah a35 ai j=>Y5 zr zr<|q_ o λaj aa o=>Yv N9 (mS N (i0:=2) j zr aa) λak w j=>YV (⟨zt,j.je 1⟩)<|Y5 zr zr<|q_ o λab ad o=>Yi Rz (lW N (i0:=0) (i1:=2) j zr zr ad) λw j=>YV (⟨zt,j.je 1⟩)<|Yn zr zr<|aH ab<|Yq ?_;have j:=j.pl 8 [0,2,3,4,5,6,7] rfl;exact YM<|aC<|Yj<|oi o▸bL ⟨rfl,j.drop 7⟩
def xx{p0:lj}{p1:bC}(o:Holds E w V)(h0:V[i0]? =some (rd v0 p0))(h1:V[i1]? =some (rd v1 p1))(hb:oU N p0 p1=some res):c_ 12 [v0,v1] w<|aD E V res:=by
 unfold oU at hb;refine enter Tryz.func12 zr zr ?_;have o:=(o.dup (i0+0) h0).dup (i1+1) h1;refine w_<|YC 1 v0 o zr λaf w o=>?_;refine YC 1 v1 o zr λag w o=>?_;refine aH 0<|IS<|AT zr ot<|Yt 1 o zr kY ym λah o=>YA 1 o zr ij λai o=>?_;refine q_ hb λaa ad hb=>Yi (fO Tryz.func34) (q9 N (i0:=1) (i1:=0) o rfl rfl ⟨35,[],rfl,(fO Tryz.func35),λw Γl v v' y0 y1 r i j o hi hj hr=>by exact iO (BW N (i0:=i) (i1:=j) o hi hj hr) λ_ _ h=>h⟩ ad) λw o=>mv (.tuple #[vi aa.1,vb aa.2])<|Y4 (vi aa.1)<|Y4 (vb aa.2)<|aH aa.1<|bV aa.2<|OF<|w_<|eV aa.2 ?_;refine YU aa.2<|AI<|cW hb (λhb=>?_) λhb=>?_;exact w_<|aH (-1)<|AI<|YF<|oi hb▸bL ⟨rfl,o.drop 6⟩;exact Y7<|aX aa.1<|aH aa.1<|AI<|Yj<|oi hb▸bL ⟨rfl,o.drop 6⟩
def yx{res:Z bC}(j:Holds E w V)(hb:lK N p1=some res):c_ 85 [n_,vi p1] w<|nS E V res:=by
 unfold lK at hb;refine enter Tryz.func85 zr zr<|w_<|dG n_<|OF<|w_<|aX p1<|ic p1 0<|AI<|cW hb (λhb=>?_) λhb=>?_;cases hb;refine Ys<|w_<|aX p1<|mv n_<|ac5 zt zr zr q6<|mv n_<|Z1 (m:=0) zt zr zr q6<|W_ ((0:Nat):Int) ((0:Nat):Int)<|W_ p1 (cE<|((0:Nat):Int) -((0:Nat):Int)) ?_;refine aH (cE<|p1 -(cE<|((0:Nat):Int) -((0:Nat):Int)))<|IS<|aX (cE<|p1 -(cE<|((0:Nat):Int) -((0:Nat):Int)))<|ic (cE<|p1 -(cE<|((0:Nat):Int) -((0:Nat):Int))) 0<|AI ?_;refine q_ hb λad o hb=>Yo (λ(ad:Z bC)U w=>∃ab:aW,SH E V [(0,ab)] [own 55 ab ad] U w) ad ?_ ?_;refine cW o (λo=>?_) λo=>?_;refine IN<|mv n_<|mv n_<|ac5 zt zr zr q6<|ae0 bC zt zr zr n8 (.inr ⟨rfl,zr⟩) (.inl zr) zr zr<|aX (cE<|p1 -(cE<|((0:Nat):Int) -((0:Nat):Int)))<|q_ o λah af o=>ae_ (k:=cE<|p1 -(cE<|((0:Nat):Int) -((0:Nat):Int))) zt zr j zr zr zB L9 WJ af λai w j=>?_;exact mv n_<|Z1 (m:=0) zt zr zr q6<|q_ o λaj ag o=>aa4 0 zr j zr zr n8 (.inr ⟨rfl,zr⟩) ag λae j=>dG ae<|By<|oi o▸⟨rfl,ae,j.sp 1 [0]⟩;refine YB ?_;obtain rfl:=oi o;have j:=j.cJ bC 55;exact⟨rfl,n_,j.sp 1 [0]⟩;rintro _ w⟨ab,O,rfl,j⟩;refine aC<|w_<|mv ab<|dG ab<|AI<|Yj ?_;obtain rfl:=oi hb;exact bL<|j.pk 1 [0]
def AF{p0:Z (Z bC)}{res:Z bC}(j:Holds E w V)(h0:V[i0]? =some (rd v0 p0))(o:m7 N p0=some res):c_ 39 [v0] w<|nS E V res:=by
 unfold m7 at o;refine enter Tryz.func39 zr zr ?_;have j:=j.dup (i0+0) h0;refine w_<|dG n_<|IS<|aH 0<|OF<|w_<|mv v0<|S_ 0 p0 j IL<|aX 0<|AI<|ZI E V (λ(aa:Int)=>[rd v0 p0]) (λaa=>[(0,v0),(3,vi aa)]) (λad _=>[(9,v0),(10,vi p0.length),(11,vi ad)]) o ?_ ?_ ?_;exact j.sp 1 [0];rintro hm ad aa s' _ w hk⟨O,rfl,j⟩o;refine BY<|Yr<|q_ o λab aq o=>IT 0 j DD aq λay j=>Yk 0 ab j qZ λaj j=>dG aj<|IS<|aX aa<|mv aj<|S_ 0 ab j q6<|W_ aa (ab.length:Int)<|aH (cE<|aa+(ab.length:Int)) ?_;refine IS<|aX (cE<|aa+(ab.length:Int))<|ic (cE<|aa+(ab.length:Int)) 0<|AI<|cW o (λo=>?_) λo=>?_;cases o;exact YB<|bE<|aC<|IN<|YL hk hm<|aX ((ad+1:Nat):Int)<|By<|oi o▸⟨rfl,j.sp 3 [2]⟩;rintro aa _ w o⟨O,rfl,j⟩;refine aC<|w_<|aX aa<|q_ o λaz ar o=>Yv (fO Tryz.func85) (yx N (p1:=aa) j ar) λak w j=>dG ak<|OF<|w_<|mv v0<|S_ 1 p0 j IL<|aX 0<|AI<|Zq E V (λ(ag:Z bC)(ah:aW)=>[rd v0 p0,own 55 ah ag]) (λ_ ah=>[(6,ah)]) (λai _ _=>[(25,v0),(26,vi p0.length),(27,vi ai)]) o ?_ ?_ ?_;exact⟨ak,j.sp 2 [1,0]⟩;rintro hm ai ag s' _ w hk⟨au,O,rfl,j⟩o;refine BY<|Yr<|q_ o λav aw o=>IT 0 j DD aw λa0 j=>Yk 0 av j qZ λal j=>dG al<|AI<|IN<|mv au<|mv al<|q_ o λa1 ax o=>YT 3 0 j zB ax λan w j=>?_;exact dG an<|By<|bE<|aC<|IN<|YL hk hm<|aX ((ai+1:Nat):Int)<|By<|oi o▸⟨rfl,an,j.sp 4 [2,3]⟩;rintro ag _ w o⟨ao,O,rfl,j⟩;refine aC<|w_<|mv ao<|dG ao<|AI<|Yj ?_;obtain rfl:=oi o;exact bL<|j.pk 2 [1]
def BX(E:aY)(V:Z HP)(b0:Nat)(d_ f_:aW)(a_ b_:aW)(h_ e_:aW)(g_ i_:aW)(s_ p_:aW)(l_ m_:aW)(res:Z bC)(v:aW)(w:aY):Prop:=Holds E w<|[own 55 v res,bc 69 b0 [d_,f_,a_,b_,h_,e_,g_,i_,s_,p_,l_,m_]]++V
def AG{t_:Z (Z aJ)}{x_:Z aJ}{j_:Z cL}{o_:Z eQ}{A_:Z Int}{p1:Net}{res:Z bC}(o:Holds E w (bc 69 b0 [d_,f_,a_,b_,h_,e_,g_,i_,s_,p_,l_,m_]::rd d_ t_::rd f_ x_::rd a_ j_::rd b_ o_::rd l_ A_::V))(h1:V[i1]? =some (rd v1 p1))(hb:m8 N t_ x_ j_ o_ A_ p1=some res):c_ 15 [vp b0 0,v1] w<|BX E V b0 d_ f_ a_ b_ h_ e_ g_ i_ s_ p_ l_ m_ res:=by
 unfold m8 at hb;refine enter Tryz.func15 zr zr ?_;have o:=o.dup (i1+6) h1;refine w_<|YC 0 v1 o zr λbn w o=>?_;refine dG n_<|IS<|dG n_<|IS<|ZS (κ:=Int) (ν:=Int) o λaq w o=>dG aq<|OF<|w_<|AT zr qN<|Yt 1 o zr lP qZ λaw o=>S_ 0 p1.aT o q6<|aX 0<|AI<|Z9 E V (λ(ag:Z (Z bC)×Z (Int×Int))(a3:aW)(us125:Z RV)=>[bc 69 b0 [d_,f_,a_,b_,h_,e_,g_,i_,s_,p_,l_,m_],rd d_ t_,rd f_ x_,rd a_ j_,rd b_ o_,rd l_ A_,mp aq ag.2,rd aw p1.aT,own 39 a3 us125,gU (XS 55 bC) us125 ag.1 none]) (λ_ a3 _=>[(0,vp b0 0),(5,a3)]) (λax _ _ _=>[(6,aq),(15,aw),(16,vi p1.aT.length),(17,vi ax)]) hb ?_ ?_ ?_;have o:=(o.A9<|XS 55 bC).cJ RV 39;exact⟨n_,([]:Z RV),o.sp 12 [6,7,8,9,10,11,3,2,0,1]⟩;rintro hm ax ag s' _ w hk⟨az,us129,O,rfl,o⟩hb;refine BY<|Yr<|q_ hb λar bb hb=>IT 7 o n8 bb λbo o=>Yk 0 ar o ij λbp o=>YN o tN.z λa0 w o=>?_;refine YH 0 o 1 zr ij λw o=>?_;refine OF<|Y8 mixed [0,0,0,0,0,2,0] [0,1,2,3,4,5,6] ?_;have o:=o.drew;refine Yn zr zr<|mv (vp b0 0)<|bA zr<|YJ zt zr zr<|bA zr<|AT zr yn<|bA zr<|ac8 (cs:=[d_,f_,a_,b_]) 3 zt zr o zr zr zy zr zr<|bA zr<|YA 0 o zr ij λbq o=>o9 zr ?_;have o:=o.Gn (cs:=[d_,f_,a_,b_]) (x:=(⟨t_,x_,j_,o_⟩:lj)) (λM hs g=>⟨[d_],[f_,a_,b_],rfl,o5 (g.sat 5 _ rfl).1,⟨[f_],[a_,b_],rfl,o5 (g.sat 6 _ rfl).1,⟨[a_],[b_],rfl,o5 (g.sat 7 _ rfl).1,o5 (g.sat 8 _ rfl).1⟩⟩⟩) rfl;refine q_ hb λa1 bf hb=>Yi U6 (xx N (i0:=0) (i1:=1) o zr zr bf) λw o=>sS zr<|aH a1<|Yq<|YM<|aC<|BY<|w_<|aX a1<|ic a1 0<|AI<|cW hb (λhb=>?_) λhb=>?_;exact YD<|En<|aC<|IN<|YL hk hm<|aX ((ax+1:Nat):Int)<|By<|oi hb▸⟨rfl,az,us129,o.sp 15 [5,6,7,8,9,10,11,12,13,14]⟩;refine Y7<|mv (vp b0 0)<|YJ zt zr zr<|AT zr Mw<|Yy 5 l_ o gF<|aX a1<|q_ hb λah bg hb=>IT 10 o eR bg λbr o=>Yu ah 0 o cT<|aH ah<|IS<|mv aq<|aX ah<|Z6 12 ah zr o zr zr zr GF<|mv (.tuple #[vi<|fP ag.2 ah (0:Int),vb<|k9 ag.2 ah])<|Y4 (vi<|fP ag.2 ah (0:Int)) ?_;refine Y4 (vb<|k9 ag.2 ah)<|aH (fP ag.2 ah (0:Int))<|bV (k9 ag.2 ah)<|OF<|w_<|eV (k9 ag.2 ah)<|YU (k9 ag.2 ah)<|eV (!(k9 ag.2 ah))<|Yp (vi ah) zr zr gm ?_;refine Yp (vb<|decide<|ah<0) zr zr (Au .lss)<|YP (b:=(!(k9 ag.2 ah))) (v:=vb<|(!(k9 ag.2 ah))||decide (ah<0)) zt zr zr (qI true)<|AI<|q_ hb λaa hj hb=>Yo (λ(aa:Z (Z bC)×Z (Int×Int)×Int)U w=>∃(an:aW)(us143:Z RV),SH E V [(0,vp b0 0),(5,an),(6,aq),(8,vp a0 0),(11,vi aa.2.2),(15,aw),(16,vi p1.aT.length),(17,vi ax)] [bc 69 b0 [d_,f_,a_,b_,h_,e_,g_,i_,s_,p_,l_,m_],rd d_ t_,rd f_ x_,rd a_ j_,rd b_ o_,rd l_ A_,mp aq aa.2.1,bx 55 a0 ar,rd aw p1.aT,own 39 an us143,gU (XS 55 bC) us143 aa.1 none] U w) aa ?_ ?_;refine cW hj (λhj=>?_) λhj=>?_;refine w_<|mv az<|ZO 14 15 ag.1 o IL<|aH (ag.1.length:Int)<|IS<|mv aq<|aX ah<|aX (ag.1.length:Int) ?_;have o:=o.sc Int (ag.1.length:Int);refine ZT 13 0 ah o zr zr zr zr GF λw o=>AI<|IN<|mv az ?_;have o:=(o.cJ bC 55).Fe (i:=0) rfl;refine YR ([rv<|.slice none 0 0]:Z RV) o [n_] DD U7 (λM hs g=>⟨(g.sat 0 _ zr).1,zt⟩) λbt w o=>?_;obtain⟨bu,bh,hj⟩:=bd hj;have o:=o.freeze 0;refine aa5 18 0 19 2 zr o zr zr zr zr zr zr Sx bh λa8 w o=>?_;refine dG a8<|By ?_;obtain rfl:=oi hj;exact⟨rfl,a8,us129++[rv<|.slice none 0 0],o.sp 20 [10,11,12,13,14,15,16,7,17,18,19]⟩;exact YB<|oi hj▸⟨rfl,az,us129,o.sp 16 [6,7,8,9,10,11,12,3,13,14,15]⟩;rintro _ w⟨an,us143,O,rfl,o⟩;refine aC ?_;obtain⟨bw,a2,hb⟩:=bd hb;obtain⟨av,bj,hb⟩:=bd hb;refine q_ hb λbz a4 hb=>Zt E V mixed [1,1,1,1,0,0,0,0,0,0,0] [6,7,8,10] (λ(x:aW×aW×aW)=>(λal aj af=>[(0,56,an),(1,57,vi aa.2.2),(2,58,an),(3,59,vi aa.2.2),(4,60,B3 an (Int.toNat aa.2.2) 1 0),(5,61,(us143.getD (Int.toNat aa.2.2) Ba).v),(6,62,al),(7,63,aj),(8,64,af),(9,65,B3 an (Int.toNat aa.2.2) 1 0)]) x.1 x.2.1 x.2.2) [(0,vp b0 0),(5,an),(6,aq),(8,vp a0 0),(11,vi aa.2.2),(15,aw),(16,vi p1.aT.length),(17,vi ax)] [] (λ(D:Nat->Bool)(x:aW×aW×aW)=>(λal aj af=>[bif D 0 then rd al ar else bJ,bif D 2 then rd aj ([ar]:Z bC)else(bif D 1 then own 55 aj ([ar]:Z bC)else bJ),bif D 3 then bJ else(bif D 2 then own 55 af av else bJ),bc 69 b0 [d_,f_,a_,b_,h_,e_,g_,i_,s_,p_,l_,m_],rd d_ t_,rd f_ x_,rd a_ j_,rd b_ o_,rd l_ A_,mp aq aa.2.1,bx 55 a0 ar,rd aw p1.aT,bif D 3 then own 39 an (us143.set (Int.toNat aa.2.2)<|rv af)else own 39 an us143,bif D 3 then gU (XS 55 bC) (us143.set (Int.toNat aa.2.2)<|rv af) (aa.1.set (Int.toNat aa.2.2) av) none else(bif D 2 then gU (XS 55 bC) us143 aa.1 (some<|Int.toNat aa.2.2)else gU (XS 55 bC) us143 aa.1 none)]) x.1 x.2.1 x.2.2) (λx=>by kernel_rfl) ?_ ⟨λ_=>jh gn,λ_=>jh gn,λ_=>jh gn,λ_=>jh gn,?_,?_,?_,?_,?_,?_,?_,trivial⟩ ?_;have o:=(((o.drew).bJ).bJ).bJ;exact⟨(undef,undef,undef),eH.none,Jw zr,zt,o⟩;rintro D U w hD ak ad⟨⟨al,aj,af⟩,hv,ha,_,o⟩;obtain⟨O,rfl⟩:=hv.o2 2 3 ak;have o:=((o.bZ 12<|nh ad hD 10).bZ 13<|nh ad hD 10).bZ 13<|nf<|λh=>ft hD<|(ad 5 _ rfl<|(ad 8 _ rfl h).1 rfl).1 rfl;have hl161:=o.dZ 13;have hr162:=eU Ba hl161 a2;refine YG 12 o zr zr DD hr162 ?_;have o:=(o.eD 12 (D 10) (nh ad hD 10)<|own 39 an<|us143.set (Int.toNat aa.2.2)<|rv af).eD 13 (D 8) (nf<|λh=>ft hD<|(ad 5 _ rfl<|(ad 8 _ rfl h).1 rfl).1 rfl)<|gU (XS 55 bC) us143 aa.1<|some<|Int.toNat aa.2.2;have o:=o.eD 13 (D 10) (nh ad hD 10)<|gU (XS 55 bC) (us143.set (Int.toNat aa.2.2)<|rv af) (aa.1.set (Int.toNat aa.2.2) av) none;exact Yl (al,aj,af) 4 hv ha o;rintro D U w hD ak ad⟨⟨al,aj,af⟩,hv,ha,_,o⟩;obtain⟨O,rfl⟩:=hv.o1 4 ak;have o:=((o.bZ 12<|nh ad hD 10).bZ 13<|nh ad hD 10).bZ 13<|nh ad hD 8;have hl163:=o.dZ 13;have hr164:=eU Ba hl163 a2;refine ZZ 12 13 aa.2.2 (zh 55 bC) Ba o (sR 12 o hr164 0) zr zr a2 qZ ?_;have o:=(o.eD 12 (D 10) (nh ad hD 10)<|own 39 an<|us143.set (Int.toNat aa.2.2)<|rv af).eD 13 (D 8) (nh ad hD 8)<|gU (XS 55 bC) us143 aa.1<|some<|Int.toNat aa.2.2;have o:=o.eD 13 (D 10) (nh ad hD 10)<|gU (XS 55 bC) (us143.set (Int.toNat aa.2.2)<|rv af) (aa.1.set (Int.toNat aa.2.2) av) none;exact Yl (al,aj,af) 5 hv ha o;rintro D U w hD ak ad⟨⟨al,aj,af⟩,hv,ha,_,o⟩;obtain⟨O,rfl⟩:=ha.uR;have o:=o.bZ 0 hD;refine YA 10 o zr ij λbk o=>?_;have o:=o.nw 0;exact Yl (bk,aj,af) 6 hv ha o;rintro D U w hD ak ad⟨⟨al,aj,af⟩,hv,ha,_,o⟩;obtain⟨O,rfl⟩:=hv.o1 6 ak;have o:=((o.dY 0<|ak.1 rfl).bZ 1<|nh ad hD 8).bZ 1 hD;refine YR ([ar]:Z bC) o [al] n8 tN (λM hs g=>⟨(g.sat 0 _ zr).1,zt⟩) λa9 w o=>?_;have o:=(((o.pl 15 [1,0,3,4,5,6,7,8,9,10,11,12,13,14] rfl).cU 0 (D 6) (ak.1 rfl) bJ).cU 1 true rfl bJ).eD 1 (D 8) (nh ad hD 8)<|rd a9 ([ar]:Z bC);exact Yl (al,a9,af) 7 hv ha o;rintro D U w hD ak ad⟨⟨al,aj,af⟩,hv,ha,_,o⟩;obtain⟨O,rfl⟩:=hv.o2 5 7 ak;have o:=(((((((o.bZ 1 hD).dY 1<|ak.2.1 rfl).bZ 2<|nh ad hD 10).bZ 2 hD).bZ 12<|nh ad hD 10).bZ 13<|nh ad hD 10).bZ 13 hD).Cu (j:=13) (jj:=aa.2.2) (zh 55 bC) Ba rfl a2;have o:=o.freeze 2;refine YT 0 2 o zB bj λa5 w o=>?_;have o:=((((o.pl 15 [1,2,0,4,5,6,7,8,9,10,11,12,13,14] rfl).cU 1 true rfl (bif D 7 then own 55 aj ([ar]:Z bC)else bJ)).cU 2 true rfl bJ).eD 2 (D 10) (nh ad hD 10) bJ).eD 12 (D 10) (nh ad hD 10)<|own 39 an<|us143.set (Int.toNat aa.2.2)<|rv a5;have o:=(o.cU 13 true rfl<|gU (XS 55 bC) us143 aa.1 none).eD 13 (D 10) (nh ad hD 10)<|gU (XS 55 bC) (us143.set (Int.toNat aa.2.2)<|rv a5) (aa.1.set (Int.toNat aa.2.2) av) none;exact Yl (al,aj,a5) 8 hv ha o;rintro D U w hD ak ad⟨⟨al,aj,af⟩,hv,ha,_,o⟩;obtain⟨O,rfl⟩:=hv.o2 0 1 ak;have o:=((o.bZ 12<|nh ad hD 10).bZ 13<|nh ad hD 10).dY 13<|ak.2.2.2.2.2.2.2.2.2.2.1 rfl;have hl168:=o.dZ 13;have hr169:=eU Ba hl168 a4;refine YG 12 o zr zr DD hr169 ?_;have o:=((o.eD 12 (D 10) (nh ad hD 10)<|own 39 an<|us143.set (Int.toNat aa.2.2)<|rv af).cU 13 (D 8) (ak.2.2.2.2.2.2.2.2.2.2.1 rfl)<|gU (XS 55 bC) us143 aa.1 none).eD 13 (D 10) (nh ad hD 10)<|gU (XS 55 bC) (us143.set (Int.toNat aa.2.2)<|rv af) (aa.1.set (Int.toNat aa.2.2) av) none;exact Yl (al,aj,af) 9 hv ha o;rintro D U w hD ak ad⟨⟨al,aj,af⟩,hv,ha,_,o⟩;obtain⟨O,rfl⟩:=hv.o2 9 8 ak;have o:=((((o.bZ 2 hD).dY 2<|ak.2.1 rfl).bZ 12 hD).bZ 13 hD).dY 13<|ak.2.1 rfl;have hl170:=o.dZ 13;have hr171:=eU Ba hl170 a4;refine ZY 12 13 2 aa.2.2 (zh 55 bC) Ba o zr (sR 12 o hr171 0) zr zr zr a4 qZ λw o=>?_;have o:=((o.cU 2 true rfl (bif D 8 then own 55 af av else bJ)).cU 12 true rfl<|own 39 an us143).cU 13 true rfl (bif D 8 then gU (XS 55 bC) us143 aa.1 (some<|Int.toNat aa.2.2)else gU (XS 55 bC) us143 aa.1 none);exact Zu (al,aj,af) hv ha o;rintro D U w ay⟨⟨al,aj,af⟩,hv,ha,_,o⟩;simp only[List.getD_cons_zero,List.getD_cons_succ,ay 6 (by decide),ay 8 (by decide),ay 10 (by decide),ay 10 (by decide),ay 10 (by decide),aO]at o;obtain⟨O,rfl⟩:=ha.uR;refine bE<|aC<|IN<|YL hk hm<|aX ((ax+1:Nat):Int)<|By ?_;obtain rfl:=oi hb;exact⟨rfl,an,us143.set (Int.toNat aa.2.2)<|rv af,o.sp 14 [3,4,5,6,7,8,9,11,12,13]⟩;rintro ag _ w hb⟨ba,us127,O,rfl,o⟩;refine aC<|BY<|w_<|mv ba<|ZO 8 9 ag.1 o IL<|ic ((ag.1.length:Int)) 2<|AI<|cW hb (λhb=>?_) λhb=>?_;refine w_<|dG n_<|AI<|YF ?_;obtain rfl:=oi hb;have o:=o.cJ bC 55;exact bL<|o.pk 11 [0,1];refine Y7<|mv ba ?_;have o:=o.Bb (X:=XS 55 bC) (b:=9) (j:=8) rfl (λM h u x cs=>(Nj 55) M h u x cs) rfl rfl (by decide);have o:=o.freeze 8;refine q_ hb λb2 bl hb=>Yv (fO Tryz.func39) (AF N (i0:=8) o zr bl) λbm w o=>dG bm<|AI<|Yj ?_;obtain rfl:=oi hb;exact bL<|o.pk 11 [0,1]
def zN(E:aY)(V:Z HP)(a_:aW)(j_:Z (bC×Int))(b_:aW)(o_:Z (bC×Bool))(res:Z cD×Z bC×Bool)(v:aW)(w:aY):Prop:=∃u0 u1:aW,v = .tuple #[u0,u1,vb res.2.2]/\Holds E w ([own 9 u0 res.1,own 55 u1 res.2.1,mp a_ j_,mp b_ o_]++V)
def yy [Nd E]{V:Z HP}{i0_0:Nat}{d_:aW}{t_:Z Part}{i0_1:Nat}{f_:aW}{x_:Z Net}{a_:aW}{j_:Z (bC×Int)}{b_:aW}{o_:Z (bC×Bool)}{i1:Nat}{v1:aW}{p1:bG}{res:Z cD×Z bC×Bool}(o:Holds E w (mp a_ j_::mp b_ o_::V))(h0_0:V[i0_0]? =some (rd d_ t_))(h0_1:V[i0_1]? =some (rd f_ x_))(h1:V[i1]? =some (rd v1 p1))(hb:lL N t_ x_ j_ o_ p1=some res):Calls bK 16 [(.agg ([d_,f_,a_,b_]:Z aW).toArray),v1].toArray w (eT<|zN E V a_ j_ b_ o_ res):=by
 unfold lL at hb;refine enter Tryz.func16 zr zr ?_;have o:=((o.dup (i0_0+2) h0_0).dup (i0_1+3) h0_1).dup (i1+4) h1;refine w_<|Z8 [d_,f_,a_,b_] zr o zr (xd.all (⟨mC 2 o,mC 1 o,zZ 3 o,zZ 4 o,zt⟩:xd [d_,f_,a_,b_])) λal w o=>?_;refine YC 1 v1 o zr λa2 w o=>?_;refine dG n_<|dG n_<|bV false<|IS<|ZS (κ:=cD) (ν:=Bool) o λae w o=>dG ae<|IS<|dG n_<|IS<|aH 0<|OF<|w_<|AT zr CG<|Yt 1 o zr Cy qZ λan o=>S_ 0 p1.aT o q6<|aX 0<|AI<|Zq E V (λ(ab:Z (cD×Bool)×Z bC×Int)(ag:aW)=>[rd d_ t_,rd f_ x_,mp a_ j_,mp b_ o_,bc 52 al [d_,f_,a_,b_],mp ae ab.1,rd an p1.aT,own 55 ag ab.2.1]) (λab ag=>[(0,(.agg ([d_,f_,a_,b_]:Z aW).toArray)),(7,ae),(8,ag),(9,vi ab.2.2)]) (λaf _ _=>[(2,vp al 0),(16,an),(17,vi p1.aT.length),(18,vi af)]) hb ?_ ?_ ?_;have o:=o.cJ bC 55;exact⟨n_,o.sp 10 [7,6,8,9,4,2,1,0]⟩;rintro hm af ab s' _ w hk⟨aj,O,rfl,o⟩hb;refine BY<|Yr<|q_ hb λad av hb=>IT 6 o n8 av λa3 o=>Yk 0 ad o ij λa4 o=>YN o tN.z λa5 w o=>?_;refine YH 0 o 1 zr ij λw o=>?_;refine OF<|w_<|AT zr PV<|Yy 7 a_ o U8<|YA 0 o zr ij λa6 o=>Z6 6 ad zr o zr (ve 0 o) zr RG<|mv (.tuple #[vi<|fP j_ ad (0:Int),vb<|k9 j_ ad])<|Y4 (vi<|fP j_ ad (0:Int))<|Y4 (vb<|k9 j_ ad) ?_;refine aH (fP j_ ad (0:Int))<|bV (k9 j_ ad)<|IS<|eV (k9 j_ ad)<|AI<|cW hb (λhb=>?_) λhb=>?_;refine IN<|mv ae<|AT zr Tq<|AT zr mJ<|Yy 8 f_ o vX<|aX (fP j_ ad (0:Int))<|q_ hb λao aw hb=>IT 5 o zz aw λa7 o=>Yw 0 o zr wK qX λa8 o=>Yu ao.Name 0 o lI ?_;have o:=o.sc Bool true;refine ZT 12 0 ao.Name o zr zr zr zr U9 λw o=>AI<|IN<|mv aj<|YA 4 o zr ij λax o=>YR ([ad]:Z bC) o [ax] n8 tN (λM hs g=>⟨(g.sat 0 _ zr).1,zt⟩) λa9 w o=>?_;have o:=o.freeze 0;refine q_ hb λba ay hb=>YT 16 0 o zB ay λaq w o=>?_;exact dG aq<|By<|bE<|aC<|IN<|YL hk hm<|aX ((af+1:Nat):Int)<|By<|oi hb▸⟨rfl,aq,o.sp 17 [9,10,11,12,13,14,15,16]⟩;refine w_<|AT zr Mx<|Yy 8 b_ o Tp<|YA 1 o zr ij λbb o=>Z7 8 ad zr o zr (ve 0 o) zr PD<|AI<|cW hb (λhb=>?_) λhb=>?_;refine IN<|aX ab.2.2<|W_ ab.2.2 1<|aH (cE<|ab.2.2+1)<|AI<|IN<|mv aj<|YA 2 o zr ij λaz o=>YR ([ad]:Z bC) o [az] n8 tN (λM hs g=>⟨(g.sat 0 _ zr).1,zt⟩) λbf w o=>?_;have o:=o.freeze 0;refine q_ hb λbg a0 hb=>YT 14 0 o zB a0 λar w o=>?_;exact dG ar<|By<|bE<|aC<|IN<|YL hk hm<|aX ((af+1:Nat):Int)<|By<|oi hb▸⟨rfl,ar,o.sp 15 [7,8,9,10,11,12,13,14]⟩;exact YD<|En<|aC<|IN<|YL hk hm<|aX ((af+1:Nat):Int)<|By<|oi hb▸⟨rfl,aj,o.sp 13 [5,6,7,8,9,10,11,12]⟩;rintro ab _ w hb⟨ak,O,rfl,o⟩;refine aC<|w_<|mv ae<|Yv (fO Tryz.func41) (RR Tryz.lay41 88 114 zr zr o (i:=5) zr) ?_;rintro _ w⟨bh,rfl,o⟩;refine q_ hb λbj a1 hb=>Yv (fO Tryz.func40) (Ik Tryz.lay41 Tryz.lay40 Tryz.lay87 88 9 zr zr (fO Tryz.func87) zr (fO Tryz.func88) ⟨rfl,zr,zr⟩ Cz o (i:=6) (j:=0) zr zr a1) λau w o=>mv ak<|mv ae<|ad9 (i:=7) zt zr o zr zr Va<|aX ab.2.2<|W_ (ab.1.length:Int) ab.2.2<|ic (cE<|(ab.1.length:Int)+ab.2.2) 1<|dG au<|dG ak<|bV (decide<|cE ((ab.1.length:Int)+ab.2.2)>1)<|AI<|Yj ?_;exact oi hb▸V6 zr zr zr zr ⟨au,ak,zr,o.pk 10 [0,9,4,5]⟩
def AH(E:aY)(V:Z HP)(a_:aW)(j_:Z (bC×Int))(b_:aW)(o_:Z (bC×Bool))(res:Bool)(v:aW)(w:aY):Prop:=v= vb res/\Holds E w ([mp a_ j_,mp b_ o_]++V)
def zO{t_:Z Part}{x_:Z Net}{j_:Z (bC×Int)}{o_:Z (bC×Bool)}{p1:bC}{res:Bool}(j:Holds E w (mp a_ j_::mp b_ o_::V))(h0_0:V[i0_0]? =some (rd d_ t_))(h0_1:V[i0_1]? =some (rd f_ x_))(h1:V[i1]? =some (rd v1 p1))(hb:mn N t_ x_ j_ o_ p1=some res):Calls bK 17 [(.agg ([d_,f_,a_,b_]:Z aW).toArray),v1].toArray w (eT<|AH E V a_ j_ b_ o_ res):=by
 unfold mn at hb;refine enter Tryz.func17 zr zr ?_;have j:=((j.dup (i0_0+2) h0_0).dup (i0_1+3) h0_1).dup (i1+4) h1;refine w_<|Z8 [d_,f_,a_,b_] zr j zr (xd.all (⟨mC 2 j,mC 1 j,zZ 3 j,zZ 4 j,zt⟩:xd [d_,f_,a_,b_])) λae w j=>?_;refine YC 1 v1 j zr λaf w j=>?_;refine bV false<|IS<|AT zr PV<|Yy 1 a_ j U8<|YA 0 j zr ij λag j=>Z6 6 p1 zr j zr (ve 0 j) zr RG<|mv (.tuple #[vi<|fP j_ p1 (0:Int),vb<|k9 j_ p1])<|Y4 (vi<|fP j_ p1 (0:Int))<|Y4 (vb<|k9 j_ p1) ?_;refine aH (fP j_ p1 (0:Int))<|bV (k9 j_ p1)<|OF<|q_ hb λad hj hb=>Yo (λ(ad:Bool)=>SH E V [(0,(.agg ([d_,f_,a_,b_]:Z aW).toArray)),(4,vb ad)] [rd d_ t_,rd f_ x_,mp a_ j_,mp b_ o_]) ad ?_ ?_;refine IN<|eV (k9 j_ p1)<|eV (k9 j_ p1)<|eE hj (λo hj=>?_) λo hj=>?_;exact bB o<|bB o<|bB o<|bB o<|eI o (vb true)<|bV true<|By<|oi hj▸⟨rfl,j.sp 8 [5,4,6,7]⟩;exact AT (hg:=cg o) zr Mx<|Yy (hg:=cg o) 2 b_ j Tp<|YA (hg:=cg o) 1 j zr ij λah j=>Z7 (hg:=cg o) 8 p1 zr j zr (ve 0 j) zr PD<|eI o (vb<|fP o_ p1 (false:Bool))<|bV (fP o_ p1 (false:Bool))<|By<|oi hj▸⟨rfl,j.sp 9 [6,5,7,8]⟩;rintro _ w⟨O,rfl,j⟩;exact aC<|Yj<|oi hb▸bL ⟨rfl,j.pk 4 [2,3]⟩
def DU [Nd E]{V:Z HP}{i0:Nat}{v0:aW}{p0:Z aS}{i1:Nat}{v1:aW}{p1:cA}{i2:Nat}{v2:aW}{p2:lj}{res:Z cI×Int}(j:Holds E w V)(h0:V[i0]? =some (rd v0 p0))(h1:V[i1]? =some (rd v1 p1))(h2:V[i2]? =some (rd v2 p2))(hb:fZ N p0 p1 p2=some res):
    c_ 4 [v0,v1,v2] w<|xm E V res:=by
 unfold fZ at hb
 refine enter Tryz.func4 zr zr ?_
 have j:=((j.dup (i0+0) h0).dup (i1+1) h1).dup (i2+2) h2
 refine w_<|YC 1 v1 j zr λba w j=>?_
 refine YC 1 v2 j zr λao w j=>?_
 refine dG n_<|aH 0<|IS<|mv v0<|YA 1 j zr DA λdp j=>YA 1 j zr zy λdq j=>?_
 obtain⟨a7,dr,hb⟩:=bd hb
 refine Yv (fO Tryz.func9) (CN N (i0:=6) (i1:=1) (i2:=0) j zr zr zr dr) ?_
 rintro _ w hK51
 rcases bz:a7.1 with _|o
 ·replace hb:=TY bz hb
  obtain⟨rfl,j⟩:=Sg bz hK51
  refine mv (.tuple #[(.pointer none),vi a7.2])<|Y4 (.pointer none)<|Y4 (vi a7.2)<|dG (.pointer none)<|aH a7.2<|OF<|w_<|aX a7.2<|ic a7.2 0 ?_
  refine AI<|cW hb (λhb=>?_) λhb=>?_
  rotate_left
  ·cases hb
  refine w_<|aX a7.2<|dG n_<|aH a7.2<|AI<|YF ?_
  obtain rfl:=oi hb
  have j:=j.cJ cI 41
  exact s8 ⟨n_,zr,j.pk 8 [0]⟩
 replace hb:=TZ bz hb
 obtain⟨al,av,aw,ax,ay,a0,a1,a2,an,a3,a4,a8,a5,rfl,j⟩:=Sh bz hK51
 refine mv (.tuple #[vp al 0,vi a7.2])<|Y4 (vp al 0)<|Y4 (vi a7.2)<|dG (vp al 0)<|aH a7.2<|OF<|w_<|aX a7.2<|ic a7.2 0 ?_
 refine AI<|cW hb (λhb=>?_) λhb=>?_
 ·refine w_<|aX a7.2<|dG n_<|aH a7.2<|AI<|YF ?_
  obtain rfl:=oi hb
  have j:=j.cJ cI 41
  exact s8 ⟨n_,zr,j.pk 21 [0]⟩
 refine Ys ?_
 obtain⟨bb,ds,hb⟩:=bd hb
 refine Zt E V mixed [0,0,0,0,0,0,0] [0,1,2,3,4,5,6] (λ(x:aW×aW×aW×aW×aW×aW×Nat)=>(λaq ar ad ab ae af ah=>[(0,40,aq),(1,41,ar),(2,42,ad),(3,43,ab),(4,44,(.agg ([af,ae,ad,ab]:Z aW).toArray)),(5,10,vp ah 0)]) x.1 x.2.1 x.2.2.1 x.2.2.2.1 x.2.2.2.2.1 x.2.2.2.2.2.1 x.2.2.2.2.2.2) [(0,v0),(4,vp ba 0),(5,vp ao 0),(8,vp al 0)] [] (λ(D:Nat->Bool)(x:aW×aW×aW×aW×aW×aW×Nat)=>(λaq ar ad ab ae af ah=>[bif D 0 then rd aq p1 else bJ,bif D 1 then rd ar p1 else bJ,bif D 2 then mp ad bb else bJ,bif D 3 then mp ab ([]:Z (bC×Bool))else bJ,bif D 4 then rd ae p1.bT else bJ,bif D 4 then rd af p1.cR else bJ,bif D 6 then bc 52 ah [af,ae,ad,ab]else(bif D 5 then bc 52 ah [n_,n_,(.map none),(.map none)]else bJ),bc 69 al [av,aw,ax,ay,a0,a1,a2,an,a3,a4,a8,a5],rd av o.1,rd aw o.2.1,rd ax o.2.2.1,rd ay o.2.2.2.1,own 137 a0 o.2.2.2.2.1,rd a1 o.2.2.2.2.2.1,rd a2 o.2.2.2.2.2.2.1,own 71 an o.2.2.2.2.2.2.2.1,rd a3 o.2.2.2.2.2.2.2.2.1,rd a4 o.2.2.2.2.2.2.2.2.2.1,own 3 a8 o.2.2.2.2.2.2.2.2.2.2.1,own 169 a5 o.2.2.2.2.2.2.2.2.2.2.2,rd dq p2,rd dp p1,bx 32 ao p2,bx 26 ba p1,rd v2 p2,rd v1 p1,rd v0 p0]) x.1 x.2.1 x.2.2.1 x.2.2.2.1 x.2.2.2.2.1 x.2.2.2.2.2.1 x.2.2.2.2.2.2) (λx=>by kernel_rfl) ?_ ⟨?_,?_,?_,?_,?_,?_,?_,trivial⟩ ?_
 ·have j:=(((((((j.drew).bJ).bJ).bJ).bJ).bJ).bJ).bJ
  exact⟨(undef,undef,undef,undef,undef,undef,0),eH.none,Jw zr,zt,j⟩
 ·rintro D U w hD ai a6⟨⟨aq,ar,ad,ab,ae,af,ah⟩,hv,ha,_,j⟩
  obtain⟨O,rfl⟩:=ha.uR
  have j:=j.bZ 0 hD
  refine YA 23 j zr DA λdt j=>?_
  have j:=j.nw 0
  exact Yl (dt,ar,ad,ab,ae,af,ah) 0 hv ha j
 ·rintro D U w hD ai a6⟨⟨aq,ar,ad,ab,ae,af,ah⟩,hv,ha,_,j⟩
  obtain⟨O,rfl⟩:=ha.uR
  have j:=j.bZ 1 hD
  refine YA 23 j zr DA λdu j=>?_
  have j:=j.nw 1
  exact Yl (aq,du,ad,ab,ae,af,ah) 1 hv ha j
 ·rintro D U w hD ai a6⟨⟨aq,ar,ad,ab,ae,af,ah⟩,hv,ha,_,j⟩
  obtain⟨O,rfl⟩:=hv.o1 1 ai
  have j:=((j.dY 1<|ai.1 rfl).bZ 2 hD).bZ 6<|nh a6 hD 6
  refine Yv U5 (zo N (i0:=1) j zr ds) λcm w j=>?_
  have j:=(((j.pl 28 [1,2,0,4,5,6,7,8,9,10,11,12,13,14,15,16,17,18,19,20,21,22,23,24,25,26,27] rfl).cU 1 (D 1) (ai.1 rfl) bJ).cU 2 true rfl bJ).eD 6 (D 6) (nh a6 hD 6)<|bc 52 ah [af,ae,cm,ab]
  have hv:=hv.re 4 rfl (v':=(.agg ([af,ae,cm,ab]:Z aW).toArray))<|λh=>ft hD<|(a6 4 _ rfl h).2.1 rfl
  exact Yl (aq,ar,cm,ab,ae,af,ah) 2 hv ha j
 ·rintro D U w hD ai a6⟨⟨aq,ar,ad,ab,ae,af,ah⟩,hv,ha,_,j⟩
  obtain⟨O,rfl⟩:=TK U
  have j:=(j.bZ 3 hD).bZ 6<|nh a6 hD 6
  refine ZS (κ:=bC) (ν:=Bool) j λcn w j=>?_
  have j:=(j.nw 3).eD 6 (D 6) (nh a6 hD 6)<|bc 52 ah [af,ae,ad,cn]
  have hv:=hv.re 4 rfl (v':=(.agg ([af,ae,ad,cn]:Z aW).toArray))<|λh=>ft hD<|(a6 4 _ rfl h).2.2.1 rfl
  exact Yl (aq,ar,ad,cn,ae,af,ah) 3 hv ha j
 ·rintro D U w hD ai a6⟨⟨aq,ar,ad,ab,ae,af,ah⟩,hv,ha,_,j⟩
  obtain⟨O,rfl⟩:=(ac (hv.at 0 rfl<|ai.1 rfl)<|ac (hv.at 2 rfl<|ai.2.1 rfl)<|ac (hv.at 3 rfl<|ai.2.2.1 rfl) az).uR
  have j:=(((((j.dY 0<|ai.1 rfl).dY 2<|ai.2.1 rfl).dY 3<|ai.2.2.1 rfl).bZ 4 hD).bZ 5 hD).bZ 6<|nh a6 hD 6
  obtain⟨cs,hcs,hv324,j⟩:=j.Jn (i:=0) rfl rfl
  obtain⟨b0,b2,rfl⟩:=Wa hcs
  have j:=(j.mc (i:=0) (k:=0) (f:=λx=>x.cR) rfl ji rfl rfl rfl).mc (i:=1) (k:=1) (f:=λx=>x.bT) rfl eA rfl rfl rfl
  refine ab9 [n_,n_,(.map none),(.map none)] [b0,b2,ad,ab] zr [(0,aq),(1,ad),(2,ab)] [(0,[b0,b2]),(1,[ad]),(2,[ab])] zr WB ⟨rfl,congrArg Value.cells hv324,⟨rfl,cells_one<|zZ 5 j,⟨rfl,cells_one<|zZ 6 j,zt⟩⟩⟩ zr ?_
  have j:=((((((j.pl 30 [3,4,5,6,0,1,9,10,11,12,13,14,15,16,17,18,19,20,21,22,23,24,25,26,27,28,29] rfl).cU 0 (D 0) (ai.1 rfl) bJ).cU 2 (D 2) (ai.2.1 rfl) bJ).cU 3 (D 3) (ai.2.2.1 rfl) bJ).cU 4 true rfl bJ).cU 5 true rfl bJ).eD 6 (D 6) (nh a6 hD 6)<|bc 52 ah [b0,b2,ad,ab]
  exact Yl (aq,ar,ad,ab,b2,b0,ah) 4 hv ha j
 ·rintro D U w hD ai a6⟨⟨aq,ar,ad,ab,ae,af,ah⟩,hv,ha,_,j⟩
  obtain⟨O,rfl⟩:=TK U
  have j:=(j.bZ 6<|nh a6 hD 6).bZ 6 hD
  refine ZX j WC λc7 w j=>?_
  have j:=(j.nw 6).eD 6 (D 6) (nh a6 hD 6)<|bc 52 c7 [af,ae,ad,ab]
  exact Yl (aq,ar,ad,ab,ae,af,c7) 5 hv ha j
 ·rintro D U w hD ai a6⟨⟨aq,ar,ad,ab,ae,af,ah⟩,hv,ha,_,j⟩
  obtain⟨O,rfl⟩:=hv.o2 5 4 ai
  have j:=(((((j.dY 2<|ai.2.2.1 rfl).dY 3<|ai.2.2.2.2.2.2.1 rfl).dY 4<|ai.2.1 rfl).dY 5<|ai.2.1 rfl).bZ 6 hD).dY 6<|ai.1 rfl
  refine ab4 6 [af,ae,ad,ab] j zr zr zr (xd.all (⟨mC 5 j,mC 4 j,zZ 2 j,zZ 3 j,zt⟩:xd [af,ae,ad,ab])) Tn zr zr λw j=>?_
  have j:=((((j.cU 2 (D 2) (ai.2.2.1 rfl) bJ).cU 3 (D 3) (ai.2.2.2.2.2.2.1 rfl) bJ).cU 4 (D 4) (ai.2.1 rfl) bJ).cU 5 (D 4) (ai.2.1 rfl) bJ).cU 6 true rfl (bif D 5 then bc 52 ah [n_,n_,(.map none),(.map none)]else bJ)
  exact Zu (aq,ar,ad,ab,ae,af,ah) hv ha j
 rintro D U w bh⟨⟨aq,ar,ad,ab,ae,af,ah⟩,hv,ha,_,j⟩
 simp only[List.getD_cons_zero,List.getD_cons_succ,bh 0 (by decide),bh 1 (by decide),bh 2 (by decide),bh 3 (by decide),bh 4 (by decide),bh 4 (by decide),bh 6 (by decide),aO]at j
 obtain⟨O,rfl⟩:=(ac (hv.at 5 rfl<|BG bh 5) ha).uR
 refine aC<|BY<|w_<|mv v0<|YA 23 j zr DA λe3 j=>?_
 obtain⟨cp,dv,hb⟩:=bd hb
 refine Yv (fO Tryz.func11) (CO N (i0:=27) (i1:=0) j zr zr dv) λc8 w j=>Y_ (i:=0) (l:=cp) zt zr j zr zr q6<|aX 0<|AI<|ZI E V (λ(a9:Z (bC×Bool))=>[bx 26 ba p1,bx 32 ao p2,bc 69 al [av,aw,ax,ay,a0,a1,a2,an,a3,a4,a8,a5],rd av o.1,rd aw o.2.1,rd ax o.2.2.1,rd ay o.2.2.2.1,own 137 a0 o.2.2.2.2.1,rd a1 o.2.2.2.2.2.1,rd a2 o.2.2.2.2.2.2.1,own 71 an o.2.2.2.2.2.2.2.1,rd a3 o.2.2.2.2.2.2.2.2.1,rd a4 o.2.2.2.2.2.2.2.2.2.1,own 3 a8 o.2.2.2.2.2.2.2.2.2.2.1,own 169 a5 o.2.2.2.2.2.2.2.2.2.2.2,bc 52 ah [af,ae,ad,ab],rd af p1.cR,rd ae p1.bT,mp ad bb,mp ab a9,own 55 c8 cp]) (λ_=>[(4,vp ba 0),(5,vp ao 0),(8,vp al 0),(10,vp ah 0)]) (λcq _=>[(47,c8),(48,vi cp.length),(49,vi cq)]) hb ?_ ?_ ?_
 ·exact j.sp 29 [25,24,9,10,11,12,13,14,15,16,17,18,19,20,21,8,7,6,4,5,0]
 ·rintro hm cq a9 s' _ w hk⟨O,rfl,j⟩hb
  refine BY<|Yr ?_
  obtain⟨dw,c9,hb⟩:=bd hb
  refine YG 20 j zr zr n8 c9<|Zv 20 j c9 ij λe4 j=>?_
  refine YN j tN.z λe5 w j=>?_
  refine YH 0 j 1 zr ij λw j=>?_
  refine AI<|IN<|AT zr Mx<|Yy 17 ab j Tp<|YA 0 j zr ij λe6 j=>?_
  have j:=j.sc Bool true
  refine ZT 23 0 dw j zr (ve 1 j) zr zr PD λw j=>By<|bE<|aC<|IN<|YL hk hm<|aX ((cq+1:Nat):Int)<|By ?_
  obtain rfl:=oi hb
  exact⟨rfl,j.sp 25 [4,5,6,7,8,9,10,11,12,13,14,15,16,17,18,19,20,21,22,23,24]⟩
 rintro a9 _ w hb⟨O,rfl,j⟩
 refine aC<|w_<|dG n_<|IS<|dG n_<|dG n_<|OF<|w_<|AT zr mJ ?_
 refine Yt 0 j zr eA vX λbl j=>S_ 0 p1.bT j GC<|aX 0<|AI<|Zq E V (λ(cr:Z bC)(ct:aW)=>[bx 26 ba p1,bx 32 ao p2,bc 69 al [av,aw,ax,ay,a0,a1,a2,an,a3,a4,a8,a5],rd av o.1,rd aw o.2.1,rd ax o.2.2.1,rd ay o.2.2.2.1,own 137 a0 o.2.2.2.2.1,rd a1 o.2.2.2.2.2.1,rd a2 o.2.2.2.2.2.2.1,own 71 an o.2.2.2.2.2.2.2.1,rd a3 o.2.2.2.2.2.2.2.2.1,rd a4 o.2.2.2.2.2.2.2.2.2.1,own 3 a8 o.2.2.2.2.2.2.2.2.2.2.1,own 169 a5 o.2.2.2.2.2.2.2.2.2.2.2,bc 52 ah [af,ae,ad,ab],rd af p1.cR,rd ae p1.bT,mp ad bb,mp ab a9,rd bl p1.bT,own 55 ct cr]) (λ_ ct=>[(4,vp ba 0),(5,vp ao 0),(8,vp al 0),(10,vp ah 0),(13,n_),(14,ct),(15,n_)]) (λbq _ _=>[(58,bl),(59,vi p1.bT.length),(60,vi bq)]) hb ?_ ?_ ?_
 ·have j:=j.cJ bC 55
  exact⟨n_,j.sp 23 [2,3,4,5,6,7,8,9,10,11,12,13,14,15,16,17,18,19,20,21,1,0]⟩
 ·rintro hm bq cr s' _ w hk⟨dx,O,rfl,j⟩hb
  refine BY<|Yr ?_
  obtain⟨bm,dy,hb⟩:=bd hb
  refine IT 20 j zz dy λe7 j=>Yk 0 bm j Ex λe8 j=>YN j N6.z λe9 w j=>?_
  refine YH 0 j 1 zr Ex λw j=>?_
  refine IS<|AT zr qN<|Yt 0 j zr lP qZ λb3 j=>S_ 0 bm.aT j q6<|aX 0<|AI<|Zq E V (λ(cu:Z bC)(cv:aW)=>[bx 26 ba p1,bx 32 ao p2,bc 69 al [av,aw,ax,ay,a0,a1,a2,an,a3,a4,a8,a5],rd av o.1,rd aw o.2.1,rd ax o.2.2.1,rd ay o.2.2.2.1,own 137 a0 o.2.2.2.2.1,rd a1 o.2.2.2.2.2.1,rd a2 o.2.2.2.2.2.2.1,own 71 an o.2.2.2.2.2.2.2.1,rd a3 o.2.2.2.2.2.2.2.2.1,rd a4 o.2.2.2.2.2.2.2.2.2.1,own 3 a8 o.2.2.2.2.2.2.2.2.2.2.1,own 169 a5 o.2.2.2.2.2.2.2.2.2.2.2,bc 52 ah [af,ae,ad,ab],rd af p1.cR,rd ae p1.bT,mp ad bb,mp ab a9,rd bl p1.bT,rd b3 bm.aT,own 55 cv cu]) (λ_ cv=>[(4,vp ba 0),(5,vp ao 0),(8,vp al 0),(10,vp ah 0),(13,n_),(14,cv),(15,n_),(58,bl),(59,vi p1.bT.length),(60,vi bq)]) (λb4 _ _=>[(65,b3),(66,vi bm.aT.length),(67,vi b4)]) hb ?_ ?_ ?_
  ·exact⟨dx,j.sp 26 [4,5,6,7,8,9,10,11,12,13,14,15,16,17,18,19,20,21,22,23,24,0,25]⟩
  ·rintro hm b4 cu s' _ w hk⟨da,O,rfl,j⟩hb
   refine BY<|Yr ?_
   obtain⟨db,dz,hb⟩:=bd hb
   refine IT 21 j n8 dz λfa j=>Yk 0 db j ij λfb j=>YN j tN.z λfc w j=>?_
   refine YH 0 j 1 zr ij λw j=>?_
   refine IS<|YA 4 j zr zy λfe j=>YA 1 j zr ij λff j=>?_
   obtain⟨d3,d4,hb⟩:=bd hb
   refine Yi U6 (xx N (i0:=1) (i1:=0) j zr zr d4) λw j=>ic d3 0<|AI ?_
   obtain⟨cw,hj,hb⟩:=bd hb
   refine Yo (λ(cw:Z bC)U w=>∃b5:aW,SH E V [(4,vp ba 0),(5,vp ao 0),(8,vp al 0),(10,vp ah 0),(13,n_),(14,b5),(15,n_),(58,bl),(59,vi p1.bT.length),(60,vi bq),(65,b3),(66,vi bm.aT.length),(67,vi b4)] [bx 26 ba p1,bx 32 ao p2,bc 69 al [av,aw,ax,ay,a0,a1,a2,an,a3,a4,a8,a5],rd av o.1,rd aw o.2.1,rd ax o.2.2.1,rd ay o.2.2.2.1,own 137 a0 o.2.2.2.2.1,rd a1 o.2.2.2.2.2.1,rd a2 o.2.2.2.2.2.2.1,own 71 an o.2.2.2.2.2.2.2.1,rd a3 o.2.2.2.2.2.2.2.2.1,rd a4 o.2.2.2.2.2.2.2.2.2.1,own 3 a8 o.2.2.2.2.2.2.2.2.2.2.1,own 169 a5 o.2.2.2.2.2.2.2.2.2.2.2,bc 52 ah [af,ae,ad,ab],rd af p1.cR,rd ae p1.bT,mp ad bb,mp ab a9,rd bl p1.bT,rd b3 bm.aT,own 55 b5 cw] U w) cw ?_ ?_
   ·refine cW hj (λhj=>?_) λhj=>?_
    rotate_left
    ·refine YB ?_
     obtain rfl:=oi hj
     exact⟨rfl,da,j.sp 28 [5,6,7,8,9,10,11,12,13,14,15,16,17,18,19,20,21,22,23,24,25,26,27]⟩
    refine IN<|mv da<|YA 2 j zr ij λd5 j=>YR ([db]:Z bC) j [d5] n8 tN (λM hs g=>⟨(g.sat 0 _ zr).1,zt⟩) λfg w j=>?_
    have j:=j.freeze 0
    obtain⟨fh,d6,hj⟩:=bd hj
    refine YT 29 0 j zB d6 λdc w j=>?_
    refine dG dc<|By ?_
    obtain rfl:=oi hj
    exact⟨rfl,dc,j.sp 30 [7,8,9,10,11,12,13,14,15,16,17,18,19,20,21,22,23,24,25,26,27,28,29]⟩
   rintro _ w⟨b5,O,rfl,j⟩
   refine bE<|aC<|IN<|YL hk hm<|aX ((b4+1:Nat):Int)<|By ?_
   obtain rfl:=oi hb
   exact⟨rfl,b5,j.sp 23 [0,1,2,3,4,5,6,7,8,9,10,11,12,13,14,15,16,17,18,19,20,21,22]⟩
  rintro cu _ w hb⟨d7,O,rfl,j⟩
  refine bE<|aC<|IN<|YL hk hm<|aX ((bq+1:Nat):Int)<|By ?_
  obtain rfl:=oi hb
  exact⟨rfl,d7,j.sp 23 [0,1,2,3,4,5,6,7,8,9,10,11,12,13,14,15,16,17,18,19,20,22]⟩
 rintro cr _ w hb⟨b6,O,rfl,j⟩
 refine aC<|w_<|mv b6 ?_
 obtain⟨b7,d8,hb⟩:=bd hb
 have j:=j.pull 21
 refine Yi (fO Tryz.func13) (JG Tryz.lay13 bC zr ij.Q5 ij.sz Rz (λj hi hj hr=>lW N j hi hj hr) j d8) λw j=>OF<|w_<|mv b6<|Y_ (i:=0) (l:=b7) zt zr j zr zr q6<|ic ((b7.length:Int)) 0<|AI ?_
 obtain⟨cx,hj,hb⟩:=bd hb
 refine Yo (λ(cx:Z cI)U w=>∃b8:aW,SH E V [(4,vp ba 0),(5,vp ao 0),(8,vp al 0),(10,vp ah 0),(13,b8),(15,n_)] [bx 26 ba p1,bx 32 ao p2,bc 69 al [av,aw,ax,ay,a0,a1,a2,an,a3,a4,a8,a5],rd av o.1,rd aw o.2.1,rd ax o.2.2.1,rd ay o.2.2.2.1,own 137 a0 o.2.2.2.2.1,rd a1 o.2.2.2.2.2.1,rd a2 o.2.2.2.2.2.2.1,own 71 an o.2.2.2.2.2.2.2.1,rd a3 o.2.2.2.2.2.2.2.2.1,rd a4 o.2.2.2.2.2.2.2.2.2.1,own 3 a8 o.2.2.2.2.2.2.2.2.2.2.1,own 169 a5 o.2.2.2.2.2.2.2.2.2.2.2,bc 52 ah [af,ae,ad,ab],rd af p1.cR,rd ae p1.bT,mp ad bb,mp ab a9,own 41 b8 cx] U w) cx ?_ ?_
 ·refine cW hj (λhj=>?_) λhj=>?_
  rotate_left
  ·refine YB ?_
   obtain rfl:=oi hj
   have j:=j.cJ cI 41
   exact⟨rfl,n_,j.sp 24 [2,3,4,5,6,7,8,9,10,11,12,13,14,15,16,17,18,19,20,21,0]⟩
  refine IN<|mv n_<|mv b6 ?_
  have j:=(j.sc Int 1).freeze 1
  refine Ze (⟨1,[],b7⟩:cI) trivial rfl j [(0,vi 1),(2,b6)] rfl K1 rfl (λM hs g=>by have h:=wt M;exact cM.cons (f:=λ(x:cI)y=>{x with Kind:=y}) h pS (g.sat 0 _ rfl).1 λ_ h=>cM.cons (f:=λ(x:cI)y=>{x with aT:=y}) h pT (g.sat 1 _ rfl).1 λ_ h=>cM.nil h) λd9 j=>?_
  refine YR ([(⟨1,[],b7⟩:cI)]:Z cI) j [d9] Ig Ih (λM hs g=>⟨(g.sat 0 _ zr).1,zt⟩) λfi w j=>?_
  have j:=(j.cJ cI 41).freeze 1
  obtain⟨fj,ea,hj⟩:=bd hj
  refine YT 0 1 j K2 ea λdd w j=>?_
  refine dG dd<|By ?_
  obtain rfl:=oi hj
  exact⟨rfl,dd,j.sp 27 [5,6,7,8,9,10,11,12,13,14,15,16,17,18,19,20,21,22,23,24,0]⟩
 rintro _ w⟨b8,O,rfl,j⟩
 refine aC<|BY<|w_<|AT zr mJ<|Yt 0 j zr eA vX λb9 j=>S_ 0 p1.bT j GC<|aX 0<|AI<|Z9 E V (λ(br:Z Int×Z cI)(de cy:aW)=>[bx 32 ao p2,bc 69 al [av,aw,ax,ay,a0,a1,a2,an,a3,a4,de,a5],rd de br.1,rd av o.1,rd aw o.2.1,rd ax o.2.2.1,rd ay o.2.2.2.1,own 137 a0 o.2.2.2.2.1,rd a1 o.2.2.2.2.2.1,rd a2 o.2.2.2.2.2.2.1,own 71 an o.2.2.2.2.2.2.2.1,rd a3 o.2.2.2.2.2.2.2.2.1,rd a4 o.2.2.2.2.2.2.2.2.2.1,own 169 a5 o.2.2.2.2.2.2.2.2.2.2.2,bc 52 ah [af,ae,ad,ab],rd af p1.cR,rd ae p1.bT,mp ad bb,mp ab a9,rd b9 p1.bT,own 41 cy br.2]) (λ_ _ cy=>[(5,vp ao 0),(8,vp al 0),(10,vp ah 0),(13,cy),(15,n_)]) (λca _ _ _=>[(92,b9),(93,vi p1.bT.length),(94,vi ca)]) hb ?_ ?_ ?_
 ·have j:=j.freeze 14
  exact⟨a8,b8,j.sp 22 [2,3,14,4,5,6,7,8,9,10,11,12,13,15,16,17,18,19,20,0,21]⟩
 ·rintro hm ca br s' _ w hk⟨cz,df,O,rfl,j⟩hb
  refine BY<|Yr ?_
  obtain⟨bn,eb,hb⟩:=bd hb
  refine IT 19 j zz eb λfk j=>Yk 0 bn j Ex λfl j=>YN j N6.z λfm w j=>?_
  refine YH 0 j 1 zr Ex λw j=>?_
  refine IS<|mv (vp al 0)<|YA 0 j zr Ex λfo j=>?_
  have j:=(((((j.dup 6 rfl).dup 11 rfl).dup 11 rfl).dup 11 rfl).dup 11 rfl).pull 10
  obtain⟨cb,ec,hb⟩:=bd hb
  refine Yv (fO Tryz.func15) (AG N (i1:=0) j zr ec) λcc w j=>dG cc<|IS<|mv cc<|Y_ (i:=0) (l:=cb) zt zr j zr zr q6<|ic ((cb.length:Int)) 0<|AI ?_
  obtain⟨c0,hj,hb⟩:=bd hb
  refine Yo (λ(c0:Z cI)U w=>∃cd:aW,SH E V [(5,vp ao 0),(8,vp al 0),(10,vp ah 0),(13,cd),(15,n_),(92,b9),(93,vi p1.bT.length),(94,vi ca)] [bx 32 ao p2,bc 69 al [av,aw,ax,ay,a0,a1,a2,an,a3,a4,cz,a5],rd av o.1,rd aw o.2.1,rd ax o.2.2.1,rd ay o.2.2.2.1,own 137 a0 o.2.2.2.2.1,rd a1 o.2.2.2.2.2.1,rd a2 o.2.2.2.2.2.2.1,own 71 an o.2.2.2.2.2.2.2.1,rd a3 o.2.2.2.2.2.2.2.2.1,rd a4 o.2.2.2.2.2.2.2.2.2.1,rd cz br.1,own 169 a5 o.2.2.2.2.2.2.2.2.2.2.2,bc 52 ah [af,ae,ad,ab],rd af p1.cR,rd ae p1.bT,mp ad bb,mp ab a9,rd b9 p1.bT,own 41 cd c0] U w) c0 ?_ ?_
  ·refine cW hj (λhj=>?_) λhj=>?_
   rotate_left
   ·refine YB ?_
    obtain rfl:=oi hj
    exact⟨rfl,df,j.sp 27 [6,1,9,10,11,12,13,14,15,16,17,18,8,19,20,21,22,23,24,25,26]⟩
   refine IN<|mv df<|AT zr wK<|T_ 3 j zr qX lI ?_
   have j:=j.sc cD bn.Name
   refine YR ([bn.Name]:Z cD) j [str bn.Name] CA WN (λM hs g=>⟨(g.sat 0 _ zr).1,zt⟩) λed w j=>mv cc ?_
   have j:=((j.sc Int 2).freeze 1).freeze 3
   refine Ze (⟨2,([bn.Name]:Z cD),cb⟩:cI) trivial rfl j [(0,vi 2),(1,ed),(2,cc)] rfl K1 rfl (λM hs g=>by have h:=wt M;exact cM.cons (f:=λ(x:cI)y=>{x with Kind:=y}) h pS (g.sat 0 _ rfl).1 λ_ h=>cM.cons (f:=λ(x:cI)y=>{x with bT:=y}) h yj (g.sat 1 _ rfl).1 λ_ h=>cM.cons (f:=λ(x:cI)y=>{x with aT:=y}) h pT (g.sat 3 _ rfl).1 λ_ h=>cM.nil h) λee j=>?_
   refine YR ([(⟨2,([bn.Name]:Z cD),cb⟩:cI)]:Z cI) j [ee] Ig Ih (λM hs g=>⟨(g.sat 0 _ zr).1,zt⟩) λfp w j=>?_
   have j:=j.freeze 0
   obtain⟨fq,ef,hj⟩:=bd hj
   refine YT 31 0 j K2 ef λdg w j=>?_
   refine dG dg<|By ?_
   obtain rfl:=oi hj
   exact⟨rfl,dg,j.sp 32 [11,6,14,15,16,17,18,19,20,21,22,23,13,24,25,26,27,28,29,30,31]⟩
  rintro _ w⟨cd,O,rfl,j⟩
  refine bE<|aC<|IN<|YL hk hm<|aX ((ca+1:Nat):Int)<|By ?_
  obtain rfl:=oi hb
  exact⟨rfl,cz,cd,j.sp 21 [0,1,12,2,3,4,5,6,7,8,9,10,11,13,14,15,16,17,18,19,20]⟩
 rintro br _ w hb⟨fr,eg,O,rfl,j⟩
 refine aC<|BY<|w_<|mv (vp al 0)<|YJ zt zr zr<|AT zr CE<|Yy 1 an j uz<|Y_ (i:=10) (l:=o.2.2.2.2.2.2.2.1) zt zr j zr zr Oc<|aX 0 ?_
 refine AI<|Zq E V (λ(bt:Z cI)(c1:aW)=>[bx 32 ao p2,bc 52 ah [af,ae,ad,ab],rd af p1.cR,rd ae p1.bT,mp ad bb,mp ab a9,own 71 an o.2.2.2.2.2.2.2.1,own 41 c1 bt]) (λ_ c1=>[(5,vp ao 0),(10,vp ah 0),(13,c1),(15,n_)]) (λcf _ _=>[(116,an),(117,vi o.2.2.2.2.2.2.2.1.length),(118,vi cf)]) hb ?_ ?_ ?_
 ·exact⟨eg,j.sp 21 [0,14,15,16,17,18,10,20]⟩
 ·rintro hm cf bt s' _ w hk⟨dh,O,rfl,j⟩hb
  refine BY<|Yr ?_
  obtain⟨fs,di,hb⟩:=bd hb
  refine YG 6 j zr zr BH di<|Zv 6 j di K0 λfu j=>?_
  refine YN j RF.z λfv w j=>?_
  refine YH 0 j 1 zr K0 λw j=>?_
  refine IS<|aa6 3 [af,ae,ad,ab] zr j zr zr Tn zr<|YA 0 j zr K0 λfw j=>?_
  have j:=(j.pull 8).pull 8
  obtain⟨bj,eh,hb⟩:=bd hb
  refine Yv (fO Tryz.func16) (yy N (i0_0:=5) (i0_1:=6) (i1:=0) j zr zr zr eh) ?_
  rintro _ w⟨bu,bw,rfl,j⟩
  refine mv (.tuple #[bu,bw,vb bj.2.2])<|Y4 bu<|Y4 bw<|Y4 (vb bj.2.2)<|dG bu<|dG bw<|bV bj.2.2<|IS<|eV bj.2.2 ?_
  refine AI ?_
  obtain⟨c2,hj,hb⟩:=bd hb
  refine Yo (λ(c2:Z cI)U w=>∃cg:aW,SH E V [(5,vp ao 0),(10,vp ah 0),(13,cg),(15,n_),(116,an),(117,vi o.2.2.2.2.2.2.2.1.length),(118,vi cf)] [bx 32 ao p2,bc 52 ah [af,ae,ad,ab],rd af p1.cR,rd ae p1.bT,mp ad bb,mp ab a9,own 71 an o.2.2.2.2.2.2.2.1,own 41 cg c2] U w) c2 ?_ ?_
  ·refine cW hj (λhj=>?_) λhj=>?_
   rotate_left
   ·refine YB ?_
    obtain rfl:=oi hj
    exact⟨rfl,dh,j.sp 15 [7,8,9,10,2,3,13,14]⟩
   refine IN<|mv dh<|mv bu<|mv bw ?_
   have j:=((j.sc Int 3).freeze 1).freeze 2
   refine Ze (⟨3,bj.1,bj.2.1⟩:cI) trivial rfl j [(0,vi 3),(1,bu),(2,bw)] rfl K1 rfl (λM hs g=>by have h:=wt M;exact cM.cons (f:=λ(x:cI)y=>{x with Kind:=y}) h pS (g.sat 0 _ rfl).1 λ_ h=>cM.cons (f:=λ(x:cI)y=>{x with bT:=y}) h yj (g.sat 1 _ rfl).1 λ_ h=>cM.cons (f:=λ(x:cI)y=>{x with aT:=y}) h pT (g.sat 2 _ rfl).1 λ_ h=>cM.nil h) λei j=>?_
   refine YR ([(⟨3,bj.1,bj.2.1⟩:cI)]:Z cI) j [ei] Ig Ih (λM hs g=>⟨(g.sat 0 _ zr).1,zt⟩) λfx w j=>?_
   have j:=j.freeze 0
   obtain⟨fy,ej,hj⟩:=bd hj
   refine YT 17 0 j K2 ej λdj w j=>?_
   refine dG dj<|By ?_
   obtain rfl:=oi hj
   exact⟨rfl,dj,j.sp 18 [10,11,12,13,5,6,16,17]⟩
  rintro _ w⟨cg,O,rfl,j⟩
  refine bE<|aC<|IN<|YL hk hm<|aX ((cf+1:Nat):Int)<|By ?_
  obtain rfl:=oi hb
  exact⟨rfl,cg,j.sp 8 [0,1,2,3,4,5,6,7]⟩
 rintro bt _ w hb⟨bo,O,rfl,j⟩
 refine aC<|BY<|w_<|AT zr ot<|Yt 0 j zr kY ym λch j=>S_ 0 p2.bW j Ie<|aX 0<|AI<|Zq E V (λ(bk:Z bC)(c3:aW)=>[bc 52 ah [af,ae,ad,ab],rd af p1.cR,rd ae p1.bT,mp ad bb,mp ab a9,own 41 bo bt,rd ch p2.bW,own 55 c3 bk]) (λ_ c3=>[(13,bo),(15,c3)]) (λcj _ _=>[(10,vp ah 0),(138,ch),(139,vi p2.bW.length),(140,vi cj)]) hb ?_ ?_ ?_
 ·have j:=j.cJ bC 55
  exact⟨n_,j.sp 10 [3,4,5,6,7,9,1,0]⟩
 ·rintro hm cj bk s' _ w hk⟨dk,O,rfl,j⟩hb
  refine BY<|Yr ?_
  obtain⟨ek,el,hb⟩:=bd hb
  refine IT 6 j DC el λfz j=>Yk 0 ek j t7 λf3 j=>YN j N8.z λf4 w j=>?_
  refine YH 0 j 1 zr t7 λw j=>?_
  refine OF ?_
  have j:=j.drew
  refine ZH (λw=>Holds E w<|[bc 52 ah [af,ae,ad,ab]]++V) mixed [1,0,2,2,0] [0,1,2,3,4] (j.pk 11 [3])<|ZE (.agg ([af,ae,ad,ab]:Z aW).toArray) zr (λw j=>aa6 0 [af,ae,ad,ab] zr j zr zr Tn zr Yz)<|Yn zr zr<|YA 0 j zr t7 λf5 j=>o9 zr ?_
  obtain⟨f6,en,hb⟩:=bd hb
  refine Yv N9 (mS N (i0:=0) j zr en) λf7 w j=>YV (j.pk 13 [5])<|Y5 zr zr ?_
  have j:=(j.pull 9).pull 9
  obtain⟨er,et,hb⟩:=bd hb
  refine Yi (fO Tryz.func17) (zO N (i0_0:=6) (i0_1:=7) (i1:=0) j zr zr zr et) λw j=>YV (j.pk 15 [7])<|Yn zr zr<|YU er<|Yq<|YM<|aC ?_
  obtain⟨c4,hj,hb⟩:=bd hb
  refine Yo (λ(c4:Z bC)U w=>∃ck:aW,SH E V [(10,vp ah 0),(13,bo),(15,ck),(138,ch),(139,vi p2.bW.length),(140,vi cj)] [bc 52 ah [af,ae,ad,ab],rd af p1.cR,rd ae p1.bT,mp ad bb,mp ab a9,own 41 bo bt,rd ch p2.bW,own 55 ck c4] U w) c4 ?_ ?_
  ·refine cW hj (λhj=>?_) λhj=>?_
   rotate_left
   ·refine YB ?_
    obtain rfl:=oi hj
    exact⟨rfl,dk,j.sp 15 [7,8,9,0,1,12,13,14]⟩
   refine IN<|mv dk<|YA 4 j zr t7 λf8 j=>?_
   obtain⟨eu,ev,hj⟩:=bd hj
   refine Yv N9 (mS N (i0:=0) j zr ev) λew w j=>YR ([eu]:Z bC) j [ew] n8 tN (λM hs g=>⟨(g.sat 0 _ zr).1,zt⟩) λf9 w j=>?_
   have j:=j.freeze 0
   obtain⟨ga,ey,hj⟩:=bd hj
   refine YT 17 0 j zB ey λdm w j=>?_
   refine dG dm<|By ?_
   obtain rfl:=oi hj
   exact⟨rfl,dm,j.sp 18 [10,11,12,3,4,15,16,17]⟩
  rintro _ w⟨ck,O,rfl,j⟩
  refine bE<|aC<|IN<|YL hk hm<|aX ((cj+1:Nat):Int)<|By ?_
  obtain rfl:=oi hb
  exact⟨rfl,ck,j.sp 8 [0,1,2,3,4,5,6,7]⟩
 rintro bk _ w hb⟨c5,O,rfl,j⟩
 refine aC<|BY<|w_<|mv c5<|Y_ (i:=7) (l:=bk) zt zr j zr zr q6<|ic ((bk.length:Int)) 0<|AI ?_
 obtain⟨c6,hj,hb⟩:=bd hb
 refine Yo (λ(c6:Z cI)U w=>∃bp:aW,SH E V [(13,bp)] [own 41 bp c6] U w) c6 ?_ ?_
 ·refine cW hj (λhj=>?_) λhj=>?_
  rotate_left
  ·refine YB ?_
   obtain rfl:=oi hj
   exact⟨rfl,bo,j.sp 8 [5]⟩
  refine IN<|mv bo<|mv c5 ?_
  have j:=(j.sc Int 4).freeze 8
  refine Ze (⟨4,[],bk⟩:cI) trivial rfl j [(0,vi 4),(2,c5)] rfl K1 rfl (λM hs g=>by have h:=wt M;exact cM.cons (f:=λ(x:cI)y=>{x with Kind:=y}) h pS (g.sat 0 _ rfl).1 λ_ h=>cM.cons (f:=λ(x:cI)y=>{x with aT:=y}) h pT (g.sat 8 _ rfl).1 λ_ h=>cM.nil h) λez j=>?_
  refine YR ([(⟨4,[],bk⟩:cI)]:Z cI) j [ez] Ig Ih (λM hs g=>⟨(g.sat 0 _ zr).1,zt⟩) λgb w j=>?_
  have j:=j.freeze 0
  obtain⟨gd,e1,hj⟩:=bd hj
  refine YT 8 0 j K2 e1 λdn w j=>?_
  refine dG dn<|By ?_
  obtain rfl:=oi hj
  exact⟨rfl,dn,j.sp 11 [8]⟩
 rintro _ w⟨bp,O,rfl,j⟩
 refine aC<|w_<|mv bp<|dG bp<|aH 0<|AI<|Yj ?_
 obtain rfl:=oi hb
 exact s8 ⟨bp,zr,j.pk 1 [0]⟩
def nW{res:Bool}(o:Holds E w V)(j:gG N p0 p1 p2=some res):c_ 152 [vi p0,vi p1,vi p2] w<|aN E V res:=by
 unfold gG at j;refine enter Tryz.func152 zr zr<|w_<|bV false<|IS<|aX p1<|aX p0<|ic p1 p0<|eV (decide<|p1<=p0)<|Yp (vi p0) zr zr gm ?_;refine Yp (vi p2) zr zr gm<|Yp (vb<|decide<|p0<=p2) zr zr (Au .leq)<|YP (b:=decide<|p1<=p0) (v:=vb<|decide (p1<=p0)&&decide (p0<=p2)) zt zr zr (jX true)<|bV (decide (p1<=p0)&&decide (p0<=p2))<|AI<|Yj ?_;exact oi j▸bL ⟨rfl,o.drop 0⟩
def nX{p0:cD}{res:Bool}(hw:Holds E w V)(o:iC N p0=some res):c_ 151 [str p0] w<|aN E V res:=by
 unfold iC at o;refine enter Tryz.func151 zr zr<|w_<|bV false<|OF<|w_<|mv (str p0)<|Zw p0 Cz<|aX 0<|AI<|Zd E V (λ(ag:Unit)=>[]) (λ_=>[(0,str p0)]) (λad _=>[(6,vi p0.cY.length),(7,vi ad)]) (λr=>jS bK 44 Tryz.f151 (aN E V r) .ret) o ?_ ?_ ?_ ?_;exact hw.sp 0 [];rintro hm ad ag fl _ w hk⟨O,rfl,hw⟩o;refine BY<|Yr<|aX (ad:Int)<|aH (ad:Int)<|IS<|mv (str p0)<|aX (ad:Int)<|q_ o λj ak o=>Z2 p0 (ad:Int) j zr zr zr Cz ak<|dG (.int .u8 (j.toNat:Int))<|OF ?_;refine q_ o λaf hj o=>Yo (λ(af:Bool)=>SH E V [(0,str p0),(6,vi p0.cY.length),(7,vi ad),(39,vb af)] []) af ?_ ?_;refine IN<|mv (.int .u8 (j.toNat:Int))<|ic ((j.toNat:Int)) 97<|eV (decide<|(j.toNat:Int)<97)<|Yp (.int .u8 (j.toNat:Int)) zr zr gm<|Yp (vb<|decide<|(j.toNat:Int)>122) zr zr (Au .gtr)<|YP (b:=decide<|(j.toNat:Int)<97) (v:=vb<|decide ((j.toNat:Int)<97)||decide ((j.toNat:Int)>122)) zt zr zr (qI true)<|eV (decide ((j.toNat:Int)<97)||decide ((j.toNat:Int)>122))<|Yp (.int .u8 (j.toNat:Int)) zr zr gm ?_;refine Yp (vb<|decide<|(j.toNat:Int)<65) zr zr (Au .lss)<|Yp (vb<|decide<|(j.toNat:Int)<65) zr zr gm<|YX (.int .u8 (j.toNat:Int)) zr zr gm<|YX (vb<|decide<|(j.toNat:Int)>90) zr zr (Au .gtr)<|Yp (vb<|decide ((j.toNat:Int)<65)||decide ((j.toNat:Int)>90)) zr zr Tc<|YP (b:=decide ((j.toNat:Int)<97)||decide ((j.toNat:Int)>122)) (v:=vb<|(decide ((j.toNat:Int)<97)||decide ((j.toNat:Int)>122))&&(decide ((j.toNat:Int)<65)||decide ((j.toNat:Int)>90))) zt zr zr (jX true)<|eV ((decide ((j.toNat:Int)<97)||decide ((j.toNat:Int)>122))&&(decide ((j.toNat:Int)<65)||decide ((j.toNat:Int)>90)))<|Yp (.int .u8 (j.toNat:Int)) zr zr gm<|Yp (vb<|decide<|(j.toNat:Int)<48) zr zr (Au .lss) ?_;refine Yp (vb<|decide<|(j.toNat:Int)<48) zr zr gm<|YX (.int .u8 (j.toNat:Int)) zr zr gm<|YX (vb<|decide<|(j.toNat:Int)>57) zr zr (Au .gtr)<|Yp (vb<|decide ((j.toNat:Int)<48)||decide ((j.toNat:Int)>57)) zr zr Tc<|YP (b:=(decide ((j.toNat:Int)<97)||decide ((j.toNat:Int)>122))&&(decide ((j.toNat:Int)<65)||decide ((j.toNat:Int)>90))) (v:=vb<|((decide ((j.toNat:Int)<97)||decide ((j.toNat:Int)>122))&&(decide ((j.toNat:Int)<65)||decide ((j.toNat:Int)>90)))&&(decide ((j.toNat:Int)<48)||decide ((j.toNat:Int)>57))) zt zr zr (jX true)<|eV (((decide ((j.toNat:Int)<97)||decide ((j.toNat:Int)>122))&&(decide ((j.toNat:Int)<65)||decide ((j.toNat:Int)>90)))&&(decide ((j.toNat:Int)<48)||decide ((j.toNat:Int)>57)))<|eE hj (λab hj=>?_) λab hj=>?_;refine U_ (.int .u8 (j.toNat:Int)) (cg ab)<|q_ hj λah al hj=>Yi (hg:=cg ab) PA (pY N (p0:=⟨[95,43,45,35]⟩) (p1:=(j.toNat:Int)) hw al) λw hw=>Y6 ah 0 (cg ab)<|eI ab (vb<|decide<|ah<0)<|By ?_;exact oi hj▸⟨rfl,hw.sp 0 []⟩;exact bB ab<|bB ab<|bB ab<|eI ab (vb false)<|By<|oi hj▸⟨rfl,hw.sp 0 []⟩;rintro _ w⟨O,rfl,hw⟩;refine aC<|cW o (λo=>?_) λo=>?_;exact w_<|bV false<|AI<|YI<|aU<|oi o▸⟨rfl,bL ⟨rfl,hw.drop 0⟩⟩;exact YB<|bE<|aC<|IN<|YL hk hm<|aX ((ad+1:Nat):Int)<|By<|oi o▸⟨rfl,hw.sp 0 []⟩;intro r U w o hK;exact aU<|oi o▸hK;rintro ag _ w o⟨O,rfl,hw⟩;exact aC<|w_<|mv (str p0)<|Zw p0 Cz<|q_ o λao aq o=>Yi PW (nW N (p0:=(p0.cY.length:Int)) (p1:=1) (p2:=40) hw aq) λw hw=>bV ao<|AI<|Yj<|oi o▸bL ⟨rfl,hw.drop 0⟩
end Go.Gk
