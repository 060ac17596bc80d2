/-
  Printed texts: Go functions as plain functions, and that they are. No statement of the seed is proved here.
-/
import Derived.Test.YtfidohbopcdgdaaGreatDoorG1
import Derived.Test.YtfidohbopcdgdaaGreatDoorG2
import Derived.Test.YtfidohbopcdgdaaGreatDoorA2
set_option linter.unusedVariables false
set_option linter.unusedSimpArgs false
set_option linter.unusedSectionVars false
set_option maxRecDepth 100000
set_option maxHeartbeats 40000000
namespace Go.Gk
open Go IntKind Go.Proofs
variable (N:Nat){E w:World}{b0 i0 i1 i2:Nat}{p0 p1 p3 res:Int}{v0 b_ a_ f_ e_ g_ v1 v2:Value}{V:List HP}
def mh(E:World)(V:List HP)(v2:Value)(res:Int×List (Pin×Bool))(v:Value)(w:World):Prop:=v= vi res.1/\Holds E w ([mp v2 res.2]++V)
theorem lP{p0:List Pin}{p1:Pin->Option Bool}{p2:List (Pin×Bool)}{res:Int×List (Pin×Bool)}(j:Holds E w (mp v2 p2::V))(h0:V[i0]? =some (rd v0 p0))(h1:Am bE E V v1 p1 (λ(r:Bool)=>Value.bool r))(o:eM N p0 p1 p2=some res):c_ 72 [v0,v1,v2] w<|mh E V v2 res:=by
 unfold eM at o;refine enter Tryz.func72 zr zr ?_;have j:=j.dup (i0+1) h0;refine u_<|aK 0<|AS<|u_<|mv v0<|B_ 0 p0 j pY<|ic ((p0.length:Int)) 500<|v_<|cV o (λo=>?_) λo=>?_;exact u_<|aK 2<|v_<|G_<|oi o▸aX ⟨rfl,j.pk 2 [1]⟩;refine Kb<|u_<|mv v0<|B_ 0 p0 j pY<|bA 0<|v_<|Kg E V (λ(al:Unit)=>[rd v0 p0,mp v2 p2]) (λ_=>[(0,v0),(2,v2)]) (λab _=>[(1,v1),(14,v0),(15,vi p0.length),(16,vi ab)]) (λr=>iD bE 53 Tryz.f72 (mh E V v2 r) .ret) o ?_ ?_ ?_ ?_;exact j.sp 2 [0,1];rintro hm ab al fl _ w hk⟨O,rfl,j⟩o;refine A_<|F_<|bA (ab:Int)<|q_ o λae ar o=>BY 0 j pZ ar λa1 j=>D_ 0 ae j jz λa2 j=>J_ j vc.z λan w j=>?_;refine aK (ab:Int)<|IS 0 j 1 zr jz λw j=>?_;refine v_<|F_<|mv v1<|Kl 0 j zr jz λa3 j=>?_;refine q_ o λao au o=>Le 0 j h1 6 au λw j=>Ko ao<|bN (!ao)<|v_<|cV o (λo=>?_) λo=>?_;exact u_<|aK 9<|v_<|I_<|bW<|aI<|oi o▸⟨rfl,aX ⟨rfl,j.pk 6 [5]⟩⟩;refine A_<|q_ o λah hj o=>Ke (λ(ah:Bool)=>SH E V [(0,v0),(1,v1),(2,v2),(8,vp an 0),(14,v0),(15,vi p0.length),(16,vi ab),(26,vb ah)] [rd v0 p0,mp v2 p2,bx 83 an ae]) ah ?_ ?_;refine KY mixed [0,0,0,0,0,0,0,0,0,2,0,0,0] [0,1,2,3,4,5,6,7,8,9,10,11,12] ?_;have j:=j.drew;refine Kf zr zr<|bA (ab:Int)<|cI zr<|ic ((ab:Int)) 0<|cI zr<|jU (decide<|(ab:Int)>0)<|Kq<|je hj (λaa hj=>?_) λaa hj=>?_;refine Kf zr zr<|Kl (hg:=cg aa) 1 j zr jz λa4 j=>cI zr<|IN v0 (cg aa)<|cI zr<|IN (vi ab) (cg aa)<|cI zr<|J9 (hg:=cg aa) (ab:Int) 1<|cI zr<|q_ hj λav aw hj=>BY (hg:=cg aa) 5 j pZ aw λa5 j=>cI zr<|D_ (hg:=cg aa) 0 av j jz λa6 j=>u3 zr ?_;refine q_ hj λai ax hj=>AT (hg:=cg aa) G2 (mg N (i0:=2) (i1:=0) j zr zr ax) λw j=>Bo zr<|KH ai 0 (cg aa)<|cI zr<|jl aa (vb<|decide<|ai<=0)<|cI zr<|bN (decide<|ai<=0)<|Kq<|KC ?_;exact oi hj▸⟨rfl,j.sp 9 [7,8,4]⟩;refine Kf zr zr<|bS aa<|cI zr<|bS aa<|cI zr<|bS aa<|cI zr<|bS aa<|cI zr<|bS aa<|cI zr<|bS aa<|u3 zr<|bS aa<|Bo zr<|bS aa<|cI zr<|jl aa (vb false) ?_;exact cI zr<|bN false<|Kq<|KC<|oi hj▸⟨rfl,j.sp 6 [4,5,1]⟩;rintro _ w⟨O,rfl,j⟩;refine aD<|cV o (λo=>?_) λo=>?_;exact u_<|aK 8<|v_<|I_<|bW<|aI<|oi o▸⟨rfl,aX ⟨rfl,j.pk 3 [1]⟩⟩;refine u_<|mv v2<|Kl 2 j zr jz λa7 j=>LC 2 ae zt zr j zr (r7 0 j zr) zr Fy<|bN (cP p2 ae (false:Bool))<|v_<|cV o (λo=>?_) λo=>?_;exact u_<|aK 7<|v_<|I_<|bW<|aI<|oi o▸⟨rfl,aX ⟨rfl,j.pk 4 [2]⟩⟩;exact Kc<|bF<|bF<|aD<|By<|IT hk hm<|bA ((ab+1:Nat):Int)<|x_<|oi o▸⟨rfl,j.sp 4 [1,2]⟩;intro r U w o hK;exact aI<|oi o▸hK;rintro al _ w o⟨O,rfl,j⟩;refine aD<|A_<|u_<|mv v0<|B_ 0 p0 j pY<|bA 0<|v_<|Ll E V (λ(aj:List (Pin×Bool))=>[mp v2 aj,rd v0 p0]) (λ_=>[(2,v2)]) (λak _=>[(44,v0),(45,vi p0.length),(46,vi ak)]) o ?_ ?_ ?_;exact j.sp 2 [1,0];rintro hm ak aj s' _ w hk⟨O,rfl,j⟩o;refine A_<|F_<|q_ o λaq az o=>BY 1 j pZ az λa8 j=>D_ 0 aq j jz λa9 j=>J_ j vc.z λba w j=>?_;refine IS 0 j 1 zr jz λw j=>?_;refine v_<|By<|mv v2<|Kl 0 j zr jz λbb j=>?_;have j:=j.sc Bool true;exact Lg 5 0 aq j zr (r7 1 j zr) zr zr zr Fy λw j=>x_<|bF<|aD<|By<|IT hk hm<|bA ((ak+1:Nat):Int)<|x_<|oi o▸⟨rfl,j.sp 7 [5,6]⟩;rintro aj _ w o⟨O,rfl,j⟩;exact aD<|u_<|aK 0<|v_<|E_<|oi o▸aX ⟨rfl,j.pk 2 [0]⟩
def nW(E:World)(V:List HP)(r:Int)(U:Nat->Value)(w:World):Prop:=iD bE 105 Tryz.f27 (aB E V r) .ret U w
theorem sF{p0:List aG}{p1:List aF}{p2:aF}(j:Holds E w V)(h0:V[i0]? =some (rd v0 p0))(h1:V[i1]? =some (rd v1 p1))(h2:V[i2]? =some (rd v2 p2))(o:iw N p0 p1 p2=some res):c_ 27 [v0,v1,v2] w<|aB E V res:=by
 unfold iw at o;refine enter Tryz.func27 zr zr ?_;have j:=((j.dup (i0+0) h0).dup (i1+1) h1).dup (i2+2) h2;refine u_<|Kk 2 v0 j zr λah w j=>?_;have j:=j.lb (i:=0) rfl;refine Kk 2 v1 j zr λai w j=>?_;have j:=j.lb (i:=0) rfl;refine Kk 2 v2 j zr λab w j=>?_;have j:=j.lb (i:=0) rfl;refine aK 0<|AS<|u_<|Kj 0 j zr nD iz λbm j=>D_ 0 p2.aM j ly λbn j=>B_ 0 p2.aM j qn<|ic ((p2.aM.length:Int)) 1000<|v_<|cV o (λo=>?_) λo=>?_;exact u_<|aK 2<|v_<|G_<|oi o▸aX ⟨rfl,j.drop 8⟩;refine Kv<|Lw zr [vp ab 0,vp ai 0,vp ah 0] zr<|iT (.func (.func 69) #[] #[vp ab 0,vp ai 0,vp ah 0])<|AI<|K_ (κ:=Pin) (ν:=Bool) j λal w j=>K_ (κ:=aN) (ν:=Bool) j λak w j=>iT al<|iT ak<|AS<|u_<|Kj 4 j zr nD iz λbo j=>D_ 0 p2.aM j ly λao j=>B_ 0 p2.aM j qn<|bA 0<|v_<|Kg E V (λ(ar:List (Pin×Bool)×List (aN×Bool))=>[pt (vp ab 0) p2,pt (vp ai 0) p1,pt (vp ah 0) p0,mp al ar.1,mp ak ar.2,rd ao p2.aM]) (λ_=>[]) (λaf _=>[(5,vp ab 0),(7,(.func (.func 69) #[] #[vp ab 0,vp ai 0,vp ah 0])),(8,al),(9,ak),(25,ao),(26,vi p2.aM.length),(27,vi af)]) (nW E V) o ?_ ?_ ?_ ?_;exact j.sp 12 [6,7,8,3,2,0];rintro hm af ar fl _ w hk⟨O,rfl,j⟩o;refine A_<|F_<|bA (af:Int)<|q_ o λae ba o=>BY 5 j n4 ba λbp j=>D_ 0 ae j mx λbq j=>J_ j tT.z λau w j=>?_;refine aK (af:Int)<|IS 0 j 1 zr mx λw j=>?_;refine AS<|u_<|y_ zr jP<|C_ 0 j zr gE dP<|q_ o λbb bc o=>AT zJ (fL N (p0:=ae.Name) j bc) λw j=>Ko bb<|v_<|cV o (λo=>?_) λo=>?_;exact u_<|aK 5<|v_<|G_<|bW<|aI<|oi o▸⟨rfl,aX ⟨rfl,j.drop 9⟩⟩;refine Kb<|u_<|y_ zr md<|H_ 0 j zr jt o4 λbr j=>mv (.func (.func 69) #[] #[vp ab 0,vp ai 0,vp ah 0])<|mv al ?_;have j:=j.pull 7;refine q_ o λaq bf o=>AT G3 (lP N (i0:=0) j rfl ⟨69,[vp ab 0,vp ai 0,vp ah 0],rfl,(hL Tryz.func69),λw Γl v y0 r i j hi hr=>by exact gO (qt N (i0:=i) (i1:=Γl.length+4) (i2:=Γl.length+5) (i3:=Γl.length+6) j hi rY rY rY hr) λ_ _ h=>h⟩ bf) λw j=>aK aq.1<|AI<|bA aq.1<|ic aq.1 0<|v_<|cV o (λo=>?_) λo=>?_;exact u_<|bA aq.1<|aK aq.1<|v_<|G_<|bW<|aI<|oi o▸⟨rfl,aX ⟨rfl,j.drop 11⟩⟩;refine Kb<|u_<|y_ zr mK<|H_ 2 j zr jO lH λbt j=>B_ 0 ae.aO j n0<|ic ((ae.aO.length:Int)) 100<|v_<|cV o (λo=>?_) λo=>?_;exact u_<|aK 2<|v_<|G_<|bW<|aI<|oi o▸⟨rfl,aX ⟨rfl,j.drop 12⟩⟩;refine Kb<|u_<|y_ zr mK<|H_ 3 j zr jO lH λay j=>B_ 0 ae.aO j n0<|bA 0<|v_<|Kg E V (λ(a6:Unit)=>[pt (vp ab 0) p2,pt (vp ai 0) p1,pt (vp ah 0) p0,mp al aq.2,mp ak ar.2,bx 80 au ae,rd ao p2.aM,rd ay ae.aO]) (λ_=>[(5,vp ab 0),(7,(.func (.func 69) #[] #[vp ab 0,vp ai 0,vp ah 0])),(8,al),(9,ak),(10,vi af),(11,vp au 0),(25,ao),(26,vi p2.aM.length),(27,vi af)]) (λan _=>[(49,ay),(50,vi ae.aO.length),(51,vi an)]) (nW E V) o ?_ ?_ ?_ ?_;exact j.sp 13 [7,8,9,2,11,4,12,0];rintro hm an a6 fl _ w hk⟨O,rfl,j⟩o;refine A_<|F_<|bA (an:Int)<|q_ o λaj bg o=>BY 7 j m6 bg λbu j=>Ki aj 0 j dP<|aK (an:Int)<|iT (str aj)<|v_<|F_<|Kj 1 j zr pW jy λbw j=>D_ 0 p2.aO j lH λbz j=>mv (str aj)<|q_ o λa7 bh o=>AT Dr (fB N (p1:=aj) (i0:=0) j zr bh) λw j=>Ko a7<|bN (!a7)<|v_<|cV o (λo=>?_) λo=>?_;exact u_<|aK 9<|v_<|I_<|bW<|aI<|oi o▸⟨rfl,aX ⟨rfl,j.drop 11⟩⟩;refine A_<|q_ o λa2 hj o=>Ke (λ(a2:Bool)=>SH E V [(5,vp ab 0),(7,(.func (.func 69) #[] #[vp ab 0,vp ai 0,vp ah 0])),(8,al),(9,ak),(10,vi af),(11,vp au 0),(14,str aj),(25,ao),(26,vi p2.aM.length),(27,vi af),(49,ay),(50,vi ae.aO.length),(51,vi an),(62,vb a2)] [pt (vp ab 0) p2,pt (vp ai 0) p1,pt (vp ah 0) p0,mp al aq.2,mp ak ar.2,bx 80 au ae,rd ao p2.aM,rd ay ae.aO]) a2 ?_ ?_;refine By<|bA (an:Int)<|ic ((an:Int)) 0<|jU (decide<|(an:Int)>0)<|je hj (λad hj=>?_) λad hj=>?_;refine IN (str aj) (cg ad)<|y_ (hg:=cg ad) zr mK<|H_ (hg:=cg ad) 8 j zr jO lH λb0 j=>IN (vi an) (cg ad)<|J9 (hg:=cg ad) (an:Int) 1<|q_ hj λav bj hj=>BY (hg:=cg ad) 0 j m6 bj λb1 j=>Ki (hg:=cg ad) av 0 j dP<|Ku aj av (cg ad)<|jl ad (vb<|aj.jc av||aj.fY av)<|bN (aj.jc av||aj.fY av)<|x_ ?_;exact oi hj▸⟨rfl,j.sp 13 [5,6,7,8,9,10,11,12]⟩;refine bS ad<|bS ad<|bS ad<|bS ad<|bS ad<|bS ad<|bS ad<|bS ad<|jl ad (vb false)<|bN false<|x_ ?_;exact oi hj▸⟨rfl,j.sp 11 [3,4,5,6,7,8,9,10]⟩;rintro _ w⟨O,rfl,j⟩;refine aD<|cV o (λo=>?_) λo=>?_;exact u_<|aK 8<|v_<|I_<|bW<|aI<|oi o▸⟨rfl,aX ⟨rfl,j.drop 8⟩⟩;refine u_<|mv ak<|mv (str aj)<|LC 4 aj zt zr j zr zr zr Fz<|bN (cP ar.2 aj (false:Bool))<|v_<|cV o (λo=>?_) λo=>?_;exact u_<|aK 7<|v_<|I_<|bW<|aI<|oi o▸⟨rfl,aX ⟨rfl,j.drop 8⟩⟩;exact Kc<|bF<|bF<|aD<|By<|IT hk hm<|bA ((an+1:Nat):Int)<|x_<|oi o▸⟨rfl,j.sp 8 [0,1,2,3,4,5,6,7]⟩;intro r U w o hK;exact aI<|bW<|aI<|oi o▸⟨rfl,hK⟩;rintro a6 _ w o⟨O,rfl,j⟩;refine aD<|A_<|u_<|y_ zr mK<|H_ 5 j zr jO lH λa8 j=>B_ 0 ae.aO j n0<|bA 0<|v_<|Ll E V (λ(az:List (aN×Bool))=>[pt (vp ab 0) p2,pt (vp ai 0) p1,pt (vp ah 0) p0,mp al aq.2,mp ak az,bx 80 au ae,rd ao p2.aM,rd a8 ae.aO]) (λ_=>[(5,vp ab 0),(7,(.func (.func 69) #[] #[vp ab 0,vp ai 0,vp ah 0])),(8,al),(9,ak),(10,vi af),(11,vp au 0),(25,ao),(26,vi p2.aM.length),(27,vi af)]) (λa4 _=>[(81,a8),(82,vi ae.aO.length),(83,vi a4)]) o ?_ ?_ ?_;exact j.sp 9 [1,2,3,4,5,6,7,0];rintro hm a4 az s' _ w hk⟨O,rfl,j⟩o;refine A_<|F_<|q_ o λa0 bk o=>BY 7 j m6 bk λb2 j=>Ki a0 0 j dP<|iT (str a0)<|v_<|By<|mv ak<|mv (str a0) ?_;have j:=j.sc Bool true;exact Lg 6 0 a0 j zr zr zr zr zr Fz λw j=>x_<|bF<|aD<|By<|IT hk hm<|bA ((a4+1:Nat):Int)<|x_<|oi o▸⟨rfl,j.sp 10 [2,3,4,5,6,7,8,9]⟩;rintro az _ w o⟨O,rfl,j⟩;refine aD<|A_<|q_ o λa5 hj o=>Ke (λ(a5:Bool)=>SH E V [(5,vp ab 0),(7,(.func (.func 69) #[] #[vp ab 0,vp ai 0,vp ah 0])),(8,al),(9,ak),(25,ao),(26,vi p2.aM.length),(27,vi af),(103,vb a5)] [pt (vp ab 0) p2,pt (vp ai 0) p1,pt (vp ah 0) p0,mp al aq.2,mp ak az,rd ao p2.aM]) a5 ?_ ?_;refine KL mixed ?_;have j:=j.drew;refine KK<|bA (af:Int)<|w_<|ic ((af:Int)) 0<|w_<|jU (decide<|(af:Int)>0)<|je hj (λaa hj=>?_) λaa hj=>?_;refine w_<|y_ (hg:=cg aa) zr jP<|w_<|C_ (hg:=cg aa) 5 j zr gE dP<|w_<|Kj (hg:=cg aa) 0 j zr nD iz λb3 j=>w_<|D_ (hg:=cg aa) 0 p2.aM j ly λb4 j=>w_<|IN (vi af) (cg aa)<|w_<|J9 (hg:=cg aa) (af:Int) 1<|w_ ?_;refine q_ hj λa1 bl hj=>BY (hg:=cg aa) 0 j n4 bl λb5 j=>w_<|Kj (hg:=cg aa) 0 j zr jP gE λb6 j=>w_<|Ki (hg:=cg aa) a1.Name 0 j dP<|w_<|Ku ae.Name a1.Name (cg aa)<|w_<|jl aa (vb<|ae.Name.jc a1.Name||ae.Name.fY a1.Name)<|Kr ?_;exact oi hj▸⟨rfl,j.sp 12 [4,5,6,7,8,10]⟩;refine w_<|bS aa<|w_<|bS aa<|w_<|bS aa<|w_<|bS aa<|w_<|bS aa<|w_<|bS aa<|w_<|bS aa<|w_<|bS aa<|w_<|bS aa ?_;exact w_<|bS aa<|w_<|jl aa (vb false)<|Kr<|oi hj▸⟨rfl,j.sp 8 [0,1,2,3,4,6]⟩;rintro _ w⟨O,rfl,j⟩;refine aD<|cV o (λo=>?_) λo=>?_;exact u_<|aK 8<|v_<|I_<|aI<|oi o▸⟨rfl,aX ⟨rfl,j.drop 6⟩⟩;exact Kc<|bF<|aD<|By<|IT hk hm<|bA ((af+1:Nat):Int)<|x_<|oi o▸⟨rfl,j.sp 6 [0,1,2,3,4,5]⟩;intro r U w o hK;exact aI<|oi o▸hK;rintro ar _ w o⟨O,rfl,j⟩;exact aD<|u_<|aK 0<|v_<|E_<|oi o▸aX ⟨rfl,j.drop 6⟩
def ki(E:World)(V:List HP)(v2:Value)(res:Bool×List Int)(v:Value)(w:World):Prop:=v= vb res.1/\Holds E w ([own 3 v2 res.2]++V)
theorem tX(rc:List aF->Int->List Int->Option (Bool×List Int))(ih:∀{E w:World}{V:List HP}{i0:Nat}{v0:Value}{p0:List aF}{p1:Int}{v2:Value}{p2:List Int}{res:Bool×List Int}(j:Holds E w (own 3 v2 p2::V))(h0:V[i0]? =some (rd v0 p0))(o:rc p0 p1 p2=some res),Calls bE 28 [v0,vi p1,v2].toArray w<|fD<|ki E V v2 res){p0:List aF}{p2:List Int}{res:Bool×List Int}(j:Holds E w (own 3 v2 p2::V))(h0:V[i0]? =some (rd v0 p0))(o:kd N rc p0 p1 p2=some res):c_ 28 [v0,vi p1,v2] w<|ki E V v2 res:=by
 unfold kd at o;refine enter Tryz.func28 zr zr ?_;have j:=j.dup (i0+1) h0;refine u_<|bN false<|AS<|u_<|mv v2<|bA p1<|q_ o λal ae o=>Ks 1 j zr zr m8 ae<|KX 1 j ae oZ<|ic al 0<|v_<|cV o (λo=>?_) λo=>?_;refine u_<|mv v2<|bA p1<|q_ o λaf ag o=>Ks 1 j zr zr m8 ag<|KX 1 j ag oZ<|ic af 1<|bN (af==1)<|v_<|G_ ?_;exact oi o▸aX ⟨rfl,j.pk 2 [1]⟩;refine Kv<|mv v2<|bA p1<|q_ o λay ah o=>Ks 1 j zr zr m8 ah ?_;have j:=j.sc Int 1;refine K8 2 0 j ah oZ λw j=>?_;refine AS<|u_<|mv v0<|bA p1<|q_ o λaa an o=>BY 1 j rJ an λaz j=>Kj 0 j zr lj fG λa0 j=>D_ 0 aa.Uses j ti λai j=>B_ 0 aa.Uses j vU<|bA 0<|v_<|Kg E V (λ(ab:List Int)=>[rd v0 p0,own 3 v2 ab,rd ai aa.Uses]) (λ_=>[(1,vi p1),(2,v2)]) (λad _=>[(0,v0),(26,ai),(27,vi aa.Uses.length),(28,vi ad)]) (λr=>iD bE 43 Tryz.f28 (ki E V v2 r) .ret) o ?_ ?_ ?_ ?_;exact j.sp 6 [4,5,0];rintro hm ad ab fl _ w hk⟨O,rfl,j⟩o;refine A_<|F_<|q_ o λaj ar o=>BY 2 j va ar λa2 j=>D_ 0 aj j qW λa3 j=>J_ j yD.z λa4 w j=>?_;refine IS 0 j 1 zr qW λw j=>?_;refine AI<|mv v0<|mv v0<|y_ zr oC<|C_ 0 j zr kT dP<|q_ o λau av o=>AT B1 (gZ N (p1:=aj.aF) (i0:=3) j zr av) λw j=>mv v2 ?_;have j:=j.pull 4;refine q_ o λa5 aw o=>AT G4 (ih (p1:=au) (i0:=3) j zr aw) λw j=>v_<|cV o (λo=>?_) λo=>?_;exact u_<|bN true<|v_<|I_<|aI<|oi o▸⟨rfl,aX ⟨rfl,j.pk 7 [0]⟩⟩;exact Kc<|bF<|aD<|By<|IT hk hm<|bA ((ad+1:Nat):Int)<|x_<|oi o▸⟨rfl,j.sp 7 [4,0,6]⟩;intro r U w o hK;exact aI<|oi o▸hK;rintro ab _ w o⟨O,rfl,j⟩;refine aD<|u_<|mv v2<|bA p1<|q_ o λa6 ak o=>Ks 1 j zr zr m8 ak ?_;have j:=j.sc Int 2;refine K8 2 0 j ak oZ λw j=>?_;exact AI<|bN false<|v_<|E_<|oi o▸aX ⟨rfl,j.pk 4 [2]⟩
theorem tY:∀(d:Nat){E w:World}{V:List HP}{i0:Nat}{v0:Value}{p0:List aF}{p1:Int}{v2:Value}{p2:List Int}{res:Bool×List Int}(o:Holds E w (own 3 v2 p2::V))(h0:V[i0]? =some (rd v0 p0))(j:ke N d p0 p1 p2=some res),c_ 28 [v0,vi p1,v2] w<|ki E V v2 res:=by
 intro d;induction d with
 |zero=>intros;rename_i j;cases j
 |succ d ih=>exact λo h0 j=>tX N _ (@ih) o h0 j
theorem vh{p0:List aF}{p2:List Int}{res:Bool×List Int}(j:Holds E w (own 3 v2 p2::V))(h0:V[i0]? =some (rd v0 p0))(o:pM N p0 p1 p2=some res):
    Calls bE 28 [v0,vi p1,v2].toArray w (fD<|ki E V v2 res):=tY N N j h0 o
def mD(E:World)(V:List HP)(r:Int)(U:Nat->Value)(w:World):Prop:=iD bE 86 Tryz.f8 (aB E V r) .ret U w
theorem mi{p0:List aG}{p1:List aF}(j:Holds E w V)(h0:V[i0]? =some (rd v0 p0))(h1:V[i1]? =some (rd v1 p1))(o:gR N p0 p1=some res):c_ 8 [v0,v1] w<|aB E V res:=by
 unfold gR at o;refine enter Tryz.func8 zr zr ?_;have j:=(j.dup (i0+0) h0).dup (i1+1) h1;refine u_<|aK 0<|AS<|u_<|mv v0<|q_ o λaf ax o=>AT H9 (kx N (i0:=1) j zr ax) λw j=>aK af<|AI<|bA af<|ic af 0<|v_<|cV o (λo=>?_) λo=>?_;exact u_<|bA af<|aK af<|v_<|G_<|oi o▸aX ⟨rfl,j.drop 2⟩;refine Kb<|u_<|mv v1<|B_ 0 p1 j xt<|ic ((p1.length:Int)) 100<|v_<|cV o (λo=>?_) λo=>?_;exact u_<|aK 2<|v_<|G_<|oi o▸aX ⟨rfl,j.drop 2⟩;refine Kb<|u_<|mv v1<|B_ 0 p1 j xt<|bA 0<|v_<|Kg E V (λ(aw:Unit)=>[rd v0 p0,rd v1 p1]) (λ_=>[(1,v1)]) (λab _=>[(0,v0),(22,v1),(23,vi p1.length),(24,vi ab)]) (mD E V) o ?_ ?_ ?_ ?_;exact j.sp 2 [1,0];rintro hm ab aw fl _ w hk⟨O,rfl,j⟩o;refine A_<|F_<|bA (ab:Int)<|q_ o λag az o=>BY 1 j rJ az λa9 j=>D_ 0 ag j rK λba j=>J_ j B0.z λbb w j=>?_;refine aK (ab:Int)<|IS 0 j 1 zr rK λw j=>?_;refine AS<|u_<|y_ zr sj<|C_ 0 j zr kU dP<|q_ o λa0 a1 o=>AT zJ (fL N (p0:=ag.Name) j a1) λw j=>Ko a0<|v_<|cV o (λo=>?_) λo=>?_;exact u_<|aK 5<|v_<|G_<|bW<|aI<|oi o▸⟨rfl,aX ⟨rfl,j.drop 5⟩⟩;refine Kb<|u_<|y_ zr pW<|H_ 0 j zr jy lH λbc j=>?_;refine q_ o λah a2 o=>AT (hL Tryz.func24) (qZ N (p1:=100) (p3:=5) (i0:=0) j rfl ⟨21,[],rfl,zJ,λw Γl v y0 r i j hi hr=>by obtain rfl:=j.ug (γ:=aN) hi;exact gO (fL N (p0:=y0) j hr) λ_ _ h=>h⟩ a2) λw j=>aK ah<|AI<|bA ah<|ic ah 0<|v_<|cV o (λo=>?_) λo=>?_;exact u_<|bA ah<|aK ah<|v_<|G_<|bW<|aI<|oi o▸⟨rfl,aX ⟨rfl,j.drop 6⟩⟩;refine Kb<|u_<|mv v0<|y_ zr oA<|H_ 1 j zr iZ m7 λbf j=>?_;refine q_ o λai a3 o=>AT GR (mC N (i0:=5) (i1:=0) j rfl rfl ⟨21,[],rfl,zJ,λw Γl v y0 r i j hi hr=>by obtain rfl:=j.ug (γ:=aN) hi;exact gO (fL N (p0:=y0) j hr) λ_ _ h=>h⟩ a3) λw j=>aK ai<|AI<|bA ai<|ic ai 0<|v_<|cV o (λo=>?_) λo=>?_;exact u_<|bA ai<|aK ai<|v_<|G_<|bW<|aI<|oi o▸⟨rfl,aX ⟨rfl,j.drop 7⟩⟩;refine Kb<|u_<|mv v1<|Kl 2 j zr rK λbg j=>?_;refine q_ o λaj a4 o=>AT (hL Tryz.func26) (sE N (i0:=7) (i1:=0) j zr zr a4) λw j=>aK aj<|AI<|bA aj<|ic aj 0<|v_<|cV o (λo=>?_) λo=>?_;exact u_<|bA aj<|aK aj<|v_<|G_<|bW<|aI<|oi o▸⟨rfl,aX ⟨rfl,j.drop 8⟩⟩;refine Kb<|u_<|mv v0<|mv v1<|Kl 3 j zr rK λbh j=>?_;refine q_ o λak a5 o=>AT (hL Tryz.func27) (sF N (i0:=7) (i1:=8) (i2:=0) j zr zr zr a5) λw j=>aK ak<|AI<|bA ak<|ic ak 0<|v_<|cV o (λo=>?_) λo=>?_;exact u_<|bA ak<|aK ak<|v_<|G_<|bW<|aI<|oi o▸⟨rfl,aX ⟨rfl,j.drop 9⟩⟩;refine Kb<|q_ o λar hj o=>Ke (λ(ar:Bool)=>SH E V [(0,v0),(1,v1),(22,v1),(23,vi p1.length),(24,vi ab),(71,vb ar)] [rd v0 p0,rd v1 p1]) ar ?_ ?_;refine KL mixed ?_;have j:=j.drew;refine KK<|bA (ab:Int)<|w_<|ic ((ab:Int)) 0<|w_<|jU (decide<|(ab:Int)>0)<|je hj (λaa hj=>?_) λaa hj=>?_;refine w_<|y_ (hg:=cg aa) zr sj<|w_<|C_ (hg:=cg aa) 4 j zr kU dP<|w_<|IN v1 (cg aa)<|w_<|IN (vi ab) (cg aa)<|w_<|J9 (hg:=cg aa) (ab:Int) 1<|w_ ?_;refine q_ hj λal a6 hj=>BY (hg:=cg aa) 8 j rJ a6 λbj j=>w_<|Kj (hg:=cg aa) 0 j zr sj kU λbk j=>w_<|Ki (hg:=cg aa) al.Name 0 j dP<|w_<|Ku ag.Name al.Name (cg aa)<|w_<|jl aa (vb<|ag.Name.jc al.Name||ag.Name.fY al.Name)<|Kr ?_;exact oi hj▸⟨rfl,j.sp 11 [9,10]⟩;refine w_<|bS aa<|w_<|bS aa<|w_<|bS aa<|w_<|bS aa<|w_<|bS aa<|w_<|bS aa<|w_<|bS aa<|w_<|bS aa<|w_<|bS aa ?_;exact w_<|jl aa (vb false)<|Kr<|oi hj▸⟨rfl,j.sp 9 [7,8]⟩;rintro _ w⟨O,rfl,j⟩;refine aD<|cV o (λo=>?_) λo=>?_;exact u_<|aK 8<|v_<|I_<|aI<|oi o▸⟨rfl,aX ⟨rfl,j.drop 2⟩⟩;exact Kc<|bF<|aD<|By<|IT hk hm<|bA ((ab+1:Nat):Int)<|x_<|oi o▸⟨rfl,j.sp 2 [0,1]⟩;intro r U w o hK;exact aI<|oi o▸hK;rintro aw _ w o⟨O,rfl,j⟩;refine aD<|u_<|mv v1<|B_ 1 p1 j xt<|q_ o λbl a7 o=>Lv (p1.length:Int) zr j zr zr B2 JK a7 λan w j=>?_;refine iT an<|AS<|u_<|mv v1<|B_ 2 p1 j xt<|bA 0<|v_<|Kg E V (λ(av:List Int)=>[rd v1 p1,own 3 an av]) (λ_=>[]) (λae _=>[(1,v1),(12,an),(77,vi p1.length),(78,vi ae)]) (mD E V) o ?_ ?_ ?_ ?_;exact j.sp 3 [2,0];rintro hm ae av fl _ w hk⟨O,rfl,j⟩o;refine A_<|F_<|bA (ae:Int)<|aK (ae:Int)<|AI<|mv v1<|bA (ae:Int)<|mv an ?_;have j:=j.pull 1;refine q_ o λbm a8 o=>AT G4 (vh N (p1:=(ae:Int)) (i0:=0) j zr a8) λw j=>v_<|cV o (λo=>?_) λo=>?_;exact u_<|aK 17<|v_<|I_<|aI<|oi o▸⟨rfl,aX ⟨rfl,j.drop 3⟩⟩;exact Kc<|bF<|aD<|By<|IT hk hm<|bA ((ae+1:Nat):Int)<|x_<|oi o▸⟨rfl,j.sp 3 [1,0]⟩;intro r U w o hK;exact aI<|oi o▸hK;rintro av _ w o⟨O,rfl,j⟩;exact aD<|u_<|aK 0<|v_<|E_<|oi o▸aX ⟨rfl,j.drop 2⟩
def mj(E:World)(V:List HP)(v2:Value)(res:bI×List (Int×bI))(v:Value)(w:World):Prop:=Holds E w<|[rd v res.1,mp v2 res.2]++V
theorem uC(rc:List aF->Int->List (Int×bI)->Option (bI×List (Int×bI)))(ih:∀{E w:World}{V:List HP}{i0:Nat}{v0:Value}{p0:List aF}{p1:Int}{v2:Value}{p2:List (Int×bI)}{res:bI×List (Int×bI)}(j:Holds E w (mp v2 p2::V))(h0:V[i0]? =some (rd v0 p0))(o:rc p0 p1 p2=some res),Calls bE 13 [v0,vi p1,v2].toArray w<|fD<|mj E V v2 res){p0:List aF}{p2:List (Int×bI)}{res:bI×List (Int×bI)}(j:Holds E w (mp v2 p2::V))(h0:V[i0]? =some (rd v0 p0))(o:kQ N rc p0 p1 p2=some res):c_ 13 [v0,vi p1,v2] w<|mj E V v2 res:=by
 unfold kQ at o;refine enter Tryz.func13 zr zr ?_;have j:=j.dup (i0+1) h0;refine u_<|J_ j Ds.z λag w j=>?_;refine AS<|u_<|mv v2<|bA p1<|LJ (i:=2) (k:=p1) zt zr j zr zr zr G5 λah j=>mv (.tuple #[ah,vb<|iP p2 p1])<|KB ah<|KB (vb<|iP p2 p1)<|J_ j Ds.z λay w j=>?_;refine IS 0 j 1 zr wN λw j=>?_;refine bN (iP p2 p1)<|AI<|jU (iP p2 p1)<|v_<|cV o (λo=>?_) λo=>?_;refine u_<|Kl 0 j zr wN λaz j=>IS 3 j 0 zr wN λw j=>?_;refine v_<|G_ ?_;obtain rfl:=oi o;exact FM 3 zr j zr zr wN λa0 j=>j.pk 7 [0,6];refine Kv<|mv v0<|bA p1<|q_ o λad an o=>BY 3 j rJ an λa1 j=>Kj 0 j zr oA iZ λa2 j=>D_ 0 ad.bB j m7 λa3 j=>B_ 0 ad.bB j rL ?_;have j:=(j.sc Int 1).sc Int (ad.bB.length:Int);refine Ms (y:=(⟨1,(ad.bB.length:Int)⟩:bI)) trivial rfl j [(0,vi 1),(1,vi ad.bB.length)] rfl G6 rfl (λM hs g=>by have h:=wI M;exact dQ.cons (f:=λ(x:bI)y=>{x with e0:=y}) h tz (g.sat 1 _ rfl).1 λ_ h=>dQ.cons (f:=λ(x:bI)y=>{x with e1:=y}) h tA (g.sat 0 _ rfl).1 λ_ h=>dQ.nil h) λa4 j=>?_;refine J_ j Ds.z λai w j=>?_;refine IS 0 j 1 zr wN λw j=>?_;refine AS<|u_<|mv v0<|bA p1<|q_ o λae ao o=>BY 10 j rJ ao λa5 j=>Kj 0 j zr lj fG λa6 j=>D_ 0 ae.Uses j ti λaj j=>B_ 0 ae.Uses j vU<|bA 0<|v_<|Ll E V (λ(aa:List (Int×bI)×bI)=>[rd v0 p0,mp v2 aa.1,raw 37 ag 2,bx 37 ai aa.2,rd aj ae.Uses]) (λ_=>[(1,vi p1),(2,v2),(6,vp ag 0),(9,vp ai 0)]) (λaf _=>[(0,v0),(32,aj),(33,vi ae.Uses.length),(34,vi af)]) o ?_ ?_ ?_;exact j.sp 15 [13,14,12,3,0];rintro hm af aa s' _ w hk⟨O,rfl,j⟩o;refine A_<|F_<|q_ o λak au o=>BY 4 j va au λa7 j=>D_ 0 ak j qW λa8 j=>J_ j yD.z λa9 w j=>?_;refine IS 0 j 1 zr qW λw j=>?_;refine AI<|mv v0<|mv v0<|y_ zr oC<|C_ 0 j zr kT dP<|q_ o λav aw o=>AT B1 (gZ N (p1:=ak.aF) (i0:=3) j zr aw) λw j=>mv v2 ?_;have j:=j.pull 4;refine q_ o λab ax o=>Kz G7 (ih (p1:=av) (i0:=3) j zr ax) λba w j=>J_ j Ds.z λal w j=>?_;refine IS 0 j 1 zr wN λw j=>?_;refine v_ ?_;have j:=j.drew;refine Lc (λw=>Holds E w<|[bx 37 al ab.1]++V) mixed [0,0,0,0,0,0,0,0,1,1,1,1,0,2,0,2] [0,1,2,3,4,5,6,7,8,9,10,11,12,13,14,15] (j.pk 11 [0])<|Kf zr zr<|Lh yF<|cI zr<|C_ 9 j zr pS oZ<|cI zr<|Lh yF<|cI zr<|C_ 0 j zr pS oZ ?_;refine cI zr<|J9 aa.2.e0 ab.1.e0<|cI zr<|Lp (wrap .i64<|aa.2.e0+ab.1.e0) 2001<|cI zr<|Lh yG<|cI zr<|C_ 9 j zr pT oZ<|Kq ?_;refine Kw (vp al 1) zr (λw=>Lh yG Kp)<|K5 (vi ab.1.e1) zr (λw j=>C_ 0 j zr pT oZ Kp)<|Kw (vi<|wrap .i64<|aa.2.e1+ab.1.e1) zr (λw=>J9 aa.2.e1 ab.1.e1 Kp)<|Kw (vi (if 1001<(wrap .i64<|aa.2.e1+ab.1.e1)then 1001 else wrap .i64 (aa.2.e1+ab.1.e1))) zr (λw=>Lp (wrap .i64<|aa.2.e1+ab.1.e1) 1001 Kp)<|Kf zr zr<|Lh yF<|u3 zr ?_;have j:=j.sc Int (if 2001<(wrap .i64<|aa.2.e0+ab.1.e0)then 2001 else wrap .i64 (aa.2.e0+ab.1.e0));refine LW 10 zt j zr zr zr 0 zr tz oZ λw j=>?_;refine Kx (j.pk 12 [1])<|Kf zr zr<|Lh yG<|u3 zr ?_;have j:=j.sc Int (if 1001<(wrap .i64<|aa.2.e1+ab.1.e1)then 1001 else wrap .i64 (aa.2.e1+ab.1.e1));refine LW 11 zt j zr zr zr 0 zr tA oZ λw j=>?_;exact Kx (j.pk 13 [2])<|KC<|bF<|aD<|By<|IT hk hm<|bA ((af+1:Nat):Int)<|x_<|oi o▸⟨rfl,j.sp 13 [8,4,10,11,12]⟩;rintro aa _ w o⟨O,rfl,j⟩;refine aD<|u_<|mv v2<|bA p1<|Kl 3 j zr wN λbb j=>Lg 2 0 p1 j zr zr zr zr zr G5 λw j=>AI<|Kl 4 j zr wN λbc j=>IS 4 j 0 zr wN λw j=>?_;refine v_<|E_ ?_;obtain rfl:=oi o;exact FM 4 zr j zr zr wN λbf j=>j.pk 8 [0,4]
theorem uD:∀(d:Nat){E w:World}{V:List HP}{i0:Nat}{v0:Value}{p0:List aF}{p1:Int}{v2:Value}{p2:List (Int×bI)}{res:bI×List (Int×bI)}(o:Holds E w (mp v2 p2::V))(h0:V[i0]? =some (rd v0 p0))(j:kR N d p0 p1 p2=some res),c_ 13 [v0,vi p1,v2] w<|mj E V v2 res:=by
 intro d;induction d with
 |zero=>intros;rename_i j;cases j
 |succ d ih=>exact λo h0 j=>uC N _ (@ih) o h0 j
theorem vW{p0:List aF}{p2:List (Int×bI)}{res:bI×List (Int×bI)}(j:Holds E w (mp v2 p2::V))(h0:V[i0]? =some (rd v0 p0))(o:nY N p0 p1 p2=some res):
    Calls bE 13 [v0,vi p1,v2].toArray w (fD<|mj E V v2 res):=uD N N j h0 o
def qu(E:World)(V:List HP)(b0:Nat)(b_ a_:Value)(f_ e_:Value)(res:Int×List Int)(v:Value)(w:World):Prop:=∃o_:Value,v= vi res.1/\Holds E w ([bc 45 b0 [b_,a_,f_,e_,o_],own 3 o_ res.2]++V)
theorem jC{k_:List Int}{res:Int×List Int}(j:Holds E w (bc 45 b0 [b_,a_,f_,e_,g_]::own 3 g_ k_::V))(o:bZ N k_ p1=some res):c_ 42 [vp b0 0,vi p1] w<|qu E V b0 b_ a_ f_ e_ res:=by
 unfold bZ at o;refine enter Tryz.func42 zr zr<|u_<|aK 0<|AS<|K6 E V (λ(aa:List Int×Int)=>[bc 45 b0 [b_,a_,f_,e_,g_],own 3 g_ aa.1]) (λaa=>[(0,vp b0 0),(1,vi aa.2)]) (λ_=>[]) o ?_ ?_ ?_;exact j.sp 2 [0,1];rintro aa fl _ w⟨O,rfl,j⟩o;refine A_<|u_<|mv (vp b0 0)<|Kt zt zr zr<|y_ zr sm<|Kh 0 g_ j tU<|bA aa.2<|q_ o λah ab o=>Ks 1 j zr zr m8 ab<|KX 1 j ab oZ<|bA aa.2<|ic ah aa.2<|v_<|cV o (λo=>?_) λo=>?_;refine KO<|KZ<|A_<|KY mixed [0,0,0,0,0,0,0,0,0,0,0,0,0,0,0,0,0,0,0,2] [0,1,2,3,4,5,6,7,8,9,10,11,12,13,14,15,16,17,18,19] ?_;have j:=j.drew;refine Kf zr zr<|mv (vp b0 0)<|cI zr<|Kt zt zr zr<|cI zr<|y_ zr sm<|cI zr<|Kh 0 g_ j tU<|cI zr<|bA aa.2<|cI zr<|mv (vp b0 0)<|cI zr<|Kt zt zr zr<|cI zr<|y_ zr sm<|cI zr<|Kh 0 g_ j tU ?_;refine cI zr<|mv (vp b0 0)<|cI zr<|Kt zt zr zr<|cI zr<|y_ zr sm<|cI zr<|Kh 0 g_ j tU<|cI zr<|bA aa.2<|cI zr ?_;refine q_ o λal ad o=>Ks 1 j zr zr m8 ad<|cI zr<|KX 1 j ad oZ<|cI zr<|q_ o λai ae o=>Ks 1 j zr zr m8 ae<|cI zr<|KX 1 j ae oZ<|cI zr<|q_ o λan af o=>Ks 1 j zr zr m8 af<|u3 zr ?_;have j:=j.sc Int ai;refine K8 2 0 j af oZ λw j=>?_;refine Kx zt<|KC<|aD<|By<|mv (vp b0 0)<|Kt zt zr zr<|y_ zr sm<|Kh 1 g_ j tU<|bA aa.2<|q_ o λaj ag o=>Ks 2 j zr zr m8 ag<|KX 2 j ag oZ<|aK aj<|x_<|bF ?_;exact oi o▸⟨rfl,j.sp 3 [1,2]⟩;exact KF<|oi o▸⟨rfl,j.sp 2 [0,1]⟩;rintro aa _ w o⟨O,rfl,j⟩;exact aD<|u_<|bA aa.2<|aK aa.2<|v_<|E_<|oi o▸aX ⟨g_,zr,j.pk 2 [0,1]⟩
def gX(E:World)(V:List HP)(b0:Nat)(b_:Value)(res:List (aN×Int)×List Part×List aC×List (List Pin)×List Int)(v:Value)(w:World):Prop:=∃u0 p_ r_ s_ o_:Value,v=u0/\Holds E w ([mp u0 res.1,bc 45 b0 [b_,p_,r_,s_,o_],own 77 p_ res.2.1,own 96 r_ res.2.2.1,own 78 s_ res.2.2.2.1,own 3 o_ res.2.2.2.2]++V)
theorem nE(rc:List aF->List Part->List aC->List (List Pin)->List Int->Int->aN->Int->Option (List (aN×Int)×List Part×List aC×List (List Pin)×List Int))(ih:∀{E w:World}{V:List HP}{b0:Nat}{b_:Value}{m_:List aF}{a_:Value}{j_:List Part}{f_:Value}{i_:List aC}{e_:Value}{d_:List (List Pin)}{g_:Value}{k_:List Int}{p1:Int}{p2:aN}{p3:Int}{res:List (aN×Int)×List Part×List aC×List (List Pin)×List Int}(j:Holds E w (bc 45 b0 [b_,a_,f_,e_,g_]::rd b_ m_::own 77 a_ j_::own 96 f_ i_::own 78 e_ d_::own 3 g_ k_::V))(hb:rc m_ j_ i_ d_ k_ p1 p2 p3=some res),Calls bE 14 [vp b0 0,vi p1,str p2,vi p3].toArray w<|fD<|gX E V b0 b_ res){m_:List aF}{j_:List Part}{i_:List aC}{d_:List (List Pin)}{k_:List Int}{p2:aN}{res:List (aN×Int)×List Part×List aC×List (List Pin)×List Int}(j:Holds E w (bc 45 b0 [b_,a_,f_,e_,g_]::rd b_ m_::own 77 a_ j_::own 96 f_ i_::own 78 e_ d_::own 3 g_ k_::V))(hb:eW N rc m_ j_ i_ d_ k_ p1 p2 p3=some res):
    c_ 14 [vp b0 0,vi p1,str p2,vi p3] w<|gX E V b0 b_ res:=by
 unfold eW at hb
 refine enter Tryz.func14 zr zr<|u_<|iT (.map none)<|AI<|mv (vp b0 0)<|Kt zt zr zr<|y_ zr Az<|Kh 0 b_ j yE<|bA p1 ?_
 obtain⟨ad,dj,hb⟩:=bd hb
 refine BY 1 j rJ dj λe4 j=>D_ 0 ad j rK λe5 j=>J_ j B0.z λa3 w j=>?_
 refine IS 0 j 1 zr rK λw j=>?_
 refine AS<|u_<|y_ zr oA<|H_ 0 j zr iZ m7 λcy j=>B_ 0 ad.bB j rL<|bA 0<|v_<|KR E V (λ(bb:List Part)(cz:Value)=>[bc 45 b0 [b_,cz,f_,e_,g_],own 77 cz bb,rd b_ m_,own 96 f_ i_,own 78 e_ d_,own 3 g_ k_,bx 57 a3 ad,rd cy ad.bB]) (λ_ _=>[(0,vp b0 0),(2,str p2),(3,vi p3),(9,vp a3 0)]) (λcj _ _=>[(40,cy),(41,vi ad.bB.length),(42,vi cj)]) hb ?_ ?_ ?_
 ·exact⟨a_,j.sp 10 [4,6,5,7,8,9,1,0]⟩
 ·rintro hm cj bb s' _ w hk⟨ck,O,rfl,j⟩hb
  refine A_<|F_ ?_
  obtain⟨bo,dk,hb⟩:=bd hb
  refine BY 7 j oB dk λe6 j=>D_ 0 bo j nC λe7 j=>J_ j vT.z λe8 w j=>?_
  refine IS 0 j 1 zr nC λw j=>?_
  refine v_ ?_
  have j:=j.drew
  refine Lc (λw=>Holds E w<|[bc 45 b0 [b_,ck,f_,e_,g_]]++V) mixed [1,1,1,1,1,0,0,0,0,0,0,0,2,2,0,0,2] [0,1,2,3,4,5,6,7,8,9,10,11,12,13,14,15,16] (j.pk 11 [3])<|Kw (vp b0 0) zr (λw=>IN (vp b0 0) zt Kp)<|Kw (vp b0 0) zr (λw=>IN (vp b0 0) zt Kp)<|Kw (vp b0 0) zr (λw=>Kt zt zr zr Kp)<|Kw (vp b0 1) zr (λw=>y_ zr AA Kp)<|K5 ck zr (λw j=>Kh 0 ck j m7 Kp)<|Kf zr zr<|mv (str p2)<|cI zr ?_
  refine y_ zr kV<|cI zr<|C_ 0 j zr gD dP<|cI zr ?_
  obtain⟨bz,dm,hb⟩:=bd hb
  refine K3 p2 bo.Name dm<|cI zr<|y_ zr tQ<|cI zr<|C_ 0 j zr mJ dP<|cI zr ?_
  have j:=(j.sc aN bz).sc aN bo.eD
  refine KS (⟨bz,bo.eD⟩:Part) trivial rfl j [(0,str bz),(1,str bo.eD)] rfl FX rfl (λM hs g=>by have h:=yC M;exact dQ.cons (f:=λ(x:Part)y=>{x with Name:=y}) h u6 (g.sat 1 _ rfl).1 λ_ h=>dQ.cons (f:=λ(x:Part)y=>{x with eD:=y}) h u7 (g.sat 0 _ rfl).1 λ_ h=>dQ.nil h) λdn j=>?_
  refine u3 zr<|KD ([(⟨bz,bo.eD⟩:Part)]:List Part) j [dn] oB vT (λM hs g=>⟨(g.sat 0 _ zr).1,zt⟩) λe9 w j=>Kx (j.pk 15 [7])<|KQ zr zr ?_
  have j:=j.freeze 0
  obtain⟨fa,dp,hb⟩:=bd hb
  refine KE 8 0 zt zr j zr zr zr zr FY dp λc0 w j=>?_
  refine Kx (j.pk 15 [7])<|Kf zr zr<|Kt zt zr zr<|cI zr<|y_ zr AA<|Kq<|Ma zr zr<|K4 7 c0 j zr zr (j4 8 j) m7 λw j=>?_
  refine Kx zt<|KC<|bF<|aD<|By<|IT hk hm<|bA ((cj+1:Nat):Int)<|x_ ?_
  obtain rfl:=oi hb
  exact⟨rfl,c0,j.sp 15 [7,8,9,10,11,12,13,14]⟩
 rintro bb _ w hb⟨al,O,rfl,j⟩
 refine aD<|u_<|K_ (κ:=aN) (ν:=Int) j λan w j=>iT an<|AI<|K_ (κ:=Pin) (ν:=Int) j λaq w j=>iT aq<|AS<|u_ ?_
 refine y_ zr nD<|H_ 8 j zr iz ly λa7 j=>B_ 0 ad.aM j qn<|bA 0<|v_ ?_
 obtain⟨o,hN,hb⟩:=bd hb
 refine Lt (λ(bg:Nat)(o:List aC×List (List Pin)×List Int×List (aN×Int)×List (Pin×Int))U w=>∃c1 c2 c3:Value,SH E V [(0,vp b0 0),(2,str p2),(3,vi p3),(9,vp a3 0),(12,an),(13,aq),(66,a7),(67,vi ad.aM.length),(68,vi bg)] [bc 45 b0 [b_,al,c1,c2,c3],own 96 c1 o.1,own 78 c2 o.2.1,own 3 c3 o.2.2.1,rd b_ m_,own 77 al bb,bx 57 a3 ad,mp an o.2.2.2.1,mp aq o.2.2.2.2,rd a7 ad.aM] U w) (λ(o:List aC×List (List Pin)×List Int×List (aN×Int)×List (Pin×Int))U w=>∃b2 b3 b4:Value,SH E V [(0,vp b0 0),(2,str p2),(3,vi p3),(9,vp a3 0),(12,an),(13,aq)] [bc 45 b0 [b_,al,b2,b3,b4],own 96 b2 o.1,own 78 b3 o.2.1,own 3 b4 o.2.2.1,rd b_ m_,own 77 al bb,bx 57 a3 ad,mp an o.2.2.2.1,mp aq o.2.2.2.2,rd a7 ad.aM] U w) hN ?_ ?_ ?_ ?_
 ·exact⟨f_,e_,g_,j.sp 11 [3,6,7,8,5,4,9,2,1,0]⟩
 ·rintro hm o _ w⟨dq,dr,ds,O,rfl,j⟩
  refine u_<|ic ((ad.aM.length:Int)) ((ad.aM.length:Int))<|AS<|Lk Gm<|KF ?_
  exact⟨rfl,dq,dr,ds,j.sp 10 [0,1,2,3,4,5,6,7,8,9]⟩
 ·rintro hm bg o s' _ w hk⟨a8,ar,az,O,rfl,j⟩hb
  refine u_<|ic ((bg:Int)) ((ad.aM.length:Int))<|AS<|K0 (Gl hk)<|Kb<|F_ ?_
  obtain⟨ax,dt,hb⟩:=bd hb
  refine BY 9 j n4 dt λdu j=>D_ 0 ax j mx λdv j=>J_ j tT.z λcn w j=>?_
  refine IS 0 j 1 zr mx λw j=>?_
  refine AI<|mv (vp b0 0)<|Kt zt zr zr<|y_ zr yH<|Kh 3 a8 j EY<|KM 4 o.1 j G8<|aK (o.1.length:Int)<|AI<|mv an ?_
  refine y_ zr jP<|C_ 0 j zr gE dP<|bA (o.1.length:Int) ?_
  have j:=j.sc Int (o.1.length:Int)
  refine Lg 11 0 ax.Name j zr zr zr zr zr G9 λw j=>AS ?_
  obtain⟨a5,dw,hb⟩:=bd hb
  obtain⟨cp,dx,hb⟩:=bd hb
  obtain⟨cq,dy,hb⟩:=bd hb
  refine Lb E V mixed [1,1,1,1,1,0,1,1,0,0,1,1,0,0,0,1,1,1,0,1,0,0,1,1,0,1,1,0] [12,13,14,20,21,24,27] (λ(x:Value×Value×Value×Value×Value)=>(λak ai aj aa ae=>[(0,81,vp b0 0),(1,82,vp b0 0),(2,83,vp b0 0),(3,84,vp b0 0),(4,85,vp b0 2),(5,86,a8),(6,87,str p2),(7,88,vp cn 0),(8,89,str ax.Name),(9,90,str a5),(10,91,vi p3),(11,92,vi<|wrap .i64<|p3+1),(12,93,ak),(13,94,ai),(14,95,aa),(15,96,vp b0 0),(16,97,vp b0 0),(17,98,vp b0 4),(18,99,az),(19,100,vi o.1.length),(20,101,aj),(21,102,ae),(22,103,vp b0 0),(23,104,vp b0 2),(25,105,vp b0 0),(26,106,vp b0 4)]) x.1 x.2.1 x.2.2.1 x.2.2.2.1 x.2.2.2.2) [(0,vp b0 0),(2,str p2),(3,vi p3),(9,vp a3 0),(12,an),(13,aq),(15,vp cn 0),(16,vi o.1.length),(66,a7),(67,vi ad.aM.length),(68,vi bg)] [] (λ(D:Nat->Bool)(x:Value×Value×Value×Value×Value)=>(λak ai aj aa ae=>[bif D 0 then rd ak (⟨a5,wrap .i64<|p3+1⟩:aC)else cN,bif D 2 then rd ai ([(⟨a5,wrap .i64<|p3+1⟩:aC)]:List aC)else(bif D 1 then own 96 ai ([(⟨a5,wrap .i64<|p3+1⟩:aC)]:List aC)else cN),bif D 4 then rd aj ([(o.1.length:Int)]:List Int)else(bif D 3 then own 3 aj ([(o.1.length:Int)]:List Int)else cN),rd (vi o.1.length) (o.1.length:Int),bx 80 cn ax,rd dv ax,pt du ax,bif D 6 then bc 45 b0 [b_,al,aa,ar,ae]else(bif D 5 then bc 45 b0 [b_,al,aa,ar,az]else bc 45 b0 [b_,al,a8,ar,az]),bif D 2 then own 96 aa cp else own 96 a8 o.1,own 78 ar o.2.1,bif D 4 then own 3 ae cq else own 3 az o.2.2.1,rd b_ m_,own 77 al bb,bx 57 a3 ad,mp an<|fM o.2.2.2.1 ax.Name (o.1.length:Int),mp aq o.2.2.2.2,rd a7 ad.aM]) x.1 x.2.1 x.2.2.1 x.2.2.2.1 x.2.2.2.2) (λx=>by kernel_rfl) ?_ ⟨λ_=>j6 gn,λ_=>j6 gn,λ_=>j6 gn,λ_=>sd gn,λ_=>nB gn yH,?_,λ_=>j6 gn,λ_=>nB gn jP,?_,?_,λ_=>j6 gn,λ_=>ER gn rfl,?_,?_,?_,λ_=>j6 gn,λ_=>sd gn,λ_=>nB gn sm,?_,λ_=>j6 gn,?_,?_,λ_=>sd gn,λ_=>nB gn yH,?_,λ_=>sd gn,λ_=>nB gn sm,?_,trivial⟩ ?_
  ·have j:=(((j.drew).cN).cN).cN
   exact⟨(undef,undef,undef,undef,undef),cH.none,Dn zr,zt,j⟩
  ·rintro D U w hD ah ag⟨⟨ak,ai,aj,aa,ae⟩,hv,ha,_,j⟩
   obtain⟨O,rfl⟩:=hv.o1 4 ah
   have j:=(j.cG 7<|nh ag hD 27).cG 7<|nh ag hD 24
   refine Kh 7 a8 j EY ?_
   have j:=(j.hY 7 (D 24) (nh ag hD 24)<|bc 45 b0 [b_,al,aa,ar,az]).hY 7 (D 27) (nh ag hD 27)<|bc 45 b0 [b_,al,aa,ar,ae]
   exact Kd (ak,ai,aj,aa,ae) 5 hv ha j
  ·rintro D U w hD ah ag⟨⟨ak,ai,aj,aa,ae⟩,hv,ha,_,j⟩
   obtain⟨O,rfl⟩:=hv.o1 7 ah
   refine C_ 4 j zr gE dP ?_
   exact Kd (ak,ai,aj,aa,ae) 8 hv ha j
  ·rintro D U w hD ah ag⟨⟨ak,ai,aj,aa,ae⟩,hv,ha,_,j⟩
   obtain⟨O,rfl⟩:=hv.o2 6 8 ah
   refine K3 p2 ax.Name dw ?_
   exact Kd (ak,ai,aj,aa,ae) 9 hv ha j
  ·rintro D U w hD ah ag⟨⟨ak,ai,aj,aa,ae⟩,hv,ha,_,j⟩
   obtain⟨O,rfl⟩:=hv.o2 9 11 ah
   have j:=((j.cG 0 hD).sc aN a5).sc Int<|wrap .i64<|p3+1
   refine KS (⟨a5,wrap .i64<|p3+1⟩:aC) trivial rfl j [(0,str a5),(1,vi<|wrap .i64<|p3+1)] rfl Ip rfl (λM hs g=>by have h:=qm M;exact dQ.cons (f:=λ(x:aC)y=>{x with path:=y}) h tg (g.sat 1 _ rfl).1 λ_ h=>dQ.cons (f:=λ(x:aC)y=>{x with words:=y}) h th (g.sat 0 _ rfl).1 λ_ h=>dQ.nil h) λdz j=>?_
   have j:=(j.pl 20 [0,4,5,6,7,8,9,10,11,12,13,14,15,16,17,18,19] rfl).fS 0 true cN
   exact Kd (dz,ai,aj,aa,ae) 12 hv ha j
  ·rintro D U w hD ah ag⟨⟨ak,ai,aj,aa,ae⟩,hv,ha,_,j⟩
   obtain⟨O,rfl⟩:=hv.o1 12 ah
   have j:=((j.jg 0<|ah.1 rfl).cG 1<|nh ag hD 14).cG 1 hD
   refine KD ([(⟨a5,wrap .i64<|p3+1⟩:aC)]:List aC) j [ak] Ha FZ (λM hs g=>⟨(g.sat 0 _ zr).1,zt⟩) λc4 w j=>?_
   have j:=(((j.pl 18 [1,0,3,4,5,6,7,8,9,10,11,12,13,14,15,16,17] rfl).fS (hb:=ah.1 rfl) 0 (D 12) cN).fS 1 true cN).hY 1 (D 14) (nh ag hD 14)<|rd c4 ([(⟨a5,wrap .i64<|p3+1⟩:aC)]:List aC)
   exact Kd (ak,c4,aj,aa,ae) 13 hv ha j
  ·rintro D U w hD ah ag⟨⟨ak,ai,aj,aa,ae⟩,hv,ha,_,j⟩
   obtain⟨O,rfl⟩:=hv.o2 5 13 ah
   have j:=(((((j.cG 1 hD).jg 1<|ah.2.1 rfl).cG 7<|nh ag hD 27).cG 7<|nh ag hD 24).cG 8 hD).freeze 1
   refine KE 8 1 zt zr j zr zr zr zr Iq dx λcr w j=>?_
   dsimp only[List.cons_append,List.nil_append,List.set_cons_zero,List.set_cons_succ]at j
   have j:=((j.fS 1 true (bif D 13 then own 96 ai ([(⟨a5,wrap .i64<|p3+1⟩:aC)]:List aC)else cN)).hY 7 (D 24) (nh ag hD 24)<|bc 45 b0 [b_,al,cr,ar,az]).hY 7 (D 27) (nh ag hD 27)<|bc 45 b0 [b_,al,cr,ar,ae]
   have j:=j.fS 8 true<|own 96 a8 o.1
   exact Kd (ak,ai,aj,cr,ae) 14 hv ha j
  ·rintro D U w hD ah ag⟨⟨ak,ai,aj,aa,ae⟩,hv,ha,_,j⟩
   obtain⟨O,rfl⟩:=hv.o1 17 ah
   have j:=(j.cG 7<|nh ag hD 27).cG 7<|nh ag hD 24
   refine Kh 7 az j tU ?_
   have j:=(j.hY 7 (D 24) (nh ag hD 24)<|bc 45 b0 [b_,al,aa,ar,az]).hY 7 (D 27) (nh ag hD 27)<|bc 45 b0 [b_,al,aa,ar,ae]
   exact Kd (ak,ai,aj,aa,ae) 18 hv ha j
  ·rintro D U w hD ah ag⟨⟨ak,ai,aj,aa,ae⟩,hv,ha,_,j⟩
   obtain⟨O,rfl⟩:=hv.o1 19 ah
   have j:=((j.cG 2<|nh ag hD 21).cG 2 hD).sc Int (o.1.length:Int)
   refine KD ([(o.1.length:Int)]:List Int) j [vi o.1.length] m8 Gq (λM hs g=>⟨(g.sat 0 _ zr).1,zt⟩) λc5 w j=>?_
   have j:=((j.pl 19 [2,3,0,5,6,7,8,9,10,11,12,13,14,15,16,17,18] rfl).fS 2 true cN).hY 2 (D 21) (nh ag hD 21)<|rd c5 ([(o.1.length:Int)]:List Int)
   exact Kd (ak,ai,c5,aa,ae) 20 hv ha j
  ·rintro D U w hD ah ag⟨⟨ak,ai,aj,aa,ae⟩,hv,ha,_,j⟩
   obtain⟨O,rfl⟩:=hv.o2 18 20 ah
   have j:=(((((j.cG 2 hD).jg 2<|ah.2.1 rfl).cG 7<|nh ag hD 27).cG 7<|nh ag hD 24).cG 10 hD).freeze 2
   refine KE 10 2 zt zr j zr zr zr zr B2 dy λc6 w j=>?_
   dsimp only[List.cons_append,List.nil_append,List.set_cons_zero,List.set_cons_succ]at j
   have j:=((j.fS 2 true (bif D 20 then own 3 aj ([(o.1.length:Int)]:List Int)else cN)).hY 7 (D 24) (nh ag hD 24)<|bc 45 b0 [b_,al,aa,ar,az]).hY 7 (D 27) (nh ag hD 27)<|bc 45 b0 [b_,al,aa,ar,c6]
   have j:=j.fS 10 true<|own 3 az o.2.2.1
   exact Kd (ak,ai,aj,aa,c6) 21 hv ha j
  ·rintro D U w hD ah ag⟨⟨ak,ai,aj,aa,ae⟩,hv,ha,_,j⟩
   obtain⟨O,rfl⟩:=hv.o2 23 14 ah
   have j:=((j.cG 7<|nh ag hD 27).cG 7 hD).jg 8<|ah.2.1 rfl
   refine K4 7 aa j zr zr (j4 8 j) EY λw j=>?_
   have j:=((j.fS 7 true<|bc 45 b0 [b_,al,a8,ar,az]).hY 7 (D 27) (nh ag hD 27)<|bc 45 b0 [b_,al,aa,ar,ae]).fS (hb:=ah.2.1 rfl) 8 (D 14)<|own 96 a8 o.1
   exact K7 (ak,ai,aj,aa,ae) hv ha j
  ·rintro D U w hD ah ag⟨⟨ak,ai,aj,aa,ae⟩,hv,ha,_,j⟩
   obtain⟨O,rfl⟩:=hv.o2 25 21 ah
   have j:=((j.cG 7 hD).jg 7<|ah.2.2.1 rfl).jg 10<|ah.2.1 rfl
   refine K4 7 ae j zr zr (j4 10 j) tU λw j=>?_
   have j:=(j.fS 7 true (bif D 24 then bc 45 b0 [b_,al,aa,ar,az]else bc 45 b0 [b_,al,a8,ar,az])).fS (hb:=ah.2.1 rfl) 10 (D 21)<|own 3 az o.2.2.1
   exact K7 (ak,ai,aj,aa,ae) hv ha j
  rintro D U w bp⟨⟨ak,ai,aj,aa,ae⟩,hv,ha,_,j⟩
  simp only[List.getD_cons_zero,List.getD_cons_succ,bp 12 (by decide),bp 14 (by decide),bp 21 (by decide),bp 27 (by decide),bp 14 (by decide),bp 21 (by decide),bK]at j
  obtain⟨O,rfl⟩:=ha.sV
  refine aD<|u_<|iT n_<|AS<|u_<|y_ zr md<|H_ 4 j zr jt o4 λb5 j=>B_ 0 ax.aU j pY<|bA 0 ?_
  refine v_<|KR E V (λ(bq:List (Pin×Int)×List Pin)(ct:Value)=>[bc 45 b0 [b_,al,aa,ar,ae],rd b_ m_,own 77 al bb,own 96 aa cp,own 78 ar o.2.1,own 3 ae cq,bx 57 a3 ad,mp an<|fM o.2.2.2.1 ax.Name (o.1.length:Int),mp aq bq.1,rd a7 ad.aM,rd b5 ax.aU,own 83 ct bq.2]) (λ_ ct=>[(0,vp b0 0),(2,str p2),(3,vi p3),(9,vp a3 0),(12,an),(13,aq),(17,ct),(66,a7),(67,vi ad.aM.length),(68,vi bg)]) (λb6 _ _=>[(16,vi o.1.length),(108,b5),(109,vi ax.aU.length),(110,vi b6)]) hb ?_ ?_ ?_
  ·have j:=j.gL Pin 83
   exact⟨n_,j.sp 19 [9,13,14,10,11,12,15,16,17,18,1,0]⟩
  ·rintro hm b6 bq s' _ w hk⟨c7,O,rfl,j⟩hb
   refine A_<|F_ ?_
   obtain⟨a9,d3,hb⟩:=bd hb
   refine BY 10 j pZ d3 λfb j=>D_ 0 a9 j jz λfc j=>J_ j vc.z λfe w j=>?_
   refine IS 0 j 1 zr jz λw j=>?_
   refine AI<|mv aq<|Kl 0 j zr jz λff j=>bA (o.1.length:Int) ?_
   have j:=j.sc Int (o.1.length:Int)
   refine Lg 13 0 a9 j zr (r7 1 j zr) zr zr zr EZ λw j=>AI<|y_ zr lj<|H_ 11 j zr fG ti λfg j=>y_ zr mc<|C_ 3 j zr jr dP ?_
   obtain⟨d4,d5,hb⟩:=bd hb
   refine AT GW (qs N (p1:=a9.Part) (i0:=0) j zr d5) λw j=>ic d4 0<|v_ ?_
   obtain⟨cu,hj,hb⟩:=bd hb
   refine Ke (λ(cu:List Pin)U w=>∃b7:Value,SH E V [(0,vp b0 0),(2,str p2),(3,vi p3),(9,vp a3 0),(12,an),(13,aq),(16,vi o.1.length),(17,b7),(66,a7),(67,vi ad.aM.length),(68,vi bg),(108,b5),(109,vi ax.aU.length),(110,vi b6)] [bc 45 b0 [b_,al,aa,ar,ae],rd b_ m_,own 77 al bb,own 96 aa cp,own 78 ar o.2.1,own 3 ae cq,bx 57 a3 ad,mp an<|fM o.2.2.2.1 ax.Name (o.1.length:Int),mp aq<|fM bq.1 a9 (o.1.length:Int),rd a7 ad.aM,rd b5 ax.aU,own 83 b7 cu] U w) cu ?_ ?_
   ·refine cV hj (λhj=>?_) λhj=>?_
    rotate_left
    ·refine Kc ?_
     obtain rfl:=oi hj
     exact⟨rfl,c7,j.sp 18 [6,7,8,9,10,11,12,13,14,15,16,17]⟩
    refine By<|mv c7<|mv (str p2)<|y_ zr mc<|C_ 3 j zr jr dP ?_
    obtain⟨b8,d6,hj⟩:=bd hj
    refine K3 p2 a9.Part d6<|y_ zr pX<|C_ 3 j zr lx dP ?_
    have j:=(j.sc aN b8).sc aN a9.Pin
    refine KS (⟨b8,a9.Pin⟩:Pin) trivial rfl j [(0,str b8),(1,str a9.Pin)] rfl B3 rfl (λM hs g=>by have h:=wJ M;exact dQ.cons (f:=λ(x:Pin)y=>{x with Part:=y}) h qj (g.sat 1 _ rfl).1 λ_ h=>dQ.cons (f:=λ(x:Pin)y=>{x with Pin:=y}) h ql (g.sat 0 _ rfl).1 λ_ h=>dQ.nil h) λd7 j=>?_
    refine KD ([(⟨b8,a9.Pin⟩:Pin)]:List Pin) j [d7] pZ vc (λM hs g=>⟨(g.sat 0 _ zr).1,zt⟩) λfh w j=>?_
    have j:=j.freeze 0
    obtain⟨fi,d8,hj⟩:=bd hj
    refine KE 21 0 zt zr j zr zr zr zr AB d8 λc8 w j=>?_
    refine iT c8<|x_ ?_
    obtain rfl:=oi hj
    exact⟨rfl,c8,j.sp 22 [10,11,12,13,14,15,16,17,18,19,20,21]⟩
   rintro _ w⟨b7,O,rfl,j⟩
   refine bF<|aD<|By<|IT hk hm<|bA ((b6+1:Nat):Int)<|x_ ?_
   obtain rfl:=oi hb
   exact⟨rfl,b7,j.sp 12 [0,1,2,3,4,5,6,7,8,9,10,11]⟩
  rintro bq _ w hb⟨c9,O,rfl,j⟩
  refine aD<|By<|mv (vp b0 0)<|mv (vp b0 0)<|Kt zt zr zr<|y_ zr AD<|Kh 0 ar j zM<|mv c9 ?_
  have j:=j.freeze 11
  refine KD ([bq.2]:List (List Pin)) j [c9] xu Hb (λM hs g=>⟨(g.sat 11 _ zr).1,zt⟩) λfj w j=>?_
  have j:=j.freeze 0
  obtain⟨fk,d9,hb⟩:=bd hb
  refine KE 5 0 zt zr j zr zr zr zr F0 d9 λda w j=>?_
  refine Kt zt zr zr<|y_ zr AD<|K4 1 da j zr zr (j4 5 j) zM λw j=>?_
  refine x_<|bF<|aD<|By<|IT hk hm<|bA ((bg+1:Nat):Int)<|x_ ?_
  obtain rfl:=oi hb
  exact⟨rfl,aa,da,ae,j.sp 13 [1,4,5,6,2,3,7,8,9,10]⟩
 rintro _ w⟨b2,b3,b4,O,rfl,j⟩
 refine aD<|A_<|u_<|y_ zr lj<|H_ 6 j zr fG ti λba j=>B_ 0 ad.Uses j vU<|bA 0<|v_ ?_
 obtain⟨a4,hN,hb⟩:=bd hb
 refine Lt (λ(bh:Nat)(a4:List Part×List aC×List (List Pin)×List Int)U w=>∃db dc dd de:Value,SH E V [(0,vp b0 0),(2,str p2),(3,vi p3),(12,an),(13,aq),(146,ba),(147,vi ad.Uses.length),(148,vi bh)] [bc 45 b0 [b_,db,dc,dd,de],own 77 db a4.1,own 96 dc a4.2.1,own 78 dd a4.2.2.1,own 3 de a4.2.2.2,rd b_ m_,mp an o.2.2.2.1,mp aq o.2.2.2.2,rd ba ad.Uses] U w) (λ(a4:List Part×List aC×List (List Pin)×List Int)U w=>∃b9 ca cb cc:Value,SH E V [(0,vp b0 0),(12,an)] [bc 45 b0 [b_,b9,ca,cb,cc],own 77 b9 a4.1,own 96 ca a4.2.1,own 78 cb a4.2.2.1,own 3 cc a4.2.2.2,rd b_ m_,mp an o.2.2.2.1,mp aq o.2.2.2.2,rd ba ad.Uses] U w) hN ?_ ?_ ?_ ?_
 ·exact⟨al,b2,b3,b4,j.sp 11 [1,6,2,3,4,5,8,9,0]⟩
 ·rintro hm a4 _ w⟨ea,eb,ec,ed,O,rfl,j⟩
  refine u_<|ic ((ad.Uses.length:Int)) ((ad.Uses.length:Int))<|AS<|Lk Gm<|KF ?_
  exact⟨rfl,ea,eb,ec,ed,j.sp 9 [0,1,2,3,4,5,6,7,8]⟩
 ·rintro hm bh a4 s' _ w hk⟨fl,fm,fo,fp,O,rfl,j⟩hb
  refine u_<|ic ((bh:Int)) ((ad.Uses.length:Int))<|AS<|K0 (Gl hk)<|Kb<|F_ ?_
  obtain⟨av,ee,hb⟩:=bd hb
  refine BY 8 j va ee λfq j=>D_ 0 av j qW λfr j=>J_ j yD.z λbr w j=>?_
  refine IS 0 j 1 zr qW λw j=>?_
  refine AS<|KY mixed [0,0,0,0,0,0,2,0] [0,1,2,3,4,5,6,7] ?_
  have j:=j.drew
  refine Kf zr zr<|mv (vp b0 0)<|cI zr<|Kt zt zr zr<|cI zr<|y_ zr Az<|cI zr<|Kh 3 b_ j yE<|cI zr ?_
  refine y_ zr oC<|cI zr<|C_ 0 j zr kT dP<|u3 zr ?_
  obtain⟨cd,ef,hb⟩:=bd hb
  refine AT B1 (gZ N (p1:=av.aF) (i0:=8) j zr ef) λw j=>Bo zr<|aK cd<|Kq<|KC<|aD<|u_<|mv (vp b0 0)<|bA cd ?_
  refine mv (str p2)<|y_ zr mb<|C_ 0 j zr jq dP ?_
  obtain⟨eg,eh,hb⟩:=bd hb
  refine K3 p2 av.Name eh ?_
  obtain⟨ei,ej,hb⟩:=bd hb
  refine K3 eg ⟨[47]⟩ ej<|bA p3<|J9 p3 1 ?_
  have j:=(((((j.pull 7).pull 7).pull 7).pull 7).dup 12 rfl).pull 8
  obtain⟨ay,ek,hb⟩:=bd hb
  refine Kz Hc (ih (p1:=cd) (p2:=ei) (p3:=wrap .i64<|p3+1) j ek) ?_
  rintro a6 w⟨_,bj,bk,bl,el,rfl,j⟩
  refine iT a6<|AI<|mv (vp b0 0)<|Kt zt zr zr<|y_ zr Az<|Kh 1 b_ j yE<|bA cd ?_
  obtain⟨bf,en,hb⟩:=bd hb
  refine BY 14 j rJ en λfs j=>Kj 0 j zr nD iz λft j=>D_ 0 bf.aM j ly λbt j=>B_ 0 bf.aM j qn<|bA 0<|v_<|KR E V (λ(cv:List Int)(df:Value)=>[bc 45 b0 [b_,bj,bk,bl,df],own 3 df cv,rd b_ m_,own 77 bj ay.2.1,own 96 bk ay.2.2.1,own 78 bl ay.2.2.2.1,mp an o.2.2.2.1,mp aq o.2.2.2.2,bx 93 br av,mp a6 ay.1,rd ba ad.Uses,rd bt bf.aM]) (λ_ _=>[(0,vp b0 0),(2,str p2),(3,vi p3),(12,an),(13,aq),(146,ba),(147,vi ad.Uses.length),(148,vi bh)]) (λbw _ _=>[(21,vp br 0),(23,a6),(176,bt),(177,vi bf.aM.length),(178,vi bw)]) hb ?_ ?_ ?_
  ·exact⟨el,j.sp 21 [4,8,17,5,6,7,18,19,9,3,20,0]⟩
  ·rintro hm bw cv s' _ w hk⟨er,O,rfl,j⟩hb
   refine A_<|F_ ?_
   obtain⟨a2,et,hb⟩:=bd hb
   refine BY 11 j n4 et λfu j=>D_ 0 a2 j mx λfv j=>J_ j tT.z λbu w j=>?_
   refine IS 0 j 1 zr mx λw j=>?_
   refine AI<|y_ zr mK<|H_ 0 j zr jO lH λcf j=>B_ 0 a2.aO j n0<|bA 0<|v_<|KR E V (λ(cw:List Int)(dg:Value)=>[bc 45 b0 [b_,bj,bk,bl,dg],own 3 dg cw,rd b_ m_,own 77 bj ay.2.1,own 96 bk ay.2.2.1,own 78 bl ay.2.2.2.1,mp an o.2.2.2.1,mp aq o.2.2.2.2,bx 93 br av,mp a6 ay.1,bx 80 bu a2,rd ba ad.Uses,rd bt bf.aM,rd cf a2.aO]) (λ_ _=>[(0,vp b0 0),(2,str p2),(3,vi p3),(12,an),(13,aq),(21,vp br 0),(23,a6),(146,ba),(147,vi ad.Uses.length),(148,vi bh),(176,bt),(177,vi bf.aM.length),(178,vi bw)]) (λcg _ _=>[(25,vp bu 0),(183,cf),(184,vi a2.aO.length),(185,vi cg)]) hb ?_ ?_ ?_
   ·exact⟨er,j.sp 16 [4,5,6,7,8,9,10,11,12,13,1,14,15,0]⟩
   ·rintro hm cg cw s' _ w hk⟨eu,O,rfl,j⟩hb
    refine A_<|F_ ?_
    obtain⟨aw,ev,hb⟩:=bd hb
    refine BY 13 j m6 ev λfw j=>Ki aw 0 j dP<|iT (str aw)<|AI<|mv aq<|y_ zr mb<|C_ 9 j zr jq dP<|mv (str aw) ?_
    have j:=(j.sc aN av.Name).sc aN aw
    refine KS (⟨av.Name,aw⟩:Pin) trivial rfl j [(0,str av.Name),(1,str aw)] rfl B3 rfl (λM hs g=>by have h:=wJ M;exact dQ.cons (f:=λ(x:Pin)y=>{x with Part:=y}) h qj (g.sat 1 _ rfl).1 λ_ h=>dQ.cons (f:=λ(x:Pin)y=>{x with Pin:=y}) h ql (g.sat 0 _ rfl).1 λ_ h=>dQ.nil h) λfx j=>?_
    refine L4 11 (⟨av.Name,aw⟩:Pin) zt zr j zr (r7 0 j zr) zr EZ<|mv (.tuple #[vi<|cP o.2.2.2.2 (⟨av.Name,aw⟩:Pin) (0:Int),vb<|iP o.2.2.2.2 (⟨av.Name,aw⟩:Pin)])<|KB (vi<|cP o.2.2.2.2 (⟨av.Name,aw⟩:Pin) (0:Int))<|KB (vb<|iP o.2.2.2.2 (⟨av.Name,aw⟩:Pin))<|aK (cP o.2.2.2.2 (⟨av.Name,aw⟩:Pin) (0:Int))<|bN (iP o.2.2.2.2 (⟨av.Name,aw⟩:Pin))<|AI<|jU (iP o.2.2.2.2 (⟨av.Name,aw⟩:Pin))<|v_ ?_
    obtain⟨cx,hj,hb⟩:=bd hb
    refine Ke (λ(cx:List Int)U w=>∃ch:Value,SH E V [(0,vp b0 0),(2,str p2),(3,vi p3),(12,an),(13,aq),(21,vp br 0),(23,a6),(25,vp bu 0),(146,ba),(147,vi ad.Uses.length),(148,vi bh),(176,bt),(177,vi bf.aM.length),(178,vi bw),(183,cf),(184,vi a2.aO.length),(185,vi cg)] [bc 45 b0 [b_,bj,bk,bl,ch],own 3 ch cx,rd b_ m_,own 77 bj ay.2.1,own 96 bk ay.2.2.1,own 78 bl ay.2.2.2.1,mp an o.2.2.2.1,mp aq o.2.2.2.2,bx 93 br av,mp a6 ay.1,bx 80 bu a2,rd ba ad.Uses,rd bt bf.aM,rd cf a2.aO] U w) cx ?_ ?_
    ·refine cV hj (λhj=>?_) λhj=>?_
     rotate_left
     ·refine Kc ?_
      obtain rfl:=oi hj
      exact⟨rfl,eu,j.sp 18 [4,5,6,7,8,9,10,11,12,13,14,15,16,17]⟩
     refine A_ ?_
     have j:=j.drew
     refine Lc (λw=>Holds E w<|[mp a6 ay.1,bx 80 bu a2]++V) mixed [0,0,2,1,1,1,1,1,2,0,0] [0,1,3,4,5,6,7,2,8,9,10] (j.pk 18 [13,14])<|Kf zr zr<|mv (vp b0 0)<|cI zr<|bA (cP o.2.2.2.2 (⟨av.Name,aw⟩:Pin) (0:Int))<|Kq<|Kw (vp b0 0) zr (λw=>IN (vp b0 0) zt Kp)<|Kw a6 zr (λw=>IN a6 zt Kp)<|Kw (vp bu 0) zr (λw=>y_ zr jP Kp) ?_
     refine K5 (str a2.Name) zr (λw j=>C_ 1 j zr gE dP Kp)<|K5 (vi<|cP ay.1 a2.Name (0:Int)) zr (λw j=>LC 0 a2.Name zt zr j zr zr zr G9 Kp)<|KQ zr zr ?_
     have j:=(j.pull 5).pull 5
     obtain⟨bm,ew,hj⟩:=bd hj
     refine Kz F1 (jC N (p1:=cP o.2.2.2.2 (⟨av.Name,aw⟩:Pin) (0:Int)) j ew) ?_
     rintro _ w⟨fy,rfl,j⟩
     refine Kx (j.pk 20 [15,16])<|KQ zr zr ?_
     have j:=(j.pull 1).pull 1
     obtain⟨bn,ey,hj⟩:=bd hj
     refine Kz F1 (jC N (p1:=cP ay.1 a2.Name (0:Int)) j ey) ?_
     rintro _ w⟨dh,rfl,j⟩
     refine Kx (j.pk 22 [17,18])<|Kf zr zr<|aK bm.1<|cI zr<|aK bn.1<|Kq<|KC<|aD<|By ?_
     refine mv (vp b0 0)<|Kt zt zr zr<|y_ zr sm<|Kh 0 dh j tU<|bA bm.1<|bA bn.1<|L7 bm.1 bn.1 zt zr zr zr<|bA bm.1<|bA bn.1 ?_
     refine Lp bm.1 bn.1 ?_
     obtain⟨fz,di,hj⟩:=bd hj
     refine Ks 1 j zr zr m8 di ?_
     have j:=j.sc Int (if bn.1<bm.1 then bn.1 else bm.1)
     refine K8 2 0 j di oZ λw j=>?_
     refine x_ ?_
     obtain rfl:=oi hj
     exact⟨rfl,dh,j.sp 23 [1,2,11,12,13,14,15,16,17,18,19,20,21,22]⟩
    rintro _ w⟨ch,O,rfl,j⟩
    refine bF<|aD<|By<|IT hk hm<|bA ((cg+1:Nat):Int)<|x_ ?_
    obtain rfl:=oi hb
    exact⟨rfl,ch,j.sp 14 [0,1,2,3,4,5,6,7,8,9,10,11,12,13]⟩
   rintro cw _ w hb⟨ez,O,rfl,j⟩
   refine bF<|aD<|By<|IT hk hm<|bA ((bw+1:Nat):Int)<|x_ ?_
   obtain rfl:=oi hb
   exact⟨rfl,ez,j.sp 14 [0,1,2,3,4,5,6,7,8,9,11,12]⟩
  rintro cv _ w hb⟨e3,O,rfl,j⟩
  refine bF<|aD<|By<|IT hk hm<|bA ((bh+1:Nat):Int)<|x_ ?_
  obtain rfl:=oi hb
  exact⟨rfl,bj,bk,bl,e3,j.sp 12 [0,3,4,5,1,2,6,7,10]⟩
 rintro _ w⟨b9,ca,cb,cc,O,rfl,j⟩
 refine aD<|u_<|mv an<|iT an<|v_<|E_ ?_
 obtain rfl:=oi hb
 exact aX ⟨an,b9,ca,cb,cc,zr,j.pk 9 [6,0,1,2,3,4]⟩
theorem nF:∀(d:Nat){E w:World}{V:List HP}{b0:Nat}{b_:Value}{m_:List aF}{a_:Value}{j_:List Part}{f_:Value}{i_:List aC}{e_:Value}{d_:List (List Pin)}{g_:Value}{k_:List Int}{p1:Int}{p2:aN}{p3:Int}{res:List (aN×Int)×List Part×List aC×List (List Pin)×List Int}(o:Holds E w (bc 45 b0 [b_,a_,f_,e_,g_]::rd b_ m_::own 77 a_ j_::own 96 f_ i_::own 78 e_ d_::own 3 g_ k_::V))(j:eX N d m_ j_ i_ d_ k_ p1 p2 p3=some res),c_ 14 [vp b0 0,vi p1,str p2,vi p3] w<|gX E V b0 b_ res:=by
 intro d;induction d with
 |zero=>intros;rename_i j;cases j
 |succ d ih=>exact λo j=>nE N _ (@ih) o j
theorem oF{m_:List aF}{j_:List Part}{i_:List aC}{d_:List (List Pin)}{k_:List Int}{p2:aN}{res:List (aN×Int)×List Part×List aC×List (List Pin)×List Int}(j:Holds E w (bc 45 b0 [b_,a_,f_,e_,g_]::rd b_ m_::own 77 a_ j_::own 96 f_ i_::own 78 e_ d_::own 3 g_ k_::V))(o:jL N m_ j_ i_ d_ k_ p1 p2 p3=some res):
    Calls bE 14 [vp b0 0,vi p1,str p2,vi p3].toArray w (fD<|gX E V b0 b_ res):=nF N N j o
theorem qw{res:Bool}(o:Holds E w V)(j:lu N p0=some res):c_ 108 [vi p0] w<|aQ E V res:=by
 unfold lu at j;refine enter Tryz.func108 zr zr<|u_<|bN false<|AI<|bA p0<|bA p0<|ic p0 p0<|bN (p0 != p0)<|v_<|E_ ?_;exact oi j▸aX ⟨rfl,o.drop 0⟩
theorem tZ(o:Holds E w V)(j:kf N p0 p1=some res):c_ 83 [vi p0,vi p1] w<|aB E V res:=by
 unfold kf at j;refine enter Tryz.func83 zr zr<|u_<|aK 0<|AI<|bA p0<|q_ j λab ad j=>AT FA (qw N (p0:=p0) o ad) λw o=>bN ab<|AI<|bA p1<|q_ j λaa ae j=>AT FA (qw N (p0:=p1) o ae) λw o=>bN aa<|AS<|u_<|jU ab<|v_<|cV j (λj=>?_) λj=>?_;refine A_<|u_<|jU aa<|v_<|cV j (λj=>?_) λj=>?_;exact u_<|aK 0<|v_<|G_<|aI<|oi j▸aX ⟨rfl,o.drop 0⟩;exact Kv<|aK (-1)<|v_<|G_<|oi j▸aX ⟨rfl,o.drop 0⟩;refine Kb<|u_<|jU aa<|v_<|cV j (λj=>?_) λj=>?_;exact u_<|aK 1<|v_<|G_<|oi j▸aX ⟨rfl,o.drop 0⟩;refine Kb<|u_<|bA p0<|bA p1<|ic p0 p1<|v_<|cV j (λj=>?_) λj=>?_;exact u_<|aK (-1)<|v_<|G_<|oi j▸aX ⟨rfl,o.drop 0⟩;refine Kb<|u_<|bA p0<|bA p1<|ic p0 p1<|v_<|cV j (λj=>?_) λj=>?_;exact u_<|aK 1<|v_<|G_<|oi j▸aX ⟨rfl,o.drop 0⟩;exact Kv<|aK 0<|v_<|E_<|oi j▸aX ⟨rfl,o.drop 0⟩
theorem xw{p0:List Int}(o:Holds E w V)(h0:V[i0]? =some (rd v0 p0))(j:ox N p0=some res):c_ 82 [v0] w<|aB E V res:=by
 unfold ox at j;refine enter Tryz.func82 zr zr ?_;have o:=o.dup (i0+0) h0;refine u_<|aK 0<|AI<|aK 0<|AS<|u_<|mv v0<|B_ 0 p0 o F3<|bA 0<|v_<|Kg E V (λ(ad:Unit)=>[rd v0 p0]) (λ_=>[(3,vi 0)]) (λab _=>[(6,v0),(7,vi p0.length),(8,vi ab)]) (λr=>iD bE 18 Tryz.f82 (aB E V r) .ret) j ?_ ?_ ?_ ?_;exact o.sp 1 [0];rintro hm ab ad fl _ w hk⟨O,rfl,o⟩j;refine A_<|F_<|q_ j λaa ag j=>BY 0 o m8 ag λaj o=>Ki aa 0 o oZ<|aK aa<|AI<|bA aa<|bA 0<|ic aa 0<|v_<|cV j (λj=>?_) λj=>?_;exact u_<|bA aa<|aK aa<|v_<|I_<|aI<|oi j▸⟨rfl,aX ⟨rfl,o.drop 2⟩⟩;exact Kc<|bF<|aD<|By<|IT hk hm<|bA ((ab+1:Nat):Int)<|x_<|oi j▸⟨rfl,o.sp 2 [1]⟩;intro r U w j hK;exact aI<|oi j▸hK;rintro ad _ w j⟨O,rfl,o⟩;exact aD<|u_<|bA 0<|aK 0<|v_<|E_<|oi j▸aX ⟨rfl,o.drop 1⟩
theorem o6{p0 p1:aC}(j:Holds E w V)(h0:V[i0]? =some (rd v0 p0))(h1:V[i1]? =some (rd v1 p1))(o:dN N p0 p1=some res):c_ 43 [v0,v1] w<|aB E V res:=by
 unfold dN at o;refine enter Tryz.func43 zr zr ?_;have j:=(j.dup (i0+0) h0).dup (i1+1) h1;refine u_<|Kk 1 v0 j zr λad w j=>?_;refine Kk 1 v1 j zr λae w j=>?_;refine aK 0<|AS ?_;have j:=j.drew;refine Lc (λw=>Holds E w<|[bx 96 ae p1,bx 96 ad p0]++V) mixed [0,0,0,0,2,1,1,1,1,2,2,2,0] [0,1,2,3,5,6,7,8,4,9,10,11,12] (j.pk 4 [0,1])<|Kf zr zr<|y_ zr Dt<|cI zr<|C_ 1 j zr nU oZ<|cI zr<|y_ zr Dt<|cI zr<|C_ 0 j zr nU oZ ?_;refine Kq<|Kw (vp ad 0) zr (λw=>y_ zr Du Kp)<|K5 (str p0.path) zr (λw j=>C_ 1 j zr jH dP Kp)<|Kw (vp ae 0) zr (λw=>y_ zr Du Kp)<|K5 (str p1.path) zr (λw j=>C_ 0 j zr jH dP Kp)<|KQ zr zr<|q_ o λaa af o=>AT (hL Tryz.func83) (tZ N (p0:=p0.words) (p1:=p1.words) j af) λw j=>Kx (j.pk 4 [0,1])<|KQ zr zr<|q_ o λab ag o=>AT zL (eQ N (p0:=p0.path) (p1:=p1.path) j ag) λw j=>Kx (j.pk 4 [0,1])<|KQ zr zr ?_;have j:=(j.sc Int aa).sc Int ab;refine KD ([aa,ab]:List Int) j [vi aa,vi ab] m8 Gq (λM hs g=>⟨(g.sat 1 _ zr).1,⟨(g.sat 0 _ zr).1,zt⟩⟩) λaj w j=>Kx (j.pk 7 [3,4])<|KQ zr zr ?_;have j:=j.freeze 0;exact q_ o λah ai o=>AT (hL Tryz.func82) (xw N (i0:=0) j zr ai) λw j=>Kx (j.pk 7 [3,4])<|Kf zr zr<|aK ah<|Kq<|KC<|aD<|E_<|oi o▸aX ⟨rfl,j.drop 7⟩
theorem nG{p0 p1:Part}(j:Holds E w V)(h0:V[i0]? =some (rd v0 p0))(h1:V[i1]? =some (rd v1 p1))(o:gW N p0 p1=some res):c_ 45 [v0,v1] w<|aB E V res:=by
 unfold gW at o;refine enter Tryz.func45 zr zr ?_;have j:=(j.dup (i0+0) h0).dup (i1+1) h1;refine u_<|Kk 1 v0 j zr λad w j=>?_;refine Kk 1 v1 j zr λae w j=>?_;exact aK 0<|AI<|y_ zr kV<|C_ 1 j zr gD dP<|y_ zr kV<|C_ 0 j zr gD dP<|q_ o λaa ab o=>AT zL (eQ N (p0:=p0.Name) (p1:=p1.Name) j ab) λw j=>aK aa<|v_<|E_<|oi o▸aX ⟨rfl,j.drop 4⟩
theorem p9{p0:List Part}{p1:Part->Option Bool}(o:Holds E w V)(h0:V[i0]? =some (rd v0 p0))(h1:Am bE E V v1 p1 (λ(r:Bool)=>Value.bool r))(j:kq N p0 p1=some res):c_ 87 [v0,v1] w<|aB E V res:=by
 unfold kq at j;refine enter Tryz.func87 zr zr ?_;have o:=o.dup (i0+0) h0;refine u_<|aK 0<|AS<|u_<|mv v0<|B_ 0 p0 o rL<|bA 0<|v_<|Kg E V (λ(ab:Unit)=>[rd v0 p0]) (λ_=>[]) (λaa _=>[(0,v0),(1,v1),(7,vi p0.length),(8,vi aa)]) (λr=>iD bE 19 Tryz.f87 (aB E V r) .ret) j ?_ ?_ ?_ ?_;exact o.sp 1 [0];rintro hm aa ab fl _ w hk⟨O,rfl,o⟩j;refine A_<|F_<|bA (aa:Int)<|aK (aa:Int)<|AI<|mv v1<|mv v0<|bA (aa:Int)<|q_ j λaf ag j=>BY 0 o oB ag λak o=>D_ 0 af o nC λal o=>?_;refine q_ j λan ah j=>Le 0 o h1 3 ah λw o=>v_<|cV j (λj=>?_) λj=>?_;exact u_<|bA (aa:Int)<|aK (aa:Int)<|v_<|I_<|aI<|oi j▸⟨rfl,aX ⟨rfl,o.drop 3⟩⟩;exact Kc<|bF<|aD<|By<|IT hk hm<|bA ((aa+1:Nat):Int)<|x_<|oi j▸⟨rfl,o.sp 3 [2]⟩;intro r U w j hK;exact aI<|oi j▸hK;rintro ab _ w j⟨O,rfl,o⟩;exact aD<|u_<|aK (-1)<|v_<|E_<|oi j▸aX ⟨rfl,o.drop 1⟩
end Go.Gk
