/-
  Printed texts: Go functions as plain functions, and that they are. No statement of the seed is proved here.
-/
import Derived.Test.YtgehimfkgpbooaaGreatDoorG1
import Derived.Test.YtgehimfkgpbooaaGreatDoorG2
import Derived.Test.YtgehimfkgpbooaaGreatDoorA2
set_option linter.unusedVariables false
set_option linter.unusedSimpArgs false
set_option linter.unusedSectionVars false
set_option maxRecDepth 100000
set_option maxHeartbeats 4000000
namespace Go.Gk
open Go Go.Proofs
variable (N:Nat) {E w:World} {b0 b1 i0 i1:Nat} {p0 p1 p2 res:Int} {v0 v0_0 v0_1 v0_10 v0_11 v0_2 v0_3 v0_4 v0_5 v0_6 v0_7 v0_8 v0_9 v1 v1_0 v2:Value} {Γ:List HP}
theorem oj {p0:cD} {res:Bool} (hw:Holds E w Γ) (h0:Γ[i0]? =some (rd v0 p0)) (hb:kQ N p0 p1=some res):
    Calls bM 45 [v0,(vi p1)].toArray w (gL (aV E Γ res)):=by
 unfold kQ at hb
 refine enter Tryz.func45 zr zr ?_
 have hw:=hw.dup (i0+0) h0
 refine RC.sr (RL.dJ 0 v0 hw zr fun j w hw=>?_)
 refine aQ (vb false) (RL.ns (RL.aX zr o9 (RL.aM 0 hw zr kf cJ (mv (vi p1) (ic p0.cN p1 (mv (vb (decide (p0.cN<=p1))) (RL.gs true (decide (p0.cN<=p1)) (vi p1) zr zr zr cF (RL.gs true (decide (p0.cN<=p1)) (vp j 4) zr zr zr (dY re) ?_))))))))
 refine RL.gs true (decide (p0.cN<=p1)) (vi p0.To) rfl rfl rfl (bZ 0 rfl hw (fun h=>by exact(cI h:cv (true&&((decide (p0.cN<=p1))==true)) (vp j 4)= (vp j 4))) rfl lJ cJ) (RL.gs true (decide (p0.cN<=p1)) (vb (decide (p1<=p0.To))) rfl rfl rfl (dI .leq .i64 p1 p0.To rfl (fun h=>by exact(cI h:cv (true&&((decide (p0.cN<=p1))==true)) (vi p1)= (vi p1))) (fun h=>by exact(cI h:cv (true&&((decide (p0.cN<=p1))==true)) (vi p0.To)= (vi p0.To))) rfl) (RL.pick (decide (p0.cN<=p1)) (vb ((decide (p0.cN<=p1))&&(decide (p1<=p0.To)))) (fZ true rfl) (aQ (vb ((decide (p0.cN<=p1))&&(decide (p1<=p0.To)))) (RL.nt (RC.ret ?_)))))
 obtain rfl:=oi hb
 exact bX ⟨rfl,hw.drop 2⟩
theorem tq {p0: (List aA)} {res: (List Int)×Int} (hw:Holds E w Γ) (h0:Γ[i0]? =some (rd v0 p0)) (hb:mJ N p0 p1 p2=some res):
    Calls bM 113 [v0,(vi p1),(vi p2)].toArray w (gL (qe E Γ res)):=by
 unfold mJ at hb
 refine enter Tryz.func113 zr zr ?_
 have hw:=hw.dup (i0+0) h0
 refine RC.sr (aQ (.slice none 0 0) (aQ (vi 0) (RL.nq (RC.bs (mv v0 (RL.bC 0 p0 hw u4 (ic ((p0.length:Int)) 0 (aQ (vb ((p0.length:Int)==0)) ?_))))))))
 refine RL.nt (dT hb (fun hc hb=>?_) fun hc hb=>?_)
 ·refine RC.sr (mv (vi p2) (aQ (.slice none 0 0) (aQ (vi p2) (RL.nt (RC.rb (bS ?_))))))
  obtain rfl:=oi hb
  have hw:=hw.mR Int
  exact oy ⟨(.slice none 0 0),zr,hw.pk 2 [0]⟩
 refine RC.sr (mv (vi p1) (mv v0 ?_))
 obtain⟨aa,ad,hb⟩:=bd hb
 refine RL.bN 0 hw o8 ad fun ai hw=>(RL.dV 0 hw zr pF gV fun aj hw=>(RL.bF aa.Y0 0 hw cJ (ic p1 aa.Y0 (aQ (vb (decide (p1<aa.Y0))) (RL.nt (dT hb (fun hc hb=>?_) fun hc hb=>?_))))))
 ·refine RC.seq (RC.yI mixed ?_)
  have hw:=hw.drew
  refine RO.go (mv (vi p2) (RO.nx (mv v0 (RO.nx ?_))))
  obtain⟨j,ae,hb⟩:=bd hb
  refine RL.bN 2 hw o8 ae fun ak hw=>(RO.nx (RL.dV 0 hw zr pF gV fun al hw=>(RO.nx (RL.bF j.Y0 0 hw cJ (RO.nx (RL.min p2 j.Y0 (RO.nx (aQ (.slice none 0 0) ?_))))))))
  refine RO.nx (aQ (vi (if j.Y0<p2 then j.Y0 else p2)) (RO.last (aH (RC.rb (bS ?_)))))
  obtain rfl:=oi hb
  have hw:=hw.mR Int
  exact oy ⟨(.slice none 0 0),zr,hw.pk 6 [0]⟩
 refine RC.skip (bO (aH (RC.seq (RC.yI mixed ?_))))
 have hw:=hw.drew
 refine RO.go (mv v0 (RO.nx ?_))
 obtain⟨af,ag,hb⟩:=bd hb
 refine RL.bN 2 hw o8 ag fun an hw=>(RO.nx (RL.dV 0 hw zr lU dZ fun ao hw=>(RO.nx (RL.bL 0 af.Xs hw fA fun ab hw=>(RO.nx (mv (vi p2) (RO.nx (mv v0 ?_))))))))
 refine RO.nx ?_
 obtain⟨o,ah,hb⟩:=bd hb
 refine RL.bN 5 hw o8 ah fun aq hw=>(RO.nx (RL.dV 0 hw zr nn fC fun ar hw=>(RO.nx (RL.bF o.Y1 0 hw cJ (RO.nx (RL.min p2 o.Y1 (RO.nx (aQ ab ?_))))))))
 refine RO.nx (aQ (vi (if o.Y1<p2 then o.Y1 else p2)) (RO.last (aH (RC.ret ?_))))
 obtain rfl:=oi hb
 exact oy ⟨ab,zr,hw.pk 8 [2]⟩
theorem AF {p0: (List Int)} {p1: (List Int)} {p2:Bool->Bool->Option Bool} {res: (List Int)} (hw:Holds E w Γ) (h0:Γ[i0]? =some (rd v0 p0)) (h1:Γ[i1]? =some (rd v1 p1)) (h2:Jv bM E Γ v2 p2 (fun(r:Bool)=>Value.bool r)) (hb:p7 N p0 p1 p2=some res):
    Calls bM 114 [v0,v1,v2].toArray w (gL (mf E Γ res)):=by
 unfold p7 at hb
 refine enter Tryz.func114 zr zr ?_
 have hw:=(hw.dup (i0+0) h0).dup (i1+1) h1
 refine RC.sr (aQ (.slice none 0 0) (RL.ns (aQ (.slice none 0 0) (RL.ns (aQ (vb false) (aQ (vb false) (aQ (vb false) (RL.nq ?_))))))))
 obtain⟨bp,hN,hb⟩:=bd hb
 refine RC.iter (fun(o: (List Int)×(List Int)×(List Int)×Bool×Bool×Bool) σ w=>∃a4 a5 a6:Value,SH E Γ [(0,a4),(1,a5),(2,v2),(7,a6),(8,vb o.2.2.2.1),(9,vb o.2.2.2.2.1),(10,vb o.2.2.2.2.2)] [rd a4 o.1,rd a5 o.2.1,own 3 a6 o.2.2.1] σ w) (fun(o: (List Int)×(List Int)×(List Int)×Bool×Bool×Bool) σ w=>∃aq:Value,SH E Γ [(7,aq)] [own 3 aq o.2.2.1] σ w) (fun(r:Empty) _ _=>r.elim) hN ?_ ?_ ?_ ?_
 ·have hw:=hw.cX Int 3
  exact⟨v0,v1,(.slice none 0 0),hw.sp 3 [2,1,0]⟩
 ·rintro o fl _ w ⟨af,aa,ab,τ,rfl,hw⟩ hb
  refine RC.seq (RC.seq ?_)
  obtain⟨ay,hj,hb⟩:=bd hb
  refine RC.jn (fun(ay:Bool)=>SH E Γ [(0,af),(1,aa),(2,v2),(7,ab),(8,vb o.2.2.2.1),(9,vb o.2.2.2.2.1),(10,vb o.2.2.2.2.2),(20,vb ay)] [rd af o.1,rd aa o.2.1,own 3 ab o.2.2.1]) ay ?_ ?_
  ·refine RC.region (mv af (RL.bC 0 o.1 hw l4 (ic ((o.1.length:Int)) 0 (mv (vb (decide ((o.1.length:Int)>0))) (fB hj (fun al hj=>?_) fun al hj=>?_)))))
   ·refine bJ al (bJ al (bJ al (fG al (vb true) (RL.nil ?_))))
    obtain rfl:=oi hj
    exact⟨rfl,hw.sp 3 [0,1,2]⟩
   refine RL.move aa (cg al) (RL.bC (hg:=(cg al)) 1 o.2.1 hw l4 (RL.kL (o.2.1.length:Int) 0 (cg al) (fG al (vb (decide ((o.2.1.length:Int)>0))) (RL.nil ?_))))
   obtain rfl:=oi hj
   exact⟨rfl,hw.sp 3 [0,1,2]⟩
  rintro _ w ⟨τ,rfl,hw⟩
  refine aH (dT hb (fun hc hb=>?_) fun hc hb=>?_)
  rotate_left
  ·refine RC.ex ?_
   obtain rfl:=oi hb
   exact⟨rfl,ab,hw.sp 3 [2]⟩
  refine RC.sn (RC.bs (aQ (vi 0) (RL.nq (RC.seq ?_))))
  obtain⟨az,hj,hb⟩:=bd hb
  refine RC.jn (fun(az:Bool)=>SH E Γ [(0,af),(1,aa),(2,v2),(7,ab),(8,vb o.2.2.2.1),(9,vb o.2.2.2.2.1),(10,vb o.2.2.2.2.2),(37,vb az)] [rd af o.1,rd aa o.2.1,own 3 ab o.2.2.1]) az ?_ ?_
  ·refine RC.yI mixed ?_
   have hw:=hw.drew
   refine RO.go (mv aa (RO.nx (RL.bC 1 o.2.1 hw l4 (RO.nx (ic ((o.2.1.length:Int)) 0 (RO.nx (mv (vb ((o.2.1.length:Int)==0)) (fB hj (fun ag hj=>?_) fun ag hj=>?_))))))))
   ·refine RO.nx (bJ ag (RO.nx (bJ ag (RO.nx (bJ ag (RO.nx (bJ ag (RO.nx ?_))))))))
    refine Cg (RO.nx (Cg (RO.nx (Cg (RO.nx (Cg (RO.nx (Cg ?_))))))))
    refine RO.nx (Cg (RO.nx (Cg (RO.nx (bJ ag (RO.nx (fG ag (vb true) (RO.last ?_))))))))
    obtain rfl:=oi hj
    exact⟨rfl,hw.sp 3 [0,1,2]⟩
   refine RO.nx (RL.move af (cg ag) (RO.nx (RL.bC (hg:=(cg ag)) 0 o.1 hw l4 (RO.nx (RL.kL (o.1.length:Int) 0 (cg ag) (RO.nx (RL.move (vb (decide ((o.1.length:Int)>0))) (cg ag) (fB hj (fun ad hj=>?_) fun ad hj=>?_))))))))
   rotate_left
   ·refine RO.nx (bJ ad (RO.nx (bJ ad (RO.nx (bJ ad (RO.nx (bJ ad (RO.nx ?_))))))))
    refine bJ ad (RO.nx (bJ ad (RO.nx (bJ ad (RO.nx (fG ad (vb false) (hg:=(cg ag)) (RO.nx (fG ag (vb false) ?_))))))))
    refine RO.last ?_
    obtain rfl:=oi hj
    exact⟨rfl,hw.sp 3 [0,1,2]⟩
   refine RO.nx (RL.move af (cg ad) (RO.nx ?_))
   obtain⟨au,bc,hj⟩:=bd hj
   refine RL.bN (hg:=(cg ad)) 0 hw eB bc fun bq hw=>(RO.nx (RL.bF (hg:=(cg ad)) au 0 hw cJ (RO.nx (RL.move aa (cg ad) (RO.nx ?_)))))
   obtain⟨av,bf,hj⟩:=bd hj
   refine RL.bN (hg:=(cg ad)) 2 hw eB bf fun br hw=>(RO.nx (RL.bF (hg:=(cg ad)) av 0 hw cJ (RO.nx (RL.kL au av (cg ad) (RO.nx (fG ad (vb (decide (au<=av))) (hg:=(cg ag)) (RO.nx (fG ag (vb (decide (au<=av))) ?_))))))))
   refine RO.last ?_
   obtain rfl:=oi hj
   exact⟨rfl,hw.sp 5 [2,3,4]⟩
  rintro _ w ⟨τ,rfl,hw⟩
  refine aH ?_
  obtain⟨ae,hj,hb⟩:=bd hb
  refine RC.jn (fun(ae:Int)=>SH E Γ [(0,af),(1,aa),(2,v2),(7,ab),(8,vb o.2.2.2.1),(9,vb o.2.2.2.2.1),(10,vb o.2.2.2.2.2),(11,vi ae)] [rd af o.1,rd aa o.2.1,own 3 ab o.2.2.1]) ae ?_ ?_
  ·refine dT hj (fun hc hj=>?_) fun hc hj=>?_
   ·refine RC.region (mv af ?_)
    obtain⟨a7,bg,hj⟩:=bd hj
    refine RL.bN 0 hw eB bg fun bt hw=>(RL.bF a7 0 hw cJ (aQ (vi a7) (RL.nil ?_)))
    obtain rfl:=oi hj
    exact⟨rfl,hw.sp 4 [1,2,3]⟩
   refine RC.region (mv aa ?_)
   obtain⟨a8,bh,hj⟩:=bd hj
   refine RL.bN 1 hw eB bh fun bu hw=>(RL.bF a8 0 hw cJ (aQ (vi a8) (RL.nil ?_)))
   obtain rfl:=oi hj
   exact⟨rfl,hw.sp 4 [1,2,3]⟩
  rintro _ w ⟨τ,rfl,hw⟩
  refine aH (RC.seq (RC.seq ?_))
  obtain⟨a0,hj,hb⟩:=bd hb
  refine RC.jn (fun(a0:Bool)=>SH E Γ [(0,af),(1,aa),(2,v2),(7,ab),(8,vb o.2.2.2.1),(9,vb o.2.2.2.2.1),(10,vb o.2.2.2.2.2),(11,vi ae),(53,vb a0)] [rd af o.1,rd aa o.2.1,own 3 ab o.2.2.1]) a0 ?_ ?_
  ·refine RC.region (mv af (RL.bC 0 o.1 hw l4 (ic ((o.1.length:Int)) 0 (mv (vb (decide ((o.1.length:Int)>0))) (fB hj (fun ah hj=>?_) fun ah hj=>?_)))))
   rotate_left
   ·refine bJ ah (bJ ah (bJ ah (bJ ah (bJ ah (fG ah (vb false) (RL.nil ?_))))))
    obtain rfl:=oi hj
    exact⟨rfl,hw.sp 3 [0,1,2]⟩
   refine RL.move af (cg ah) ?_
   obtain⟨a1,bj,hj⟩:=bd hj
   refine RL.bN (hg:=(cg ah)) 0 hw eB bj fun bw hw=>(RL.bF (hg:=(cg ah)) a1 0 hw cJ (RL.move (vi ae) (cg ah) (RL.kL a1 ae (cg ah) (fG ah (vb (a1==ae)) (RL.nil ?_)))))
   obtain rfl:=oi hj
   exact⟨rfl,hw.sp 4 [1,2,3]⟩
  rintro _ w ⟨τ,rfl,hw⟩
  refine aH ?_
  obtain⟨aj,hj,hb⟩:=bd hb
  refine RC.jn (fun(aj: (List Int)×Bool) σ w=>∃ak:Value,SH E Γ [(0,ak),(1,aa),(2,v2),(7,ab),(8,vb aj.2),(9,vb o.2.2.2.2.1),(10,vb o.2.2.2.2.2),(11,vi ae)] [rd aa o.2.1,own 3 ab o.2.2.1,rd ak aj.1] σ w) aj ?_ ?_
  ·refine dT hj (fun hc hj=>?_) fun hc hj=>?_
   rotate_left
   ·refine RC.skip ?_
    obtain rfl:=oi hj
    exact⟨rfl,af,hw.sp 3 [1,2,0]⟩
   refine RC.region (mv af ?_)
   obtain⟨bx,bk,hj⟩:=bd hj
   refine RL.cut 0 hw eB (.inr ⟨rfl,zr⟩) bk fun a9 hw=>(mv (vb o.2.2.2.1) (RL.not o.2.2.2.1 (aQ a9 (aQ (vb (!o.2.2.2.1)) (RL.nil ?_)))))
   obtain rfl:=oi hj
   exact⟨rfl,a9,hw.sp 4 [2,3,0]⟩
  rintro _ w ⟨ak,τ,rfl,hw⟩
  refine aH (RC.seq (RC.seq ?_))
  obtain⟨a2,hj,hb⟩:=bd hb
  refine RC.jn (fun(a2:Bool)=>SH E Γ [(0,ak),(1,aa),(2,v2),(7,ab),(8,vb aj.2),(9,vb o.2.2.2.2.1),(10,vb o.2.2.2.2.2),(11,vi ae),(67,vb a2)] [rd ak aj.1,rd aa o.2.1,own 3 ab o.2.2.1]) a2 ?_ ?_
  ·refine RC.region (mv aa (RL.bC 0 o.2.1 hw l4 (ic ((o.2.1.length:Int)) 0 (mv (vb (decide ((o.2.1.length:Int)>0))) (fB hj (fun ai hj=>?_) fun ai hj=>?_)))))
   rotate_left
   ·refine bJ ai (bJ ai (bJ ai (bJ ai (bJ ai (fG ai (vb false) (RL.nil ?_))))))
    obtain rfl:=oi hj
    exact⟨rfl,hw.sp 3 [2,0,1]⟩
   refine RL.move aa (cg ai) ?_
   obtain⟨a3,bl,hj⟩:=bd hj
   refine RL.bN (hg:=(cg ai)) 0 hw eB bl fun bz hw=>(RL.bF (hg:=(cg ai)) a3 0 hw cJ (RL.move (vi ae) (cg ai) (RL.kL a3 ae (cg ai) (fG ai (vb (a3==ae)) (RL.nil ?_)))))
   obtain rfl:=oi hj
   exact⟨rfl,hw.sp 4 [3,1,2]⟩
  rintro _ w ⟨τ,rfl,hw⟩
  refine aH ?_
  obtain⟨an,hj,hb⟩:=bd hb
  refine RC.jn (fun(an: (List Int)×Bool) σ w=>∃ao:Value,SH E Γ [(0,ak),(1,ao),(2,v2),(7,ab),(8,vb aj.2),(9,vb an.2),(10,vb o.2.2.2.2.2),(11,vi ae)] [rd ak aj.1,own 3 ab o.2.2.1,rd ao an.1] σ w) an ?_ ?_
  ·refine dT hj (fun hc hj=>?_) fun hc hj=>?_
   rotate_left
   ·refine RC.skip ?_
    obtain rfl:=oi hj
    exact⟨rfl,aa,hw.sp 3 [0,2,1]⟩
   refine RC.region (mv aa ?_)
   obtain⟨b0,bm,hj⟩:=bd hj
   refine RL.cut 1 hw eB (.inr ⟨rfl,zr⟩) bm fun ba hw=>(mv (vb o.2.2.2.2.1) (RL.not o.2.2.2.2.1 (aQ ba (aQ (vb (!o.2.2.2.2.1)) (RL.nil ?_)))))
   obtain rfl:=oi hj
   exact⟨rfl,ba,hw.sp 4 [1,3,0]⟩
  rintro _ w ⟨ao,τ,rfl,hw⟩
  refine aH (RC.sr (mv v2 (mv (vb aj.2) (mv (vb an.2) ?_))))
  have hw:=(hw.sc Bool aj.2).sc Bool an.2
  obtain⟨ar,bn,hb⟩:=bd hb
  refine RL.IU (i:=1) (j:=0) zt zr hw zr h2 5 zr zr zr zr zr bn fun w hw=>(aQ (vb ar) (RL.ns (mv (vb ar) (mv (vb o.2.2.2.2.2) (RL.HC (a:=ar) (b:=o.2.2.2.2.2) zt zr zr zr MO (RL.nt ?_))))))
  obtain⟨aw,hj,hb⟩:=bd hb
  refine RC.jn (fun(aw: (List Int)×Bool) σ w=>∃ax:Value,SH E Γ [(0,ak),(1,ao),(2,v2),(7,ax),(8,vb aj.2),(9,vb an.2),(10,vb aw.2)] [rd ak aj.1,rd ao an.1,own 3 ax aw.1] σ w) aw ?_ ?_
  ·refine dT hj (fun hc hj=>?_) fun hc hj=>?_
   rotate_left
   ·refine RC.skip ?_
    obtain rfl:=oi hj
    exact⟨rfl,ab,hw.sp 5 [2,4,3]⟩
   refine RC.region (mv ab (mv (vi ae) ?_))
   have hw:=hw.sc Int ae
   refine RL.dW ([ae]: (List Int)) hw [(vi ae)] eB Ch (fun M hs g=>⟨(g.sat 0 _ zr).1,zt⟩) fun b1 w hw=>?_
   have hw:=hw.freeze 0
   obtain⟨b2,bo,hj⟩:=bd hj
   refine RL.app 5 0 hw qF bo fun bb w hw=>?_
   refine mv (vb ar) (aQ bb (aQ (vb ar) (RL.nil ?_)))
   obtain rfl:=oi hj
   exact⟨rfl,bb,hw.sp 7 [4,6,5]⟩
  rintro _ w ⟨ax,τ,rfl,hw⟩
  refine bO ?_
  obtain rfl:=oi hb
  exact⟨rfl,ak,ao,ax,hw.sp 3 [0,1,2]⟩
 ·intro r _ _ _ _
  exact r.elim
 rintro o _ w rfl ⟨aq,τ,rfl,hw⟩
 rw [Fo.dF] at hb
 refine aH (RC.sr (mv aq (aQ aq (RL.nt (RC.ret ?_)))))
 obtain rfl:=oi hb
 exact bX (hw.pk 1 [0])
theorem zq {p0: (List aA)} {p1: (List aA)} {p2:Bool->Bool->Option Bool} {res: (List aA)} (hw:Holds E w Γ) (h0:Γ[i0]? =some (rd v0 p0)) (h1:Γ[i1]? =some (rd v1 p1)) (h2:Jv bM E Γ v2 p2 (fun(r:Bool)=>Value.bool r)) (hb:oL N p0 p1 p2=some res):
    Calls bM 83 [v0,v1,v2].toArray w (gL (mK E Γ res)):=by
 unfold oL at hb
 refine enter Tryz.func83 zr zr ?_
 have hw:=(hw.dup (i0+0) h0).dup (i1+1) h1
 refine RC.sr (aQ (.slice none 0 0) (RL.ns (aQ (.slice none 0 0) (RL.nq (RC.sr (mv v0 (RL.bC 1 p0 hw u4 (mv v1 ?_))))))))
 refine RL.bC 0 p1 hw u4 (RL.fQ (p0.length:Int) (p1.length:Int) (ic ((IntKind.wrap .i64 ((p0.length:Int)+ (p1.length:Int)))) 0 (RL.nt (dT hb (fun hc hb=>?_) fun hc hb=>?_))))
 ·refine RC.sr (aQ (.slice none 0 0) (RL.nt (RC.rt ?_)))
  obtain rfl:=oi hb
  have hw:=hw.cX aA 119
  exact bX (hw.pk 3 [0])
 refine RC.sx (aQ (vi 0) (aQ (vi 0) (RL.nq (RC.sr (mv v0 (mv v1 (RL.dW ([p0,p1]: (List (List aA))) hw [v0,v1] GC Ja (fun M hs g=>⟨(g.sat 1 _ zr).1,⟨(g.sat 0 _ zr).1,zt⟩⟩) fun al w hw=>(RL.fR 0 ([p0,p1]: (List (List aA))) hw Ki ?_))))))))
 refine mv (vi 0) (RL.nt ?_)
 obtain⟨o,hN,hb⟩:=bd hb
 refine RC.fold (fun(ag:Nat) (o:Int×Int)=>SH E Γ [(0,v0),(1,v1),(2,v2),(7,(.slice none 0 0)),(8,vi o.1),(9,vi o.2),(25,al),(26,(vi ((([p0,p1]: (List (List aA))).length:Nat):Int))),(27,vi ag)] [rd v0 p0,rd v1 p1,own 50 al ([p0,p1]: (List (List aA)))]) (fun(o:Int×Int)=>SH E Γ [(0,v0),(1,v1),(2,v2),(7,(.slice none 0 0)),(8,vi o.1),(9,vi o.2)] [rd v0 p0,rd v1 p1,own 50 al ([p0,p1]: (List (List aA)))]) hN ?_ ?_ ?_ ?_
 ·exact hw.sp 3 [2,1,0]
 ·rintro hm o _ w ⟨τ,rfl,hw⟩
  refine RC.sr (ic (((([p0,p1]: (List (List aA))).length:Nat):Int)) (((([p0,p1]: (List (List aA))).length:Nat):Int)) (RL.nq (RC.fV tN (RC.ex ?_))))
  exact⟨rfl,hw.sp 3 [0,1,2]⟩
 ·rintro hm ag o s' _ w hk ⟨τ,rfl,hw⟩ hb
  refine RC.sr (ic ((ag:Int)) (((([p0,p1]: (List (List aA))).length:Nat):Int)) (RL.nq (RC.fU (tM hk) (RC.ss (RC.bs (mv (vi ag) ?_))))))
  obtain⟨aq,a3,hb⟩:=bd hb
  refine RL.bU 2 hw zr zr GC a3 (RL.kl (f:=(fun x=>x)) 2 hw (jA 2 hw a3 0) (bI a3).2.1 Fd.self Kj fun ah hw=>?_)
  refine aQ (vi ag) (aQ ah (RL.ns (mv ah (RL.bC 0 aq hw u4 (ic ((aq.length:Int)) 0 (RL.nt ?_))))))
  obtain⟨a0,hj,hb⟩:=bd hb
  refine RC.jn (fun(a0:Int×Int)=>SH E Γ [(0,v0),(1,v1),(2,v2),(7,(.slice none 0 0)),(8,vi a0.1),(9,vi a0.2),(25,al),(26,(vi ((([p0,p1]: (List (List aA))).length:Nat):Int))),(27,vi ag)] [rd v0 p0,rd v1 p1,own 50 al ([p0,p1]: (List (List aA)))]) a0 ?_ ?_
  ·refine dT hj (fun hc hj=>?_) fun hc hj=>?_
   rotate_left
   ·refine RC.skip ?_
    obtain rfl:=oi hj
    exact⟨rfl,hw.sp 4 [1,2,3]⟩
   refine RC.seq (RC.seq ?_)
   obtain⟨a4,hjj,hj⟩:=bd hj
   refine RC.jn (fun(a4:Bool)=>SH E Γ [(0,v0),(1,v1),(2,v2),(7,(.slice none 0 0)),(8,vi o.1),(9,vi o.2),(11,ah),(25,al),(26,(vi ((([p0,p1]: (List (List aA))).length:Nat):Int))),(27,vi ag),(41,vb a4)] [rd v0 p0,rd v1 p1,rd ah aq,own 50 al ([p0,p1]: (List (List aA)))]) a4 ?_ ?_
   ·refine RC.region (mv (vi ag) (ic ((ag:Int)) 0 (mv (vb ((ag:Int)==0)) (fB hjj (fun an hjj=>?_) fun an hjj=>?_))))
    ·refine bJ an (bJ an (bJ an (fG an (vb true) (RL.nil ?_))))
     obtain rfl:=oi hjj
     exact⟨rfl,hw.sp 4 [1,2,0,3]⟩
    refine RL.move v0 (cg an) (RL.bC (hg:=(cg an)) 1 p0 hw u4 (RL.kL (p0.length:Int) 0 (cg an) (fG an (vb ((p0.length:Int)==0)) (RL.nil ?_))))
    obtain rfl:=oi hjj
    exact⟨rfl,hw.sp 4 [1,2,0,3]⟩
   rintro _ w ⟨τ,rfl,hw⟩
   refine aH ?_
   obtain⟨ai,hjj,hj⟩:=bd hj
   refine RC.jn (fun(ai:Int×Int)=>SH E Γ [(0,v0),(1,v1),(2,v2),(7,(.slice none 0 0)),(8,vi ai.1),(9,vi ai.2),(11,ah),(25,al),(26,(vi ((([p0,p1]: (List (List aA))).length:Nat):Int))),(27,vi ag)] [rd v0 p0,rd v1 p1,rd ah aq,own 50 al ([p0,p1]: (List (List aA)))]) ai ?_ ?_
   ·refine dT hjj (fun hc hjj=>?_) fun hc hjj=>?_
    rotate_left
    ·refine RC.skip ?_
     obtain rfl:=oi hjj
     exact⟨rfl,hw.sp 4 [0,1,2,3]⟩
    refine RC.yI mixed ?_
    have hw:=hw.drew
    refine RO.go (mv ah (RO.nx ?_))
    obtain⟨a9,bm,hjj⟩:=bd hjj
    refine RL.bN 2 hw o8 bm fun b5 hw=>(RO.nx (RL.dV 0 hw zr pF gV fun b6 hw=>(RO.nx (RL.bF a9.Y0 0 hw cJ (RO.nx (mv ah (RO.nx (mv ah ?_))))))))
    refine RO.nx (RL.bC 4 aq hw u4 (RO.nx (RL.fQ (aq.length:Int) 1 (RO.nx ?_))))
    obtain⟨ba,bn,hjj⟩:=bd hjj
    refine RL.bN 4 hw o8 bn fun b7 hw=>(RO.nx (RL.dV 0 hw zr nn fC fun b8 hw=>(RO.nx (RL.bF ba.Y1 0 hw cJ (RO.nx (aQ (vi a9.Y0) (RO.nx (aQ (vi ba.Y1) ?_))))))))
    refine RO.last ?_
    obtain rfl:=oi hjj
    exact⟨rfl,hw.sp 8 [4,5,6,7]⟩
   rintro _ w ⟨τ,rfl,hw⟩
   refine aH (RC.yI mixed ?_)
   have hw:=hw.drew
   refine RO.go (mv (vi ai.1) (RO.nx (mv ah (RO.nx ?_))))
   obtain⟨a1,bo,hj⟩:=bd hj
   refine RL.bN 2 hw o8 bo fun b9 hw=>(RO.nx (RL.dV 0 hw zr pF gV fun ca hw=>(RO.nx (RL.bF a1.Y0 0 hw cJ (RO.nx (RL.min ai.1 a1.Y0 (RO.nx (mv (vi ai.2) ?_))))))))
   refine RO.nx (mv ah (RO.nx (mv ah (RO.nx (RL.bC 4 aq hw u4 (RO.nx (RL.fQ (aq.length:Int) 1 (RO.nx ?_))))))))
   obtain⟨a2,bp,hj⟩:=bd hj
   refine RL.bN 4 hw o8 bp fun cb hw=>(RO.nx (RL.dV 0 hw zr nn fC fun cc hw=>(RO.nx (RL.bF a2.Y1 0 hw cJ (RO.nx (RL.max ai.2 a2.Y1 (RO.nx (aQ (vi (if a1.Y0<ai.1 then a1.Y0 else ai.1)) ?_))))))))
   refine RO.nx (aQ (vi (if ai.2<a2.Y1 then a2.Y1 else ai.2)) (RO.last ?_))
   obtain rfl:=oi hj
   exact⟨rfl,hw.sp 8 [4,5,7]⟩
  rintro _ w ⟨τ,rfl,hw⟩
  refine bO (aH (RC.region (RL.inc hk hm (mv (vi ((ag+1:Nat):Int)) (RL.nil ?_)))))
  obtain rfl:=oi hb
  exact⟨rfl,hw.sp 3 [0,1,2]⟩
 rintro _ w ⟨τ,rfl,hw⟩
 refine aH (RC.seq ?_)
 obtain⟨cd,hN,hb⟩:=bd hb
 refine RC.iter (fun(j: (List aA)×(List aA)×(List aA)×Int) σ w=>∃bb bc bf:Value,SH E Γ [(0,bb),(1,bc),(2,v2),(7,bf),(8,vi j.2.2.2),(9,vi o.2)] [rd bb j.1,rd bc j.2.1,own 119 bf j.2.2.1] σ w) (fun(j: (List aA)×(List aA)×(List aA)×Int) σ w=>∃ax:Value,SH E Γ [(7,ax)] [own 119 ax j.2.2.1] σ w) (fun(r:Empty) _ _=>r.elim) hN ?_ ?_ ?_ ?_
 ·have hw:=hw.cX aA 119
  exact⟨v0,v1,(.slice none 0 0),hw.sp 4 [1,2,0]⟩
 ·rintro j fl _ w ⟨bq,ar,ad,τ,rfl,hw⟩ hb
  refine RC.seq (RC.sr (mv (vi j.2.2.2) (mv (vi o.2) (ic j.2.2.2 o.2 (RL.nt (dT hb (fun hc hb=>?_) fun hc hb=>?_))))))
  rotate_left
  ·refine RC.ex ?_
   obtain rfl:=oi hb
   exact⟨rfl,ad,hw.sp 3 [2]⟩
  refine RC.sn (RC.block (RC.seq ?_))
  obtain⟨cf,hN,hb⟩:=bd hb
  refine RC.iter (fun(aj: (List aA)) σ w=>∃bg:Value,SH E Γ [(0,bg),(1,ar),(2,v2),(7,ad),(8,vi j.2.2.2),(9,vi o.2)] [rd ar j.2.1,own 119 ad j.2.2.1,rd bg aj] σ w) (fun(aj: (List aA)) σ w=>∃ak:Value,SH E Γ [(0,ak),(1,ar),(2,v2),(7,ad),(8,vi j.2.2.2),(9,vi o.2)] [rd ar j.2.1,own 119 ad j.2.2.1,rd ak aj] σ w) (fun(r:Empty) _ _=>r.elim) hN ?_ ?_ ?_ ?_
  ·exact⟨bq,hw.sp 3 [1,2,0]⟩
  ·rintro aj fl _ w ⟨au,τ,rfl,hw⟩ hb
   refine RC.seq (RC.seq ?_)
   obtain⟨a5,hj,hb⟩:=bd hb
   refine RC.jn (fun(a5:Bool)=>SH E Γ [(0,au),(1,ar),(2,v2),(7,ad),(8,vi j.2.2.2),(9,vi o.2),(82,vb a5)] [rd au aj,rd ar j.2.1,own 119 ad j.2.2.1]) a5 ?_ ?_
   ·refine RC.region (mv au (RL.bC 2 aj hw u4 (ic ((aj.length:Int)) 0 (mv (vb (decide ((aj.length:Int)>0))) (fB hj (fun ae hj=>?_) fun ae hj=>?_)))))
    rotate_left
    ·refine bJ ae (bJ ae (bJ ae (bJ ae (bJ ae (bJ ae (fG ae (vb false) (RL.nil ?_)))))))
     obtain rfl:=oi hj
     exact⟨rfl,hw.sp 3 [2,0,1]⟩
    refine RL.move au (cg ae) ?_
    obtain⟨a6,br,hj⟩:=bd hj
    refine RL.bN (hg:=(cg ae)) 2 hw o8 br fun ch hw=>(RL.dV (hg:=(cg ae)) 0 hw zr nn fC fun cj hw=>(RL.bF (hg:=(cg ae)) a6.Y1 0 hw cJ (RL.move (vi j.2.2.2) (cg ae) (RL.kL a6.Y1 j.2.2.2 (cg ae) (fG ae (vb (decide (a6.Y1<=j.2.2.2))) (RL.nil ?_))))))
    obtain rfl:=oi hj
    exact⟨rfl,hw.sp 5 [4,2,3]⟩
   rintro _ w ⟨τ,rfl,hw⟩
   refine aH (dT hb (fun hc hb=>?_) fun hc hb=>?_)
   rotate_left
   ·refine RC.ex ?_
    obtain rfl:=oi hb
    exact⟨rfl,au,hw.sp 3 [1,2,0]⟩
   refine RC.sn (RC.block (RC.region (mv au ?_)))
   obtain⟨ck,bt,hb⟩:=bd hb
   refine RL.cut 0 hw o8 (.inr ⟨rfl,zr⟩) bt fun bh hw=>(aQ bh (RL.nil (bO ?_)))
   obtain rfl:=oi hb
   exact⟨rfl,bh,hw.sp 4 [2,3,0]⟩
  ·intro r _ _ _ _
   exact r.elim
  rintro aj _ w rfl ⟨ak,τ,rfl,hw⟩
  rw [Fo.dF] at hb
  refine aH (RC.seq ?_)
  obtain⟨cl,hN,hb⟩:=bd hb
  refine RC.iter (fun(ao: (List aA)) σ w=>∃bj:Value,SH E Γ [(0,ak),(1,bj),(2,v2),(7,ad),(8,vi j.2.2.2),(9,vi o.2)] [rd ak aj,own 119 ad j.2.2.1,rd bj ao] σ w) (fun(ao: (List aA)) σ w=>∃av:Value,SH E Γ [(0,ak),(1,av),(2,v2),(7,ad),(8,vi j.2.2.2),(9,vi o.2)] [rd ak aj,own 119 ad j.2.2.1,rd av ao] σ w) (fun(r:Empty) _ _=>r.elim) hN ?_ ?_ ?_ ?_
  ·exact⟨ar,hw.sp 3 [2,1,0]⟩
  ·rintro ao fl _ w ⟨aw,τ,rfl,hw⟩ hb
   refine RC.seq (RC.seq ?_)
   obtain⟨a7,hj,hb⟩:=bd hb
   refine RC.jn (fun(a7:Bool)=>SH E Γ [(0,ak),(1,aw),(2,v2),(7,ad),(8,vi j.2.2.2),(9,vi o.2),(95,vb a7)] [rd ak aj,rd aw ao,own 119 ad j.2.2.1]) a7 ?_ ?_
   ·refine RC.region (mv aw (RL.bC 2 ao hw u4 (ic ((ao.length:Int)) 0 (mv (vb (decide ((ao.length:Int)>0))) (fB hj (fun af hj=>?_) fun af hj=>?_)))))
    rotate_left
    ·refine bJ af (bJ af (bJ af (bJ af (bJ af (bJ af (fG af (vb false) (RL.nil ?_)))))))
     obtain rfl:=oi hj
     exact⟨rfl,hw.sp 3 [0,2,1]⟩
    refine RL.move aw (cg af) ?_
    obtain⟨a8,bu,hj⟩:=bd hj
    refine RL.bN (hg:=(cg af)) 2 hw o8 bu fun cm hw=>(RL.dV (hg:=(cg af)) 0 hw zr nn fC fun cn hw=>(RL.bF (hg:=(cg af)) a8.Y1 0 hw cJ (RL.move (vi j.2.2.2) (cg af) (RL.kL a8.Y1 j.2.2.2 (cg af) (fG af (vb (decide (a8.Y1<=j.2.2.2))) (RL.nil ?_))))))
    obtain rfl:=oi hj
    exact⟨rfl,hw.sp 5 [2,4,3]⟩
   rintro _ w ⟨τ,rfl,hw⟩
   refine aH (dT hb (fun hc hb=>?_) fun hc hb=>?_)
   rotate_left
   ·refine RC.ex ?_
    obtain rfl:=oi hb
    exact⟨rfl,aw,hw.sp 3 [0,2,1]⟩
   refine RC.sn (RC.block (RC.region (mv aw ?_)))
   obtain⟨cp,bw,hb⟩:=bd hb
   refine RL.cut 1 hw o8 (.inr ⟨rfl,zr⟩) bw fun bk hw=>(aQ bk (RL.nil (bO ?_)))
   obtain rfl:=oi hb
   exact⟨rfl,bk,hw.sp 4 [1,3,0]⟩
  ·intro r _ _ _ _
   exact r.elim
  rintro ao _ w rfl ⟨av,τ,rfl,hw⟩
  rw [Fo.dF] at hb
  refine aH (RC.sr (mv ak (mv (vi j.2.2.2) (mv (vi o.2) ?_))))
  obtain⟨aa,bx,hb⟩:=bd hb
  refine RL.call zt zr Iu [ak,(vi j.2.2.2),(vi o.2)] zr (aD (tq N (p1:=j.2.2.2) (p2:=o.2) (i0:=0) hw zr bx) ?_)
  rintro _ w ⟨ay,rfl,hw⟩
  refine mv (.tuple #[ay,(vi aa.2)]) (RL.extract ay (RL.extract (vi aa.2) (aQ ay (aQ (vi aa.2) (RL.ns (mv av (mv (vi j.2.2.2) (mv (vi o.2) ?_))))))))
  obtain⟨ab,bz,hb⟩:=bd hb
  refine RL.call zt zr Iu [av,(vi j.2.2.2),(vi o.2)] zr (aD (tq N (p1:=j.2.2.2) (p2:=o.2) (i0:=3) hw zr bz) ?_)
  rintro _ w ⟨az,rfl,hw⟩
  refine mv (.tuple #[az,(vi ab.2)]) (RL.extract az (RL.extract (vi ab.2) (aQ az (aQ (vi ab.2) (RL.ns (mv (vi aa.2) (mv (vi ab.2) (RL.min aa.2 ab.2 ?_))))))))
  refine aQ (vi (if ab.2<aa.2 then ab.2 else aa.2)) (RL.ns (mv ad (mv (vi j.2.2.2) (mv (vi (if ab.2<aa.2 then ab.2 else aa.2)) (mv ay (mv az (mv v2 ?_)))))))
  obtain⟨b0,b1,hb⟩:=bd hb
  refine RL.call zt zr Kk [ay,az,v2] zr (aD (AF N (i0:=1) (i1:=0) hw zr zr (h2.lift 5 zr) b1) ?_)
  rintro b2 w hw
  have hw:=((hw.sc Int j.2.2.2).sc Int (if ab.2<aa.2 then ab.2 else aa.2)).freeze 2
  refine RL.build (⟨j.2.2.2,(if ab.2<aa.2 then ab.2 else aa.2),b0⟩:aA) trivial rfl hw [(0,vi j.2.2.2),(1,(vi (if ab.2<aa.2 then ab.2 else aa.2))),(2,b2)] rfl Iq rfl (fun M hs g=>by have h:=wJ M;exact cT.cons (f:=fun(x:aA) y=>{x with Y0:=y}) h tm (g.sat 1 _ rfl).1 fun _ h=>cT.cons (f:=fun(x:aA) y=>{x with Y1:=y}) h o7 (g.sat 0 _ rfl).1 fun _ h=>cT.cons (f:=fun(x:aA) y=>{x with Xs:=y}) h tn (g.sat 2 _ rfl).1 fun _ h=>cT.nil h) fun b3 hw=>?_
  have hw:=hw.pull 7
  obtain⟨cq,b4,hb⟩:=bd hb
  refine RL.call zt zr JZ [ad,b3] zr (aD (qU N (i1:=0) hw zr b4) ?_)
  rintro bl w hw
  refine aQ bl (RL.nt (RC.region (mv (vi (if ab.2<aa.2 then ab.2 else aa.2)) (aQ (vi (if ab.2<aa.2 then ab.2 else aa.2)) (RL.nil (bO ?_))))))
  obtain rfl:=oi hb
  exact⟨rfl,ak,av,bl,hw.sp 10 [7,9,0]⟩
 ·intro r _ _ _ _
  exact r.elim
 rintro j _ w rfl ⟨ax,τ,rfl,hw⟩
 rw [Fo.dF] at hb
 refine aH (RC.sr (mv ax (aQ ax (RL.nt (RC.ret ?_)))))
 obtain rfl:=oi hb
 exact bX (hw.pk 1 [0])
theorem uh {p0 p1 res:Bool} (hw:Holds E w Γ) (hb:nZ N p0 p1=some res):
    Calls bM 84 [(vb p0),(vb p1)].toArray w (gL (aV E Γ res)):=by
 unfold nZ at hb
 refine enter Tryz.func84 rfl rfl (RC.sr (aQ (vb false) (RL.ns (mv (vb p0) (mv (vb p0) (RL.gs true p0 (vb p1) rfl rfl rfl cF (RL.gs true p0 (vb (!p1)) rfl rfl rfl (F9 p1 rfl (fun h=>by exact(cI h:cv (true&&(p0==true)) (vb p1)= (vb p1)))) (RL.pick p0 (vb (p0&&(!p1))) (fZ true rfl) ?_))))))))
 refine aQ (vb (p0&&(!p1))) (RL.nt (RC.ret ?_))
 obtain rfl:=oi hb
 exact bX ⟨rfl,hw.drop 0⟩
theorem wU {p0: (List aA)} {p1: (List aA)} {res: (List aA)} (hw:Holds E w Γ) (h0:Γ[i0]? =some (rd v0 p0)) (h1:Γ[i1]? =some (rd v1 p1)) (hb:kR N p0 p1=some res):
    Calls bM 46 [v0,v1].toArray w (gL (mK E Γ res)):=by
 unfold kR at hb
 refine enter Tryz.func46 zr zr ?_
 have hw:=(hw.dup (i0+0) h0).dup (i1+1) h1
 refine RC.sr (aQ (.slice none 0 0) (RL.ns (mv v0 (mv v1 ?_))))
 obtain⟨ab,o,hb⟩:=bd hb
 refine RL.call trivial rfl LO [v0,v1,(.func (.func 84) #[] #[])] rfl (aD (zq N (i0:=1) (i1:=0) hw rfl rfl ⟨84,[],rfl,LN,fun w Γl v v' y0 y1 r i j hw hi hj hr=>by obtain rfl:=hw.Cn (γ:=Bool) hi;obtain rfl:=hw.Cn (γ:=Bool) hj;exact aD (uh N (p0:=y0) (p1:=y1) hw hr) fun _ _ h=>h⟩ o) ?_)
 rintro aa w hw
 refine aQ aa (RL.nt (RC.ret ?_))
 obtain rfl:=oi hb
 exact bX (hw.pk 3 [0])
theorem wV {p0: (List aA)} (hw:Holds E w Γ) (h0:Γ[i0]? =some (rd v0 p0)) (hb:mb N p0=some res):
    Calls bM 47 [v0].toArray w (gL (aW E Γ res)):=by
 unfold mb at hb
 refine enter Tryz.func47 zr zr ?_
 have hw:=hw.dup (i0+0) h0
 refine RC.sr (aQ (vi 0) (RL.ns (aQ (vi 0) (RL.nq (RC.sr (mv v0 (RL.bC 0 p0 hw u4 (mv (vi 0) ?_))))))))
 refine RL.nt ?_
 obtain⟨j,hN,hb⟩:=bd hb
 refine RC.fold (fun(aa:Nat) (j:Int)=>SH E Γ [(3,vi j),(6,v0),(7,vi p0.length),(8,vi aa)] [rd v0 p0]) (fun(j:Int)=>SH E Γ [(3,vi j)] [rd v0 p0]) hN ?_ ?_ ?_ ?_
 ·exact hw.sp 1 [0]
 ·rintro hm j _ w ⟨τ,rfl,hw⟩
  refine RC.sr (ic ((p0.length:Int)) ((p0.length:Int)) (RL.nq (RC.fV tN (RC.ex ?_))))
  exact⟨rfl,hw.sp 1 [0]⟩
 ·rintro hm aa j s' _ w hk ⟨τ,rfl,hw⟩ hb
  refine RC.sr (ic ((aa:Int)) ((p0.length:Int)) (RL.nq (RC.fU (tM hk) (RC.ss (RC.bs ?_)))))
  obtain⟨o,ab,hb⟩:=bd hb
  refine RL.bN 0 hw o8 ab fun ad hw=>(RL.bL 0 o hw wL fun ae hw=>(RL.alloc hw CX.z fun af w hw=>?_))
  refine RL.cB 0 hw 1 zr wL fun w hw=>?_
  refine RL.nt (RC.region (mv (vi j) (RL.aX zr lU (RL.bE 0 hw zr dZ fA fun ag hw=>(RL.bC 0 o.Xs hw l4 (RL.quo (o.Xs.length:Int) 2 (RL.fQ j (IntKind.wrap .i64 (Int.tdiv (o.Xs.length:Int) 2)) (aQ (vi (IntKind.wrap .i64 (j+ (IntKind.wrap .i64 (Int.tdiv (o.Xs.length:Int) 2))))) ?_))))))))
  refine RL.nil (bO (aH (RC.region (RL.inc hk hm (mv (vi ((aa+1:Nat):Int)) (RL.nil ?_))))))
  obtain rfl:=oi hb
  exact⟨rfl,hw.sp 5 [4]⟩
 rintro _ w ⟨τ,rfl,hw⟩
 refine aH (RC.sr (mv (vi j) (aQ (vi j) (RL.nt (RC.ret ?_)))))
 obtain rfl:=oi hb
 exact bX ⟨rfl,hw.drop 1⟩
def ui (E:World) (Γ:List HP) (b1:Nat) (res:Int×(List Int)) (v:Value) (w:World):Prop:=∃u1_0:Value,v= (vi res.1)/\Holds E w ([bc 31 b1 [u1_0],own 3 u1_0 res.2]++Γ)
theorem lQ {p1_0: (List Int)} {res:Int×(List Int)} (hw:Holds E w (bc 31 b1 [v1_0]::own 3 v1_0 p1_0::Γ)) (hb:fu N p0 p1_0=some res):
    Calls bM 85 [(vi p0),(vp b1 0)].toArray w (gL (ui E Γ b1 res)):=by
 unfold fu at hb
 refine enter Tryz.func85 zr zr (RC.sr (aQ (vi 0) (RL.nq ?_)))
 obtain⟨ai,hN,hb⟩:=bd hb
 refine RC.iter (fun(j:Int×(List Int))=>SH E Γ [(0,vi j.1),(1,vp b1 0)] [bc 31 b1 [v1_0],own 3 v1_0 j.2]) (fun(j:Int×(List Int))=>SH E Γ [(0,vi j.1),(1,vp b1 0)] [bc 31 b1 [v1_0],own 3 v1_0 j.2]) (fun(r:Empty) _ _=>r.elim) hN ?_ ?_ ?_ ?_
 ·exact hw.sp 2 [0,1]
 ·rintro j fl _ w ⟨τ,rfl,hw⟩ hb
  refine RC.seq (RC.sr (RL.bH 0 v1_0 hw fA (mv (vi j.1) ?_)))
  obtain⟨af,o,hb⟩:=bd hb
  refine RL.bU 1 hw zr zr eB o (RL.dO (f:=(fun x=>x)) 1 hw (jA 1 hw o 0) (bI o).2.1 Fd.self cJ (mv (vi j.1) (ic af j.1 (RL.nt (dT hb (fun hc hb=>?_) fun hc hb=>?_)))))
  rotate_left
  ·refine RC.ex ?_
   obtain rfl:=oi hb
   exact⟨rfl,hw.sp 2 [0,1]⟩
  refine RC.sn (RC.block (RC.seq (RC.vH mixed [0,0,0,0,0,0,0,0,0,0,2] [0,1,2,3,4,5,6,7,8,9,10] ?_)))
  have hw:=hw.drew
  refine DP.e0 zr (RL.bH 0 v1_0 hw fA (aZ zr (mv (vi j.1) (aZ zr (RL.bH 0 v1_0 hw fA (aZ zr (RL.bH 0 v1_0 hw fA (aZ zr ?_))))))))
  refine mv (vi j.1) (aZ zr ?_)
  obtain⟨aj,aa,hb⟩:=bd hb
  refine RL.bU 1 hw zr zr eB aa (aZ zr (RL.dO (f:=(fun x=>x)) 1 hw (jA 1 hw aa 0) (bI aa).2.1 Fd.self cJ (aZ zr ?_)))
  obtain⟨ag,ab,hb⟩:=bd hb
  refine RL.bU 1 hw zr zr eB ab (aZ zr (RL.dO (f:=(fun x=>x)) 1 hw (jA 1 hw ab 0) (bI ab).2.1 Fd.self cJ (aZ zr ?_)))
  obtain⟨ak,ad,hb⟩:=bd hb
  refine RL.bU 1 hw zr zr eB ad (pz zr ?_)
  have hw:=hw.sc Int ag
  refine RL.gx (f:=(fun _ y=>y)) 2 0 hw (jA 2 hw ad 0) (bI ad).2.1 zr Fs.self cJ fun w hw=>?_
  refine DP.d2 zt (DP.z (aH (RC.region (RL.bH 1 v1_0 hw fA (mv (vi j.1) ?_)))))
  obtain⟨ah,ae,hb⟩:=bd hb
  refine RL.bU 2 hw zr zr eB ae (RL.dO (f:=(fun x=>x)) 2 hw (jA 2 hw ae 0) (bI ae).2.1 Fd.self cJ (aQ (vi ah) (RL.nil (bO ?_))))
  obtain rfl:=oi hb
  exact⟨rfl,hw.sp 3 [1,2]⟩
 ·intro r _ _ _ _
  exact r.elim
 rintro j _ w rfl ⟨τ,rfl,hw⟩
 rw [Fo.dF] at hb
 refine aH (RC.sr (mv (vi j.1) (aQ (vi j.1) (RL.nt (RC.ret ?_)))))
 obtain rfl:=oi hb
 exact bX ⟨v1_0,zr,hw.pk 2 [0,1]⟩
def wW (E:World) (Γ:List HP) (res: (List (List aA))) (v:Value) (w:World):Prop:=Holds E w ([own 50 v res]++Γ)
theorem vS {p0: (List aA)} {res: (List (List aA))} (hw:Holds E w Γ) (h0:Γ[i0]? =some (rd v0 p0)) (hb:lx N p0=some res):
    Calls bM 48 [v0].toArray w (gL (wW E Γ res)):=by
 unfold lx at hb
 refine enter Tryz.func48 zr zr ?_
 have hw:=hw.dup (i0+0) h0
 refine RC.sr (aQ (.slice none 0 0) (RL.ns (mv v0 ?_)))
 obtain⟨aj,ct,hb⟩:=bd hb
 refine RL.call zt zr I5 [v0] zr (aD (nz N (i0:=0) hw zr ct) ?_)
 rintro ae w hw
 refine aQ ae (RL.ns (mv ae (RL.fR 0 aj hw mS ?_)))
 obtain⟨a7,cu,hb⟩:=bd hb
 refine RL.mk (aj.length:Int) hw qF JW cu fun ax w hw=>?_
 refine RL.tT zr hw JV zr fun ad w hw=>?_
 refine RL.ig 0 ax hw zr zr (iD 1 hw) fA fun w hw=>?_
 refine RL.nq (RC.sr (RL.bH 0 ax hw fA (RL.fR 1 a7 hw l4 (mv (vi 0) (RL.nt ?_)))))
 obtain⟨a4,hN,hb⟩:=bd hb
 refine RC.fold (fun(aw:Nat) (a4: (List Int))=>SH E Γ [(0,v0),(3,ae),(4,vp ad 0),(32,vi a7.length),(33,vi aw)] [rd v0 p0,own 59 ae aj,bc 31 ad [ax],own 3 ax a4]) (fun(a4: (List Int))=>SH E Γ [(0,v0),(3,ae),(4,vp ad 0)] [rd v0 p0,own 59 ae aj,bc 31 ad [ax],own 3 ax a4]) hN ?_ ?_ ?_ ?_
 ·exact hw.sp 4 [3,2,0,1]
 ·rintro hm a4 _ w ⟨τ,rfl,hw⟩
  refine RC.sr (ic ((a7.length:Int)) ((a7.length:Int)) (RL.nq (RC.fV tN (RC.ex ?_))))
  exact⟨rfl,hw.sp 4 [0,1,2,3]⟩
 ·rintro hm aw a4 s' _ w hk ⟨τ,rfl,hw⟩ hb
  refine RC.sr (ic ((aw:Int)) ((a7.length:Int)) (RL.nq (RC.fU (tM hk) (RC.ss (RC.bs (mv (vi aw) (aQ (vi aw) (RL.nt ?_))))))))
  refine RC.region (RL.bH 2 ax hw fA (mv (vi aw) (mv (vi aw) ?_)))
  obtain⟨df,bw,hb⟩:=bd hb
  refine RL.bU 3 hw zr zr eB bw ?_
  have hw:=hw.sc Int (aw:Int)
  refine RL.gx (f:=(fun _ y=>y)) 4 0 hw (jA 4 hw bw 0) (bI bw).2.1 zr Fs.self cJ fun w hw=>?_
  refine RL.nil (bO (aH (RC.region (RL.inc hk hm (mv (vi ((aw+1:Nat):Int)) (RL.nil ?_))))))
  obtain rfl:=oi hb
  exact⟨rfl,hw.sp 5 [1,2,3,4]⟩
 rintro _ w ⟨τ,rfl,hw⟩
 refine aH (RC.sr (RL.makeFunc zt zr [(vp ad 0)] zr (aQ (.func (.func 85) #[] #[(vp ad 0)]) (RL.ns (aQ (vi 0) (aQ (vi 0) (RL.nq (RC.sr ?_))))))))
 refine mv v0 (RL.bC 0 p0 hw u4 (mv (vi 0) (RL.nt ?_)))
 obtain⟨o,hN,hb⟩:=bd hb
 refine RC.fold (fun(an:Nat) (o: (List Int)×Int×Int) σ w=>∃cb:Value,SH E Γ [(0,v0),(3,ae),(4,vp ad 0),(6,(.func (.func 85) #[] #[(vp ad 0)])),(7,vi o.2.1),(8,vi o.2.2),(42,v0),(43,vi p0.length),(44,vi an)] [rd v0 p0,own 59 ae aj,bc 31 ad [cb],own 3 cb o.1] σ w) (fun(o: (List Int)×Int×Int) σ w=>∃ba:Value,SH E Γ [(3,ae),(6,(.func (.func 85) #[] #[(vp ad 0)]))] [rd v0 p0,own 59 ae aj,bc 31 ad [ba],own 3 ba o.1] σ w) hN ?_ ?_ ?_ ?_
 ·exact⟨ax,hw.sp 4 [0,1,2,3]⟩
 ·rintro hm o _ w ⟨cw,τ,rfl,hw⟩
  refine RC.sr (ic ((p0.length:Int)) ((p0.length:Int)) (RL.nq (RC.fV tN (RC.ex ?_))))
  exact⟨rfl,cw,hw.sp 4 [0,1,2,3]⟩
 ·rintro hm an o s' _ w hk ⟨bb,τ,rfl,hw⟩ hb
  refine RC.sr (ic ((an:Int)) ((p0.length:Int)) (RL.nq (RC.fU (tM hk) (RC.ss (RC.bs (mv (vi an) ?_))))))
  obtain⟨ah,cx,hb⟩:=bd hb
  refine RL.bN 0 hw o8 cx fun dg hw=>(RL.bL 0 ah hw wL fun dh hw=>(RL.alloc hw CX.z fun di w hw=>?_))
  refine aQ (vi an) (RL.cB 0 hw 1 zr wL fun w hw=>?_)
  refine RL.ns (RL.aX zr lU (RL.bE 0 hw zr dZ fA fun dj hw=>(RL.bC 0 ah.Xs hw l4 (RL.quo (ah.Xs.length:Int) 2 (aQ (vi (IntKind.wrap .i64 (Int.tdiv (ah.Xs.length:Int) 2))) (RL.nq (RC.seq ?_)))))))
  obtain⟨bz,hj,hb⟩:=bd hb
  refine RC.jn (fun(bz:Bool)=>SH E Γ [(0,v0),(3,ae),(4,vp ad 0),(6,(.func (.func 85) #[] #[(vp ad 0)])),(7,vi o.2.1),(8,vi o.2.2),(11,(vi (IntKind.wrap .i64 (Int.tdiv (ah.Xs.length:Int) 2)))),(42,v0),(43,vi p0.length),(44,vi an),(65,vb bz)] [rd v0 p0,own 59 ae aj,bc 31 ad [bb],own 3 bb o.1]) bz ?_ ?_
  ·refine RC.yI mixed ?_
   have hw:=hw.drew
   refine RO.go (mv (vi an) (RO.nx (ic ((an:Int)) 0 (RO.nx (mv (vb (decide ((an:Int)>0))) (fB hj (fun ak hj=>?_) fun ak hj=>?_))))))
   rotate_left
   ·refine RO.nx (bJ ak (RO.nx (bJ ak (RO.nx (bJ ak (RO.nx (bJ ak (RO.nx ?_))))))))
    refine bJ ak (RO.nx (bJ ak (RO.nx (bJ ak (RO.nx (bJ ak (RO.nx (bJ ak ?_))))))))
    refine RO.nx (fG ak (vb false) (RO.last ?_))
    obtain rfl:=oi hj
    exact⟨rfl,hw.sp 8 [4,5,6,7]⟩
   refine RO.nx (RL.move v0 (cg ak) (RO.nx (RL.move (vi an) (cg ak) (RO.nx (RL.fQ (hg:=(cg ak)) (an:Int) 1 (RO.nx ?_))))))
   obtain⟨b0,cy,hj⟩:=bd hj
   refine RL.bN (hg:=(cg ak)) 4 hw o8 cy fun dk hw=>(RO.nx (RL.dV (hg:=(cg ak)) 0 hw zr nn fC fun dm hw=>(RO.nx (RL.bF (hg:=(cg ak)) b0.Y1 0 hw cJ (RO.nx (RL.aX (hg:=(cg ak)) zr pF (RO.nx (RL.aM (hg:=(cg ak)) 3 hw zr gV cJ ?_))))))))
   refine RO.nx (RL.kL b0.Y1 ah.Y0 (cg ak) (RO.nx (fG ak (vb (b0.Y1==ah.Y0)) (RO.last ?_))))
   obtain rfl:=oi hj
   exact⟨rfl,hw.sp 10 [6,7,8,9]⟩
  rintro _ w ⟨τ,rfl,hw⟩
  refine aH ?_
  obtain⟨b1,hj,hb⟩:=bd hb
  refine RC.jn (fun(b1: (List Int)) σ w=>∃bf:Value,SH E Γ [(0,v0),(3,ae),(4,vp ad 0),(6,(.func (.func 85) #[] #[(vp ad 0)])),(7,vi o.2.1),(11,(vi (IntKind.wrap .i64 (Int.tdiv (ah.Xs.length:Int) 2)))),(42,v0),(43,vi p0.length),(44,vi an)] [rd v0 p0,own 59 ae aj,bc 31 ad [bf],own 3 bf b1] σ w) b1 ?_ ?_
  ·refine dT hj (fun hc hj=>?_) fun hc hj=>?_
   rotate_left
   ·refine RC.skip ?_
    obtain rfl:=oi hj
    exact⟨rfl,bb,hw.sp 4 [0,1,2,3]⟩
   refine RC.sr (mv (vi o.2.2) (mv (vi o.2.1) (aQ (vi o.2.2) (aQ (vi o.2.1) (RL.nt ?_)))))
   obtain⟨dn,hN,hj⟩:=bd hj
   refine RC.iter (fun(aa: (List Int)×Int×Int) σ w=>∃cc:Value,SH E Γ [(0,v0),(3,ae),(4,vp ad 0),(6,(.func (.func 85) #[] #[(vp ad 0)])),(7,vi o.2.1),(11,(vi (IntKind.wrap .i64 (Int.tdiv (ah.Xs.length:Int) 2)))),(12,vi aa.2.1),(13,vi aa.2.2),(42,v0),(43,vi p0.length),(44,vi an)] [rd v0 p0,own 59 ae aj,bc 31 ad [cc],own 3 cc aa.1] σ w) (fun(aa: (List Int)×Int×Int) σ w=>∃bg:Value,SH E Γ [(0,v0),(3,ae),(4,vp ad 0),(6,(.func (.func 85) #[] #[(vp ad 0)])),(7,vi o.2.1),(11,(vi (IntKind.wrap .i64 (Int.tdiv (ah.Xs.length:Int) 2)))),(42,v0),(43,vi p0.length),(44,vi an)] [rd v0 p0,own 59 ae aj,bc 31 ad [bg],own 3 bg aa.1] σ w) (fun(r:Empty) _ _=>r.elim) hN ?_ ?_ ?_ ?_
   ·exact⟨bb,hw.sp 4 [0,1,2,3]⟩
   ·rintro aa fl _ w ⟨bh,τ,rfl,hw⟩ hb
    refine RC.seq (RC.sr (mv (vi aa.2.1) (mv (vi o.2.1) (ic aa.2.1 o.2.1 (mv (vb (decide (aa.2.1<o.2.1))) (RL.gs true (decide (aa.2.1<o.2.1)) (vi aa.2.2) zr zr zr cF (RL.gs true (decide (aa.2.1<o.2.1)) (vi o.2.1) zr zr zr cF (RL.gs true (decide (aa.2.1<o.2.1)) (vi (IntKind.wrap .i64 (Int.tdiv (ah.Xs.length:Int) 2))) zr zr zr cF ?_))))))))
    refine RL.gs true (decide (aa.2.1<o.2.1)) (vi (IntKind.wrap .i64 (o.2.1+ (IntKind.wrap .i64 (Int.tdiv (ah.Xs.length:Int) 2))))) rfl rfl rfl (IP (bop:= .add) (K:= .i64) (a:=o.2.1) (b:=(IntKind.wrap .i64 (Int.tdiv (ah.Xs.length:Int) 2))) rfl (fun h=>by exact(cI h:cv (true&&((decide (aa.2.1<o.2.1))==true)) (vi o.2.1)= (vi o.2.1))) (fun h=>by exact(cI h:cv (true&&((decide (aa.2.1<o.2.1))==true)) (vi (IntKind.wrap .i64 (Int.tdiv (ah.Xs.length:Int) 2)))= (vi (IntKind.wrap .i64 (Int.tdiv (ah.Xs.length:Int) 2))))) rfl) (RL.gs true (decide (aa.2.1<o.2.1)) (vb (decide (aa.2.2< (IntKind.wrap .i64 (o.2.1+ (IntKind.wrap .i64 (Int.tdiv (ah.Xs.length:Int) 2))))))) rfl rfl rfl (dI .lss .i64 aa.2.2 (IntKind.wrap .i64 (o.2.1+ (IntKind.wrap .i64 (Int.tdiv (ah.Xs.length:Int) 2)))) rfl (fun h=>by exact(cI h:cv (true&&((decide (aa.2.1<o.2.1))==true)) (vi aa.2.2)= (vi aa.2.2))) (fun h=>by exact(cI h:cv (true&&((decide (aa.2.1<o.2.1))==true)) (vi (IntKind.wrap .i64 (o.2.1+ (IntKind.wrap .i64 (Int.tdiv (ah.Xs.length:Int) 2)))))= (vi (IntKind.wrap .i64 (o.2.1+ (IntKind.wrap .i64 (Int.tdiv (ah.Xs.length:Int) 2))))))) rfl) (RL.pick (decide (aa.2.1<o.2.1)) (vb ((decide (aa.2.1<o.2.1))&&(decide (aa.2.2< (IntKind.wrap .i64 (o.2.1+ (IntKind.wrap .i64 (Int.tdiv (ah.Xs.length:Int) 2)))))))) (fZ true rfl) (RL.nt (dT hb (fun hc hb=>?_) fun hc hb=>?_))))
    rotate_left
    ·refine RC.ex ?_
     obtain rfl:=oi hb
     exact⟨rfl,bh,hw.sp 4 [0,1,2,3]⟩
    refine RC.sn (RC.block (RC.seq (RC.seq ?_)))
    obtain⟨b2,hj,hb⟩:=bd hb
    refine RC.jn (fun(b2:Bool)=>SH E Γ [(0,v0),(3,ae),(4,vp ad 0),(6,(.func (.func 85) #[] #[(vp ad 0)])),(7,vi o.2.1),(11,(vi (IntKind.wrap .i64 (Int.tdiv (ah.Xs.length:Int) 2)))),(12,vi aa.2.1),(13,vi aa.2.2),(42,v0),(43,vi p0.length),(44,vi an),(101,vb b2)] [rd v0 p0,own 59 ae aj,bc 31 ad [bh],own 3 bh aa.1]) b2 ?_ ?_
    ·refine RC.yI mixed ?_
     have hw:=hw.drew
     refine RO.go (mv ae (RO.nx (mv (vi aa.2.1) (RO.nx ?_))))
     obtain⟨cd,bj,hj⟩:=bd hj
     refine RL.bU 1 hw zr zr iY bj (RO.nx (RL.kM (α:=aI) zt (jA 1 hw bj 0) g9 (RO.nx (RL.dO 1 hw (jA 1 hw bj 0) (bI bj).2.1 dL cJ (RO.nx (mv ae (RO.nx (mv (vi aa.2.2) ?_))))))))
     refine RO.nx ?_
     obtain⟨cf,bk,hj⟩:=bd hj
     refine RL.bU 1 hw zr zr iY bk (RO.nx (RL.kM (α:=aI) zt (jA 1 hw bk 0) iZ (RO.nx (RL.dO 1 hw (jA 1 hw bk 2) (bI bk).2.1 eC cJ (RO.nx (ic cd.X0 cf.X1 (RO.nx (mv (vb (decide (cd.X0<cf.X1))) ?_))))))))
     refine fB hj (fun ai hj=>?_) fun ai hj=>?_
     rotate_left
     ·refine RO.nx (bJ ai (RO.nx (bJ ai (RO.nx (bJ ai (RO.nx (bJ ai (RO.nx ?_))))))))
      refine bJ ai (RO.nx (bJ ai (RO.nx (bJ ai (RO.nx (bJ ai (RO.nx (bJ ai ?_))))))))
      refine RO.nx (bJ ai (RO.nx (bJ ai (RO.nx (fG ai (vb false) (RO.last ?_))))))
      obtain rfl:=oi hj
      exact⟨rfl,hw.sp 4 [0,1,2,3]⟩
     refine RO.nx (RL.move ae (cg ai) (RO.nx (RL.move (vi aa.2.2) (cg ai) (RO.nx ?_))))
     obtain⟨ch,bl,hj⟩:=bd hj
     refine RL.bU (hg:=(cg ai)) 1 hw zr zr iY bl (RO.nx (RL.kM (α:=aI) (cg ai) (jA 1 hw bl 0) g9 (RO.nx (RL.dO (hg:=(cg ai)) 1 hw (jA 1 hw bl 0) (bI bl).2.1 dL cJ (RO.nx (RL.move ae (cg ai) (RO.nx (RL.move (vi aa.2.1) (cg ai) ?_))))))))
     refine RO.nx ?_
     obtain⟨cj,bm,hj⟩:=bd hj
     refine RL.bU (hg:=(cg ai)) 1 hw zr zr iY bm (RO.nx (RL.kM (α:=aI) (cg ai) (jA 1 hw bm 0) iZ (RO.nx (RL.dO (hg:=(cg ai)) 1 hw (jA 1 hw bm 2) (bI bm).2.1 eC cJ (RO.nx (RL.kL ch.X0 cj.X1 (cg ai) (RO.nx (fG ai (vb (decide (ch.X0<cj.X1))) ?_))))))))
     refine RO.last ?_
     obtain rfl:=oi hj
     exact⟨rfl,hw.sp 4 [0,1,2,3]⟩
    rintro _ w ⟨τ,rfl,hw⟩
    refine aH ?_
    obtain⟨bn,hj,hb⟩:=bd hb
    refine RC.jn (fun(bn: (List Int)) σ w=>∃a5:Value,SH E Γ [(0,v0),(3,ae),(4,vp ad 0),(6,(.func (.func 85) #[] #[(vp ad 0)])),(7,vi o.2.1),(11,(vi (IntKind.wrap .i64 (Int.tdiv (ah.Xs.length:Int) 2)))),(12,vi aa.2.1),(13,vi aa.2.2),(42,v0),(43,vi p0.length),(44,vi an)] [rd v0 p0,own 59 ae aj,bc 31 ad [a5],own 3 a5 bn] σ w) bn ?_ ?_
    ·refine dT hj (fun hc hj=>?_) fun hc hj=>?_
     rotate_left
     ·refine RC.skip ?_
      obtain rfl:=oi hj
      exact⟨rfl,bh,hw.sp 4 [0,1,2,3]⟩
     refine RC.sr (mv (.func (.func 85) #[] #[(vp ad 0)]) (mv (vi aa.2.1) ?_))
     have hw:=(hw.pull 3).pull 3
     obtain⟨a0,cz,hj⟩:=bd hj
     refine RL.Ck (cap:=[(vp ad 0)]) zt zr Jb zr [(vi aa.2.1)] zr (aD (lQ N (p0:=aa.2.1) hw cz) ?_)
     rintro _ w ⟨dp,rfl,hw⟩
     refine mv (.func (.func 85) #[] #[(vp ad 0)]) (mv (vi aa.2.2) ?_)
     have hw:=(hw.pull 1).pull 1
     obtain⟨a1,c0,hj⟩:=bd hj
     refine RL.Ck (cap:=[(vp ad 0)]) zt zr Jb zr [(vi aa.2.2)] zr (aD (lQ N (p0:=aa.2.2) hw c0) ?_)
     rintro _ w ⟨ck,rfl,hw⟩
     refine aQ (vi a0.1) (aQ (vi a1.1) (RL.nt (RC.region (RL.bH 0 ck hw fA (mv (vi a0.1) (mv (vi a1.1) (RL.max a0.1 a1.1 (mv (vi a0.1) ?_))))))))
     refine mv (vi a1.1) (RL.min a0.1 a1.1 ?_)
     obtain⟨dq,b3,hj⟩:=bd hj
     refine RL.bU 1 hw zr zr eB b3 ?_
     have hw:=hw.sc Int (if a1.1<a0.1 then a1.1 else a0.1)
     refine RL.gx (f:=(fun _ y=>y)) 2 0 hw (jA 2 hw b3 0) (bI b3).2.1 zr Fs.self cJ fun w hw=>?_
     refine RL.nil ?_
     obtain rfl:=oi hj
     exact⟨rfl,ck,hw.sp 9 [5,6,1,2]⟩
    rintro _ w ⟨a5,τ,rfl,hw⟩
    refine aH (RC.seq (RC.yI mixed ?_))
    have hw:=hw.drew
    refine RO.go (mv ae (RO.nx (mv (vi aa.2.1) (RO.nx ?_))))
    obtain⟨c1,bo,hb⟩:=bd hb
    refine RL.bU 1 hw zr zr iY bo (RO.nx (RL.kM (α:=aI) zt (jA 1 hw bo 0) iZ (RO.nx (RL.dO 1 hw (jA 1 hw bo 2) (bI bo).2.1 eC cJ (RO.nx (mv ae (RO.nx (mv (vi aa.2.2) ?_))))))))
    refine RO.nx ?_
    obtain⟨c2,bp,hb⟩:=bd hb
    refine RL.bU 1 hw zr zr iY bp (RO.nx (RL.kM (α:=aI) zt (jA 1 hw bp 0) iZ (RO.nx (RL.dO 1 hw (jA 1 hw bp 2) (bI bp).2.1 eC cJ (RO.nx (ic c1.X1 c2.X1 (RO.last (aH ?_))))))))
    obtain⟨bq,hj,hb⟩:=bd hb
    refine RC.jn (fun(bq:Int×Int)=>SH E Γ [(0,v0),(3,ae),(4,vp ad 0),(6,(.func (.func 85) #[] #[(vp ad 0)])),(7,vi o.2.1),(11,(vi (IntKind.wrap .i64 (Int.tdiv (ah.Xs.length:Int) 2)))),(12,vi bq.1),(13,vi bq.2),(42,v0),(43,vi p0.length),(44,vi an)] [rd v0 p0,own 59 ae aj,bc 31 ad [a5],own 3 a5 bn]) bq ?_ ?_
    ·refine dT hj (fun hc hj=>?_) fun hc hj=>?_
     ·refine RC.region (mv (vi aa.2.1) (RL.fQ aa.2.1 1 (aQ (vi (IntKind.wrap .i64 (aa.2.1+1))) (RL.nil ?_))))
      obtain rfl:=oi hj
      exact⟨rfl,hw.sp 4 [0,1,2,3]⟩
     refine RC.region (mv (vi aa.2.2) (RL.fQ aa.2.2 1 (aQ (vi (IntKind.wrap .i64 (aa.2.2+1))) (RL.nil ?_))))
     obtain rfl:=oi hj
     exact⟨rfl,hw.sp 4 [0,1,2,3]⟩
    rintro _ w ⟨τ,rfl,hw⟩
    refine bO ?_
    obtain rfl:=oi hb
    exact⟨rfl,a5,hw.sp 4 [0,1,2,3]⟩
   ·intro r _ _ _ _
    exact r.elim
   rintro aa _ w rfl ⟨bg,τ,rfl,hw⟩
   rw [Fo.dF] at hj
   obtain rfl:=oi hj
   exact⟨rfl,bg,hw.sp 4 [0,1,2,3]⟩
  rintro _ w ⟨bf,τ,rfl,hw⟩
  refine aH (RC.region (mv (vi o.2.1) (mv (vi o.2.1) (mv (vi (IntKind.wrap .i64 (Int.tdiv (ah.Xs.length:Int) 2))) (RL.fQ o.2.1 (IntKind.wrap .i64 (Int.tdiv (ah.Xs.length:Int) 2)) (aQ (vi o.2.1) (aQ (vi (IntKind.wrap .i64 (o.2.1+ (IntKind.wrap .i64 (Int.tdiv (ah.Xs.length:Int) 2))))) (RL.nil ?_))))))))
  refine bO (aH (RC.region (RL.inc hk hm (mv (vi ((an+1:Nat):Int)) (RL.nil ?_)))))
  obtain rfl:=oi hb
  exact⟨rfl,bf,hw.sp 4 [0,1,2,3]⟩
 rintro _ w ⟨ba,τ,rfl,hw⟩
 refine aH (RC.sr (RL.makeMap (κ:=Int) (ν:=Int) zt zr hw fun av w hw=>(aQ av (RL.ns (aQ (.slice none 0 0) (RL.nq (RC.sr (mv ae ?_))))))))
 refine RL.fR 2 aj hw mS (mv (vi 0) (RL.nt ?_))
 obtain⟨af,hN,hb⟩:=bd hb
 refine RC.fold (fun(au:Nat) (af: (List Int)×(List (Int×Int))×(List (List aI))) σ w=>∃(cl cm:Value) (us939:List RV),SH E Γ [(6,(.func (.func 85) #[] #[(vp ad 0)])),(16,av),(17,cm),(137,ae),(138,vi aj.length),(139,vi au)] [bc 31 ad [cl],own 3 cl af.1,mp av af.2.1,own 59 ae aj,own 23 cm us939,hU (XS 59 aI) us939 af.2.2 none] σ w) (fun(af: (List Int)×(List (Int×Int))×(List (List aI))) σ w=>∃(b4 a2:Value) (us942:List RV),SH E Γ [(17,a2)] [bc 31 ad [b4],own 3 b4 af.1,mp av af.2.1,own 59 ae aj,own 23 a2 us942,hU (XS 59 aI) us942 af.2.2 none] σ w) hN ?_ ?_ ?_ ?_
 ·have hw:=(hw.yT (XS 59 aI)).cX RV 23
  exact⟨ba,(.slice none 0 0),([]:List RV),hw.sp 7 [5,6,2,4,0,1]⟩
 ·rintro hm af _ w ⟨c3,c4,us987,τ,rfl,hw⟩
  refine RC.sr (ic ((aj.length:Int)) ((aj.length:Int)) (RL.nq (RC.fV tN (RC.ex ?_))))
  exact⟨rfl,c3,c4,us987,hw.sp 6 [0,1,2,3,4,5]⟩
 ·rintro hm au af s' _ w hk ⟨dr,b5,us945,τ,rfl,hw⟩ hb
  refine RC.sr (ic ((au:Int)) ((aj.length:Int)) (RL.nq (RC.fU (tM hk) (RC.ss (RC.bs (mv (vi au) ?_))))))
  obtain⟨ay,b6,hb⟩:=bd hb
  refine RL.bU 3 hw zr zr iY b6 (RL.kl (f:=(fun x=>x)) 3 hw (jA 3 hw b6 0) (bI b6).2.1 Fd.self iw fun ds hw=>?_)
  refine RL.alloc hw oc.z fun br w hw=>?_
  refine aQ (vi au) (RL.cB 0 hw 1 zr iw fun w hw=>?_)
  refine RL.ns (mv (.func (.func 85) #[] #[(vp ad 0)]) (mv (vi au) ?_))
  have hw:=(hw.pull 3).pull 3
  obtain⟨ar,c5,hb⟩:=bd hb
  refine RL.Ck (cap:=[(vp ad 0)]) zt zr Jb zr [(vi au)] zr (aD (lQ N (p0:=(au:Int)) hw c5) ?_)
  rintro _ w ⟨a8,rfl,hw⟩
  refine aQ (vi ar.1) (RL.ns (mv av (mv (vi ar.1) (RL.Gh (i:=6) (k:=ar.1) zt zr hw zr zr zr C1 (mv (.tuple #[(vi (jg af.2.1 ar.1 (0:Int))),(vb (tt af.2.1 ar.1))]) (RL.extract (vi (jg af.2.1 ar.1 (0:Int))) (RL.extract (vb (tt af.2.1 ar.1)) (aQ (vi (jg af.2.1 ar.1 (0:Int))) ?_))))))))
  refine aQ (vb (tt af.2.1 ar.1)) (RL.nq (RC.sr (mv (vb (tt af.2.1 ar.1)) (RL.not (tt af.2.1 ar.1) (RL.nt ?_)))))
  obtain⟨ab,hj,hb⟩:=bd hb
  refine RC.jn (fun(ab: (List (Int×Int))×(List (List aI))×Int) σ w=>∃(aq:Value) (us956:List RV),SH E Γ [(6,(.func (.func 85) #[] #[(vp ad 0)])),(16,av),(17,aq),(19,vp br 0),(21,vi ab.2.2),(137,ae),(138,vi aj.length),(139,vi au)] [bc 31 ad [a8],own 3 a8 ar.2,mp av ab.1,bx 59 br ay,own 59 ae aj,own 23 aq us956,hU (XS 59 aI) us956 ab.2.1 none] σ w) ab ?_ ?_
  ·refine dT hj (fun hc hj=>?_) fun hc hj=>?_
   rotate_left
   ·refine RC.skip ?_
    obtain rfl:=oi hj
    exact⟨rfl,b5,us945,hw.sp 10 [0,1,6,2,7,8,9]⟩
   refine RC.sr (mv b5 (RL.rC 8 9 af.2.2 hw pE (aQ (vi af.2.2.length) (RL.ns (mv av (mv (vi ar.1) (mv (vi af.2.2.length) ?_)))))))
   have hw:=hw.sc Int (af.2.2.length:Int)
   refine RL.mapUpdate 7 0 ar.1 zt hw zr zr zr zr zr C1 fun w hw=>(RL.nt (RC.region (mv b5 ?_)))
   have hw:=(hw.cX aI 59).AV (i:=0) rfl
   refine RL.dW ([rv (.slice none 0 0)]:List RV) hw [(.slice none 0 0)] tz Jc (fun M hs g=>⟨(g.sat 0 _ zr).1,zt⟩) fun dt w hw=>?_
   obtain⟨du,c6,hj⟩:=bd hj
   have hw:=hw.freeze 0
   refine RL.CF 12 0 13 2 zt zr hw zr zr zr zr zr zr GF c6 fun cn w hw=>?_
   refine aQ cn (RL.nil ?_)
   obtain rfl:=oi hj
   exact⟨rfl,cn,(us945++[rv (.slice none 0 0)]),hw.sp 14 [4,5,10,6,11,12,13]⟩
  rintro _ w ⟨aq,us956,τ,rfl,hw⟩
  refine aH ?_
  obtain⟨dv,bt,hb⟩:=bd hb
  obtain⟨a3,c7,hb⟩:=bd hb
  obtain⟨dw,b7,hb⟩:=bd hb
  refine RC.Fi E Γ mixed [1,1,1,1,0,0,0,0,0,0,0] [6,7,8,10] (fun(x:Value×Value×Value)=>(fun ao al ag=>[(0,163,aq),(1,164,(vi ab.2.2)),(2,165,aq),(3,166,(vi ab.2.2)),(4,167,(yF aq (Int.toNat ab.2.2) 1 0)),(5,168,(us956.getD (Int.toNat ab.2.2) Ce).v),(6,169,ao),(7,170,al),(8,171,ag),(9,172,(yF aq (Int.toNat ab.2.2) 1 0))]) x.1 x.2.1 x.2.2) [(6,(.func (.func 85) #[] #[(vp ad 0)])),(16,av),(17,aq),(19,vp br 0),(21,vi ab.2.2),(137,ae),(138,vi aj.length),(139,vi au)] [] (fun(D:Nat->Bool) (x:Value×Value×Value)=>(fun ao al ag=>[bif D 0 then (rd ao ay) else bB,bif D 2 then (rd al ([ay]: (List aI))) else (bif D 1 then (own 59 al ([ay]: (List aI))) else bB),bif D 3 then bB else (bif D 2 then (own 59 ag a3) else bB),bc 31 ad [a8],own 3 a8 ar.2,mp av ab.1,bx 59 br ay,own 59 ae aj,bif D 3 then (own 23 aq (us956.set (Int.toNat ab.2.2) (rv ag))) else (own 23 aq us956),bif D 3 then (hU (XS 59 aI) (us956.set (Int.toNat ab.2.2) (rv ag)) (ab.2.1.set (Int.toNat ab.2.2) a3) none) else (bif D 2 then (hU (XS 59 aI) us956 ab.2.1 (some (Int.toNat ab.2.2))) else (hU (XS 59 aI) us956 ab.2.1 none))]) x.1 x.2.1 x.2.2) (fun x=>by kernel_rfl) ?_ ⟨fun _=>jq gn,fun _=>jq gn,fun _=>jq gn,fun _=>jq gn,?_,?_,?_,?_,?_,?_,?_,trivial⟩ ?_
  ·have hw:=(((hw.drew).bB).bB).bB
   exact⟨(undef,undef,undef),gw.none,(D5 zr),zt,hw⟩
  ·rintro D σ w hD hdep hcl ⟨⟨ao,al,ag⟩,hv,ha,_,hw⟩
   obtain⟨τ,rfl⟩:=(ac (hv.at 2 rfl (hdep.1 rfl)) (ac (hv.at 3 rfl (hdep.2.1 rfl)) az)).fq
   have hw:=((hw.cA 8 (nf (fun h=>ft hD ((hcl 10 _ rfl h).2.2.2.2.2.2.2.1 rfl)))).cA 9 (nf (fun h=>ft hD ((hcl 10 _ rfl h).2.2.2.2.2.2.2.1 rfl)))).cA 9 (nf (fun h=>ft hD ((hcl 5 _ rfl ((hcl 8 _ rfl h).1 rfl)).1 rfl)))
   have hl974:=hw.eA 9
   have hr975:=fE Ce hl974 bt
   refine RL.bU 8 hw zr zr tz hr975 ?_
   have hw:=(hw.eV 8 (D 10) (nf (fun h=>ft hD ((hcl 10 _ rfl h).2.2.2.2.2.2.2.1 rfl))) (own 23 aq (us956.set (Int.toNat ab.2.2) (rv ag)))).eV 9 (D 8) (nf (fun h=>ft hD ((hcl 5 _ rfl ((hcl 8 _ rfl h).1 rfl)).1 rfl))) (hU (XS 59 aI) us956 ab.2.1 (some (Int.toNat ab.2.2)))
   have hw:=hw.eV 9 (D 10) (nf (fun h=>ft hD ((hcl 10 _ rfl h).2.2.2.2.2.2.2.1 rfl))) (hU (XS 59 aI) (us956.set (Int.toNat ab.2.2) (rv ag)) (ab.2.1.set (Int.toNat ab.2.2) a3) none)
   exact RL.nil ⟨rfl,(ao,al,ag),hv.put 4 zr zr,ha.up zr,zt,hw⟩
  ·rintro D σ w hD hdep hcl ⟨⟨ao,al,ag⟩,hv,ha,_,hw⟩
   obtain⟨τ,rfl⟩:=(ac (hv.at 4 rfl (hdep.1 rfl)) az).fq
   have hw:=((hw.cA 8 (nf (fun h=>ft hD ((hcl 10 _ rfl h).2.2.2.2.2.2.2.2.1 rfl)))).cA 9 (nf (fun h=>ft hD ((hcl 10 _ rfl h).2.2.2.2.2.2.2.2.1 rfl)))).cA 9 (nf (fun h=>ft hD ((hcl 8 _ rfl h).1 rfl)))
   have hl976:=hw.eA 9
   have hr977:=fE Ce hl976 bt
   refine RL.uJ 8 9 ab.2.2 (AU 59 aI) Ce zr hw zr (jA 8 hw hr977 0) zr zr bt rH ?_
   have hw:=(hw.eV 8 (D 10) (nf (fun h=>ft hD ((hcl 10 _ rfl h).2.2.2.2.2.2.2.2.1 rfl))) (own 23 aq (us956.set (Int.toNat ab.2.2) (rv ag)))).eV 9 (D 8) (nf (fun h=>ft hD ((hcl 8 _ rfl h).1 rfl))) (hU (XS 59 aI) us956 ab.2.1 (some (Int.toNat ab.2.2)))
   have hw:=hw.eV 9 (D 10) (nf (fun h=>ft hD ((hcl 10 _ rfl h).2.2.2.2.2.2.2.2.1 rfl))) (hU (XS 59 aI) (us956.set (Int.toNat ab.2.2) (rv ag)) (ab.2.1.set (Int.toNat ab.2.2) a3) none)
   exact RL.nil ⟨rfl,(ao,al,ag),hv.put 5 zr zr,ha.up zr,zt,hw⟩
  ·rintro D σ w hD hdep hcl ⟨⟨ao,al,ag⟩,hv,ha,_,hw⟩
   obtain⟨τ,rfl⟩:=(ac (ha.at 3 rfl) az).fq
   have hw:=hw.cA 0 hD
   refine RL.bE (f:=(fun x=>x)) 6 hw zr Fd.self iw fun c8 hw=>?_
   have hw:=(hw.pl 11 [0,2,3,4,5,6,7,8,9,10]).cQ 0 true rfl bB
   exact RL.nil ⟨rfl,(c8,al,ag),hv.put 6 zr zr,ha.up zr,zt,hw⟩
  ·rintro D σ w hD hdep hcl ⟨⟨ao,al,ag⟩,hv,ha,_,hw⟩
   obtain⟨τ,rfl⟩:=(ac (hv.at 6 rfl (hdep.1 rfl)) az).fq
   have hw:=((hw.cP 0 (hdep.1 rfl)).cA 1 (nf (fun h=>ft hD ((hcl 8 _ rfl h).2.1 rfl)))).cA 1 hD
   refine RL.dW ([ay]: (List aI)) hw [ao] iY oc (fun M hs g=>⟨(g.sat 0 _ zr).1,zt⟩) fun cp w hw=>?_
   have hw:=(((hw.pl 11 [1,0,3,4,5,6,7,8,9,10]).cQ 0 (D 6) (hdep.1 rfl) bB).cQ 1 true rfl bB).eV 1 (D 8) (nf (fun h=>ft hD ((hcl 8 _ rfl h).2.1 rfl))) (rd cp ([ay]: (List aI)))
   exact RL.nil ⟨rfl,(ao,cp,ag),hv.put 7 zr zr,ha.up zr,zt,hw⟩
  ·rintro D σ w hD hdep hcl ⟨⟨ao,al,ag⟩,hv,ha,_,hw⟩
   obtain⟨τ,rfl⟩:=(ac (hv.at 5 rfl (hdep.1 rfl)) (ac (hv.at 7 rfl (hdep.2.1 rfl)) az)).fq
   have hw:=((((hw.cA 1 hD).cP 1 (hdep.2.1 rfl)).cA 2 (nf (fun h=>ft hD ((hcl 10 _ rfl h).2.1 rfl)))).cA 2 hD).cA 8 (nf (fun h=>ft hD ((hcl 10 _ rfl h).2.1 rfl)))
   have hw:=(((hw.cA 9 (nf (fun h=>ft hD ((hcl 10 _ rfl h).2.1 rfl)))).cA 9 hD).zb (j:=9) (jj:=ab.2.2) (AU 59 aI) Ce rfl bt).freeze 2
   refine RL.app 0 2 hw zi c7 fun b8 w hw=>?_
   have hw:=(((hw.pl 11 [1,2,0,4,5,6,7,8,9,10]).cQ 1 true rfl (bif D 7 then (own 59 al ([ay]: (List aI))) else bB)).cQ 2 true rfl bB).eV 2 (D 10) (nf (fun h=>ft hD ((hcl 10 _ rfl h).2.1 rfl))) bB
   have hw:=(hw.eV 8 (D 10) (nf (fun h=>ft hD ((hcl 10 _ rfl h).2.1 rfl))) (own 23 aq (us956.set (Int.toNat ab.2.2) (rv b8)))).cQ 9 true rfl (hU (XS 59 aI) us956 ab.2.1 none)
   have hw:=hw.eV 9 (D 10) (nf (fun h=>ft hD ((hcl 10 _ rfl h).2.1 rfl))) (hU (XS 59 aI) (us956.set (Int.toNat ab.2.2) (rv b8)) (ab.2.1.set (Int.toNat ab.2.2) a3) none)
   exact RL.nil ⟨rfl,(ao,al,b8),hv.put 8 zr zr,ha.up zr,zt,hw⟩
  ·rintro D σ w hD hdep hcl ⟨⟨ao,al,ag⟩,hv,ha,_,hw⟩
   obtain⟨τ,rfl⟩:=(ac (hv.at 0 rfl (hdep.1 rfl)) (ac (hv.at 1 rfl (hdep.2.1 rfl)) az)).fq
   have hw:=((hw.cA 8 (nf (fun h=>ft hD ((hcl 10 _ rfl h).1 rfl)))).cA 9 (nf (fun h=>ft hD ((hcl 10 _ rfl h).1 rfl)))).cP 9 (hdep.2.2.2.2.2.2.2.2.2.2.1 rfl)
   have hl981:=hw.eA 9
   have hr982:=fE Ce hl981 b7
   refine RL.bU 8 hw zr zr tz hr982 ?_
   have hw:=(hw.eV 8 (D 10) (nf (fun h=>ft hD ((hcl 10 _ rfl h).1 rfl))) (own 23 aq (us956.set (Int.toNat ab.2.2) (rv ag)))).cQ 9 (D 8) (hdep.2.2.2.2.2.2.2.2.2.2.1 rfl) (hU (XS 59 aI) us956 ab.2.1 none)
   have hw:=hw.eV 9 (D 10) (nf (fun h=>ft hD ((hcl 10 _ rfl h).1 rfl))) (hU (XS 59 aI) (us956.set (Int.toNat ab.2.2) (rv ag)) (ab.2.1.set (Int.toNat ab.2.2) a3) none)
   exact RL.nil ⟨rfl,(ao,al,ag),hv.put 9 zr zr,ha.up zr,zt,hw⟩
  ·rintro D σ w hD hdep hcl ⟨⟨ao,al,ag⟩,hv,ha,_,hw⟩
   obtain⟨τ,rfl⟩:=(ac (hv.at 8 rfl (hdep.2.1 rfl)) (ac (hv.at 9 rfl (hdep.1 rfl)) az)).fq
   have hw:=((((hw.cA 2 hD).cP 2 (hdep.2.1 rfl)).cA 8 hD).cA 9 hD).cP 9 (hdep.2.1 rfl)
   have hl983:=hw.eA 9
   have hr984:=fE Ce hl983 b7
   refine RL.sF 8 9 2 ab.2.2 (AU 59 aI) Ce hw zr zr (jA 8 hw hr984 0) zr zr zr b7 rH fun w hw=>?_
   have hw:=((hw.cQ 2 true rfl (bif D 8 then (own 59 ag a3) else bB)).cQ 8 true rfl (own 23 aq us956)).cQ 9 true rfl (bif D 8 then (hU (XS 59 aI) us956 ab.2.1 (some (Int.toNat ab.2.2))) else (hU (XS 59 aI) us956 ab.2.1 none))
   exact RL.nil ⟨rfl,(ao,al,ag),hv.no zr,ha,zt,hw⟩
  rintro D σ w hall ⟨⟨ao,al,ag⟩,hv,ha,_,hw⟩
  have hw:=hw.cP 0 (hall 6 (by decide))
  have hw:=hw.cP 1 (hall 8 (by decide))
  have hw:=hw.cP 2 (hall 10 (by decide))
  have hw:=hw.cP 8 (hall 10 (by decide))
  have hw:=hw.cP 9 (hall 10 (by decide))
  obtain⟨τ,rfl⟩:=(ac (ha.at 0 rfl) (ac (ha.at 1 rfl) (ac (ha.at 2 rfl) (ac (ha.at 3 rfl) (ac (ha.at 4 rfl) (ac (ha.at 5 rfl) (ac (ha.at 6 rfl) (ac (ha.at 7 rfl) az)))))))).fq
  refine bO (aH (RC.region (RL.inc hk hm (mv (vi ((au+1:Nat):Int)) (RL.nil ?_)))))
  obtain rfl:=oi hb
  exact⟨rfl,a8,aq,(us956.set (Int.toNat ab.2.2) (rv ag)),hw.sp 10 [3,4,5,7,8,9]⟩
 rintro _ w ⟨b4,a2,us942,τ,rfl,hw⟩
 refine aH (RC.sr (aQ (.slice none 0 0) (RL.nq (RC.sr (mv a2 (RL.rC 4 5 af.2.2 hw pE (mv (vi 0) (RL.nt ?_))))))))
 have hw:=hw.yU (X:=(XS 59 aI)) (b:=5) (j:=4) rfl (fun M h u x cs=>(Ik 59) M h u x cs) rfl rfl (by decide)
 obtain⟨a6,hN,hb⟩:=bd hb
 refine RC.fold (fun(bu:Nat) (a6: (List (List aA))) σ w=>∃cq:Value,SH E Γ [(23,cq),(174,a2),(175,vi af.2.2.length),(176,vi bu)] [own 23 a2 af.2.2,own 50 cq a6] σ w) (fun(a6: (List (List aA))) σ w=>∃a9:Value,SH E Γ [(23,a9)] [own 23 a2 af.2.2,own 50 a9 a6] σ w) hN ?_ ?_ ?_ ?_
 ·have hw:=hw.cX (List aA) 50
  exact⟨(.slice none 0 0),hw.sp 7 [5,0]⟩
 ·rintro hm a6 _ w ⟨c9,τ,rfl,hw⟩
  refine RC.sr (ic ((af.2.2.length:Int)) ((af.2.2.length:Int)) (RL.nq (RC.fV tN (RC.ex ?_))))
  exact⟨rfl,c9,hw.sp 2 [0,1]⟩
 ·rintro hm bu a6 s' _ w hk ⟨da,τ,rfl,hw⟩ hb
  refine RC.sr (ic ((bu:Int)) ((af.2.2.length:Int)) (RL.nq (RC.fU (tM hk) (RC.ss (RC.bs ?_)))))
  obtain⟨dx,b9,hb⟩:=bd hb
  refine RL.bU 0 hw zr zr tz b9 (RL.kl (f:=(fun x=>x)) 0 hw (jA 0 hw b9 0) (bI b9).2.1 Fd.self rH fun ca hw=>?_)
  refine aQ ca (RL.nt (RC.region (mv da (mv ca ?_))))
  obtain⟨db,dc,hb⟩:=bd hb
  refine RL.call zt zr Gw [ca] zr (aD (mh N (i0:=0) hw zr dc) ?_)
  rintro dd w hw
  have hw:=hw.freeze 0
  refine RL.dW ([db]: (List (List aA))) hw [dd] GC Ja (fun M hs g=>⟨(g.sat 0 _ zr).1,zt⟩) fun dy w hw=>?_
  have hw:=hw.freeze 0
  obtain⟨dz,de,hb⟩:=bd hb
  refine RL.app 4 0 hw Km de fun cr w hw=>?_
  refine aQ cr (RL.nil (bO (aH (RC.region (RL.inc hk hm (mv (vi ((bu+1:Nat):Int)) (RL.nil ?_)))))))
  obtain rfl:=oi hb
  exact⟨rfl,cr,hw.sp 5 [3,4]⟩
 rintro _ w ⟨a9,τ,rfl,hw⟩
 refine aH (RC.sr (mv a9 (aQ a9 (RL.nt (RC.ret ?_)))))
 obtain rfl:=oi hb
 exact bX (hw.pk 2 [1])
def uj (E:World) (Γ:List HP) (b0:Nat) (v0_0 v0_1:Value) (v0_2 v0_3:Value) (v0_6 v0_7:Value) (v0_8 v0_9:Value) (v0_10 v0_11:Value) (res:Bool×(List (List aA))×(List aK)) (v:Value) (w:World):Prop:=∃u0_4 u0_5:Value,v= (vb res.1)/\Holds E w ([bc 48 b0 [v0_0,v0_1,v0_2,v0_3,u0_4,u0_5,v0_6,v0_7,v0_8,v0_9,v0_10,v0_11],own 50 u0_4 res.2.1,own 52 u0_5 res.2.2]++Γ)
theorem tC {p0_0: (List (List aI))} {p0_2: (List cD)} {p0_4: (List (List aA))} {p0_5: (List aK)} {res:Bool×(List (List aA))×(List aK)} (hw:Holds E w (bc 48 b0 [v0_0,v0_1,v0_2,v0_3,v0_4,v0_5,v0_6,v0_7,v0_8,v0_9,v0_10,v0_11]::rd v0_0 p0_0::rd v0_2 p0_2::own 50 v0_4 p0_4::own 52 v0_5 p0_5::Γ)) (hb:jR N p0_0 p0_2 p0_4 p0_5=some res):
    Calls bM 22 [(vp b0 0)].toArray w (gL (uj E Γ b0 v0_0 v0_1 v0_2 v0_3 v0_6 v0_7 v0_8 v0_9 v0_10 v0_11 res)):=by
 unfold jR at hb
 refine enter Tryz.func22 zr zr (RC.sr (aQ (vb false) (RL.ns (aQ (vb true) (RL.nq (RC.sr (mv (vp b0 0) (RL.nilCheck zr ?_))))))))
 refine RL.aX zr sL (RL.aX zr me (RL.bH 0 v0_0 hw oD (RL.bC 1 p0_0 hw pE (mv (vi 0) (RL.nt ?_)))))
 obtain⟨j,hN,hb⟩:=bd hb
 refine RC.fold (fun(o:Nat) (j: (List (List aA))×(List aK)×Bool) σ w=>∃a6 a7:Value,SH E Γ [(0,vp b0 0),(3,vb j.2.2),(16,v0_0),(17,vi p0_0.length),(18,vi o)] [bc 48 b0 [v0_0,v0_1,v0_2,v0_3,a6,a7,v0_6,v0_7,v0_8,v0_9,v0_10,v0_11],own 50 a6 j.1,own 52 a7 j.2.1,rd v0_0 p0_0,rd v0_2 p0_2] σ w) (fun(j: (List (List aA))×(List aK)×Bool) σ w=>∃al ag:Value,SH E Γ [(0,vp b0 0),(3,vb j.2.2)] [bc 48 b0 [v0_0,v0_1,v0_2,v0_3,al,ag,v0_6,v0_7,v0_8,v0_9,v0_10,v0_11],own 50 al j.1,own 52 ag j.2.1,rd v0_0 p0_0,rd v0_2 p0_2] σ w) hN ?_ ?_ ?_ ?_
 ·exact⟨v0_4,v0_5,hw.sp 5 [0,3,4,1,2]⟩
 ·rintro hm j _ w ⟨bk,bl,τ,rfl,hw⟩
  refine RC.sr (ic ((p0_0.length:Int)) ((p0_0.length:Int)) (RL.nq (RC.fV tN (RC.ex ?_))))
  exact⟨rfl,bk,bl,hw.sp 5 [0,1,2,3,4]⟩
 ·rintro hm o j s' _ w hk ⟨ab,ad,τ,rfl,hw⟩ hb
  refine RC.sr (ic ((o:Int)) ((p0_0.length:Int)) (RL.nq (RC.fU (tM hk) (RC.ss (RC.bs (mv (vi o) ?_))))))
  obtain⟨aw,bm,hb⟩:=bd hb
  refine RL.bN 3 hw tz bm fun cf hw=>(RL.bL 0 aw hw rH fun ae hw=>(aQ (vi o) (aQ ae (RL.ns (aQ (.slice none 0 0) (RL.nq (RC.sr (mv (vp b0 0) ?_))))))))
  refine RL.nilCheck zr (RL.aX zr sL (RL.aX zr gC (RL.bH 2 v0_2 hw mT (RL.bC 6 p0_2 hw t3 (mv (vi 0) (RL.nt ?_))))))
  obtain⟨an,hN,hb⟩:=bd hb
  refine RC.fold (fun(ar:Nat) (an: (List aI)) σ w=>∃a8:Value,SH E Γ [(0,vp b0 0),(3,vb j.2.2),(4,vi o),(5,ae),(6,a8),(16,v0_0),(17,vi p0_0.length),(18,vi o),(27,v0_2),(28,vi p0_2.length),(29,vi ar)] [bc 48 b0 [v0_0,v0_1,v0_2,v0_3,ab,ad,v0_6,v0_7,v0_8,v0_9,v0_10,v0_11],rd v0_0 p0_0,rd v0_2 p0_2,own 50 ab j.1,own 52 ad j.2.1,rd ae aw,own 59 a8 an] σ w) (fun(an: (List aI)) σ w=>∃au:Value,SH E Γ [(0,vp b0 0),(3,vb j.2.2),(4,vi o),(5,ae),(6,au),(16,v0_0),(17,vi p0_0.length),(18,vi o)] [bc 48 b0 [v0_0,v0_1,v0_2,v0_3,ab,ad,v0_6,v0_7,v0_8,v0_9,v0_10,v0_11],rd v0_0 p0_0,rd v0_2 p0_2,own 50 ab j.1,own 52 ad j.2.1,rd ae aw,own 59 au an] σ w) hN ?_ ?_ ?_ ?_
  ·have hw:=hw.cX aI 59
   exact⟨(.slice none 0 0),hw.sp 8 [3,6,7,4,5,1,0]⟩
  ·rintro hm an _ w ⟨bn,τ,rfl,hw⟩
   refine RC.sr (ic ((p0_2.length:Int)) ((p0_2.length:Int)) (RL.nq (RC.fV tN (RC.ex ?_))))
   exact⟨rfl,bn,hw.sp 7 [0,1,2,3,4,5,6]⟩
  ·rintro hm ar an s' _ w hk ⟨a9,τ,rfl,hw⟩ hb
   refine RC.sr (ic ((ar:Int)) ((p0_2.length:Int)) (RL.nq (RC.fU (tM hk) (RC.ss (RC.bs ?_)))))
   obtain⟨bo,bp,hb⟩:=bd hb
   refine RL.bN 2 hw qc bp fun ch hw=>(RL.bL 0 bo hw lP fun cj hw=>(RL.alloc hw D6.z fun ck w hw=>?_))
   refine RL.cB 0 hw 1 zr lP fun w hw=>?_
   refine RL.ns (RL.bE (f:=(fun x=>x)) 0 hw zr Fd.self lP fun bq hw=>(mv (vi o) ?_))
   obtain⟨cl,br,hb⟩:=bd hb
   refine RL.call zt zr I9 [bq,(vi o)] zr (aD (oj N (p1:=(o:Int)) (i0:=0) hw zr br) ?_)
   rintro _ w ⟨rfl,hw⟩
   refine RL.nt ?_
   obtain⟨a0,hj,hb⟩:=bd hb
   refine RC.jn (fun(a0: (List aI)) σ w=>∃ax:Value,SH E Γ [(0,vp b0 0),(3,vb j.2.2),(4,vi o),(5,ae),(6,ax),(16,v0_0),(17,vi p0_0.length),(18,vi o),(27,v0_2),(28,vi p0_2.length),(29,vi ar)] [bc 48 b0 [v0_0,v0_1,v0_2,v0_3,ab,ad,v0_6,v0_7,v0_8,v0_9,v0_10,v0_11],rd v0_0 p0_0,rd v0_2 p0_2,own 50 ab j.1,own 52 ad j.2.1,rd ae aw,own 59 ax a0] σ w) a0 ?_ ?_
   ·refine dT hj (fun hc hj=>?_) fun hc hj=>?_
    rotate_left
    ·refine RC.skip ?_
     obtain rfl:=oi hj
     exact⟨rfl,a9,hw.sp 11 [4,5,6,7,8,9,10]⟩
    refine RC.region (mv a9 (RL.bE (f:=(fun x=>x)) 1 hw zr Fd.self lP fun bt hw=>?_))
    obtain⟨bu,bw,hj⟩:=bd hj
    refine RL.call zt zr Ft [bt] zr (aD (i6 N (i0:=0) hw zr bw) ?_)
    rintro bx w hw
    refine RL.dW ([bu]: (List aI)) hw [bx] iY oc (fun M hs g=>⟨(g.sat 0 _ zr).1,zt⟩) fun cm w hw=>?_
    have hw:=hw.freeze 0
    obtain⟨cn,bz,hj⟩:=bd hj
    refine RL.app 13 0 hw zi bz fun ba w hw=>?_
    refine aQ ba (RL.nil ?_)
    obtain rfl:=oi hj
    exact⟨rfl,ba,hw.sp 14 [7,8,9,10,11,12,13]⟩
   rintro _ w ⟨ax,τ,rfl,hw⟩
   refine bO (aH (RC.region (RL.inc hk hm (mv (vi ((ar+1:Nat):Int)) (RL.nil ?_)))))
   obtain rfl:=oi hb
   exact⟨rfl,ax,hw.sp 7 [0,1,2,3,4,5,6]⟩
  rintro _ w ⟨au,τ,rfl,hw⟩
  refine aH (RC.sr (mv ae ?_))
  obtain⟨cp,b1,hb⟩:=bd hb
  refine RL.call zt zr Gw [ae] zr (aD (mh N (i0:=5) hw zr b1) ?_)
  rintro b2 w hw
  refine mv au ?_
  have hw:=hw.freeze 7
  obtain⟨cq,b3,hb⟩:=bd hb
  refine RL.call zt zr Gw [au] zr (aD (mh N (i0:=7) hw zr b3) ?_)
  rintro b4 w hw
  have hw:=(hw.freeze 1).freeze 0
  obtain⟨cr,b5,hb⟩:=bd hb
  refine RL.call zt zr LP [b2,b4] zr (aD (wU N (i0:=1) (i1:=0) hw zr zr b5) ?_)
  rintro av w hw
  refine aQ av (RL.nq ?_)
  obtain⟨ah,hj,hb⟩:=bd hb
  refine RC.jn (fun(ah:Bool×(List aA)) σ w=>∃ai:Value,SH E Γ [(0,vp b0 0),(3,vb ah.1),(4,vi o),(9,ai),(16,v0_0),(17,vi p0_0.length),(18,vi o)] [bc 48 b0 [v0_0,v0_1,v0_2,v0_3,ab,ad,v0_6,v0_7,v0_8,v0_9,v0_10,v0_11],rd v0_0 p0_0,rd v0_2 p0_2,own 50 ab j.1,own 52 ad j.2.1,rd ai ah.2] σ w) ah ?_ ?_
  ·refine RC.region (mv (vb j.2.2) (mv (vb j.2.2) (fB hj (fun af hj=>?_) fun af hj=>?_)))
   rotate_left
   ·refine bJ af (bJ af (bJ af (fG af (vb false) (aQ (vb false) (RL.nil ?_)))))
    obtain rfl:=oi hj
    have hw:=hw.freeze 0
    exact⟨rfl,av,hw.sp 10 [3,4,5,6,7,0]⟩
   refine RL.move av (cg af) ?_
   have hw:=hw.freeze 0
   obtain⟨a1,b6,hj⟩:=bd hj
   refine RL.call (cg af) zr LQ [av] zr (aD (wV N (i0:=0) hw zr b6) ?_)
   rintro _ w ⟨rfl,hw⟩
   refine RL.kL a1 2000 (cg af) (fG af (vb (decide (a1<=2000))) (aQ (vb (decide (a1<=2000))) (RL.nil ?_)))
   obtain rfl:=oi hj
   exact⟨rfl,av,hw.sp 10 [3,4,5,6,7,0]⟩
  rintro _ w ⟨ai,τ,rfl,hw⟩
  refine aH (RC.sr (mv (vp b0 0) (mv (vp b0 0) (RL.nilCheck zr (RL.aX zr GD (RL.bH 0 ab hw Kl (mv ai (RL.dW ([ah.2]: (List (List aA))) hw [ai] GC Ja (fun M hs g=>⟨(g.sat 5 _ zr).1,zt⟩) fun ct w hw=>?_))))))))
  have hw:=hw.freeze 0
  obtain⟨bb,b7,hb⟩:=bd hb
  refine RL.app 4 0 hw Km b7 fun aj w hw=>?_
  refine RL.nilCheck zr (RL.aX zr GD (RL.ig 1 aj hw zr zr (iD 4 hw) Kl fun w hw=>?_))
  refine RL.ns (mv ai ?_)
  obtain⟨ak,b8,hb⟩:=bd hb
  refine RL.call zt zr LR [ai] zr (aD (vS N (i0:=6) hw zr b8) ?_)
  rintro a2 w hw
  refine RL.fR 0 ak hw Ki (mv (vi 0) (RL.nt ?_))
  obtain⟨ao,hN,hb⟩:=bd hb
  refine RC.fold (fun(ay:Nat) (ao: (List aK)) σ w=>∃bf:Value,SH E Γ [(0,vp b0 0),(3,vb ah.1),(4,vi o),(16,v0_0),(17,vi p0_0.length),(18,vi o),(64,a2),(65,vi ak.length),(66,vi ay)] [bc 48 b0 [v0_0,v0_1,v0_2,v0_3,aj,bf,v0_6,v0_7,v0_8,v0_9,v0_10,v0_11],own 52 bf ao,rd v0_0 p0_0,rd v0_2 p0_2,own 50 aj bb,own 50 a2 ak] σ w) (fun(ao: (List aK)) σ w=>∃az:Value,SH E Γ [(0,vp b0 0),(3,vb ah.1),(16,v0_0),(17,vi p0_0.length),(18,vi o)] [bc 48 b0 [v0_0,v0_1,v0_2,v0_3,aj,az,v0_6,v0_7,v0_8,v0_9,v0_10,v0_11],own 52 az ao,rd v0_0 p0_0,rd v0_2 p0_2,own 50 aj bb,own 50 a2 ak] σ w) hN ?_ ?_ ?_ ?_
  ·exact⟨ad,hw.sp 8 [2,6,3,4,5,0]⟩
  ·rintro hm ao _ w ⟨b9,τ,rfl,hw⟩
   refine RC.sr (ic ((ak.length:Int)) ((ak.length:Int)) (RL.nq (RC.fV tN (RC.ex ?_))))
   exact⟨rfl,b9,hw.sp 6 [0,1,2,3,4,5]⟩
  ·rintro hm ay ao s' _ w hk ⟨a3,τ,rfl,hw⟩ hb
   refine RC.sr (ic ((ay:Int)) ((ak.length:Int)) (RL.nq (RC.fU (tM hk) (RC.ss (RC.bs ?_)))))
   obtain⟨bg,a4,hb⟩:=bd hb
   refine RL.bU 5 hw zr zr GC a4 (RL.kl (f:=(fun x=>x)) 5 hw (jA 5 hw a4 0) (bI a4).2.1 Fd.self Kj fun aq hw=>?_)
   refine aQ aq (RL.nt ?_)
   have hw:=hw.drew
   refine RC.D4 (fun w=>Holds E w ([bc 48 b0 [v0_0,v0_1,v0_2,v0_3,aj,a3,v0_6,v0_7,v0_8,v0_9,v0_10,v0_11]]++Γ)) mixed zr [1,1,1,1,1,1,1,0,2,0,2,2,0,0,2] [0,1,2,3,4,5,6,7,8,9,10,11,12,13,14] (hw.pk 7 [1]) (DP.e1 (vp b0 0) zr (fun w=>RL.move (vp b0 0) zt DP.d1) (DP.e1 (vp b0 0) zr (fun w=>RL.move (vp b0 0) zt DP.d1) (DP.e1 (vp b0 0) zr (fun w=>RL.nilCheck zr DP.d1) (DP.e1 (vp b0 5) zr (fun w=>RL.aX zr t5 DP.d1) (DP.HL a3 zr (fun w hw=>RL.bH 0 a3 hw C2 DP.d1) (DP.e1 (vi o) zr (fun w=>RL.move (vi o) zt DP.d1) (DP.e1 aq zr (fun w=>RL.move aq zt DP.d1) (DP.e0 zr ?_))))))))
   refine mv aq (pz zr ?_)
   obtain⟨bh,ca,hb⟩:=bd hb
   refine RL.call zt zr I5 [aq] zr (aD (nz N (i0:=0) hw zr ca) ?_)
   rintro cb w hw
   refine DP.d2 (hw.pk 8 [2]) (DP.e0 zr ?_)
   have hw:=(hw.sc Int (o:Int)).freeze 1
   refine RL.build (⟨(o:Int),bg,bh⟩:aK) trivial rfl hw [(0,vi o),(1,aq),(2,cb)] rfl LS rfl (fun M hs g=>by have h:=zh M;exact cT.cons (f:=fun(x:aK) y=>{x with cU:=y}) h wD (g.sat 0 _ rfl).1 fun _ h=>cT.cons (f:=fun(x:aK) y=>{x with Set:=y}) h wE (g.sat 2 _ rfl).1 fun _ h=>cT.cons (f:=fun(x:aK) y=>{x with gM:=y}) h wF (g.sat 1 _ rfl).1 fun _ h=>cT.nil h) fun cc hw=>?_
   refine pz zr (RL.dW ([(⟨(o:Int),bg,bh⟩:aK)]: (List aK)) hw [cc] HN Jd (fun M hs g=>⟨(g.sat 0 _ zr).1,zt⟩) fun cu w hw=>(DP.d2 (hw.pk 11 [5]) (DP.e2 zr ?_)))
   have hw:=hw.freeze 0
   obtain⟨cv,cd,hb⟩:=bd hb
   refine RL.app 6 0 hw LU cd fun bj w hw=>?_
   refine DP.d2 (hw.pk 11 [5]) (DP.e0 zr (RL.nilCheck zr (aZ zr (RL.aX zr t5 (DP.d0 (DP.K9 zr zr (RL.ig 5 bj hw zr zr (iD 6 hw) C2 fun w hw=>?_)))))))
   refine DP.d2 zt (DP.z (bO (aH (RC.region (RL.inc hk hm (mv (vi ((ay+1:Nat):Int)) (RL.nil ?_)))))))
   obtain rfl:=oi hb
   exact⟨rfl,bj,hw.sp 11 [5,6,7,8,9,10]⟩
  rintro _ w ⟨az,τ,rfl,hw⟩
  refine bO (aH (RC.region (RL.inc hk hm (mv (vi ((o+1:Nat):Int)) (RL.nil ?_)))))
  obtain rfl:=oi hb
  exact⟨rfl,aj,az,hw.sp 6 [0,4,1,2,3]⟩
 rintro _ w ⟨al,ag,τ,rfl,hw⟩
 refine aH (RC.seq ?_)
 obtain⟨a5,hj,hb⟩:=bd hb
 refine RC.jn (fun(a5:Bool)=>SH E Γ [(0,vp b0 0),(2,vb a5)] [bc 48 b0 [v0_0,v0_1,v0_2,v0_3,al,ag,v0_6,v0_7,v0_8,v0_9,v0_10,v0_11],rd v0_0 p0_0,rd v0_2 p0_2,own 50 al j.1,own 52 ag j.2.1]) a5 ?_ ?_
 ·refine RC.region (mv (vb j.2.2) (mv (vb j.2.2) (fB hj (fun aa hj=>?_) fun aa hj=>?_)))
  ·refine RL.move (vp b0 0) (cg aa) (RL.nilCheck (hg:=(cg aa)) zr (RL.aX (hg:=(cg aa)) zr t5 (RL.bH (hg:=(cg aa)) 0 ag hw C2 (RL.fR (hg:=(cg aa)) 2 j.2.1 hw GG (RL.kL (j.2.1.length:Int) 2000 (cg aa) (fG aa (vb (decide ((j.2.1.length:Int)<=2000))) (aQ (vb (decide ((j.2.1.length:Int)<=2000))) (RL.nil ?_))))))))
   obtain rfl:=oi hj
   exact⟨rfl,hw.sp 5 [0,3,4,1,2]⟩
  refine bJ aa (bJ aa (bJ aa (bJ aa (bJ aa (bJ aa (fG aa (vb false) (aQ (vb false) (RL.nil ?_))))))))
  obtain rfl:=oi hj
  exact⟨rfl,hw.sp 5 [0,3,4,1,2]⟩
 rintro _ w ⟨τ,rfl,hw⟩
 refine aH (RC.ret ?_)
 obtain rfl:=oi hb
 exact bX ⟨al,ag,zr,hw.pk 5 [0,3,4]⟩
end Go.Gk
