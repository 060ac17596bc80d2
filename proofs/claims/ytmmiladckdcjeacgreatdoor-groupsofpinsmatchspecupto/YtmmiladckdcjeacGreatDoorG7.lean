/-
  Printed texts: Go functions as plain functions, and that they are. No statement of the seed is proved here.
-/
import Derived.Test.YtmmiladckdcjeacGreatDoorG1
import Derived.Test.YtmmiladckdcjeacGreatDoorG2
import Derived.Test.YtmmiladckdcjeacGreatDoorG6
import Derived.Test.YtmmiladckdcjeacGreatDoorA2
set_option linter.unusedVariables false
set_option linter.unusedSimpArgs false
set_option linter.unusedSectionVars false
set_option maxRecDepth 100000
set_option maxHeartbeats 4000000
namespace Go.Gk
open Go Go.Proofs
variable (N:Nat) {E w:World} {i0 i1:Nat} {p1 p2 res:Int} {v0 v1:Value} {V:List HP}
def tt (E:World) (V:List HP) (r:Bool) (U:Nat->Value) (w:World):Prop:=lF bN 45 Tryz.f100 (aX E V r) .ret U w
theorem og {p0:eJ} {res:Bool} (hw:Holds E w V) (o:gr N p0=some res):
    Calls bN 100 [(str p0)].toArray w (gL (aX E V res)):=by
 unfold gr at o
 refine enter Tryz.func100 zr zr (RC.sr (aQ (vb false) (RL.nq (RC.sr (aQ (vi 0) (RL.nt ?_))))))
 obtain⟨aq,hN,o⟩:=bd o
 refine RC.iter (fun(ab:Int)=>SH E V [(0,(str p0)),(3,vi ab)] []) (fun(ab:Int)=>SH E V [(0,(str p0))] []) (tt E V) hN ?_ ?_ ?_ ?_
 ·exact hw.sp 0 []
 ·rintro ab fl _ w ⟨O,rfl,hw⟩ o
  refine RC.seq (RC.sr (mv (vi ab) (mv (str p0) (RL.lens p0 Bh (ic ab ((p0.cX.length:Int)) (RL.nt (dQ o (fun hc o=>?_) fun hc o=>?_)))))))
  rotate_left
  ·refine RC.ex ?_
   obtain rfl:=oi o
   exact⟨rfl,hw.sp 0 []⟩
  refine RC.ss (RC.bs (mv (str p0) (mv (vi ab) ?_)))
  obtain⟨j,aj,o⟩:=bd o
  refine RL.idxs p0 ab j zr zr zr Bh aj (aQ (.int .u8 (j.toNat:Int)) (RL.nq ?_))
  obtain⟨ag,hj,o⟩:=bd o
  refine RC.jn (fun(ag:Bool)=>SH E V [(0,(str p0)),(3,vi ab),(41,vb ag)] []) ag ?_ ?_
  ·refine RC.region (mv (.int .u8 (j.toNat:Int)) (ic ((j.toNat:Int)) 97 (mv (vb (decide ((j.toNat:Int)>=97))) (RL.gs true (decide ((j.toNat:Int)>=97)) (.int .u8 (j.toNat:Int)) rfl rfl rfl cK (RL.gs true (decide ((j.toNat:Int)>=97)) (vb (decide ((j.toNat:Int)<=122))) rfl rfl rfl (dK .leq .u8 (j.toNat:Int) 122 rfl (fun h=>by exact(cM h:cv (true&&((decide ((j.toNat:Int)>=97))==true)) (.int .u8 (j.toNat:Int))= (.int .u8 (j.toNat:Int)))) (fun _=>rfl) rfl) (RL.pick (decide ((j.toNat:Int)>=97)) (vb ((decide ((j.toNat:Int)>=97))&&(decide ((j.toNat:Int)<=122)))) (gD true rfl) (mv (vb ((decide ((j.toNat:Int)>=97))&&(decide ((j.toNat:Int)<=122)))) (RL.gs true ((decide ((j.toNat:Int)>=97))&&(decide ((j.toNat:Int)<=122))) (.int .u8 (j.toNat:Int)) rfl rfl rfl cK ?_))))))))
   refine RL.gs true ((decide ((j.toNat:Int)>=97))&&(decide ((j.toNat:Int)<=122))) (vb (decide ((j.toNat:Int)>=65))) rfl rfl rfl (dK .geq .u8 (j.toNat:Int) 65 rfl (fun h=>by exact(cM h:cv (true&&(((decide ((j.toNat:Int)>=97))&&(decide ((j.toNat:Int)<=122)))==false)) (.int .u8 (j.toNat:Int))= (.int .u8 (j.toNat:Int)))) (fun _=>rfl) rfl) (RL.gs true ((decide ((j.toNat:Int)>=97))&&(decide ((j.toNat:Int)<=122))) (vb (decide ((j.toNat:Int)>=65))) rfl rfl rfl (cK (hx:=fun h=>by exact(cM h:cv (true&&(((decide ((j.toNat:Int)>=97))&&(decide ((j.toNat:Int)<=122)))==false)) (vb (decide ((j.toNat:Int)>=65)))= (vb (decide ((j.toNat:Int)>=65)))))) (RL.gs (true&&(((decide ((j.toNat:Int)>=97))&&(decide ((j.toNat:Int)<=122)))==false)) (decide ((j.toNat:Int)>=65)) (.int .u8 (j.toNat:Int)) rfl rfl rfl cK (RL.gs (true&&(((decide ((j.toNat:Int)>=97))&&(decide ((j.toNat:Int)<=122)))==false)) (decide ((j.toNat:Int)>=65)) (vb (decide ((j.toNat:Int)<=90))) rfl rfl rfl (dK .leq .u8 (j.toNat:Int) 90 rfl (fun h=>by exact(cM h:cv ((true&&(((decide ((j.toNat:Int)>=97))&&(decide ((j.toNat:Int)<=122)))==false))&&((decide ((j.toNat:Int)>=65))==true)) (.int .u8 (j.toNat:Int))= (.int .u8 (j.toNat:Int)))) (fun _=>rfl) rfl) (RL.gs true ((decide ((j.toNat:Int)>=97))&&(decide ((j.toNat:Int)<=122))) (vb ((decide ((j.toNat:Int)>=65))&&(decide ((j.toNat:Int)<=90)))) rfl rfl rfl (kE (decide ((j.toNat:Int)>=65)) rfl (fun h=>by exact(cM h:cv (true&&(((decide ((j.toNat:Int)>=97))&&(decide ((j.toNat:Int)<=122)))==false)) (vb (decide ((j.toNat:Int)>=65)))= (vb (decide ((j.toNat:Int)>=65))))) (fun h=>by exact gD (true&&(((decide ((j.toNat:Int)>=97))&&(decide ((j.toNat:Int)<=122)))==false)) h)) (RL.pick ((decide ((j.toNat:Int)>=97))&&(decide ((j.toNat:Int)<=122))) (vb (((decide ((j.toNat:Int)>=97))&&(decide ((j.toNat:Int)<=122)))||((decide ((j.toNat:Int)>=65))&&(decide ((j.toNat:Int)<=90))))) (nX true) (mv (vb (((decide ((j.toNat:Int)>=97))&&(decide ((j.toNat:Int)<=122)))||((decide ((j.toNat:Int)>=65))&&(decide ((j.toNat:Int)<=90))))) (RL.gs true (((decide ((j.toNat:Int)>=97))&&(decide ((j.toNat:Int)<=122)))||((decide ((j.toNat:Int)>=65))&&(decide ((j.toNat:Int)<=90)))) (.int .u8 (j.toNat:Int)) rfl rfl rfl cK (RL.gs true (((decide ((j.toNat:Int)>=97))&&(decide ((j.toNat:Int)<=122)))||((decide ((j.toNat:Int)>=65))&&(decide ((j.toNat:Int)<=90)))) (vb (decide ((j.toNat:Int)>=48))) rfl rfl rfl (dK .geq .u8 (j.toNat:Int) 48 rfl (fun h=>by exact(cM h:cv (true&&((((decide ((j.toNat:Int)>=97))&&(decide ((j.toNat:Int)<=122)))||((decide ((j.toNat:Int)>=65))&&(decide ((j.toNat:Int)<=90))))==false)) (.int .u8 (j.toNat:Int))= (.int .u8 (j.toNat:Int)))) (fun _=>rfl) rfl) ?_))))))))
   refine RL.gs true (((decide ((j.toNat:Int)>=97))&&(decide ((j.toNat:Int)<=122)))||((decide ((j.toNat:Int)>=65))&&(decide ((j.toNat:Int)<=90)))) (vb (decide ((j.toNat:Int)>=48))) rfl rfl rfl (cK (hx:=fun h=>by exact(cM h:cv (true&&((((decide ((j.toNat:Int)>=97))&&(decide ((j.toNat:Int)<=122)))||((decide ((j.toNat:Int)>=65))&&(decide ((j.toNat:Int)<=90))))==false)) (vb (decide ((j.toNat:Int)>=48)))= (vb (decide ((j.toNat:Int)>=48)))))) (RL.gs (true&&((((decide ((j.toNat:Int)>=97))&&(decide ((j.toNat:Int)<=122)))||((decide ((j.toNat:Int)>=65))&&(decide ((j.toNat:Int)<=90))))==false)) (decide ((j.toNat:Int)>=48)) (.int .u8 (j.toNat:Int)) rfl rfl rfl cK (RL.gs (true&&((((decide ((j.toNat:Int)>=97))&&(decide ((j.toNat:Int)<=122)))||((decide ((j.toNat:Int)>=65))&&(decide ((j.toNat:Int)<=90))))==false)) (decide ((j.toNat:Int)>=48)) (vb (decide ((j.toNat:Int)<=57))) rfl rfl rfl (dK .leq .u8 (j.toNat:Int) 57 rfl (fun h=>by exact(cM h:cv ((true&&((((decide ((j.toNat:Int)>=97))&&(decide ((j.toNat:Int)<=122)))||((decide ((j.toNat:Int)>=65))&&(decide ((j.toNat:Int)<=90))))==false))&&((decide ((j.toNat:Int)>=48))==true)) (.int .u8 (j.toNat:Int))= (.int .u8 (j.toNat:Int)))) (fun _=>rfl) rfl) (RL.gs true (((decide ((j.toNat:Int)>=97))&&(decide ((j.toNat:Int)<=122)))||((decide ((j.toNat:Int)>=65))&&(decide ((j.toNat:Int)<=90)))) (vb ((decide ((j.toNat:Int)>=48))&&(decide ((j.toNat:Int)<=57)))) rfl rfl rfl (kE (decide ((j.toNat:Int)>=48)) rfl (fun h=>by exact(cM h:cv (true&&((((decide ((j.toNat:Int)>=97))&&(decide ((j.toNat:Int)<=122)))||((decide ((j.toNat:Int)>=65))&&(decide ((j.toNat:Int)<=90))))==false)) (vb (decide ((j.toNat:Int)>=48)))= (vb (decide ((j.toNat:Int)>=48))))) (fun h=>by exact gD (true&&((((decide ((j.toNat:Int)>=97))&&(decide ((j.toNat:Int)<=122)))||((decide ((j.toNat:Int)>=65))&&(decide ((j.toNat:Int)<=90))))==false)) h)) (RL.pick (((decide ((j.toNat:Int)>=97))&&(decide ((j.toNat:Int)<=122)))||((decide ((j.toNat:Int)>=65))&&(decide ((j.toNat:Int)<=90)))) (vb ((((decide ((j.toNat:Int)>=97))&&(decide ((j.toNat:Int)<=122)))||((decide ((j.toNat:Int)>=65))&&(decide ((j.toNat:Int)<=90))))||((decide ((j.toNat:Int)>=48))&&(decide ((j.toNat:Int)<=57))))) (nX true) (RL.not ((((decide ((j.toNat:Int)>=97))&&(decide ((j.toNat:Int)<=122)))||((decide ((j.toNat:Int)>=65))&&(decide ((j.toNat:Int)<=90))))||((decide ((j.toNat:Int)>=48))&&(decide ((j.toNat:Int)<=57)))) (mv (vb (!((((decide ((j.toNat:Int)>=97))&&(decide ((j.toNat:Int)<=122)))||((decide ((j.toNat:Int)>=65))&&(decide ((j.toNat:Int)<=90))))||((decide ((j.toNat:Int)>=48))&&(decide ((j.toNat:Int)<=57)))))) (eZ hj (fun ad hj=>?_) fun ad hj=>?_)))))))
   rotate_left
   ·refine bC ad (bC ad (bC ad (fq ad (vb false) (RL.nil ?_))))
    obtain rfl:=oi hj
    exact⟨rfl,hw.sp 0 []⟩
   refine RL.move (.int .u8 (j.toNat:Int)) (cg ad) ?_
   obtain⟨ah,ak,hj⟩:=bd hj
   refine RL.call (cg ad) zr KY [(str ⟨[95,43,45,35]⟩),(.int .u8 (j.toNat:Int))] zr (aD (px N (p0:=⟨[95,43,45,35]⟩) (p1:=(j.toNat:Int)) hw ak) ?_)
   rintro _ w ⟨rfl,hw⟩
   refine RL.kX ah 0 (cg ad) (fq ad (vb (decide (ah<0))) (RL.nil ?_))
   obtain rfl:=oi hj
   exact⟨rfl,hw.sp 0 []⟩
  rintro _ w ⟨O,rfl,hw⟩
  refine aH (dQ o (fun hc o=>?_) fun hc o=>?_)
  ·refine RC.sr (aQ (vb false) (RL.nt (RC.rb (bS ?_))))
   obtain rfl:=oi o
   exact⟨rfl,bX ⟨rfl,hw.drop 0⟩⟩
  refine RC.skip (bQ (aH (RC.region (mv (vi ab) (RL.fY ab 1 (aQ (vi (IntKind.wrap .i64 (ab+1))) (RL.nil ?_)))))))
  obtain rfl:=oi o
  exact⟨rfl,hw.sp 0 []⟩
 ·intro r U w e hK
  subst e
  refine bS ?_
  obtain rfl:=oi o
  exact hK
 rintro ab _ w rfl ⟨O,rfl,hw⟩
 rw [Fo.dB] at o
 refine aH (RC.sr (mv (str p0) (RL.lens p0 Bh ?_)))
 obtain⟨an,ao,o⟩:=bd o
 refine RL.call zt zr Hr [(vi p0.cX.length),(vi 1),(vi 40)] zr (aD (iG N (p0:=(p0.cX.length:Int)) (p1:=1) (p2:=40) hw ao) ?_)
 rintro _ w ⟨rfl,hw⟩
 refine aQ (vb an) (RL.nt (RC.ret ?_))
 obtain rfl:=oi o
 exact bX ⟨rfl,hw.drop 0⟩
def tu (E:World) (V:List HP) (r:Bool) (U:Nat->Value) (w:World):Prop:=lF bN 22 Tryz.f99 (aX E V r) .ret U w
theorem sD {p0:eJ} {res:Bool} (o:Holds E w V) (j:jB N p0=some res):
    Calls bN 99 [(str p0)].toArray w (gL (aX E V res)):=by
 unfold jB at j
 refine enter Tryz.func99 zr zr (RC.sr (aQ (vb false) (RL.ns (mv (str p0) ?_))))
 obtain⟨ad,ah,j⟩:=bd j
 refine RL.call zt zr KW [(str p0),(str ⟨[47]⟩)] zr (aD (su N (p0:=p0) (p1:=⟨[47]⟩) o ah) ?_)
 rintro ab w o
 refine aQ ab (RL.nq (RC.sr (aQ (vi 0) (RL.nt ?_))))
 obtain⟨an,hN,j⟩:=bd j
 refine RC.iter (fun(aa:Int)=>SH E V [(0,(str p0)),(3,ab),(4,vi aa)] [own 9 ab ad]) (fun(aa:Int)=>SH E V [(0,(str p0))] [own 9 ab ad]) (tu E V) hN ?_ ?_ ?_ ?_
 ·exact o.sp 1 [0]
 ·rintro aa fl _ w ⟨O,rfl,o⟩ j
  refine RC.seq (RC.sr (mv (vi aa) (mv ab (RL.fZ 0 ad o Jf (ic aa ((ad.length:Int)) (RL.nt (dQ j (fun hc j=>?_) fun hc j=>?_)))))))
  rotate_left
  ·refine RC.ex ?_
   obtain rfl:=oi j
   exact⟨rfl,o.sp 1 [0]⟩
  refine RC.ss (RC.bs (mv ab (mv (vi aa) ?_)))
  obtain⟨ag,af,j⟩:=bd j
  refine RL.bV 0 o zr zr Dq af (RL.dH (f:=(fun x=>x)) 0 o (jF 0 o af 0) (bH af).2.1 Fd.self yP ?_)
  obtain⟨aj,ak,j⟩:=bd j
  refine RL.call zt zr Js [(str ag)] zr (aD (og N (p0:=ag) o ak) ?_)
  rintro _ w ⟨rfl,o⟩
  refine RL.not aj (RL.nt (dQ j (fun hc j=>?_) fun hc j=>?_))
  ·refine RC.sr (aQ (vb false) (RL.nt (RC.rb (bS ?_))))
   obtain rfl:=oi j
   exact⟨rfl,bX ⟨rfl,o.drop 1⟩⟩
  refine RC.skip (bQ (aH (RC.region (mv (vi aa) (RL.fY aa 1 (aQ (vi (IntKind.wrap .i64 (aa+1))) (RL.nil ?_)))))))
  obtain rfl:=oi j
  exact⟨rfl,o.sp 1 [0]⟩
 ·intro r U w e hK
  subst e
  refine bS ?_
  obtain rfl:=oi j
  exact hK
 rintro aa _ w rfl ⟨O,rfl,o⟩
 rw [Fo.dB] at j
 refine aH (RC.sr (mv (str p0) (RL.lens p0 Bh (ic ((p0.cX.length:Int)) 200 (aQ (vb (decide ((p0.cX.length:Int)<=200))) (RL.nt (RC.ret ?_)))))))
 obtain rfl:=oi j
 exact bX ⟨rfl,o.drop 1⟩
theorem qO {p0:kT} (hw:Holds E w V) (h0:V[i0]? =some (rd v0 p0)) (hb:iB N p0 p1=some res):
    Calls bN 63 [v0,(vi p1)].toArray w (gL (aU E V res)):=by
 unfold iB at hb
 refine enter Tryz.func63 zr zr ?_
 have hw:=hw.dup (i0+0) h0
 refine RC.sr (RL.cS 0 v0 hw zr fun aj w hw=>?_)
 refine aQ (vi 0) (RL.ns (RL.aY zr nR (RL.bB 0 hw zr kK wo fun a1 hw=>(mv (vi p1) ?_))))
 obtain⟨j,au,hb⟩:=bd hb
 refine RL.bP 0 hw zY au fun a2 hw=>(RL.bJ 0 j hw rL fun a3 hw=>(RL.alloc hw Hh.z fun ag w hw=>?_))
 refine RL.cC 0 hw 1 zr rL fun w hw=>?_
 refine RL.nq (RC.seq ?_)
 obtain⟨ak,hj,hb⟩:=bd hb
 refine RC.jn (fun(ak:Bool)=>SH E V [(1,vi p1),(2,vp aj 0),(5,vp ag 0),(21,vb ak)] [bx 27 aj p0,bx 54 ag j]) ak ?_ ?_
 ·refine RC.region (RL.aY zr tk (RL.aM 0 hw zr m8 yP ?_))
  obtain⟨an,av,hj⟩:=bd hj
  refine RL.call zt zr MR [(str j.Part)] zr (aD (sD N (p0:=j.Part) hw av) ?_)
  rintro _ w ⟨rfl,hw⟩
  refine RL.not an (mv (vb (!an)) (eZ hj (fun ae hj=>?_) fun ae hj=>?_))
  ·refine bC ae (bC ae (bC ae (bC ae (fq ae (vb true) (RL.nil ?_)))))
   obtain rfl:=oi hj
   exact⟨rfl,hw.sp 6 [4,0]⟩
  refine RL.aY (hg:=(cg ae)) zr wq (RL.aM (hg:=(cg ae)) 0 hw zr oY yP ?_)
  obtain⟨ao,aw,hj⟩:=bd hj
  refine RL.call (cg ae) zr Js [(str j.dV)] zr (aD (og N (p0:=j.dV) hw aw) ?_)
  rintro _ w ⟨rfl,hw⟩
  refine RL.not (hg:=(cg ae)) ao (fq ae (vb (!ao)) (RL.nil ?_))
  obtain rfl:=oi hj
  exact⟨rfl,hw.sp 6 [4,0]⟩
 rintro _ w ⟨O,rfl,hw⟩
 refine aH (dQ hb (fun hc hb=>?_) fun hc hb=>?_)
 ·refine RC.sr (aQ (vi 5) (RL.nt (RC.rt ?_)))
  obtain rfl:=oi hb
  exact bX ⟨rfl,hw.drop 2⟩
 refine RC.ss (RC.seq ?_)
 obtain⟨al,hj,hb⟩:=bd hb
 refine RC.jn (fun(al:Bool)=>SH E V [(1,vi p1),(2,vp aj 0),(5,vp ag 0),(35,vb al)] [bx 27 aj p0,bx 54 ag j]) al ?_ ?_
 ·refine RC.region (RL.aY zr ye (RL.aM 1 hw zr qp cI (RL.aY zr mC (RL.bB 0 hw zr i9 pJ fun a4 hw=>(RL.bF 0 p0.aJ hw qC (RL.fY (p0.aJ.length:Int) 1 ?_))))))
  obtain⟨aq,ax,hj⟩:=bd hj
  refine RL.call zt zr Hr [(vi j.cT),(vi 0),(vi (IntKind.wrap .i64 ((p0.aJ.length:Int) - 1)))] zr (aD (iG N (p0:=j.cT) (p1:=0) (p2:=(IntKind.wrap .i64 ((p0.aJ.length:Int) - 1))) hw ax) ?_)
  rintro _ w ⟨rfl,hw⟩
  refine RL.not aq (mv (vb (!aq)) (eZ hj (fun af hj=>?_) fun af hj=>?_))
  ·refine bC af (bC af (bC af (bC af (fq af (vb true) (RL.nil ?_)))))
   obtain rfl:=oi hj
   exact⟨rfl,hw.sp 3 [1,2]⟩
  refine RL.aY (hg:=(cg af)) zr yf (RL.bB (hg:=(cg af)) 2 hw zr qq Dn fun ay hw=>?_)
  obtain⟨ar,az,hj⟩:=bd hj
  refine RL.call (cg af) zr Lo [ay] zr (aD (nD N (i0:=0) hw zr az) ?_)
  rintro _ w ⟨rfl,hw⟩
  refine RL.not (hg:=(cg af)) ar (fq af (vb (!ar)) (RL.nil ?_))
  obtain rfl:=oi hj
  exact⟨rfl,hw.sp 4 [2,3]⟩
 rintro _ w ⟨O,rfl,hw⟩
 refine aH (dQ hb (fun hc hb=>?_) fun hc hb=>?_)
 ·refine RC.sr (aQ (vi 1) (RL.nt (RC.rt ?_)))
  obtain rfl:=oi hb
  exact bX ⟨rfl,hw.drop 2⟩
 refine RC.ss (RC.sr (mv (vi p1) (ic p1 0 (RL.nt (dQ hb (fun hc hb=>?_) fun hc hb=>?_)))))
 rotate_left
 ·refine RC.sx (aQ (vi 0) (RL.nt (RC.ret ?_)))
  obtain rfl:=oi hb
  exact bX ⟨rfl,hw.drop 2⟩
 refine RC.sr (RL.aY zr nR (RL.bB 0 hw zr kK wo fun a5 hw=>(mv (vi p1) (RL.fY p1 1 ?_))))
 obtain⟨o,a0,hb⟩:=bd hb
 refine RL.bP 0 hw zY a0 fun a6 hw=>(RL.bJ 0 o hw rL fun a7 hw=>(RL.alloc hw Hh.z fun ai w hw=>?_))
 refine RL.cC 0 hw 1 zr rL fun w hw=>?_
 refine RL.ns (RL.aY rfl tk (RL.aM 5 hw rfl m8 yP (RL.aY rfl tk (RL.aM 0 hw rfl m8 yP (RL.B2 j.Part o.Part trivial rfl rfl rfl rfl (mv (vb (j.Part.sZ o.Part)) (RL.gs true (j.Part.sZ o.Part) (vp ag 0) rfl rfl rfl (eA tk) (RL.gs true (j.Part.sZ o.Part) (str j.Part) rfl rfl rfl (cB 5 rfl hw (fun h=>by exact(cM h:cv (true&&((j.Part.sZ o.Part)==false)) (vp ag 0)= (vp ag 0))) rfl m8 yP) ?_))))))))
 refine RL.gs true (j.Part.sZ o.Part) (vp ai 0) rfl rfl rfl (eA tk) (RL.gs true (j.Part.sZ o.Part) (str o.Part) rfl rfl rfl (cB 0 rfl hw (fun h=>by exact(cM h:cv (true&&((j.Part.sZ o.Part)==false)) (vp ai 0)= (vp ai 0))) rfl m8 yP) (RL.gs true (j.Part.sZ o.Part) (vb (j.Part.qw o.Part)) rfl rfl rfl (B3 .eql j.Part o.Part rfl (fun h=>by exact(cM h:cv (true&&((j.Part.sZ o.Part)==false)) (str j.Part)= (str j.Part))) (fun h=>by exact(cM h:cv (true&&((j.Part.sZ o.Part)==false)) (str o.Part)= (str o.Part))) rfl) (RL.gs true (j.Part.sZ o.Part) (vb (j.Part.qw o.Part)) rfl rfl rfl (cK (hx:=fun h=>by exact(cM h:cv (true&&((j.Part.sZ o.Part)==false)) (vb (j.Part.qw o.Part))= (vb (j.Part.qw o.Part))))) (RL.gs (true&&((j.Part.sZ o.Part)==false)) (j.Part.qw o.Part) (vp ag 1) rfl rfl rfl (eA wq) (RL.gs (true&&((j.Part.sZ o.Part)==false)) (j.Part.qw o.Part) (str j.dV) rfl rfl rfl (cB 5 rfl hw (fun h=>by exact(cM h:cv ((true&&((j.Part.sZ o.Part)==false))&&((j.Part.qw o.Part)==true)) (vp ag 1)= (vp ag 1))) rfl oY yP) (RL.gs (true&&((j.Part.sZ o.Part)==false)) (j.Part.qw o.Part) (vp ai 1) rfl rfl rfl (eA wq) (RL.gs (true&&((j.Part.sZ o.Part)==false)) (j.Part.qw o.Part) (str o.dV) rfl rfl rfl (cB 0 rfl hw (fun h=>by exact(cM h:cv ((true&&((j.Part.sZ o.Part)==false))&&((j.Part.qw o.Part)==true)) (vp ai 1)= (vp ai 1))) rfl oY yP) (RL.gs (true&&((j.Part.sZ o.Part)==false)) (j.Part.qw o.Part) (vb (j.dV.sZ o.dV||j.dV.qw o.dV)) rfl rfl rfl (B3 .leq j.dV o.dV rfl (fun h=>by exact(cM h:cv ((true&&((j.Part.sZ o.Part)==false))&&((j.Part.qw o.Part)==true)) (str j.dV)= (str j.dV))) (fun h=>by exact(cM h:cv ((true&&((j.Part.sZ o.Part)==false))&&((j.Part.qw o.Part)==true)) (str o.dV)= (str o.dV))) rfl) ?_))))))))
 refine RL.gs true (j.Part.sZ o.Part) (vb ((j.Part.qw o.Part)&&(j.dV.sZ o.dV||j.dV.qw o.dV))) rfl rfl rfl (kE (j.Part.qw o.Part) rfl (fun h=>by exact(cM h:cv (true&&((j.Part.sZ o.Part)==false)) (vb (j.Part.qw o.Part))= (vb (j.Part.qw o.Part)))) (fun h=>by exact gD (true&&((j.Part.sZ o.Part)==false)) h)) (RL.pick (j.Part.sZ o.Part) (vb ((j.Part.sZ o.Part)||((j.Part.qw o.Part)&&(j.dV.sZ o.dV||j.dV.qw o.dV)))) (nX true) (RL.nt (dQ hb (fun hc hb=>?_) fun hc hb=>?_)))
 ·refine RC.sr (aQ (vi 8) (RL.nt (RC.rt ?_)))
  obtain rfl:=oi hb
  exact bX ⟨rfl,hw.drop 6⟩
 refine RC.sx (aQ (vi 0) (RL.nt (RC.ret ?_)))
 obtain rfl:=oi hb
 exact bX ⟨rfl,hw.drop 6⟩
def ki (E:World) (V:List HP) (r:Int) (U:Nat->Value) (w:World):Prop:=lF bN 115 Tryz.f26 (aU E V r) .ret U w
theorem p8 {p0:kT} (j:Holds E w V) (h0:V[i0]? =some (rd v0 p0)) (o:gV N p0=some res):
    Calls bN 26 [v0].toArray w (gL (aU E V res)):=by
 unfold gV at o
 refine enter Tryz.func26 zr zr ?_
 have j:=j.dup (i0+0) h0
 refine RC.sr (RL.cS 0 v0 j zr fun ae w j=>?_)
 refine aQ (vi 0) (RL.nq (RC.sr (RL.aY zr mC (RL.bB 0 j zr i9 pJ fun bf j=>(RL.bF 0 p0.aJ j qC (ic ((p0.aJ.length:Int)) 0 (RL.nt (dQ o (fun hc o=>?_) fun hc o=>?_))))))))
 ·refine RC.sr (aQ (vi 9) (RL.nt (RC.rt ?_)))
  obtain rfl:=oi o
  exact bX ⟨rfl,j.drop 3⟩
 refine RC.ss (RC.sr (RL.aY zr mC (RL.bB 1 j zr i9 pJ fun bg j=>(RL.bF 0 p0.aJ j qC (ic ((p0.aJ.length:Int)) 16 (RL.nt (dQ o (fun hc o=>?_) fun hc o=>?_)))))))
 ·refine RC.sr (aQ (vi 2) (RL.nt (RC.rt ?_)))
  obtain rfl:=oi o
  exact bX ⟨rfl,j.drop 4⟩
 refine RC.sx (RL.aY zr Ch (RL.bB 2 j zr r8 tW fun bh j=>(RL.bF 0 p0.cG j nk (aQ (vi p0.cG.length) (RL.nq (RC.sr (aQ (vi 0) (RL.nt ?_))))))))
 obtain⟨bj,hN,o⟩:=bd o
 refine RC.iter (fun(ad:Int×Int)=>SH E V [(1,vp ae 0),(3,vi ad.1),(4,vi ad.2)] [bx 27 ae p0]) (fun(ad:Int×Int)=>SH E V [(1,vp ae 0),(3,vi ad.1)] [bx 27 ae p0]) (ki E V) hN ?_ ?_ ?_ ?_
 ·exact j.sp 5 [3]
 ·rintro ad fl _ w ⟨O,rfl,j⟩ o
  refine RC.seq (RC.sr (mv (vi ad.2) (RL.aY zr mC (RL.bB 0 j zr i9 pJ fun bk j=>(RL.bF 0 p0.aJ j qC (ic ad.2 ((p0.aJ.length:Int)) (RL.nt (dQ o (fun hc o=>?_) fun hc o=>?_))))))))
  rotate_left
  ·refine RC.ex ?_
   obtain rfl:=oi o
   exact⟨rfl,j.sp 2 [1]⟩
  refine RC.ss (RC.block (RC.seq (RC.sr (RL.aY zr mC (RL.bB 1 j zr i9 pJ fun bl j=>(mv (vi ad.2) ?_))))))
  obtain⟨az,a0,o⟩:=bd o
  refine RL.bP 0 j uy a0 fun bm j=>(RL.bJ 0 az j tW fun a1 j=>?_)
  obtain⟨ak,a2,o⟩:=bd o
  refine RL.call zt zr Ln [a1] zr (aD (lP N (i0:=0) j zr a2) ?_)
  rintro _ w ⟨rfl,j⟩
  refine aQ (vi ak) (RL.ns (mv (vi ak) (ic ak 0 (RL.nt (dQ o (fun hc o=>?_) fun hc o=>?_)))))
  ·refine RC.sr (mv (vi ak) (aQ (vi ak) (RL.nt (RC.rt (oA (bS ?_))))))
   obtain rfl:=oi o
   exact⟨rfl,bX ⟨rfl,j.drop 5⟩⟩
  refine RC.sn (RC.region (mv (vi ad.1) (RL.aY zr mC (RL.bB 4 j zr i9 pJ fun bn j=>(mv (vi ad.2) ?_)))))
  obtain⟨ar,a3,o⟩:=bd o
  refine RL.bP 0 j uy a3 fun bo j=>(RL.bJ 0 ar j tW fun bp j=>(RL.bF 0 ar j nk (RL.fY ad.1 (ar.length:Int) (aQ (vi (IntKind.wrap .i64 (ad.1+ (ar.length:Int)))) (RL.nil (bQ (aH (RC.region ?_))))))))
  refine mv (vi ad.2) (RL.fY ad.2 1 (aQ (vi (IntKind.wrap .i64 (ad.2+1))) (RL.nil ?_)))
  obtain rfl:=oi o
  exact⟨rfl,j.sp 8 [7]⟩
 ·intro r U w e hK
  subst e
  refine bS ?_
  obtain rfl:=oi o
  exact hK
 rintro ad _ w rfl ⟨O,rfl,j⟩
 rw [Fo.dB] at o
 refine aH (RC.seq (RC.sr (RL.aY zr Ch (RL.bB 0 j zr r8 tW fun a4 j=>?_))))
 obtain⟨an,a5,o⟩:=bd o
 refine RL.call zt zr Ln [a4] zr (aD (lP N (i0:=0) j zr a5) ?_)
 rintro _ w ⟨rfl,j⟩
 refine aQ (vi an) (RL.ns (mv (vi an) (ic an 0 (RL.nt (dQ o (fun hc o=>?_) fun hc o=>?_)))))
 ·refine RC.sr (mv (vi an) (aQ (vi an) (RL.nt (RC.rt ?_))))
  obtain rfl:=oi o
  exact bX ⟨rfl,j.drop 2⟩
 refine RC.ss (RC.seq ?_)
 obtain⟨au,hj,o⟩:=bd o
 refine RC.jn (fun(au:Bool)=>SH E V [(1,vp ae 0),(60,vb au)] [bx 27 ae p0]) au ?_ ?_
 ·refine RC.region (mv (vi ad.1) (ic ad.1 2000 (mv (vb (decide (ad.1>2000))) (eZ hj (fun ah hj=>?_) fun ah hj=>?_))))
  ·refine bC ah (bC ah (bC ah (bC ah (fq ah (vb true) (RL.nil ?_)))))
   obtain rfl:=oi hj
   exact⟨rfl,j.sp 2 [1]⟩
  refine RL.aY (hg:=(cg ah)) zr ik (RL.bB (hg:=(cg ah)) 1 j zr gK nQ fun bq j=>(RL.bF (hg:=(cg ah)) 0 p0.aO j wj (RL.kX (p0.aO.length:Int) 500 (cg ah) (fq ah (vb (decide ((p0.aO.length:Int)>500))) (RL.nil ?_)))))
  obtain rfl:=oi hj
  exact⟨rfl,j.sp 3 [2]⟩
 rintro _ w ⟨O,rfl,j⟩
 refine aH (dQ o (fun hc o=>?_) fun hc o=>?_)
 ·refine RC.sr (aQ (vi 2) (RL.nt (RC.rt ?_)))
  obtain rfl:=oi o
  exact bX ⟨rfl,j.drop 1⟩
 refine RC.ss (RC.sr (aQ (vi 0) (RL.nt ?_)))
 obtain⟨br,hN,o⟩:=bd o
 refine RC.iter (fun(ai:Int)=>SH E V [(1,vp ae 0),(7,vi ai)] [bx 27 ae p0]) (fun(ai:Int)=>SH E V [(1,vp ae 0)] [bx 27 ae p0]) (ki E V) hN ?_ ?_ ?_ ?_
 ·exact j.sp 1 [0]
 ·rintro ai fl _ w ⟨O,rfl,j⟩ o
  refine RC.seq (RC.sr (mv (vi ai) (RL.aY zr ik (RL.bB 0 j zr gK nQ fun bt j=>(RL.bF 0 p0.aO j wj (ic ai ((p0.aO.length:Int)) (RL.nt (dQ o (fun hc o=>?_) fun hc o=>?_))))))))
  rotate_left
  ·refine RC.ex ?_
   obtain rfl:=oi o
   exact⟨rfl,j.sp 2 [1]⟩
  refine RC.ss (RC.bs (RL.aY zr ik (RL.bB 1 j zr gK nQ fun bu j=>(mv (vi ai) ?_))))
  obtain⟨mA,a6,o⟩:=bd o
  refine RL.bP 0 j qD a6 fun bw j=>(RL.bJ 0 mA j ma fun bz j=>(RL.alloc j EE.z fun b0 w j=>?_))
  refine RL.cC 0 j 1 zr ma fun w j=>?_
  refine RL.nq (RC.sr (RL.bB (f:=(fun x=>x)) 0 j zr Fd.self ma fun a7 j=>?_))
  obtain⟨ao,a8,o⟩:=bd o
  refine RL.call zt zr MQ [a7] zr (aD (pN N (i0:=0) j zr a8) ?_)
  rintro _ w ⟨rfl,j⟩
  refine aQ (vi ao) (RL.ns (mv (vi ao) (ic ao 0 (RL.nt (dQ o (fun hc o=>?_) fun hc o=>?_)))))
  ·refine RC.sr (mv (vi ao) (aQ (vi ao) (RL.nt (RC.rt (oA (bS ?_))))))
   obtain rfl:=oi o
   exact⟨rfl,bX ⟨rfl,j.drop 7⟩⟩
  refine RC.ss ?_
  obtain⟨av,hj,o⟩:=bd o
  refine RC.jn (fun(av:Bool)=>SH E V [(1,vp ae 0),(7,vi ai),(97,vb av)] [bx 27 ae p0]) av ?_ ?_
  ·refine RC.region (RL.aY zr pL (RL.aM 1 j zr kA cI (RL.aY zr mC (RL.bB 6 j zr i9 pJ fun b1 j=>(RL.bF 0 p0.aJ j qC (RL.fY (p0.aJ.length:Int) 1 ?_))))))
   obtain⟨ax,a9,hj⟩:=bd hj
   refine RL.call zt zr Hr [(vi mA.cO),(vi 0),(vi (IntKind.wrap .i64 ((p0.aJ.length:Int) - 1)))] zr (aD (iG N (p0:=mA.cO) (p1:=0) (p2:=(IntKind.wrap .i64 ((p0.aJ.length:Int) - 1))) j a9) ?_)
   rintro _ w ⟨rfl,j⟩
   refine RL.not ax (mv (vb (!ax)) (eZ hj (fun ab hj=>?_) fun ab hj=>?_))
   ·refine bC ab (bC ab (bC ab (bC ab (bC ab (bC ab (bC ab (bC ab (bC ab ?_))))))))
    refine bC ab (fq ab (vb true) (RL.nil ?_))
    obtain rfl:=oi hj
    exact⟨rfl,j.sp 8 [7]⟩
   refine RL.aY (hg:=(cg ab)) zr rK (RL.aM (hg:=(cg ab)) 2 j zr l4 cI (RL.aY (hg:=(cg ab)) zr pL (RL.aM (hg:=(cg ab)) 2 j zr kA cI (RL.aY (hg:=(cg ab)) zr mC (RL.bB (hg:=(cg ab)) 7 j zr i9 pJ fun b2 j=>(RL.bF (hg:=(cg ab)) 0 p0.aJ j qC (RL.fY (hg:=(cg ab)) (p0.aJ.length:Int) 1 ?_)))))))
   obtain⟨ay,ba,hj⟩:=bd hj
   refine RL.call (cg ab) zr Hr [(vi mA.To),(vi mA.cO),(vi (IntKind.wrap .i64 ((p0.aJ.length:Int) - 1)))] zr (aD (iG N (p0:=mA.To) (p1:=mA.cO) (p2:=(IntKind.wrap .i64 ((p0.aJ.length:Int) - 1))) j ba) ?_)
   rintro _ w ⟨rfl,j⟩
   refine RL.not (hg:=(cg ab)) ay (fq ab (vb (!ay)) (RL.nil ?_))
   obtain rfl:=oi hj
   exact⟨rfl,j.sp 9 [8]⟩
  rintro _ w ⟨O,rfl,j⟩
  refine aH (dQ o (fun hc o=>?_) fun hc o=>?_)
  ·refine RC.sr (aQ (vi 1) (RL.nt (RC.rb (bS ?_))))
   obtain rfl:=oi o
   exact⟨rfl,bX ⟨rfl,j.drop 1⟩⟩
  refine RC.skip (bQ (aH (RC.region (mv (vi ai) (RL.fY ai 1 (aQ (vi (IntKind.wrap .i64 (ai+1))) (RL.nil ?_)))))))
  obtain rfl:=oi o
  exact⟨rfl,j.sp 1 [0]⟩
 ·intro r U w e hK
  subst e
  refine bS ?_
  obtain rfl:=oi o
  exact hK
 rintro ai _ w rfl ⟨O,rfl,j⟩
 rw [Fo.dB] at o
 refine aH (RC.seq (RC.sr (RL.aY zr nR (RL.bB 0 j zr kK wo fun b3 j=>(RL.bF 0 p0.bM j Dp (ic ((p0.bM.length:Int)) 1000 (RL.nt (dQ o (fun hc o=>?_) fun hc o=>?_))))))))
 ·refine RC.sr (aQ (vi 2) (RL.nt (RC.rt ?_)))
  obtain rfl:=oi o
  exact bX ⟨rfl,j.drop 2⟩
 refine RC.ss (RC.sr (aQ (vi 0) (RL.nt ?_)))
 obtain⟨b4,hN,o⟩:=bd o
 refine RC.iter (fun(ag:Int)=>SH E V [(1,vp ae 0),(10,vi ag)] [bx 27 ae p0]) (fun(ag:Int)=>SH E V [] [bx 27 ae p0]) (ki E V) hN ?_ ?_ ?_ ?_
 ·exact j.sp 2 [1]
 ·rintro ag fl _ w ⟨O,rfl,j⟩ o
  refine RC.seq (RC.sr (mv (vi ag) (RL.aY zr nR (RL.bB 0 j zr kK wo fun b5 j=>(RL.bF 0 p0.bM j Dp (ic ag ((p0.bM.length:Int)) (RL.nt (dQ o (fun hc o=>?_) fun hc o=>?_))))))))
  rotate_left
  ·refine RC.ex ?_
   obtain rfl:=oi o
   exact⟨rfl,j.sp 2 [1]⟩
  refine RC.ss (RC.bs (RL.bB (f:=(fun x=>x)) 1 j zr Fd.self vz fun bb j=>(mv (vi ag) ?_)))
  obtain⟨aq,bc,o⟩:=bd o
  refine RL.call zt zr MS [bb,(vi ag)] zr (aD (qO N (p1:=ag) (i0:=0) j zr bc) ?_)
  rintro _ w ⟨rfl,j⟩
  refine aQ (vi aq) (RL.ns (mv (vi aq) (ic aq 0 (RL.nt (dQ o (fun hc o=>?_) fun hc o=>?_)))))
  rotate_left
  ·refine RC.skip (bQ (aH (RC.region (mv (vi ag) (RL.fY ag 1 (aQ (vi (IntKind.wrap .i64 (ag+1))) (RL.nil ?_)))))))
   obtain rfl:=oi o
   exact⟨rfl,j.sp 3 [2]⟩
  refine RC.sr (mv (vi aq) (aQ (vi aq) (RL.nt (RC.rb (bS ?_)))))
  obtain rfl:=oi o
  exact⟨rfl,bX ⟨rfl,j.drop 3⟩⟩
 ·intro r U w e hK
  subst e
  refine bS ?_
  obtain rfl:=oi o
  exact hK
 rintro ag _ w rfl ⟨O,rfl,j⟩
 rw [Fo.dB] at o
 refine aH (RC.sr (aQ (vi 0) (RL.nt (RC.ret ?_))))
 obtain rfl:=oi o
 exact bX ⟨rfl,j.drop 1⟩
theorem sE {p0 p1:bZ} {res:Bool} (j:Holds E w V) (h0:V[i0]? =some (rd v0 p0)) (h1:V[i1]? =some (rd v1 p1)) (hb:iC N p0 p1=some res):
    Calls bN 27 [v0,v1].toArray w (gL (aX E V res)):=by
 unfold iC at hb
 refine enter Tryz.func27 zr zr ?_
 have j:=(j.dup (i0+0) h0).dup (i1+1) h1
 refine RC.sr (RL.cS 1 v0 j zr fun o w j=>?_)
 refine RL.cS 1 v1 j zr fun aa w j=>?_
 refine aQ (vb false) (RL.ns (RL.aY zr pL (RL.aM 1 j zr kA cI (RL.aY zr rK (RL.aM 0 j zr l4 cI (ic p0.cO p1.To (mv (vb (decide (p0.cO<=p1.To))) (RL.gs true (decide (p0.cO<=p1.To)) (vp aa 3) zr zr zr (eA pL) ?_))))))))
 refine RL.gs true (decide (p0.cO<=p1.To)) (vi p1.cO) rfl rfl rfl (cB 0 rfl j (fun h=>by exact(cM h:cv (true&&((decide (p0.cO<=p1.To))==true)) (vp aa 3)= (vp aa 3))) rfl kA cI) (RL.gs true (decide (p0.cO<=p1.To)) (vp o 4) rfl rfl rfl (eA rK) (RL.gs true (decide (p0.cO<=p1.To)) (vi p0.To) rfl rfl rfl (cB 1 rfl j (fun h=>by exact(cM h:cv (true&&((decide (p0.cO<=p1.To))==true)) (vp o 4)= (vp o 4))) rfl l4 cI) (RL.gs true (decide (p0.cO<=p1.To)) (vb (decide (p1.cO<=p0.To))) rfl rfl rfl (dK .leq .i64 p1.cO p0.To rfl (fun h=>by exact(cM h:cv (true&&((decide (p0.cO<=p1.To))==true)) (vi p1.cO)= (vi p1.cO))) (fun h=>by exact(cM h:cv (true&&((decide (p0.cO<=p1.To))==true)) (vi p0.To)= (vi p0.To))) rfl) (RL.pick (decide (p0.cO<=p1.To)) (vb ((decide (p0.cO<=p1.To))&&(decide (p1.cO<=p0.To)))) (gD true rfl) (aQ (vb ((decide (p0.cO<=p1.To))&&(decide (p1.cO<=p0.To)))) (RL.nt (RC.ret ?_)))))))
 obtain rfl:=oi hb
 exact bX ⟨rfl,j.drop 4⟩
theorem rR {p0 p1:aI} {res:Bool} (o:Holds E w V) (h0:V[i0]? =some (rd v0 p0)) (h1:V[i1]? =some (rd v1 p1)) (hb:fV N p0 p1=some res):
    Calls bN 28 [v0,v1].toArray w (gL (aX E V res)):=by
 unfold fV at hb
 refine enter Tryz.func28 zr zr ?_
 have o:=(o.dup (i0+0) h0).dup (i1+1) h1
 refine RC.sr (RL.cS 1 v0 o zr fun ae w o=>?_)
 refine RL.cS 1 v1 o zr fun af w o=>?_
 refine aQ (vb false) (RL.nq ?_)
 obtain⟨ad,hj,hb⟩:=bd hb
 refine RC.jn (fun(ad:Bool)=>SH E V [(4,vb ad)] []) ad ?_ ?_
 ·refine RC.region (RL.aY zr ji (RL.aM 1 o zr eF cI (RL.aY zr ji (RL.aM 0 o zr eF cI (RL.min p0.X1 p1.X1 (RL.aY zr ij (RL.aM 1 o zr dM cI (RL.aY zr ij ?_))))))))
  refine RL.aM 0 o zr dM cI (RL.max p0.X0 p1.X0 (ic ((if p1.X1<p0.X1 then p1.X1 else p0.X1)) ((if p0.X0<p1.X0 then p1.X0 else p0.X0)) (mv (vb (decide ((if p1.X1<p0.X1 then p1.X1 else p0.X1)> (if p0.X0<p1.X0 then p1.X0 else p0.X0)))) (eZ hj (fun j hj=>?_) fun j hj=>?_))))
  ·refine RL.aY (hg:=(cg j)) zr kr (RL.aM (hg:=(cg j)) 1 o zr fG cI (RL.aY (hg:=(cg j)) zr kr (RL.aM (hg:=(cg j)) 0 o zr fG cI (RL.min (hg:=(cg j)) p0.Y1 p1.Y1 (RL.aY (hg:=(cg j)) zr gW (RL.aM (hg:=(cg j)) 1 o zr dF cI (RL.aY (hg:=(cg j)) zr gW (RL.aM (hg:=(cg j)) 0 o zr dF cI ?_))))))))
   refine RL.max (hg:=(cg j)) p0.Y0 p1.Y0 (RL.kX (if p1.Y1<p0.Y1 then p1.Y1 else p0.Y1) (if p0.Y0<p1.Y0 then p1.Y0 else p0.Y0) (cg j) (fq j (vb (decide ((if p1.Y1<p0.Y1 then p1.Y1 else p0.Y1)> (if p0.Y0<p1.Y0 then p1.Y0 else p0.Y0)))) (aQ (vb (decide ((if p1.Y1<p0.Y1 then p1.Y1 else p0.Y1)> (if p0.Y0<p1.Y0 then p1.Y0 else p0.Y0)))) (RL.nil ?_))))
   obtain rfl:=oi hj
   exact⟨rfl,o.sp 4 []⟩
  refine bC j (bC j (bC j (bC j (bC j (bC j (bC j (bC j (bC j ?_))))))))
  refine bC j (bC j (fq j (vb false) (aQ (vb false) (RL.nil ?_))))
  obtain rfl:=oi hj
  exact⟨rfl,o.sp 4 []⟩
 rintro _ w ⟨O,rfl,o⟩
 refine aH (RC.ret ?_)
 obtain rfl:=oi hb
 exact bX ⟨rfl,o.drop 0⟩
theorem jt {p0:bZ} {res:Bool} (j:Holds E w V) (h0:V[i0]? =some (rd v0 p0)) (hb:eV N p0 p1=some res):
    Calls bN 32 [v0,(vi p1)].toArray w (gL (aX E V res)):=by
 unfold eV at hb
 refine enter Tryz.func32 zr zr ?_
 have j:=j.dup (i0+0) h0
 refine RC.sr (RL.cS 0 v0 j zr fun o w j=>?_)
 refine aQ (vb false) (RL.ns (RL.aY zr pL (RL.aM 0 j zr kA cI (mv (vi p1) (ic p0.cO p1 (mv (vb (decide (p0.cO<=p1))) (RL.gs true (decide (p0.cO<=p1)) (vi p1) zr zr zr cK (RL.gs true (decide (p0.cO<=p1)) (vp o 4) zr zr zr (eA rK) ?_))))))))
 refine RL.gs true (decide (p0.cO<=p1)) (vi p0.To) rfl rfl rfl (cB 0 rfl j (fun h=>by exact(cM h:cv (true&&((decide (p0.cO<=p1))==true)) (vp o 4)= (vp o 4))) rfl l4 cI) (RL.gs true (decide (p0.cO<=p1)) (vb (decide (p1<=p0.To))) rfl rfl rfl (dK .leq .i64 p1 p0.To rfl (fun h=>by exact(cM h:cv (true&&((decide (p0.cO<=p1))==true)) (vi p1)= (vi p1))) (fun h=>by exact(cM h:cv (true&&((decide (p0.cO<=p1))==true)) (vi p0.To)= (vi p0.To))) rfl) (RL.pick (decide (p0.cO<=p1)) (vb ((decide (p0.cO<=p1))&&(decide (p1<=p0.To)))) (gD true rfl) (aQ (vb ((decide (p0.cO<=p1))&&(decide (p1<=p0.To)))) (RL.nt (RC.ret ?_)))))
 obtain rfl:=oi hb
 exact bX ⟨rfl,j.drop 2⟩
def tv (E:World) (V:List HP) (r:Bool) (U:Nat->Value) (w:World):Prop:=lF bN 28 Tryz.f107 (aX E V r) .ret U w
theorem lq {p0: (List aF)} {res:Bool} (j:Holds E w V) (h0:V[i0]? =some (rd v0 p0)) (o:gu N p0 p1=some res):
    Calls bN 107 [v0,(vi p1)].toArray w (gL (aX E V res)):=by
 unfold gu at o
 refine enter Tryz.func107 zr zr ?_
 have j:=j.dup (i0+0) h0
 refine RC.sr (aQ (vb false) (RL.nq (RC.sr (aQ (vi 0) (RL.nt ?_)))))
 obtain⟨an,hN,o⟩:=bd o
 refine RC.iter (fun(ab:Int)=>SH E V [(0,v0),(1,vi p1),(5,vi ab)] [rd v0 p0]) (fun(ab:Int)=>SH E V [] [rd v0 p0]) (tv E V) hN ?_ ?_ ?_ ?_
 ·exact j.sp 1 [0]
 ·rintro ab fl _ w ⟨O,rfl,j⟩ o
  refine RC.seq (RC.sr (mv (vi ab) (mv v0 (RL.bF 0 p0 j vR (ic ab ((p0.length:Int)) (RL.nt (dQ o (fun hc o=>?_) fun hc o=>?_)))))))
  rotate_left
  ·refine RC.ex ?_
   obtain rfl:=oi o
   exact⟨rfl,j.sp 1 [0]⟩
  refine RC.ss (RC.block (RC.seq ?_))
  obtain⟨af,hj,o⟩:=bd o
  refine RC.jn (fun(af:Bool)=>SH E V [(0,v0),(1,vi p1),(5,vi ab),(27,vb af)] [rd v0 p0]) af ?_ ?_
  ·refine RC.region (mv v0 (mv (vi ab) ?_))
   obtain⟨ag,aj,hj⟩:=bd hj
   refine RL.bP 0 j oS aj fun aq j=>(RL.dP 0 j zr p4 eG fun ar j=>(RL.bE ag.from_ 0 j cI (mv (vi p1) (ic ag.from_ p1 (mv (vb (decide (ag.from_<=p1))) (eZ hj (fun aa hj=>?_) fun aa hj=>?_))))))
   rotate_left
   ·refine bC aa (bC aa (bC aa (bC aa (bC aa (bC aa (bC aa (fq aa (vb false) (RL.nil ?_))))))))
    obtain rfl:=oi hj
    exact⟨rfl,j.sp 3 [2]⟩
   refine RL.move (vi p1) (cg aa) (RL.move v0 (cg aa) (RL.move (vi ab) (cg aa) ?_))
   obtain⟨ah,ak,hj⟩:=bd hj
   refine RL.bP (hg:=(cg aa)) 2 j oS ak fun au j=>(RL.dP (hg:=(cg aa)) 0 j zr pZ eH fun av j=>(RL.bE (hg:=(cg aa)) ah.to 0 j cI (RL.kX p1 ah.to (cg aa) (fq aa (vb (decide (p1<ah.to))) (RL.nil ?_)))))
   obtain rfl:=oi hj
   exact⟨rfl,j.sp 5 [4]⟩
  rintro _ w ⟨O,rfl,j⟩
  refine aH (dQ o (fun hc o=>?_) fun hc o=>?_)
  ·refine RC.sr (aQ (vb true) (RL.nt (RC.rb (bS ?_))))
   obtain rfl:=oi o
   exact⟨rfl,bX ⟨rfl,j.drop 1⟩⟩
  refine RC.skip (bQ (aH (RC.region (mv (vi ab) (RL.fY ab 1 (aQ (vi (IntKind.wrap .i64 (ab+1))) (RL.nil ?_)))))))
  obtain rfl:=oi o
  exact⟨rfl,j.sp 1 [0]⟩
 ·intro r U w e hK
  subst e
  refine bS ?_
  obtain rfl:=oi o
  exact hK
 rintro ab _ w rfl ⟨O,rfl,j⟩
 rw [Fo.dB] at o
 refine aH (RC.sr (aQ (vb false) (RL.nt (RC.ret ?_))))
 obtain rfl:=oi o
 exact bX ⟨rfl,j.drop 1⟩
theorem tw {p0: (List aF)} {p1: (List aF)} {res: (List aF)} (j:Holds E w V) (h0:V[i0]? =some (rd v0 p0)) (h1:V[i1]? =some (rd v1 p1)) (hb:jT N p0 p1 p2=some res):
    Calls bN 122 [v0,v1,(vi p2)].toArray w (gL (lJ E V res)):=by
 unfold jT at hb
 refine enter Tryz.func122 zr zr ?_
 have j:=(j.dup (i0+0) h0).dup (i1+1) h1
 refine RC.sr (aQ (.slice none 0 0) (RL.ns (aQ (.slice none 0 0) (RL.nq (RC.sr (aQ (vi 0) (RL.nt ?_)))))))
 obtain⟨bw,hN,hb⟩:=bd hb
 refine RC.iter (fun(af: (List Int)×Int) U w=>∃a3:Value,SH E V [(0,v0),(1,v1),(2,vi p2),(7,a3),(8,vi af.2)] [rd v0 p0,rd v1 p1,rd a3 af.1] U w) (fun(af: (List Int)×Int) U w=>∃al:Value,SH E V [(0,v0),(1,v1),(2,vi p2),(7,al)] [rd v0 p0,rd v1 p1,rd al af.1] U w) (fun(r:Empty) _ _=>r.elim) hN ?_ ?_ ?_ ?_
 ·have j:=j.x6 Int
  exact⟨(.slice none 0 0),j.sp 3 [2,1,0]⟩
 ·rintro af fl _ w ⟨au,O,rfl,j⟩ hb
  refine RC.seq (RC.sr (mv (vi af.2) (mv v0 (RL.bF 0 p0 j vR (ic af.2 ((p0.length:Int)) (RL.nt (dQ hb (fun hc hb=>?_) fun hc hb=>?_)))))))
  rotate_left
  ·refine RC.ex ?_
   obtain rfl:=oi hb
   exact⟨rfl,au,j.sp 3 [0,1,2]⟩
  refine RC.ss (RC.block (RC.ug mixed [0,0,0,0,0,0,2,1,1,1,1,1,2,0] [0,1,2,3,4,5,7,8,9,10,11,6,12,13] ?_))
  have j:=j.drew
  refine DP.e0 zr (mv au (aW zr (mv v0 (aW zr (mv (vi af.2) (aW zr ?_))))))
  obtain⟨av,ba,hb⟩:=bd hb
  refine RL.bP 0 j oS ba fun bx j=>(aW zr (RL.dP 0 j zr p4 eG fun bz j=>(aW zr (RL.bE av.from_ 0 j cI (DP.d0 (DP.e1 v0 zr (fun w=>RL.move v0 zt DP.d1) (DP.e1 (vi af.2) zr (fun w=>RL.move (vi af.2) zt DP.d1) ?_)))))))
  obtain⟨aw,bb,hb⟩:=bd hb
  refine DP.vx 2 zr j oS bb fun b0 j=>(DP.Bc 0 zr zt j zr pZ eH fun b1 j=>(DP.rq aw.to 0 zr j cI fun a68 b2 j=>(DP.e2 zr ?_)))
  obtain⟨b3,bc,hb⟩:=bd hb
  refine RL.call zt zr BF [au,(vi av.from_)] zr (aD (iF N (p1:=av.from_) (i0:=7) j zr bc) ?_)
  rintro bf w j
  refine DP.d2 (⟨zt,j.gF 1⟩) (DP.e2 zr ?_)
  obtain⟨b4,bg,hb⟩:=bd hb
  refine RL.call zt zr BF [bf,(vi aw.to)] zr (aD (iF N (p1:=aw.to) (i0:=0) j zr bg) ?_)
  rintro a5 w j
  refine DP.d2 (⟨zt,j.gF 2⟩) (DP.e0 zr (aQ a5 (DP.d0 ?_)))
  have j:=j.pl 10 [0,1,3,4,5,6,7,8,9]
  refine DP.z (bQ (aH (RC.region (mv (vi af.2) (RL.fY af.2 1 (aQ (vi (IntKind.wrap .i64 (af.2+1))) (RL.nil ?_)))))))
  obtain rfl:=oi hb
  exact⟨rfl,a5,j.sp 9 [6,7,0]⟩
 ·intro r _ _ _ _
  exact r.elim
 rintro af _ w rfl ⟨al,O,rfl,j⟩
 rw [Fo.dB] at hb
 refine aH (RC.seq (RC.sr (aQ (vi 0) (RL.nt ?_))))
 obtain⟨b5,hN,hb⟩:=bd hb
 refine RC.iter (fun(ae: (List Int)×Int) U w=>∃a6:Value,SH E V [(0,v0),(1,v1),(2,vi p2),(7,a6),(9,vi ae.2)] [rd v0 p0,rd v1 p1,rd a6 ae.1] U w) (fun(ae: (List Int)×Int) U w=>∃ag:Value,SH E V [(0,v0),(1,v1),(2,vi p2),(7,ag)] [rd v0 p0,rd v1 p1,rd ag ae.1] U w) (fun(r:Empty) _ _=>r.elim) hN ?_ ?_ ?_ ?_
 ·exact⟨al,j.sp 3 [0,1,2]⟩
 ·rintro ae fl _ w ⟨ax,O,rfl,j⟩ hb
  refine RC.seq (RC.sr (mv (vi ae.2) (mv v1 (RL.bF 1 p1 j vR (ic ae.2 ((p1.length:Int)) (RL.nt (dQ hb (fun hc hb=>?_) fun hc hb=>?_)))))))
  rotate_left
  ·refine RC.ex ?_
   obtain rfl:=oi hb
   exact⟨rfl,ax,j.sp 3 [0,1,2]⟩
  refine RC.ss (RC.block (RC.ug mixed [0,0,0,0,0,0,2,1,1,1,1,1,2,0] [0,1,2,3,4,5,7,8,9,10,11,6,12,13] ?_))
  have j:=j.drew
  refine DP.e0 zr (mv ax (aW zr (mv v1 (aW zr (mv (vi ae.2) (aW zr ?_))))))
  obtain⟨ay,bh,hb⟩:=bd hb
  refine RL.bP 1 j oS bh fun b6 j=>(aW zr (RL.dP 0 j zr p4 eG fun b7 j=>(aW zr (RL.bE ay.from_ 0 j cI (DP.d0 (DP.e1 v1 zr (fun w=>RL.move v1 zt DP.d1) (DP.e1 (vi ae.2) zr (fun w=>RL.move (vi ae.2) zt DP.d1) ?_)))))))
  obtain⟨az,bj,hb⟩:=bd hb
  refine DP.vx 3 zr j oS bj fun b8 j=>(DP.Bc 0 zr zt j zr pZ eH fun b9 j=>(DP.rq az.to 0 zr j cI fun a111 ca j=>(DP.e2 zr ?_)))
  obtain⟨cb,bk,hb⟩:=bd hb
  refine RL.call zt zr BF [ax,(vi ay.from_)] zr (aD (iF N (p1:=ay.from_) (i0:=7) j zr bk) ?_)
  rintro bl w j
  refine DP.d2 (⟨zt,j.gF 1⟩) (DP.e2 zr ?_)
  obtain⟨cc,bm,hb⟩:=bd hb
  refine RL.call zt zr BF [bl,(vi az.to)] zr (aD (iF N (p1:=az.to) (i0:=0) j zr bm) ?_)
  rintro a7 w j
  refine DP.d2 (⟨zt,j.gF 2⟩) (DP.e0 zr (aQ a7 (DP.d0 ?_)))
  have j:=j.pl 10 [0,1,3,4,5,6,7,8,9]
  refine DP.z (bQ (aH (RC.region (mv (vi ae.2) (RL.fY ae.2 1 (aQ (vi (IntKind.wrap .i64 (ae.2+1))) (RL.nil ?_)))))))
  obtain rfl:=oi hb
  exact⟨rfl,a7,j.sp 9 [6,7,0]⟩
 ·intro r _ _ _ _
  exact r.elim
 rintro ae _ w rfl ⟨ag,O,rfl,j⟩
 rw [Fo.dB] at hb
 refine aH (RC.sr (aQ (.slice none 0 0) (RL.nq (RC.sr (aQ (vi 1) (RL.nt ?_))))))
 obtain⟨cd,hN,hb⟩:=bd hb
 refine RC.iter (fun(ad: (List aF)×Int) U w=>∃a8:Value,SH E V [(0,v0),(1,v1),(2,vi p2),(7,ag),(10,a8),(11,vi ad.2)] [rd v0 p0,rd v1 p1,rd ag ae.1,own 160 a8 ad.1] U w) (fun(ad: (List aF)×Int) U w=>∃ak:Value,SH E V [(10,ak)] [rd v0 p0,rd v1 p1,rd ag ae.1,own 160 ak ad.1] U w) (fun(r:Empty) _ _=>r.elim) hN ?_ ?_ ?_ ?_
 ·have j:=j.cW aF 160
  exact⟨(.slice none 0 0),j.sp 4 [1,2,3,0]⟩
 ·rintro ad fl _ w ⟨an,O,rfl,j⟩ hb
  refine RC.seq (RC.sr (mv (vi ad.2) (mv ag (RL.bF 2 ae.1 j mn (ic ad.2 ((ae.1.length:Int)) (RL.nt (dQ hb (fun hc hb=>?_) fun hc hb=>?_)))))))
  rotate_left
  ·refine RC.ex ?_
   obtain rfl:=oi hb
   exact⟨rfl,an,j.sp 4 [0,1,2,3]⟩
  refine RC.ss (RC.block (RC.seq (RC.ug mixed [0,0,0,0,0,0,2,1,1,1,1,1,1,2,0,0] [0,1,2,3,4,5,7,8,9,10,11,12,6,13,14,15] ?_)))
  have j:=j.drew
  refine DP.e0 zr (mv v0 (aW zr (mv ag (aW zr (mv (vi ad.2) (aW zr (RL.fY ad.2 1 (aW zr ?_))))))))
  obtain⟨a0,bn,hb⟩:=bd hb
  refine RL.bP 2 j eC bn fun cf j=>(aW zr (RL.bE a0 0 j cI (DP.d0 (DP.e1 v1 zr (fun w=>RL.move v1 zt DP.d1) (DP.e1 ag zr (fun w=>RL.move ag zt DP.d1) (DP.e1 (vi ad.2) zr (fun w=>RL.move (vi ad.2) zt DP.d1) (DP.e1 (vi (IntKind.wrap .i64 (ad.2 - 1))) zr (fun w=>RL.fY ad.2 1 DP.d1) ?_)))))))
  obtain⟨a1,bo,hb⟩:=bd hb
  refine DP.vx 3 zr j eC bo fun cg j=>(DP.rq a1 0 zr j cI fun a176 ch j=>(DP.e2 zr ?_))
  obtain⟨o,bp,hb⟩:=bd hb
  refine RL.call zt zr Hs [v0,(vi a0)] zr (aD (lq N (p1:=a0) (i0:=3) j zr bp) ?_)
  rintro _ w ⟨rfl,j⟩
  refine DP.d2 (⟨zt,j.gF 0⟩) (DP.e2 zr ?_)
  obtain⟨aa,bq,hb⟩:=bd hb
  refine RL.call zt zr Hs [v1,(vi a1)] zr (aD (lq N (p1:=a1) (i0:=4) j zr bq) ?_)
  rintro _ w ⟨rfl,j⟩
  refine DP.d2 (⟨zt,j.gF 0⟩) (DP.e0 zr (aQ (vb o) (aW zr (aQ (vb aa) (DP.d0 ?_)))))
  have j:=j.pl 7 [1,2,3,4,5,6]
  refine DP.z (aH (RC.sr (mv (vi p2) (ic p2 1 (mv (vb (p2==1)) (RL.gs true (p2==1) (vb o) rfl rfl rfl cK (RL.gs true (p2==1) (vb o) rfl rfl rfl (cK (hx:=fun h=>by exact(cM h:cv (true&&((p2==1)==true)) (vb o)= (vb o)))) (RL.gs (true&&((p2==1)==true)) o (vb aa) rfl rfl rfl cK ?_))))))))
  refine RL.gs true (p2==1) (vb (o||aa)) rfl rfl rfl (kE o rfl (fun h=>by exact(cM h:cv (true&&((p2==1)==true)) (vb o)= (vb o))) (fun h=>by exact nX (h:=h) (true&&((p2==1)==true)))) (RL.pick (p2==1) (vb ((p2==1)&&(o||aa))) (gD true rfl) (mv (vb ((p2==1)&&(o||aa))) (RL.gs true ((p2==1)&&(o||aa)) (vi p2) rfl rfl rfl cK (RL.gs true ((p2==1)&&(o||aa)) (vb (p2==2)) rfl rfl rfl (dK .eql .i64 p2 2 rfl (fun h=>by exact(cM h:cv (true&&(((p2==1)&&(o||aa))==false)) (vi p2)= (vi p2))) (fun _=>rfl) rfl) (RL.gs true ((p2==1)&&(o||aa)) (vb (p2==2)) rfl rfl rfl (cK (hx:=fun h=>by exact(cM h:cv (true&&(((p2==1)&&(o||aa))==false)) (vb (p2==2))= (vb (p2==2))))) (RL.gs (true&&(((p2==1)&&(o||aa))==false)) (p2==2) (vb o) rfl rfl rfl cK (RL.gs true ((p2==1)&&(o||aa)) (vb ((p2==2)&&o)) rfl rfl rfl (kE (p2==2) rfl (fun h=>by exact(cM h:cv (true&&(((p2==1)&&(o||aa))==false)) (vb (p2==2))= (vb (p2==2)))) (fun h=>by exact gD (true&&(((p2==1)&&(o||aa))==false)) h)) (RL.gs true ((p2==1)&&(o||aa)) (vb ((p2==2)&&o)) rfl rfl rfl (cK (hx:=fun h=>by exact(cM h:cv (true&&(((p2==1)&&(o||aa))==false)) (vb ((p2==2)&&o))= (vb ((p2==2)&&o))))) ?_))))))))
  refine RL.gs (true&&(((p2==1)&&(o||aa))==false)) ((p2==2)&&o) (vb aa) rfl rfl rfl cK (RL.gs true ((p2==1)&&(o||aa)) (vb (((p2==2)&&o)&&aa)) rfl rfl rfl (kE ((p2==2)&&o) rfl (fun h=>by exact(cM h:cv (true&&(((p2==1)&&(o||aa))==false)) (vb ((p2==2)&&o))= (vb ((p2==2)&&o)))) (fun h=>by exact gD (true&&(((p2==1)&&(o||aa))==false)) h)) (RL.pick ((p2==1)&&(o||aa)) (vb (((p2==1)&&(o||aa))||(((p2==2)&&o)&&aa))) (nX true) (mv (vb (((p2==1)&&(o||aa))||(((p2==2)&&o)&&aa))) (RL.gs true (((p2==1)&&(o||aa))||(((p2==2)&&o)&&aa)) (vi p2) rfl rfl rfl cK (RL.gs true (((p2==1)&&(o||aa))||(((p2==2)&&o)&&aa)) (vb (p2==3)) rfl rfl rfl (dK .eql .i64 p2 3 rfl (fun h=>by exact(cM h:cv (true&&((((p2==1)&&(o||aa))||(((p2==2)&&o)&&aa))==false)) (vi p2)= (vi p2))) (fun _=>rfl) rfl) (RL.gs true (((p2==1)&&(o||aa))||(((p2==2)&&o)&&aa)) (vb (p2==3)) rfl rfl rfl (cK (hx:=fun h=>by exact(cM h:cv (true&&((((p2==1)&&(o||aa))||(((p2==2)&&o)&&aa))==false)) (vb (p2==3))= (vb (p2==3))))) (RL.gs (true&&((((p2==1)&&(o||aa))||(((p2==2)&&o)&&aa))==false)) (p2==3) (vb o) rfl rfl rfl cK (RL.gs true (((p2==1)&&(o||aa))||(((p2==2)&&o)&&aa)) (vb ((p2==3)&&o)) rfl rfl rfl (kE (p2==3) rfl (fun h=>by exact(cM h:cv (true&&((((p2==1)&&(o||aa))||(((p2==2)&&o)&&aa))==false)) (vb (p2==3))= (vb (p2==3)))) (fun h=>by exact gD (true&&((((p2==1)&&(o||aa))||(((p2==2)&&o)&&aa))==false)) h)) ?_))))))))
  refine RL.gs true (((p2==1)&&(o||aa))||(((p2==2)&&o)&&aa)) (vb ((p2==3)&&o)) rfl rfl rfl (cK (hx:=fun h=>by exact(cM h:cv (true&&((((p2==1)&&(o||aa))||(((p2==2)&&o)&&aa))==false)) (vb ((p2==3)&&o))= (vb ((p2==3)&&o))))) (RL.gs (true&&((((p2==1)&&(o||aa))||(((p2==2)&&o)&&aa))==false)) ((p2==3)&&o) (vb aa) rfl rfl rfl cK (RL.gs (true&&((((p2==1)&&(o||aa))||(((p2==2)&&o)&&aa))==false)) ((p2==3)&&o) (vb (!aa)) rfl rfl rfl (GV aa rfl (fun h=>by exact(cM h:cv ((true&&((((p2==1)&&(o||aa))||(((p2==2)&&o)&&aa))==false))&&(((p2==3)&&o)==true)) (vb aa)= (vb aa)))) (RL.gs true (((p2==1)&&(o||aa))||(((p2==2)&&o)&&aa)) (vb (((p2==3)&&o)&&(!aa))) rfl rfl rfl (kE ((p2==3)&&o) rfl (fun h=>by exact(cM h:cv (true&&((((p2==1)&&(o||aa))||(((p2==2)&&o)&&aa))==false)) (vb ((p2==3)&&o))= (vb ((p2==3)&&o)))) (fun h=>by exact gD (true&&((((p2==1)&&(o||aa))||(((p2==2)&&o)&&aa))==false)) h)) (RL.pick (((p2==1)&&(o||aa))||(((p2==2)&&o)&&aa)) (vb ((((p2==1)&&(o||aa))||(((p2==2)&&o)&&aa))||(((p2==3)&&o)&&(!aa)))) (nX true) (RL.nt ?_)))))
  obtain⟨a2,hj,hb⟩:=bd hb
  refine RC.jn (fun(a2: (List aF)) U w=>∃ao:Value,SH E V [(0,v0),(1,v1),(2,vi p2),(7,ag),(10,ao),(11,vi ad.2)] [rd v0 p0,rd v1 p1,rd ag ae.1,own 160 ao a2] U w) a2 ?_ ?_
  ·refine dQ hj (fun hc hj=>?_) fun hc hj=>?_
   rotate_left
   ·refine RC.skip ?_
    obtain rfl:=oi hj
    exact⟨rfl,an,j.sp 6 [2,3,4,5]⟩
   refine RC.ug mixed [0,0,0,0,0,0,0,0,0,0,0,2,0] [0,1,2,3,4,5,6,7,8,9,10,11,12] ?_
   have j:=j.drew
   refine DP.e0 zr (mv an (aW zr (mv ag (aW zr (mv (vi ad.2) (aW zr (RL.fY ad.2 1 (aW zr ?_))))))))
   obtain⟨aq,br,hj⟩:=bd hj
   refine RL.bP 4 j eC br fun cj j=>(aW zr (RL.bE aq 0 j cI (aW zr (mv ag (aW zr (mv (vi ad.2) (aW zr ?_)))))))
   obtain⟨ar,bs,hj⟩:=bd hj
   refine RL.bP 5 j eC bs fun ck j=>(aW zr (RL.bE ar 0 j cI (aW zr ?_)))
   have j:=(j.sc Int aq).sc Int ar
   refine RL.build (⟨aq,ar⟩:aF) trivial rfl j [(0,vi aq),(1,vi ar)] rfl Jl rfl (fun M hs g=>by have h:=po M;exact cU.cons (f:=fun(x:aF) y=>{x with from_:=y}) h lj (g.sat 1 _ rfl).1 fun _ h=>cU.cons (f:=fun(x:aF) y=>{x with to:=y}) h lk (g.sat 0 _ rfl).1 fun _ h=>cU.nil h) fun bt j=>?_
   refine ou zr ?_
   have j:=j.freeze 10
   obtain⟨cl,bu,hj⟩:=bd hj
   refine RL.call zt zr Jn [an,bt] zr (aD (oe N (i0:=10) (i1:=0) j zr zr bu) ?_)
   rintro a9 w j
   refine qz zr (aQ a9 (DP.d0 (DP.z ?_)))
   obtain rfl:=oi hj
   exact⟨rfl,a9,j.sp 12 [8,9,10,0]⟩
  rintro _ w ⟨ao,O,rfl,j⟩
  refine bQ (aH (RC.region (mv (vi ad.2) (RL.fY ad.2 1 (aQ (vi (IntKind.wrap .i64 (ad.2+1))) (RL.nil ?_))))))
  obtain rfl:=oi hb
  exact⟨rfl,ao,j.sp 4 [0,1,2,3]⟩
 ·intro r _ _ _ _
  exact r.elim
 rintro ad _ w rfl ⟨ak,O,rfl,j⟩
 rw [Fo.dB] at hb
 refine aH (RC.sr (mv ak (aQ ak (RL.nt (RC.ret ?_)))))
 obtain rfl:=oi hb
 exact bX (j.pk 4 [3])
theorem ri {p0: (List aI)} {p1: (List aI)} {res: (List aI)} (j:Holds E w V) (h0:V[i0]? =some (rd v0 p0)) (h1:V[i1]? =some (rd v1 p1)) (o:gE N p0 p1 p2=some res):
    Calls bN 101 [v0,v1,(vi p2)].toArray w (gL (fR E V res)):=by
 unfold gE at o
 refine enter Tryz.func101 zr zr ?_
 have j:=(j.dup (i0+0) h0).dup (i1+1) h1
 refine RC.sr (aQ (.slice none 0 0) (RL.ns (aQ (.slice none 0 0) (RL.ns (mv (.slice none 0 0) (mv v0 ?_))))))
 have j:=j.cW aI 56
 obtain⟨bc,aq,o⟩:=bd o
 refine RL.app 0 2 j zX aq fun al w j=>?_
 refine aQ al (RL.ns (mv al (mv v1 ?_)))
 obtain⟨bf,ar,o⟩:=bd o
 refine RL.app 0 1 j zX ar fun ai w j=>?_
 refine aQ ai (RL.ns (mv ai ?_))
 have j:=j.freeze 0
 obtain⟨ae,au,o⟩:=bd o
 refine RL.call zt zr Jk [ai] zr (aD (nB N (i0:=0) j zr au) ?_)
 rintro ab w j
 refine aQ ab (RL.ns (aQ (.slice none 0 0) (RL.nq (RC.sr (aQ (vi 1) (RL.nt ?_))))))
 obtain⟨bg,hN,o⟩:=bd o
 refine RC.iter (fun(aa: (List aL)×Int) U w=>∃an:Value,SH E V [(0,v0),(1,v1),(2,vi p2),(8,ab),(9,an),(10,vi aa.2)] [rd v0 p0,rd v1 p1,rd ab ae,own 143 an aa.1] U w) (fun(aa: (List aL)×Int) U w=>∃ad:Value,SH E V [(9,ad)] [rd v0 p0,rd v1 p1,rd ab ae,own 143 ad aa.1] U w) (fun(r:Empty) _ _=>r.elim) hN ?_ ?_ ?_ ?_
 ·have j:=j.cW aL 143
  exact⟨(.slice none 0 0),j.sp 5 [4,3,1,0]⟩
 ·rintro aa fl _ w ⟨af,O,rfl,j⟩ o
  refine RC.seq (RC.sr (mv (vi aa.2) (mv ab (RL.bF 2 ae j mn (ic aa.2 ((ae.length:Int)) (RL.nt (dQ o (fun hc o=>?_) fun hc o=>?_)))))))
  rotate_left
  ·refine RC.ex ?_
   obtain rfl:=oi o
   exact⟨rfl,af,j.sp 4 [0,1,2,3]⟩
  refine RC.ss (RC.block (RC.ug mixed [1,1,1,1,1,1,1,1,1,1,0,0,0,0,0,0,2,1,1,1,1,1,1,2,1,2,0,2,0] [0,1,2,3,4,5,6,7,8,9,10,11,12,13,14,15,17,18,19,20,21,22,24,16,23,25,26,27,28] ?_))
  have j:=j.drew
  refine DP.e1 af zr (fun w=>RL.move af zt DP.d1) (DP.e1 ab zr (fun w=>RL.move ab zt DP.d1) (DP.e1 (vi aa.2) zr (fun w=>RL.move (vi aa.2) zt DP.d1) (DP.e1 (vi (IntKind.wrap .i64 (aa.2 - 1))) zr (fun w=>RL.fY aa.2 1 DP.d1) ?_)))
  obtain⟨ag,ax,o⟩:=bd o
  refine DP.vx 2 zr j eC ax fun bj j=>(DP.rq ag 0 zr j cI fun a92 bk j=>(DP.e1 ab zr (fun w=>RL.move ab zt DP.d1) (DP.e1 (vi aa.2) zr (fun w=>RL.move (vi aa.2) zt DP.d1) ?_)))
  obtain⟨ah,ay,o⟩:=bd o
  refine DP.vx 4 zr j eC ay fun bl j=>(DP.rq ah 0 zr j cI fun a96 bm j=>(DP.e0 zr (mv v0 (aW zr (mv ab (aW zr (mv (vi aa.2) (aW zr ?_))))))))
  refine RL.fY aa.2 1 (aW zr ?_)
  obtain⟨aj,az,o⟩:=bd o
  refine RL.bP 6 j eC az fun bn j=>(aW zr (RL.bE aj 0 j cI (DP.d0 (DP.e1 v1 zr (fun w=>RL.move v1 zt DP.d1) (DP.e1 ab zr (fun w=>RL.move ab zt DP.d1) (DP.e1 (vi aa.2) zr (fun w=>RL.move (vi aa.2) zt DP.d1) (DP.e1 (vi (IntKind.wrap .i64 (aa.2 - 1))) zr (fun w=>RL.fY aa.2 1 DP.d1) ?_)))))))
  obtain⟨ak,a0,o⟩:=bd o
  refine DP.vx 7 zr j eC a0 fun bo j=>(DP.rq ak 0 zr j cI fun a102 bp j=>(DP.e1 (vi p2) zr (fun w=>RL.move (vi p2) zt DP.d1) (DP.e2 zr ?_)))
  obtain⟨bq,a1,o⟩:=bd o
  refine RL.call zt zr Fw [v0,(vi aj)] zr (aD (kM N (p1:=aj) (i0:=7) j zr a1) ?_)
  rintro a2 w j
  refine DP.d2 (⟨⟨⟨zt,j.gF 6⟩,j.gF 4⟩,j.gF 1⟩) (DP.e2 zr ?_)
  obtain⟨br,a3,o⟩:=bd o
  refine RL.call zt zr Fw [v1,(vi ak)] zr (aD (kM N (p1:=ak) (i0:=9) j zr a3) ?_)
  rintro a4 w j
  refine DP.d2 (⟨⟨⟨zt,j.gF 7⟩,j.gF 5⟩,j.gF 2⟩) (DP.e2 zr ?_)
  have j:=(j.freeze 1).freeze 0
  obtain⟨a5,a6,o⟩:=bd o
  refine RL.call zt zr Lp [a2,a4,(vi p2)] zr (aD (tw N (p2:=p2) (i0:=1) (i1:=0) j zr zr a6) ?_)
  rintro a7 w j
  refine DP.d2 (⟨⟨⟨zt,j.gF 8⟩,j.gF 6⟩,j.gF 3⟩) (DP.e0 zr ?_)
  have j:=((j.sc Int ag).sc Int ah).freeze 2
  refine RL.build (⟨ag,ah,a5⟩:aL) trivial rfl j [(0,vi ag),(1,vi ah),(2,a7)] rfl Jo rfl (fun M hs g=>by have h:=pj M;exact cU.cons (f:=fun(x:aL) y=>{x with from_:=y}) h n0 (g.sat 1 _ rfl).1 fun _ h=>cU.cons (f:=fun(x:aL) y=>{x with to:=y}) h ln (g.sat 0 _ rfl).1 fun _ h=>cU.cons (f:=fun(x:aL) y=>{x with iX:=y}) h n7 (g.sat 2 _ rfl).1 fun _ h=>cU.nil h) fun a8 j=>?_
  refine ou zr ?_
  have j:=j.pull 16
  obtain⟨bs,a9,o⟩:=bd o
  refine RL.call zt zr Jq [af,a8] zr (aD (nC N (i1:=0) j zr a9) ?_)
  rintro ao w j
  refine DP.d2 (⟨⟨⟨zt,j.gF 12⟩,j.gF 10⟩,j.gF 7⟩) (DP.e0 zr (aQ ao (DP.d0 ?_)))
  have j:=j.pl 18 [0,1,2,3,4,5,6,8,9,11,13,14,15,16,17]
  refine DP.z (bQ (aH (RC.region (mv (vi aa.2) (RL.fY aa.2 1 (aQ (vi (IntKind.wrap .i64 (aa.2+1))) (RL.nil ?_)))))))
  obtain rfl:=oi o
  exact⟨rfl,ao,j.sp 15 [11,12,13,0]⟩
 ·intro r _ _ _ _
  exact r.elim
 rintro aa _ w rfl ⟨ad,O,rfl,j⟩
 rw [Fo.dB] at o
 refine aH (RC.sr (mv ad ?_))
 have j:=j.freeze 3
 obtain⟨bt,ba,o⟩:=bd o
 refine RL.call zt zr Jr [ad] zr (aD (oT N (i0:=3) j zr ba) ?_)
 rintro bb w j
 refine aQ bb (RL.nt (RC.ret ?_))
 obtain rfl:=oi o
 exact bX (j.pk 5 [0])
theorem rS {p0: (List aI)} {p1: (List aI)} {res: (List aI)} (j:Holds E w V) (h0:V[i0]? =some (rd v0 p0)) (h1:V[i1]? =some (rd v1 p1)) (o:kn N p0 p1=some res):
    Calls bN 64 [v0,v1].toArray w (gL (fR E V res)):=by
 unfold kn at o
 refine enter Tryz.func64 zr zr ?_
 have j:=(j.dup (i0+0) h0).dup (i1+1) h1
 refine RC.sr (aQ (.slice none 0 0) (RL.ns (mv v0 (mv v1 ?_))))
 obtain⟨ad,aa,o⟩:=bd o
 refine RL.call zt zr Lq [v0,v1,(vi 3)] zr (aD (ri N (p2:=3) (i0:=1) (i1:=0) j zr zr aa) ?_)
 rintro ab w j
 refine aQ ab (RL.nt (RC.ret ?_))
 obtain rfl:=oi o
 exact bX (j.pk 3 [0])
theorem mH {p0:kT} {res: (List aI)} (j:Holds E w V) (h0:V[i0]? =some (rd v0 p0)) (o:gm N p0 p1=some res):
    Calls bN 30 [v0,(vi p1)].toArray w (gL (fR E V res)):=by
 unfold gm at o
 refine enter Tryz.func30 zr zr ?_
 have j:=j.dup (i0+0) h0
 refine RC.sr (RL.cS 0 v0 j zr fun ad w j=>?_)
 have j:=j.jI (i:=0) rfl
 refine aQ (.slice none 0 0) (RL.ns (aQ (.slice none 0 0) (RL.nq (RC.sr (aQ (vi 0) (RL.nt ?_))))))
 obtain⟨a8,hN,o⟩:=bd o
 refine RC.iter (fun(aa: (List aI)×Int) U w=>∃aj:Value,SH E V [(1,vi p1),(2,vp ad 0),(5,aj),(6,vi aa.2)] [pt (vp ad 0) p0,own 56 aj aa.1] U w) (fun(aa: (List aI)×Int) U w=>∃ae:Value,SH E V [(1,vi p1),(2,vp ad 0),(5,ae)] [pt (vp ad 0) p0,own 56 ae aa.1] U w) (fun(r:Empty) _ _=>r.elim) hN ?_ ?_ ?_ ?_
 ·have j:=j.cW aI 56
  exact⟨(.slice none 0 0),j.sp 3 [1,0]⟩
 ·rintro aa fl _ w ⟨ag,O,rfl,j⟩ o
  refine RC.seq (RC.sr (mv (vi aa.2) (RL.dP 0 j zr ik gK fun ba j=>(RL.bJ 0 p0.aO j nQ fun bb j=>(RL.bF 0 p0.aO j wj (ic aa.2 ((p0.aO.length:Int)) (RL.nt (dQ o (fun hc o=>?_) fun hc o=>?_))))))))
  rotate_left
  ·refine RC.ex ?_
   obtain rfl:=oi o
   exact⟨rfl,ag,j.sp 4 [2,3]⟩
  refine RC.ss (RC.bs (RL.dP 2 j zr ik gK fun bc j=>(RL.bJ 0 p0.aO j nQ fun bf j=>(mv (vi aa.2) ?_))))
  obtain⟨an,ao,o⟩:=bd o
  refine RL.bP 0 j qD ao fun bg j=>(RL.bJ 0 an j ma fun aq j=>(mv (vi p1) ?_))
  obtain⟨bh,ar,o⟩:=bd o
  refine RL.call zt zr IG [aq,(vi p1)] zr (aD (jt N (p1:=p1) (i0:=0) j zr ar) ?_)
  rintro _ w ⟨rfl,j⟩
  refine RL.nt ?_
  obtain⟨ai,hj,o⟩:=bd o
  refine RC.jn (fun(ai: (List aI)) U w=>∃af:Value,SH E V [(1,vi p1),(2,vp ad 0),(5,af),(6,vi aa.2)] [pt (vp ad 0) p0,own 56 af ai] U w) ai ?_ ?_
  ·refine dQ hj (fun hc hj=>?_) fun hc hj=>?_
   rotate_left
   ·refine RC.skip ?_
    obtain rfl:=oi hj
    exact⟨rfl,ag,j.sp 8 [6,7]⟩
   refine RC.region (mv ag (RL.dP 6 j zr ik gK fun bj j=>(RL.bJ 0 p0.aO j nQ fun bk j=>(mv (vi aa.2) ?_))))
   obtain⟨au,av,hj⟩:=bd hj
   refine RL.bP 0 j qD av fun bl j=>(RL.bJ 0 au j ma fun aw j=>?_)
   obtain⟨ax,ay,hj⟩:=bd hj
   refine RL.call zt zr Gb [aw] zr (aD (fH N (i0:=0) j zr ay) ?_)
   rintro az w j
   refine RL.dY ([ax]: (List aI)) j [az] jh oG (fun M hs g=>⟨(g.sat 0 _ zr).1,zt⟩) fun bm w j=>?_
   have j:=j.freeze 0
   obtain⟨bn,a0,hj⟩:=bd hj
   refine RL.app 13 0 j zX a0 fun ak w j=>?_
   refine aQ ak (RL.nil ?_)
   obtain rfl:=oi hj
   exact⟨rfl,ak,j.sp 14 [12,13]⟩
  rintro _ w ⟨af,O,rfl,j⟩
  refine bQ (aH (RC.region (mv (vi aa.2) (RL.fY aa.2 1 (aQ (vi (IntKind.wrap .i64 (aa.2+1))) (RL.nil ?_))))))
  obtain rfl:=oi o
  exact⟨rfl,af,j.sp 2 [0,1]⟩
 ·intro r _ _ _ _
  exact r.elim
 rintro aa _ w rfl ⟨ae,O,rfl,j⟩
 rw [Fo.dB] at o
 refine aH (RC.seq (RC.ug mixed [1,1,1,1,1,0,2,2,0] [0,1,2,3,4,5,6,7,8] ?_))
 have j:=j.drew
 refine DP.Bc 0 zr zt j zr mC i9 fun bo j=>(DP.wi p0.aJ 0 zr zt j pJ fun bp a131 bq j=>(DP.e1 (vi p1) zr (fun w=>RL.move (vi p1) zt DP.d1) ?_))
 obtain⟨a1,a2,o⟩:=bd o
 refine DP.vx 1 zr j uy a2 fun br j=>(DP.wi a1 0 zr zt j tW fun a3 a136 bt j=>(DP.e0 zr (mv ae (ou zr ?_))))
 have j:=j.freeze 7
 obtain⟨bu,a4,o⟩:=bd o
 refine RL.call zt zr J9 [ae] zr (aD (kh N (i0:=7) j zr a4) ?_)
 rintro a5 w j
 refine DP.d2 (⟨⟨zt,j.gF 4⟩,j.gF 1⟩) (DP.e2 zr ?_)
 have j:=j.freeze 0
 obtain⟨bw,a6,o⟩:=bd o
 refine RL.call zt zr MW [a3,a5] zr (aD (rS N (i0:=2) (i1:=0) j zr zr a6) ?_)
 rintro a7 w j
 refine DP.d2 (⟨⟨zt,j.gF 5⟩,j.gF 2⟩) (DP.e0 zr (aQ a7 (DP.d0 ?_)))
 have j:=j.pl 10 [0,1,3,4,6,7,8,9]
 refine DP.z (aH (RC.ret ?_))
 obtain rfl:=oi o
 exact bX (j.pk 8 [0])
theorem tx {p0 p1:aI} {res:Bool} (j:Holds E w V) (h0:V[i0]? =some (rd v0 p0)) (h1:V[i1]? =some (rd v1 p1)) (o:iV N p0 p1=some res):
    Calls bN 66 [v0,v1].toArray w (gL (aX E V res)):=by
 unfold iV at o
 refine enter Tryz.func66 zr zr ?_
 have j:=(j.dup (i0+0) h0).dup (i1+1) h1
 refine RC.sr (RL.cS 1 v0 j zr fun aa w j=>?_)
 refine RL.cS 1 v1 j zr fun ab w j=>?_
 refine aQ (vb false) (RL.ns (RL.aY zr ji (RL.aM 1 j zr eF cI (RL.aY zr ji (RL.aM 0 j zr eF cI (RL.min p0.X1 p1.X1 (RL.aY zr ij (RL.aM 1 j zr dM cI ?_))))))))
 refine RL.aY zr ij (RL.aM 0 j zr dM cI (RL.max p0.X0 p1.X0 (RL.fY (if p1.X1<p0.X1 then p1.X1 else p0.X1) (if p0.X0<p1.X0 then p1.X0 else p0.X0) (aQ (vi (IntKind.wrap .i64 ((if p1.X1<p0.X1 then p1.X1 else p0.X1) - (if p0.X0<p1.X0 then p1.X0 else p0.X0)))) (RL.ns (RL.aY zr kr (RL.aM 1 j zr fG cI (RL.aY zr kr ?_))))))))
 refine RL.aM 0 j zr fG cI (RL.min p0.Y1 p1.Y1 (RL.aY zr gW (RL.aM 1 j zr dF cI (RL.aY zr gW (RL.aM 0 j zr dF cI (RL.max p0.Y0 p1.Y0 (RL.fY (if p1.Y1<p0.Y1 then p1.Y1 else p0.Y1) (if p0.Y0<p1.Y0 then p1.Y0 else p0.Y0) (aQ (vi (IntKind.wrap .i64 ((if p1.Y1<p0.Y1 then p1.Y1 else p0.Y1) - (if p0.Y0<p1.Y0 then p1.Y0 else p0.Y0)))) ?_))))))))
 refine RL.ns (mv (vi (IntKind.wrap .i64 ((if p1.X1<p0.X1 then p1.X1 else p0.X1) - (if p0.X0<p1.X0 then p1.X0 else p0.X0)))) (ic ((IntKind.wrap .i64 ((if p1.X1<p0.X1 then p1.X1 else p0.X1) - (if p0.X0<p1.X0 then p1.X0 else p0.X0)))) 0 (mv (vb (decide ((IntKind.wrap .i64 ((if p1.X1<p0.X1 then p1.X1 else p0.X1) - (if p0.X0<p1.X0 then p1.X0 else p0.X0)))>0))) (RL.gs true (decide ((IntKind.wrap .i64 ((if p1.X1<p0.X1 then p1.X1 else p0.X1) - (if p0.X0<p1.X0 then p1.X0 else p0.X0)))>0)) (vi (IntKind.wrap .i64 ((if p1.Y1<p0.Y1 then p1.Y1 else p0.Y1) - (if p0.Y0<p1.Y0 then p1.Y0 else p0.Y0)))) rfl rfl rfl cK (RL.gs true (decide ((IntKind.wrap .i64 ((if p1.X1<p0.X1 then p1.X1 else p0.X1) - (if p0.X0<p1.X0 then p1.X0 else p0.X0)))>0)) (vb (decide ((IntKind.wrap .i64 ((if p1.Y1<p0.Y1 then p1.Y1 else p0.Y1) - (if p0.Y0<p1.Y0 then p1.Y0 else p0.Y0)))>=0))) rfl rfl rfl (dK .geq .i64 (IntKind.wrap .i64 ((if p1.Y1<p0.Y1 then p1.Y1 else p0.Y1) - (if p0.Y0<p1.Y0 then p1.Y0 else p0.Y0))) 0 rfl (fun h=>by exact(cM h:cv (true&&((decide ((IntKind.wrap .i64 ((if p1.X1<p0.X1 then p1.X1 else p0.X1) - (if p0.X0<p1.X0 then p1.X0 else p0.X0)))>0))==true)) (vi (IntKind.wrap .i64 ((if p1.Y1<p0.Y1 then p1.Y1 else p0.Y1) - (if p0.Y0<p1.Y0 then p1.Y0 else p0.Y0))))= (vi (IntKind.wrap .i64 ((if p1.Y1<p0.Y1 then p1.Y1 else p0.Y1) - (if p0.Y0<p1.Y0 then p1.Y0 else p0.Y0)))))) (fun _=>rfl) rfl) (RL.pick (decide ((IntKind.wrap .i64 ((if p1.X1<p0.X1 then p1.X1 else p0.X1) - (if p0.X0<p1.X0 then p1.X0 else p0.X0)))>0)) (vb ((decide ((IntKind.wrap .i64 ((if p1.X1<p0.X1 then p1.X1 else p0.X1) - (if p0.X0<p1.X0 then p1.X0 else p0.X0)))>0))&&(decide ((IntKind.wrap .i64 ((if p1.Y1<p0.Y1 then p1.Y1 else p0.Y1) - (if p0.Y0<p1.Y0 then p1.Y0 else p0.Y0)))>=0)))) (gD true rfl) (mv (vb ((decide ((IntKind.wrap .i64 ((if p1.X1<p0.X1 then p1.X1 else p0.X1) - (if p0.X0<p1.X0 then p1.X0 else p0.X0)))>0))&&(decide ((IntKind.wrap .i64 ((if p1.Y1<p0.Y1 then p1.Y1 else p0.Y1) - (if p0.Y0<p1.Y0 then p1.Y0 else p0.Y0)))>=0)))) (RL.gs true ((decide ((IntKind.wrap .i64 ((if p1.X1<p0.X1 then p1.X1 else p0.X1) - (if p0.X0<p1.X0 then p1.X0 else p0.X0)))>0))&&(decide ((IntKind.wrap .i64 ((if p1.Y1<p0.Y1 then p1.Y1 else p0.Y1) - (if p0.Y0<p1.Y0 then p1.Y0 else p0.Y0)))>=0))) (vi (IntKind.wrap .i64 ((if p1.X1<p0.X1 then p1.X1 else p0.X1) - (if p0.X0<p1.X0 then p1.X0 else p0.X0)))) rfl rfl rfl cK ?_))))))))
 refine RL.gs true ((decide ((IntKind.wrap .i64 ((if p1.X1<p0.X1 then p1.X1 else p0.X1) - (if p0.X0<p1.X0 then p1.X0 else p0.X0)))>0))&&(decide ((IntKind.wrap .i64 ((if p1.Y1<p0.Y1 then p1.Y1 else p0.Y1) - (if p0.Y0<p1.Y0 then p1.Y0 else p0.Y0)))>=0))) (vb (decide ((IntKind.wrap .i64 ((if p1.X1<p0.X1 then p1.X1 else p0.X1) - (if p0.X0<p1.X0 then p1.X0 else p0.X0)))>=0))) rfl rfl rfl (dK .geq .i64 (IntKind.wrap .i64 ((if p1.X1<p0.X1 then p1.X1 else p0.X1) - (if p0.X0<p1.X0 then p1.X0 else p0.X0))) 0 rfl (fun h=>by exact(cM h:cv (true&&(((decide ((IntKind.wrap .i64 ((if p1.X1<p0.X1 then p1.X1 else p0.X1) - (if p0.X0<p1.X0 then p1.X0 else p0.X0)))>0))&&(decide ((IntKind.wrap .i64 ((if p1.Y1<p0.Y1 then p1.Y1 else p0.Y1) - (if p0.Y0<p1.Y0 then p1.Y0 else p0.Y0)))>=0)))==false)) (vi (IntKind.wrap .i64 ((if p1.X1<p0.X1 then p1.X1 else p0.X1) - (if p0.X0<p1.X0 then p1.X0 else p0.X0))))= (vi (IntKind.wrap .i64 ((if p1.X1<p0.X1 then p1.X1 else p0.X1) - (if p0.X0<p1.X0 then p1.X0 else p0.X0)))))) (fun _=>rfl) rfl) (RL.gs true ((decide ((IntKind.wrap .i64 ((if p1.X1<p0.X1 then p1.X1 else p0.X1) - (if p0.X0<p1.X0 then p1.X0 else p0.X0)))>0))&&(decide ((IntKind.wrap .i64 ((if p1.Y1<p0.Y1 then p1.Y1 else p0.Y1) - (if p0.Y0<p1.Y0 then p1.Y0 else p0.Y0)))>=0))) (vb (decide ((IntKind.wrap .i64 ((if p1.X1<p0.X1 then p1.X1 else p0.X1) - (if p0.X0<p1.X0 then p1.X0 else p0.X0)))>=0))) rfl rfl rfl (cK (hx:=fun h=>by exact(cM h:cv (true&&(((decide ((IntKind.wrap .i64 ((if p1.X1<p0.X1 then p1.X1 else p0.X1) - (if p0.X0<p1.X0 then p1.X0 else p0.X0)))>0))&&(decide ((IntKind.wrap .i64 ((if p1.Y1<p0.Y1 then p1.Y1 else p0.Y1) - (if p0.Y0<p1.Y0 then p1.Y0 else p0.Y0)))>=0)))==false)) (vb (decide ((IntKind.wrap .i64 ((if p1.X1<p0.X1 then p1.X1 else p0.X1) - (if p0.X0<p1.X0 then p1.X0 else p0.X0)))>=0)))= (vb (decide ((IntKind.wrap .i64 ((if p1.X1<p0.X1 then p1.X1 else p0.X1) - (if p0.X0<p1.X0 then p1.X0 else p0.X0)))>=0)))))) (RL.gs (true&&(((decide ((IntKind.wrap .i64 ((if p1.X1<p0.X1 then p1.X1 else p0.X1) - (if p0.X0<p1.X0 then p1.X0 else p0.X0)))>0))&&(decide ((IntKind.wrap .i64 ((if p1.Y1<p0.Y1 then p1.Y1 else p0.Y1) - (if p0.Y0<p1.Y0 then p1.Y0 else p0.Y0)))>=0)))==false)) (decide ((IntKind.wrap .i64 ((if p1.X1<p0.X1 then p1.X1 else p0.X1) - (if p0.X0<p1.X0 then p1.X0 else p0.X0)))>=0)) (vi (IntKind.wrap .i64 ((if p1.Y1<p0.Y1 then p1.Y1 else p0.Y1) - (if p0.Y0<p1.Y0 then p1.Y0 else p0.Y0)))) rfl rfl rfl cK (RL.gs (true&&(((decide ((IntKind.wrap .i64 ((if p1.X1<p0.X1 then p1.X1 else p0.X1) - (if p0.X0<p1.X0 then p1.X0 else p0.X0)))>0))&&(decide ((IntKind.wrap .i64 ((if p1.Y1<p0.Y1 then p1.Y1 else p0.Y1) - (if p0.Y0<p1.Y0 then p1.Y0 else p0.Y0)))>=0)))==false)) (decide ((IntKind.wrap .i64 ((if p1.X1<p0.X1 then p1.X1 else p0.X1) - (if p0.X0<p1.X0 then p1.X0 else p0.X0)))>=0)) (vb (decide ((IntKind.wrap .i64 ((if p1.Y1<p0.Y1 then p1.Y1 else p0.Y1) - (if p0.Y0<p1.Y0 then p1.Y0 else p0.Y0)))>0))) rfl rfl rfl (dK .gtr .i64 (IntKind.wrap .i64 ((if p1.Y1<p0.Y1 then p1.Y1 else p0.Y1) - (if p0.Y0<p1.Y0 then p1.Y0 else p0.Y0))) 0 rfl (fun h=>by exact(cM h:cv ((true&&(((decide ((IntKind.wrap .i64 ((if p1.X1<p0.X1 then p1.X1 else p0.X1) - (if p0.X0<p1.X0 then p1.X0 else p0.X0)))>0))&&(decide ((IntKind.wrap .i64 ((if p1.Y1<p0.Y1 then p1.Y1 else p0.Y1) - (if p0.Y0<p1.Y0 then p1.Y0 else p0.Y0)))>=0)))==false))&&((decide ((IntKind.wrap .i64 ((if p1.X1<p0.X1 then p1.X1 else p0.X1) - (if p0.X0<p1.X0 then p1.X0 else p0.X0)))>=0))==true)) (vi (IntKind.wrap .i64 ((if p1.Y1<p0.Y1 then p1.Y1 else p0.Y1) - (if p0.Y0<p1.Y0 then p1.Y0 else p0.Y0))))= (vi (IntKind.wrap .i64 ((if p1.Y1<p0.Y1 then p1.Y1 else p0.Y1) - (if p0.Y0<p1.Y0 then p1.Y0 else p0.Y0)))))) (fun _=>rfl) rfl) (RL.gs true ((decide ((IntKind.wrap .i64 ((if p1.X1<p0.X1 then p1.X1 else p0.X1) - (if p0.X0<p1.X0 then p1.X0 else p0.X0)))>0))&&(decide ((IntKind.wrap .i64 ((if p1.Y1<p0.Y1 then p1.Y1 else p0.Y1) - (if p0.Y0<p1.Y0 then p1.Y0 else p0.Y0)))>=0))) (vb ((decide ((IntKind.wrap .i64 ((if p1.X1<p0.X1 then p1.X1 else p0.X1) - (if p0.X0<p1.X0 then p1.X0 else p0.X0)))>=0))&&(decide ((IntKind.wrap .i64 ((if p1.Y1<p0.Y1 then p1.Y1 else p0.Y1) - (if p0.Y0<p1.Y0 then p1.Y0 else p0.Y0)))>0)))) rfl rfl rfl (kE (decide ((IntKind.wrap .i64 ((if p1.X1<p0.X1 then p1.X1 else p0.X1) - (if p0.X0<p1.X0 then p1.X0 else p0.X0)))>=0)) rfl (fun h=>by exact(cM h:cv (true&&(((decide ((IntKind.wrap .i64 ((if p1.X1<p0.X1 then p1.X1 else p0.X1) - (if p0.X0<p1.X0 then p1.X0 else p0.X0)))>0))&&(decide ((IntKind.wrap .i64 ((if p1.Y1<p0.Y1 then p1.Y1 else p0.Y1) - (if p0.Y0<p1.Y0 then p1.Y0 else p0.Y0)))>=0)))==false)) (vb (decide ((IntKind.wrap .i64 ((if p1.X1<p0.X1 then p1.X1 else p0.X1) - (if p0.X0<p1.X0 then p1.X0 else p0.X0)))>=0)))= (vb (decide ((IntKind.wrap .i64 ((if p1.X1<p0.X1 then p1.X1 else p0.X1) - (if p0.X0<p1.X0 then p1.X0 else p0.X0)))>=0))))) (fun h=>by exact gD (true&&(((decide ((IntKind.wrap .i64 ((if p1.X1<p0.X1 then p1.X1 else p0.X1) - (if p0.X0<p1.X0 then p1.X0 else p0.X0)))>0))&&(decide ((IntKind.wrap .i64 ((if p1.Y1<p0.Y1 then p1.Y1 else p0.Y1) - (if p0.Y0<p1.Y0 then p1.Y0 else p0.Y0)))>=0)))==false)) h)) (RL.pick ((decide ((IntKind.wrap .i64 ((if p1.X1<p0.X1 then p1.X1 else p0.X1) - (if p0.X0<p1.X0 then p1.X0 else p0.X0)))>0))&&(decide ((IntKind.wrap .i64 ((if p1.Y1<p0.Y1 then p1.Y1 else p0.Y1) - (if p0.Y0<p1.Y0 then p1.Y0 else p0.Y0)))>=0))) (vb (((decide ((IntKind.wrap .i64 ((if p1.X1<p0.X1 then p1.X1 else p0.X1) - (if p0.X0<p1.X0 then p1.X0 else p0.X0)))>0))&&(decide ((IntKind.wrap .i64 ((if p1.Y1<p0.Y1 then p1.Y1 else p0.Y1) - (if p0.Y0<p1.Y0 then p1.Y0 else p0.Y0)))>=0)))||((decide ((IntKind.wrap .i64 ((if p1.X1<p0.X1 then p1.X1 else p0.X1) - (if p0.X0<p1.X0 then p1.X0 else p0.X0)))>=0))&&(decide ((IntKind.wrap .i64 ((if p1.Y1<p0.Y1 then p1.Y1 else p0.Y1) - (if p0.Y0<p1.Y0 then p1.Y0 else p0.Y0)))>0))))) (nX true) (aQ (vb (((decide ((IntKind.wrap .i64 ((if p1.X1<p0.X1 then p1.X1 else p0.X1) - (if p0.X0<p1.X0 then p1.X0 else p0.X0)))>0))&&(decide ((IntKind.wrap .i64 ((if p1.Y1<p0.Y1 then p1.Y1 else p0.Y1) - (if p0.Y0<p1.Y0 then p1.Y0 else p0.Y0)))>=0)))||((decide ((IntKind.wrap .i64 ((if p1.X1<p0.X1 then p1.X1 else p0.X1) - (if p0.X0<p1.X0 then p1.X0 else p0.X0)))>=0))&&(decide ((IntKind.wrap .i64 ((if p1.Y1<p0.Y1 then p1.Y1 else p0.Y1) - (if p0.Y0<p1.Y0 then p1.Y0 else p0.Y0)))>0))))) (RL.nt (RC.ret ?_))))))))
 obtain rfl:=oi o
 exact bX ⟨rfl,j.drop 4⟩
theorem sF {p0: (List (List aI))} {p1: (List aI)} {res: (List (List aI))} (j:Holds E w V) (h0:V[i0]? =some (rd v0 p0)) (h1:V[i1]? =some (rd v1 p1)) (hb:jC N p0 p1=some res):
    Calls bN 67 [v0,v1].toArray w (gL (oJ E V res)):=by
 unfold jC at hb
 refine enter Tryz.func67 zr zr ?_
 have j:=(j.dup (i0+0) h0).dup (i1+1) h1
 refine RC.sr (aQ (.slice none 0 0) (RL.ns (mv v0 (RL.bF 1 p0 j qC (aQ (vi p0.length) (RL.nq ?_))))))
 obtain⟨a3,hN,hb⟩:=bd hb
 refine RC.iter (fun(ab:Int)=>SH E V [(0,v0),(1,v1),(5,vi ab)] [rd v0 p0,rd v1 p1]) (fun(ab:Int)=>SH E V [(0,v0),(1,v1),(5,vi ab)] [rd v0 p0,rd v1 p1]) (fun(r:Empty) _ _=>r.elim) hN ?_ ?_ ?_ ?_
 ·exact j.sp 2 [1,0]
 ·rintro ab fl _ w ⟨O,rfl,j⟩ hb
  refine RC.seq (RC.seq ?_)
  obtain⟨ae,hj,hb⟩:=bd hb
  refine RC.jn (fun(ae:Bool)=>SH E V [(0,v0),(1,v1),(5,vi ab),(23,vb ae)] [rd v0 p0,rd v1 p1]) ae ?_ ?_
  ·refine RC.ug mixed [0,0,0,0,0,0,0,0,0,0,0,0,0,2,0] [0,1,2,3,4,5,6,7,8,9,10,11,12,13,14] ?_
   have j:=j.drew
   refine DP.e0 zr (mv (vi ab) (aW zr (ic ab 0 (aW zr (mv (vb (decide (ab>0))) (DP.d0 (eZ hj (fun o hj=>?_) fun o hj=>?_)))))))
   rotate_left
   ·refine DP.e0 zr (bC o (aW zr (bC o (aW zr (bC o (aW zr (bC o (aW zr ?_))))))))
    refine bC o (aW zr (bC o (aW zr (bC o (aW zr (bC o (aW zr (bC o ?_))))))))
    refine aW zr (bC o (ou zr (bC o (qz zr (fq o (vb false) (DP.d0 (DP.z ?_)))))))
    obtain rfl:=oi hj
    exact⟨rfl,j.sp 2 [0,1]⟩
   refine DP.e0 zr (RL.move v1 (cg o) (aW zr ?_))
   obtain⟨ai,aj,hj⟩:=bd hj
   refine RL.bP (hg:=(cg o)) 1 j jh aj fun a5 j=>(aW zr (RL.bJ (hg:=(cg o)) 0 ai j iE fun ak j=>(aW zr (RL.move v0 (cg o) (aW zr (RL.move (vi ab) (cg o) (aW zr (RL.fY (hg:=(cg o)) ab 1 ?_))))))))
   refine aW zr ?_
   obtain⟨al,an,hj⟩:=bd hj
   refine RL.bP (hg:=(cg o)) 2 j uy an fun a6 j=>(aW zr (RL.bJ (hg:=(cg o)) 0 al j tW fun a7 j=>(aW zr ?_)))
   obtain⟨ao,aq,hj⟩:=bd hj
   refine RL.bP (hg:=(cg o)) 0 j jh aq fun a8 j=>(aW zr (RL.bJ (hg:=(cg o)) 0 ao j iE fun ar j=>(ou zr ?_)))
   obtain⟨au,av,hj⟩:=bd hj
   refine RL.call (cg o) zr Lh [ak,ar] zr (aD (oc N (i0:=4) (i1:=0) j zr zr av) ?_)
   rintro _ w ⟨rfl,j⟩
   refine qz zr (fq o (vb au) (DP.d0 (DP.z ?_)))
   obtain rfl:=oi hj
   exact⟨rfl,j.sp 8 [6,7]⟩
  rintro _ w ⟨O,rfl,j⟩
  refine aH (dQ hb (fun hc hb=>?_) fun hc hb=>?_)
  rotate_left
  ·refine RC.ex ?_
   obtain rfl:=oi hb
   exact⟨rfl,j.sp 2 [0,1]⟩
  refine RC.sn (RC.block (RC.region (mv (vi ab) (RL.fY ab 1 (aQ (vi (IntKind.wrap .i64 (ab - 1))) (RL.nil (bQ ?_)))))))
  obtain rfl:=oi hb
  exact⟨rfl,j.sp 2 [0,1]⟩
 ·intro r _ _ _ _
  exact r.elim
 rintro ab _ w rfl ⟨O,rfl,j⟩
 rw [Fo.dB] at hb
 refine aH (RC.sr (aQ (.slice none 0 0) (RL.ns (mv (.slice none 0 0) (mv v0 (mv (vi ab) ?_))))))
 obtain⟨a9,ax,hb⟩:=bd hb
 refine RL.cut (hl:= .inr ⟨rfl,zr⟩) 0 j uy (.inl zr) ax fun ba j=>?_
 have j:=j.cW (List aI) 23
 obtain⟨bb,ay,hb⟩:=bd hb
 refine RL.app 0 1 j Hk ay fun af w j=>?_
 refine aQ af (RL.ns (mv af (mv v1 (RL.dY ([p1]: (List (List aI))) j [v1] uy JZ (fun M hs g=>⟨(g.sat 3 _ zr).1,zt⟩) fun bc w j=>?_))))
 have j:=j.freeze 0
 obtain⟨bf,az,hb⟩:=bd hb
 refine RL.app 1 0 j Hk az fun ag w j=>?_
 refine aQ ag (RL.ns (mv ag (mv v0 (mv (vi ab) ?_))))
 obtain⟨bg,a0,hb⟩:=bd hb
 refine RL.cut 3 j uy (.inr ⟨rfl,zr⟩) a0 fun bh j=>?_
 obtain⟨bj,a1,hb⟩:=bd hb
 refine RL.app 2 0 j Hk a1 fun a2 w j=>?_
 refine aQ a2 (RL.nt (RC.ret ?_))
 obtain rfl:=oi hb
 exact bX (j.pk 6 [2])
end Go.Gk
