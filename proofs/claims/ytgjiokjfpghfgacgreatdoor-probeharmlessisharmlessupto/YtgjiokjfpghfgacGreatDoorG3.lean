/-
  Printed texts: Go functions as plain functions, and that they are. No statement of the seed is proved here.
-/
import Derived.Test.YtgjiokjfpghfgacGreatDoorG1
import Derived.Test.YtgjiokjfpghfgacGreatDoorG2
import Derived.Test.YtgjiokjfpghfgacGreatDoorA2
set_option linter.unusedVariables false
set_option linter.unusedSimpArgs false
set_option linter.unusedSectionVars false
set_option maxRecDepth 100000
set_option maxHeartbeats 4000000
namespace Go.Gk
open Go Go.Proofs
variable (N:Nat) {E w:World} {b0 b1 i0 i1:Nat} {p0 p1 p2 res:Int} {v0 v0_0 v0_1 v0_10 v0_11 v0_2 v0_3 v0_4 v0_5 v0_6 v0_7 v0_8 v0_9 v1 v1_0 v2:Value} {V:List HP}
theorem lI {p0:bU} {res:Bool} (j:Holds E w V) (h0:V[i0]? =some (rd v0 p0)) (hb:jf N p0 p1=some res):
    Calls bF 45 [v0,(vi p1)].toArray w (gT (bD E V res)):=by
 unfold jf at hb
 refine enter Tryz.func45 zr zr ?_
 have j:=j.dup (i0+0) h0
 refine RC.sr (RL.dD 0 v0 j zr fun o w j=>?_)
 refine aP (vb false) (RL.ns (RL.aZ zr sd (RL.aK 0 j zr lS cG (mv (vi p1) (ic p0.bM p1 (mv (vb (decide (p0.bM<=p1))) (RL.gs true (decide (p0.bM<=p1)) (vi p1) zr zr zr dQ (RL.gs true (decide (p0.bM<=p1)) (vp o 4) zr zr zr (dI uA) ?_))))))))
 refine RL.gs true (decide (p0.bM<=p1)) (vi p0.To) rfl rfl rfl (bQ 0 rfl j (fun h=>by exact(cQ h:cv (true&&((decide (p0.bM<=p1))==true)) (vp o 4)= (vp o 4))) rfl m0 cG) (RL.gs true (decide (p0.bM<=p1)) (vb (decide (p1<=p0.To))) rfl rfl rfl (dT .leq .i64 p1 p0.To rfl (fun h=>by exact(cQ h:cv (true&&((decide (p0.bM<=p1))==true)) (vi p1)= (vi p1))) (fun h=>by exact(cQ h:cv (true&&((decide (p0.bM<=p1))==true)) (vi p0.To)= (vi p0.To))) rfl) (RL.pick (decide (p0.bM<=p1)) (vb ((decide (p0.bM<=p1))&&(decide (p1<=p0.To)))) (iU true) (aP (vb ((decide (p0.bM<=p1))&&(decide (p1<=p0.To)))) (RL.nt (RC.ret ?_)))))
 obtain rfl:=oi hb
 exact cI ⟨rfl,j.drop 2⟩
def wt (E:World) (V:List HP) (res: (List Int)×Int) (v:Value) (w:World):Prop:=∃u0:Value,v = .tuple #[u0,(vi res.2)]/\Holds E w ([rd u0 res.1]++V)
theorem pF {p0: (List aA)} {res: (List Int)×Int} (j:Holds E w V) (h0:V[i0]? =some (rd v0 p0)) (o:kA N p0 p1 p2=some res):
    Calls bF 91 [v0,(vi p1),(vi p2)].toArray w (gT (wt E V res)):=by
 unfold kA at o
 refine enter Tryz.func91 zr zr ?_
 have j:=j.dup (i0+0) h0
 refine RC.sr (aP (.slice none 0 0) (aP (vi 0) (RL.nq (RC.bs (mv v0 (RL.bE 0 p0 j rn (ic ((p0.length:Int)) 0 (aP (vb ((p0.length:Int)==0)) ?_))))))))
 refine RL.nt (fH o (fun hc o=>?_) fun hc o=>?_)
 ·refine RC.sr (mv (vi p2) (aP (.slice none 0 0) (aP (vi p2) (RL.nt (RC.rb (cC ?_))))))
  obtain rfl:=oi o
  have j:=j.rZ Int
  exact ma ⟨(.slice none 0 0),zr,j.pk 2 [0]⟩
 refine RC.sr (mv (vi p1) (mv v0 ?_))
 obtain⟨ae,ag,o⟩:=bd o
 refine RL.cB 0 j mC ag fun al j=>(RL.ig 0 j zr mQ fB fun an j=>(RL.bG ae.Y0 0 j cG (ic p1 ae.Y0 (aP (vb (decide (p1<ae.Y0))) (RL.nt (fH o (fun hc o=>?_) fun hc o=>?_))))))
 ·refine RC.seq (RC.xf mixed ?_)
  have j:=j.drew
  refine RO.go (mv (vi p2) (RO.nx (mv v0 (RO.nx ?_))))
  obtain⟨aa,ah,o⟩:=bd o
  refine RL.cB 2 j mC ah fun ao j=>(RO.nx (RL.ig 0 j zr mQ fB fun aq j=>(RO.nx (RL.bG aa.Y0 0 j cG (RO.nx (RL.min p2 aa.Y0 (RO.nx (aP (.slice none 0 0) ?_))))))))
  refine RO.nx (aP (vi (if aa.Y0<p2 then aa.Y0 else p2)) (RO.last (aG (RC.rb (cC ?_)))))
  obtain rfl:=oi o
  have j:=j.rZ Int
  exact ma ⟨(.slice none 0 0),zr,j.pk 6 [0]⟩
 refine RC.skip (bT (aG (RC.seq (RC.xf mixed ?_))))
 have j:=j.drew
 refine RO.go (mv v0 (RO.nx ?_))
 obtain⟨ai,aj,o⟩:=bd o
 refine RL.cB 2 j mC aj fun ar j=>(RO.nx (RL.ig 0 j zr jW cZ fun au j=>(RO.nx (RL.bP 0 ai.Xs j eU fun af j=>(RO.nx (mv (vi p2) (RO.nx (mv v0 ?_))))))))
 refine RO.nx ?_
 obtain⟨ab,ak,o⟩:=bd o
 refine RL.cB 5 j mC ak fun av j=>(RO.nx (RL.ig 0 j zr kZ dZ fun aw j=>(RO.nx (RL.bG ab.Y1 0 j cG (RO.nx (RL.min p2 ab.Y1 (RO.nx (aP af ?_))))))))
 refine RO.nx (aP (vi (if ab.Y1<p2 then ab.Y1 else p2)) (RO.last (aG (RC.ret ?_))))
 obtain rfl:=oi o
 exact ma ⟨af,zr,j.pk 8 [2]⟩
theorem xn {p0: (List Int)} {p1: (List Int)} {p2:Bool->Bool->Option Bool} {res: (List Int)} (j:Holds E w V) (h0:V[i0]? =some (rd v0 p0)) (h1:V[i1]? =some (rd v1 p1)) (h2:Gg bF E V v2 p2 (fun(r:Bool)=>Value.bool r)) (hb:m8 N p0 p1 p2=some res):
    Calls bF 92 [v0,v1,v2].toArray w (gT (kf E V res)):=by
 unfold m8 at hb
 refine enter Tryz.func92 zr zr ?_
 have j:=(j.dup (i0+0) h0).dup (i1+1) h1
 refine RC.sr (aP (.slice none 0 0) (RL.ns (aP (.slice none 0 0) (RL.ns (aP (vb false) (aP (vb false) (aP (vb false) (RL.nq ?_))))))))
 obtain⟨bu,hN,hb⟩:=bd hb
 refine RC.iter (fun(o: (List Int)×(List Int)×(List Int)×Bool×Bool×Bool) U w=>∃a7 a8 a9:Value,SH E V [(0,a7),(1,a8),(2,v2),(7,a9),(8,vb o.2.2.2.1),(9,vb o.2.2.2.2.1),(10,vb o.2.2.2.2.2)] [rd a7 o.1,rd a8 o.2.1,own 3 a9 o.2.2.1] U w) (fun(o: (List Int)×(List Int)×(List Int)×Bool×Bool×Bool) U w=>∃av:Value,SH E V [(7,av)] [own 3 av o.2.2.1] U w) (fun(r:Empty) _ _=>r.elim) hN ?_ ?_ ?_ ?_
 ·have j:=j.dB Int 3
  exact⟨v0,v1,(.slice none 0 0),j.sp 3 [2,1,0]⟩
 ·rintro o fl _ w ⟨ah,ad,ae,O,rfl,j⟩ hb
  refine RC.seq (RC.seq ?_)
  obtain⟨a1,hj,hb⟩:=bd hb
  refine RC.jn (fun(a1:Bool)=>SH E V [(0,ah),(1,ad),(2,v2),(7,ae),(8,vb o.2.2.2.1),(9,vb o.2.2.2.2.1),(10,vb o.2.2.2.2.2),(20,vb a1)] [rd ah o.1,rd ad o.2.1,own 3 ae o.2.2.1]) a1 ?_ ?_
  ·refine RC.region (mv ah (RL.bE 0 o.1 j lx (ic ((o.1.length:Int)) 0 (mv (vb (decide ((o.1.length:Int)>0))) (fY hj (fun ao hj=>?_) fun ao hj=>?_)))))
   ·refine bR ao (bR ao (bR ao (fV ao (vb true) (RL.nil ?_))))
    obtain rfl:=oi hj
    exact⟨rfl,j.sp 3 [0,1,2]⟩
   refine RL.move ad (cg ao) (RL.bE (hg:=(cg ao)) 1 o.2.1 j lx (RL.jY (o.2.1.length:Int) 0 (cg ao) (fV ao (vb (decide ((o.2.1.length:Int)>0))) (RL.nil ?_))))
   obtain rfl:=oi hj
   exact⟨rfl,j.sp 3 [0,1,2]⟩
  rintro _ w ⟨O,rfl,j⟩
  refine aG (fH hb (fun hc hb=>?_) fun hc hb=>?_)
  rotate_left
  ·refine RC.ex ?_
   obtain rfl:=oi hb
   exact⟨rfl,ae,j.sp 3 [2]⟩
  refine RC.sn (RC.bs (aP (vi 0) (RL.nq (RC.seq ?_))))
  obtain⟨a2,hj,hb⟩:=bd hb
  refine RC.jn (fun(a2:Bool)=>SH E V [(0,ah),(1,ad),(2,v2),(7,ae),(8,vb o.2.2.2.1),(9,vb o.2.2.2.2.1),(10,vb o.2.2.2.2.2),(37,vb a2)] [rd ah o.1,rd ad o.2.1,own 3 ae o.2.2.1]) a2 ?_ ?_
  ·refine RC.xf mixed ?_
   have j:=j.drew
   refine RO.go (mv ad (RO.nx (RL.bE 1 o.2.1 j lx (RO.nx (ic ((o.2.1.length:Int)) 0 (RO.nx (mv (vb ((o.2.1.length:Int)==0)) (fY hj (fun ai hj=>?_) fun ai hj=>?_))))))))
   ·refine RO.nx (bR ai (RO.nx (bR ai (RO.nx (bR ai (RO.nx (bR ai (RO.nx ?_))))))))
    refine yD (RO.nx (yD (RO.nx (yD (RO.nx (yD (RO.nx (yD ?_))))))))
    refine RO.nx (yD (RO.nx (yD (RO.nx (bR ai (RO.nx (fV ai (vb true) (RO.last ?_))))))))
    obtain rfl:=oi hj
    exact⟨rfl,j.sp 3 [0,1,2]⟩
   refine RO.nx (RL.move ah (cg ai) (RO.nx (RL.bE (hg:=(cg ai)) 0 o.1 j lx (RO.nx (RL.jY (o.1.length:Int) 0 (cg ai) (RO.nx (RL.move (vb (decide ((o.1.length:Int)>0))) (cg ai) (fY hj (fun af hj=>?_) fun af hj=>?_))))))))
   rotate_left
   ·refine RO.nx (bR af (RO.nx (bR af (RO.nx (bR af (RO.nx (bR af (RO.nx ?_))))))))
    refine bR af (RO.nx (bR af (RO.nx (bR af (RO.nx (fV af (vb false) (hg:=(cg ai)) (RO.nx (fV ai (vb false) ?_))))))))
    refine RO.last ?_
    obtain rfl:=oi hj
    exact⟨rfl,j.sp 3 [0,1,2]⟩
   refine RO.nx (RL.move ah (cg af) (RO.nx ?_))
   obtain⟨ax,bj,hj⟩:=bd hj
   refine RL.cB (hg:=(cg af)) 0 j eE bj fun bx j=>(RO.nx (RL.bG (hg:=(cg af)) ax 0 j cG (RO.nx (RL.move ad (cg af) (RO.nx ?_)))))
   obtain⟨ay,bk,hj⟩:=bd hj
   refine RL.cB (hg:=(cg af)) 2 j eE bk fun bz j=>(RO.nx (RL.bG (hg:=(cg af)) ay 0 j cG (RO.nx (RL.jY ax ay (cg af) (RO.nx (fV af (vb (decide (ax<=ay))) (hg:=(cg ai)) (RO.nx (fV ai (vb (decide (ax<=ay))) ?_))))))))
   refine RO.last ?_
   obtain rfl:=oi hj
   exact⟨rfl,j.sp 5 [2,3,4]⟩
  rintro _ w ⟨O,rfl,j⟩
  refine aG ?_
  obtain⟨ag,hj,hb⟩:=bd hb
  refine RC.jn (fun(ag:Int)=>SH E V [(0,ah),(1,ad),(2,v2),(7,ae),(8,vb o.2.2.2.1),(9,vb o.2.2.2.2.1),(10,vb o.2.2.2.2.2),(11,vi ag)] [rd ah o.1,rd ad o.2.1,own 3 ae o.2.2.1]) ag ?_ ?_
  ·refine fH hj (fun hc hj=>?_) fun hc hj=>?_
   ·refine RC.region (mv ah ?_)
    obtain⟨ba,bl,hj⟩:=bd hj
    refine RL.cB 0 j eE bl fun b0 j=>(RL.bG ba 0 j cG (aP (vi ba) (RL.nil ?_)))
    obtain rfl:=oi hj
    exact⟨rfl,j.sp 4 [1,2,3]⟩
   refine RC.region (mv ad ?_)
   obtain⟨bb,bm,hj⟩:=bd hj
   refine RL.cB 1 j eE bm fun b1 j=>(RL.bG bb 0 j cG (aP (vi bb) (RL.nil ?_)))
   obtain rfl:=oi hj
   exact⟨rfl,j.sp 4 [1,2,3]⟩
  rintro _ w ⟨O,rfl,j⟩
  refine aG (RC.seq (RC.seq ?_))
  obtain⟨a3,hj,hb⟩:=bd hb
  refine RC.jn (fun(a3:Bool)=>SH E V [(0,ah),(1,ad),(2,v2),(7,ae),(8,vb o.2.2.2.1),(9,vb o.2.2.2.2.1),(10,vb o.2.2.2.2.2),(11,vi ag),(53,vb a3)] [rd ah o.1,rd ad o.2.1,own 3 ae o.2.2.1]) a3 ?_ ?_
  ·refine RC.region (mv ah (RL.bE 0 o.1 j lx (ic ((o.1.length:Int)) 0 (mv (vb (decide ((o.1.length:Int)>0))) (fY hj (fun aj hj=>?_) fun aj hj=>?_)))))
   rotate_left
   ·refine bR aj (bR aj (bR aj (bR aj (bR aj (fV aj (vb false) (RL.nil ?_))))))
    obtain rfl:=oi hj
    exact⟨rfl,j.sp 3 [0,1,2]⟩
   refine RL.move ah (cg aj) ?_
   obtain⟨a4,bn,hj⟩:=bd hj
   refine RL.cB (hg:=(cg aj)) 0 j eE bn fun b2 j=>(RL.bG (hg:=(cg aj)) a4 0 j cG (RL.move (vi ag) (cg aj) (RL.jY a4 ag (cg aj) (fV aj (vb (a4==ag)) (RL.nil ?_)))))
   obtain rfl:=oi hj
   exact⟨rfl,j.sp 4 [1,2,3]⟩
  rintro _ w ⟨O,rfl,j⟩
  refine aG ?_
  obtain⟨al,hj,hb⟩:=bd hb
  refine RC.jn (fun(al: (List Int)×Bool) U w=>∃an:Value,SH E V [(0,an),(1,ad),(2,v2),(7,ae),(8,vb al.2),(9,vb o.2.2.2.2.1),(10,vb o.2.2.2.2.2),(11,vi ag)] [rd ad o.2.1,own 3 ae o.2.2.1,rd an al.1] U w) al ?_ ?_
  ·refine fH hj (fun hc hj=>?_) fun hc hj=>?_
   rotate_left
   ·refine RC.skip ?_
    obtain rfl:=oi hj
    exact⟨rfl,ah,j.sp 3 [1,2,0]⟩
   refine RC.region (mv ah ?_)
   obtain⟨b3,bo,hj⟩:=bd hj
   refine RL.cut 0 j eE (.inr ⟨rfl,zr⟩) bo fun bc j=>(mv (vb o.2.2.2.1) (RL.not o.2.2.2.1 (aP bc (aP (vb (!o.2.2.2.1)) (RL.nil ?_)))))
   obtain rfl:=oi hj
   exact⟨rfl,bc,j.sp 4 [2,3,0]⟩
  rintro _ w ⟨an,O,rfl,j⟩
  refine aG (RC.seq (RC.seq ?_))
  obtain⟨a5,hj,hb⟩:=bd hb
  refine RC.jn (fun(a5:Bool)=>SH E V [(0,an),(1,ad),(2,v2),(7,ae),(8,vb al.2),(9,vb o.2.2.2.2.1),(10,vb o.2.2.2.2.2),(11,vi ag),(67,vb a5)] [rd an al.1,rd ad o.2.1,own 3 ae o.2.2.1]) a5 ?_ ?_
  ·refine RC.region (mv ad (RL.bE 0 o.2.1 j lx (ic ((o.2.1.length:Int)) 0 (mv (vb (decide ((o.2.1.length:Int)>0))) (fY hj (fun ak hj=>?_) fun ak hj=>?_)))))
   rotate_left
   ·refine bR ak (bR ak (bR ak (bR ak (bR ak (fV ak (vb false) (RL.nil ?_))))))
    obtain rfl:=oi hj
    exact⟨rfl,j.sp 3 [2,0,1]⟩
   refine RL.move ad (cg ak) ?_
   obtain⟨a6,bp,hj⟩:=bd hj
   refine RL.cB (hg:=(cg ak)) 0 j eE bp fun b4 j=>(RL.bG (hg:=(cg ak)) a6 0 j cG (RL.move (vi ag) (cg ak) (RL.jY a6 ag (cg ak) (fV ak (vb (a6==ag)) (RL.nil ?_)))))
   obtain rfl:=oi hj
   exact⟨rfl,j.sp 4 [3,1,2]⟩
  rintro _ w ⟨O,rfl,j⟩
  refine aG ?_
  obtain⟨ar,hj,hb⟩:=bd hb
  refine RC.jn (fun(ar: (List Int)×Bool) U w=>∃au:Value,SH E V [(0,an),(1,au),(2,v2),(7,ae),(8,vb al.2),(9,vb ar.2),(10,vb o.2.2.2.2.2),(11,vi ag)] [rd an al.1,own 3 ae o.2.2.1,rd au ar.1] U w) ar ?_ ?_
  ·refine fH hj (fun hc hj=>?_) fun hc hj=>?_
   rotate_left
   ·refine RC.skip ?_
    obtain rfl:=oi hj
    exact⟨rfl,ad,j.sp 3 [0,2,1]⟩
   refine RC.region (mv ad ?_)
   obtain⟨b5,bq,hj⟩:=bd hj
   refine RL.cut 1 j eE (.inr ⟨rfl,zr⟩) bq fun bf j=>(mv (vb o.2.2.2.2.1) (RL.not o.2.2.2.2.1 (aP bf (aP (vb (!o.2.2.2.2.1)) (RL.nil ?_)))))
   obtain rfl:=oi hj
   exact⟨rfl,bf,j.sp 4 [1,3,0]⟩
  rintro _ w ⟨au,O,rfl,j⟩
  refine aG (RC.sr (mv v2 (mv (vb al.2) (mv (vb ar.2) ?_))))
  have j:=(j.sc Bool al.2).sc Bool ar.2
  obtain⟨aw,br,hb⟩:=bd hb
  refine RL.AS 1 0 zt zr j zr h2 5 zr zr zr zr zr br fun w j=>(aP (vb aw) (RL.ns (mv (vb aw) (mv (vb o.2.2.2.2.2) (RL.E8 (a:=aw) (b:=o.2.2.2.2.2) zt zr zr zr HC (RL.nt ?_))))))
  obtain⟨az,hj,hb⟩:=bd hb
  refine RC.jn (fun(az: (List Int)×Bool) U w=>∃a0:Value,SH E V [(0,an),(1,au),(2,v2),(7,a0),(8,vb al.2),(9,vb ar.2),(10,vb az.2)] [rd an al.1,rd au ar.1,own 3 a0 az.1] U w) az ?_ ?_
  ·refine fH hj (fun hc hj=>?_) fun hc hj=>?_
   rotate_left
   ·refine RC.skip ?_
    obtain rfl:=oi hj
    exact⟨rfl,ae,j.sp 5 [2,4,3]⟩
   refine RC.region (mv ae (mv (vi ag) ?_))
   have j:=j.sc Int ag
   refine RL.eP ([ag]: (List Int)) j [(vi ag)] eE DO (fun M hs g=>⟨(g.sat 0 _ zr).1,zt⟩) fun b6 w j=>?_
   have j:=j.freeze 0
   obtain⟨b7,bt,hj⟩:=bd hj
   refine RL.app 5 0 j tp bt fun bg w j=>?_
   refine mv (vb aw) (aP bg (aP (vb aw) (RL.nil ?_)))
   obtain rfl:=oi hj
   exact⟨rfl,bg,j.sp 7 [4,6,5]⟩
  rintro _ w ⟨a0,O,rfl,j⟩
  refine bT ?_
  obtain rfl:=oi hb
  exact⟨rfl,an,au,a0,j.sp 3 [0,1,2]⟩
 ·intro r _ _ _ _
  exact r.elim
 rintro o _ w rfl ⟨av,O,rfl,j⟩
 rw [Fo.gx] at hb
 refine aG (RC.sr (mv av (aP av (RL.nt (RC.ret ?_)))))
 obtain rfl:=oi hb
 exact cI (j.pk 1 [0])
theorem wu {p0: (List aA)} {p1: (List aA)} {p2:Bool->Bool->Option Bool} {res: (List aA)} (j:Holds E w V) (h0:V[i0]? =some (rd v0 p0)) (h1:V[i1]? =some (rd v1 p1)) (h2:Gg bF E V v2 p2 (fun(r:Bool)=>Value.bool r)) (o:mf N p0 p1 p2=some res):
    Calls bF 75 [v0,v1,v2].toArray w (gT (kB E V res)):=by
 unfold mf at o
 refine enter Tryz.func75 zr zr ?_
 have j:=(j.dup (i0+0) h0).dup (i1+1) h1
 refine RC.sr (aP (.slice none 0 0) (RL.ns (aP (.slice none 0 0) (RL.nq (RC.sr (mv v0 (RL.bE 1 p0 j rn (mv v1 ?_))))))))
 refine RL.bE 0 p1 j rn (RL.jo (p0.length:Int) (p1.length:Int) (ic ((IntKind.wrap .i64 ((p0.length:Int)+ (p1.length:Int)))) 0 (RL.nt (fH o (fun hc o=>?_) fun hc o=>?_))))
 ·refine RC.sr (aP (.slice none 0 0) (RL.nt (RC.rt ?_)))
  obtain rfl:=oi o
  have j:=j.dB aA 129
  exact cI (j.pk 3 [0])
 refine RC.sx (aP (vi 0) (aP (vi 0) (RL.nq (RC.sr (mv v0 (mv v1 (RL.eP ([p0,p1]: (List (List aA))) j [v0,v1] DW GA (fun M hs g=>⟨(g.sat 1 _ zr).1,⟨(g.sat 0 _ zr).1,zt⟩⟩) fun ar w j=>(RL.fA 0 ([p0,p1]: (List (List aA))) j Hz ?_))))))))
 refine mv (vi 0) (RL.nt ?_)
 obtain⟨ad,hN,o⟩:=bd o
 refine RC.fold (fun(aj:Nat) (ad:Int×Int)=>SH E V [(0,v0),(1,v1),(2,v2),(7,(.slice none 0 0)),(8,vi ad.1),(9,vi ad.2),(25,ar),(26,(vi ((([p0,p1]: (List (List aA))).length:Nat):Int))),(27,vi aj)] [rd v0 p0,rd v1 p1,own 76 ar ([p0,p1]: (List (List aA)))]) (fun(ad:Int×Int)=>SH E V [(0,v0),(1,v1),(2,v2),(7,(.slice none 0 0)),(8,vi ad.1),(9,vi ad.2)] [rd v0 p0,rd v1 p1,own 76 ar ([p0,p1]: (List (List aA)))]) hN ?_ ?_ ?_ ?_
 ·exact j.sp 3 [2,1,0]
 ·rintro hm ad _ w ⟨O,rfl,j⟩
  refine RC.sr (ic (((([p0,p1]: (List (List aA))).length:Nat):Int)) (((([p0,p1]: (List (List aA))).length:Nat):Int)) (RL.nq (RC.cT mc (RC.ex ?_))))
  exact⟨rfl,j.sp 3 [0,1,2]⟩
 ·rintro hm aj ad s' _ w hk ⟨O,rfl,j⟩ o
  refine RC.sr (ic ((aj:Int)) (((([p0,p1]: (List (List aA))).length:Nat):Int)) (RL.nq (RC.cS (mb hk) (RC.ss (RC.bs (mv (vi aj) ?_))))))
  obtain⟨aw,a8,o⟩:=bd o
  refine RL.bV 2 j zr zr DW a8 (RL.jR (f:=(fun x=>x)) 2 j (jQ 2 j a8 0) (bB a8).2.1 Fd.self HA fun ak j=>?_)
  refine aP (vi aj) (aP ak (RL.ns (mv ak (RL.bE 0 aw j rn (ic ((aw.length:Int)) 0 (RL.nt ?_))))))
  obtain⟨a5,hj,o⟩:=bd o
  refine RC.jn (fun(a5:Int×Int)=>SH E V [(0,v0),(1,v1),(2,v2),(7,(.slice none 0 0)),(8,vi a5.1),(9,vi a5.2),(25,ar),(26,(vi ((([p0,p1]: (List (List aA))).length:Nat):Int))),(27,vi aj)] [rd v0 p0,rd v1 p1,own 76 ar ([p0,p1]: (List (List aA)))]) a5 ?_ ?_
  ·refine fH hj (fun hc hj=>?_) fun hc hj=>?_
   rotate_left
   ·refine RC.skip ?_
    obtain rfl:=oi hj
    exact⟨rfl,j.sp 4 [1,2,3]⟩
   refine RC.seq (RC.seq ?_)
   obtain⟨a9,hjj,hj⟩:=bd hj
   refine RC.jn (fun(a9:Bool)=>SH E V [(0,v0),(1,v1),(2,v2),(7,(.slice none 0 0)),(8,vi ad.1),(9,vi ad.2),(11,ak),(25,ar),(26,(vi ((([p0,p1]: (List (List aA))).length:Nat):Int))),(27,vi aj),(41,vb a9)] [rd v0 p0,rd v1 p1,rd ak aw,own 76 ar ([p0,p1]: (List (List aA)))]) a9 ?_ ?_
   ·refine RC.region (mv (vi aj) (ic ((aj:Int)) 0 (mv (vb ((aj:Int)==0)) (fY hjj (fun au hjj=>?_) fun au hjj=>?_))))
    ·refine bR au (bR au (bR au (fV au (vb true) (RL.nil ?_))))
     obtain rfl:=oi hjj
     exact⟨rfl,j.sp 4 [1,2,0,3]⟩
    refine RL.move v0 (cg au) (RL.bE (hg:=(cg au)) 1 p0 j rn (RL.jY (p0.length:Int) 0 (cg au) (fV au (vb ((p0.length:Int)==0)) (RL.nil ?_))))
    obtain rfl:=oi hjj
    exact⟨rfl,j.sp 4 [1,2,0,3]⟩
   rintro _ w ⟨O,rfl,j⟩
   refine aG ?_
   obtain⟨al,hjj,hj⟩:=bd hj
   refine RC.jn (fun(al:Int×Int)=>SH E V [(0,v0),(1,v1),(2,v2),(7,(.slice none 0 0)),(8,vi al.1),(9,vi al.2),(11,ak),(25,ar),(26,(vi ((([p0,p1]: (List (List aA))).length:Nat):Int))),(27,vi aj)] [rd v0 p0,rd v1 p1,rd ak aw,own 76 ar ([p0,p1]: (List (List aA)))]) al ?_ ?_
   ·refine fH hjj (fun hc hjj=>?_) fun hc hjj=>?_
    rotate_left
    ·refine RC.skip ?_
     obtain rfl:=oi hjj
     exact⟨rfl,j.sp 4 [0,1,2,3]⟩
    refine RC.xf mixed ?_
    have j:=j.drew
    refine RO.go (mv ak (RO.nx ?_))
    obtain⟨bj,bw,hjj⟩:=bd hjj
    refine RL.cB 2 j mC bw fun cd j=>(RO.nx (RL.ig 0 j zr mQ fB fun cf j=>(RO.nx (RL.bG bj.Y0 0 j cG (RO.nx (mv ak (RO.nx (mv ak ?_))))))))
    refine RO.nx (RL.bE 4 aw j rn (RO.nx (RL.jo (aw.length:Int) 1 (RO.nx ?_))))
    obtain⟨bk,bx,hjj⟩:=bd hjj
    refine RL.cB 4 j mC bx fun ch j=>(RO.nx (RL.ig 0 j zr kZ dZ fun cj j=>(RO.nx (RL.bG bk.Y1 0 j cG (RO.nx (aP (vi bj.Y0) (RO.nx (aP (vi bk.Y1) ?_))))))))
    refine RO.last ?_
    obtain rfl:=oi hjj
    exact⟨rfl,j.sp 8 [4,5,6,7]⟩
   rintro _ w ⟨O,rfl,j⟩
   refine aG (RC.xf mixed ?_)
   have j:=j.drew
   refine RO.go (mv (vi al.1) (RO.nx (mv ak (RO.nx ?_))))
   obtain⟨a6,bz,hj⟩:=bd hj
   refine RL.cB 2 j mC bz fun ck j=>(RO.nx (RL.ig 0 j zr mQ fB fun cl j=>(RO.nx (RL.bG a6.Y0 0 j cG (RO.nx (RL.min al.1 a6.Y0 (RO.nx (mv (vi al.2) ?_))))))))
   refine RO.nx (mv ak (RO.nx (mv ak (RO.nx (RL.bE 4 aw j rn (RO.nx (RL.jo (aw.length:Int) 1 (RO.nx ?_))))))))
   obtain⟨a7,b0,hj⟩:=bd hj
   refine RL.cB 4 j mC b0 fun cm j=>(RO.nx (RL.ig 0 j zr kZ dZ fun cn j=>(RO.nx (RL.bG a7.Y1 0 j cG (RO.nx (RL.max al.2 a7.Y1 (RO.nx (aP (vi (if a6.Y0<al.1 then a6.Y0 else al.1)) ?_))))))))
   refine RO.nx (aP (vi (if al.2<a7.Y1 then a7.Y1 else al.2)) (RO.last ?_))
   obtain rfl:=oi hj
   exact⟨rfl,j.sp 8 [4,5,7]⟩
  rintro _ w ⟨O,rfl,j⟩
  refine bT (aG (RC.region (RL.inc hk hm (mv (vi ((aj+1:Nat):Int)) (RL.nil ?_)))))
  obtain rfl:=oi o
  exact⟨rfl,j.sp 3 [0,1,2]⟩
 rintro _ w ⟨O,rfl,j⟩
 refine aG (RC.seq ?_)
 obtain⟨cp,hN,o⟩:=bd o
 refine RC.iter (fun(aa: (List aA)×(List aA)×(List aA)×Int) U w=>∃bl bm bn:Value,SH E V [(0,bl),(1,bm),(2,v2),(7,bn),(8,vi aa.2.2.2),(9,vi ad.2)] [rd bl aa.1,rd bm aa.2.1,own 129 bn aa.2.2.1] U w) (fun(aa: (List aA)×(List aA)×(List aA)×Int) U w=>∃a2:Value,SH E V [(7,a2)] [own 129 a2 aa.2.2.1] U w) (fun(r:Empty) _ _=>r.elim) hN ?_ ?_ ?_ ?_
 ·have j:=j.dB aA 129
  exact⟨v0,v1,(.slice none 0 0),j.sp 4 [1,2,0]⟩
 ·rintro aa fl _ w ⟨b1,ay,ag,O,rfl,j⟩ o
  refine RC.seq (RC.sr (mv (vi aa.2.2.2) (mv (vi ad.2) (ic aa.2.2.2 ad.2 (RL.nt (fH o (fun hc o=>?_) fun hc o=>?_))))))
  rotate_left
  ·refine RC.ex ?_
   obtain rfl:=oi o
   exact⟨rfl,ag,j.sp 3 [2]⟩
  refine RC.sn (RC.block (RC.seq ?_))
  obtain⟨cq,hN,o⟩:=bd o
  refine RC.iter (fun(an: (List aA)) U w=>∃bp:Value,SH E V [(0,bp),(1,ay),(2,v2),(7,ag),(8,vi aa.2.2.2),(9,vi ad.2)] [rd ay aa.2.1,own 129 ag aa.2.2.1,rd bp an] U w) (fun(an: (List aA)) U w=>∃ao:Value,SH E V [(0,ao),(1,ay),(2,v2),(7,ag),(8,vi aa.2.2.2),(9,vi ad.2)] [rd ay aa.2.1,own 129 ag aa.2.2.1,rd ao an] U w) (fun(r:Empty) _ _=>r.elim) hN ?_ ?_ ?_ ?_
  ·exact⟨b1,j.sp 3 [1,2,0]⟩
  ·rintro an fl _ w ⟨az,O,rfl,j⟩ o
   refine RC.seq (RC.seq ?_)
   obtain⟨ba,hj,o⟩:=bd o
   refine RC.jn (fun(ba:Bool)=>SH E V [(0,az),(1,ay),(2,v2),(7,ag),(8,vi aa.2.2.2),(9,vi ad.2),(82,vb ba)] [rd az an,rd ay aa.2.1,own 129 ag aa.2.2.1]) ba ?_ ?_
   ·refine RC.region (mv az (RL.bE 2 an j rn (ic ((an.length:Int)) 0 (mv (vb (decide ((an.length:Int)>0))) (fY hj (fun ah hj=>?_) fun ah hj=>?_)))))
    rotate_left
    ·refine bR ah (bR ah (bR ah (bR ah (bR ah (bR ah (fV ah (vb false) (RL.nil ?_)))))))
     obtain rfl:=oi hj
     exact⟨rfl,j.sp 3 [2,0,1]⟩
    refine RL.move az (cg ah) ?_
    obtain⟨bb,b2,hj⟩:=bd hj
    refine RL.cB (hg:=(cg ah)) 2 j mC b2 fun cr j=>(RL.ig (hg:=(cg ah)) 0 j zr kZ dZ fun ct j=>(RL.bG (hg:=(cg ah)) bb.Y1 0 j cG (RL.move (vi aa.2.2.2) (cg ah) (RL.jY bb.Y1 aa.2.2.2 (cg ah) (fV ah (vb (decide (bb.Y1<=aa.2.2.2))) (RL.nil ?_))))))
    obtain rfl:=oi hj
    exact⟨rfl,j.sp 5 [4,2,3]⟩
   rintro _ w ⟨O,rfl,j⟩
   refine aG (fH o (fun hc o=>?_) fun hc o=>?_)
   rotate_left
   ·refine RC.ex ?_
    obtain rfl:=oi o
    exact⟨rfl,az,j.sp 3 [1,2,0]⟩
   refine RC.sn (RC.block (RC.region (mv az ?_)))
   obtain⟨cu,b3,o⟩:=bd o
   refine RL.cut 0 j mC (.inr ⟨rfl,zr⟩) b3 fun bq j=>(aP bq (RL.nil (bT ?_)))
   obtain rfl:=oi o
   exact⟨rfl,bq,j.sp 4 [2,3,0]⟩
  ·intro r _ _ _ _
   exact r.elim
  rintro an _ w rfl ⟨ao,O,rfl,j⟩
  rw [Fo.gx] at o
  refine aG (RC.seq ?_)
  obtain⟨cv,hN,o⟩:=bd o
  refine RC.iter (fun(av: (List aA)) U w=>∃br:Value,SH E V [(0,ao),(1,br),(2,v2),(7,ag),(8,vi aa.2.2.2),(9,vi ad.2)] [rd ao an,own 129 ag aa.2.2.1,rd br av] U w) (fun(av: (List aA)) U w=>∃a0:Value,SH E V [(0,ao),(1,a0),(2,v2),(7,ag),(8,vi aa.2.2.2),(9,vi ad.2)] [rd ao an,own 129 ag aa.2.2.1,rd a0 av] U w) (fun(r:Empty) _ _=>r.elim) hN ?_ ?_ ?_ ?_
  ·exact⟨ay,j.sp 3 [2,1,0]⟩
  ·rintro av fl _ w ⟨a1,O,rfl,j⟩ o
   refine RC.seq (RC.seq ?_)
   obtain⟨bc,hj,o⟩:=bd o
   refine RC.jn (fun(bc:Bool)=>SH E V [(0,ao),(1,a1),(2,v2),(7,ag),(8,vi aa.2.2.2),(9,vi ad.2),(95,vb bc)] [rd ao an,rd a1 av,own 129 ag aa.2.2.1]) bc ?_ ?_
   ·refine RC.region (mv a1 (RL.bE 2 av j rn (ic ((av.length:Int)) 0 (mv (vb (decide ((av.length:Int)>0))) (fY hj (fun ai hj=>?_) fun ai hj=>?_)))))
    rotate_left
    ·refine bR ai (bR ai (bR ai (bR ai (bR ai (bR ai (fV ai (vb false) (RL.nil ?_)))))))
     obtain rfl:=oi hj
     exact⟨rfl,j.sp 3 [0,2,1]⟩
    refine RL.move a1 (cg ai) ?_
    obtain⟨bf,b4,hj⟩:=bd hj
    refine RL.cB (hg:=(cg ai)) 2 j mC b4 fun cw j=>(RL.ig (hg:=(cg ai)) 0 j zr kZ dZ fun cx j=>(RL.bG (hg:=(cg ai)) bf.Y1 0 j cG (RL.move (vi aa.2.2.2) (cg ai) (RL.jY bf.Y1 aa.2.2.2 (cg ai) (fV ai (vb (decide (bf.Y1<=aa.2.2.2))) (RL.nil ?_))))))
    obtain rfl:=oi hj
    exact⟨rfl,j.sp 5 [2,4,3]⟩
   rintro _ w ⟨O,rfl,j⟩
   refine aG (fH o (fun hc o=>?_) fun hc o=>?_)
   rotate_left
   ·refine RC.ex ?_
    obtain rfl:=oi o
    exact⟨rfl,a1,j.sp 3 [0,2,1]⟩
   refine RC.sn (RC.block (RC.region (mv a1 ?_)))
   obtain⟨cy,b5,o⟩:=bd o
   refine RL.cut 1 j mC (.inr ⟨rfl,zr⟩) b5 fun bt j=>(aP bt (RL.nil (bT ?_)))
   obtain rfl:=oi o
   exact⟨rfl,bt,j.sp 4 [1,3,0]⟩
  ·intro r _ _ _ _
   exact r.elim
  rintro av _ w rfl ⟨a0,O,rfl,j⟩
  rw [Fo.gx] at o
  refine aG (RC.sr (mv ao (mv (vi aa.2.2.2) (mv (vi ad.2) ?_))))
  obtain⟨ae,b6,o⟩:=bd o
  refine RL.call zt zr HB [ao,(vi aa.2.2.2),(vi ad.2)] zr (aF (pF N (p1:=aa.2.2.2) (p2:=ad.2) (i0:=0) j zr b6) ?_)
  rintro _ w ⟨a3,rfl,j⟩
  refine mv (.tuple #[a3,(vi ae.2)]) (RL.extract a3 (RL.extract (vi ae.2) (aP a3 (aP (vi ae.2) (RL.ns (mv a0 (mv (vi aa.2.2.2) (mv (vi ad.2) ?_))))))))
  obtain⟨af,b7,o⟩:=bd o
  refine RL.call zt zr HB [a0,(vi aa.2.2.2),(vi ad.2)] zr (aF (pF N (p1:=aa.2.2.2) (p2:=ad.2) (i0:=3) j zr b7) ?_)
  rintro _ w ⟨a4,rfl,j⟩
  refine mv (.tuple #[a4,(vi af.2)]) (RL.extract a4 (RL.extract (vi af.2) (aP a4 (aP (vi af.2) (RL.ns (mv (vi ae.2) (mv (vi af.2) (RL.min ae.2 af.2 ?_))))))))
  refine aP (vi (if af.2<ae.2 then af.2 else ae.2)) (RL.ns (mv ag (mv (vi aa.2.2.2) (mv (vi (if af.2<ae.2 then af.2 else ae.2)) (mv a3 (mv a4 (mv v2 ?_)))))))
  obtain⟨b8,b9,o⟩:=bd o
  refine RL.call zt zr Je [a3,a4,v2] zr (aF (xn N (i0:=1) (i1:=0) j zr zr (h2.lift 5 zr) b9) ?_)
  rintro ca w j
  have j:=((j.sc Int aa.2.2.2).sc Int (if af.2<ae.2 then af.2 else ae.2)).freeze 2
  refine RL.build (⟨aa.2.2.2,(if af.2<ae.2 then af.2 else ae.2),b8⟩:aA) trivial rfl j [(0,vi aa.2.2.2),(1,(vi (if af.2<ae.2 then af.2 else ae.2))),(2,ca)] rfl F1 rfl (fun M hs g=>by have h:=tn M;exact cH.cons (f:=fun(x:aA) y=>{x with Y0:=y}) h pC (g.sat 1 _ rfl).1 fun _ h=>cH.cons (f:=fun(x:aA) y=>{x with Y1:=y}) h mB (g.sat 0 _ rfl).1 fun _ h=>cH.cons (f:=fun(x:aA) y=>{x with Xs:=y}) h pD (g.sat 2 _ rfl).1 fun _ h=>cH.nil h) fun cb j=>?_
  have j:=j.pull 7
  obtain⟨cz,cc,o⟩:=bd o
  refine RL.call zt zr Hk [ag,cb] zr (aF (nX N (i1:=0) j zr cc) ?_)
  rintro bu w j
  refine aP bu (RL.nt (RC.region (mv (vi (if af.2<ae.2 then af.2 else ae.2)) (aP (vi (if af.2<ae.2 then af.2 else ae.2)) (RL.nil (bT ?_))))))
  obtain rfl:=oi o
  exact⟨rfl,ao,a0,bu,j.sp 10 [7,9,0]⟩
 ·intro r _ _ _ _
  exact r.elim
 rintro aa _ w rfl ⟨a2,O,rfl,j⟩
 rw [Fo.gx] at o
 refine aG (RC.sr (mv a2 (aP a2 (RL.nt (RC.ret ?_)))))
 obtain rfl:=oi o
 exact cI (j.pk 1 [0])
theorem qx {p0 p1 res:Bool} (o:Holds E w V) (j:lD N p0 p1=some res):
    Calls bF 76 [(vb p0),(vb p1)].toArray w (gT (bD E V res)):=by
 unfold lD at j
 refine enter Tryz.func76 rfl rfl (RC.sr (aP (vb false) (RL.ns (mv (vb p0) (mv (vb p0) (RL.gs true p0 (vb p1) rfl rfl rfl dQ (RL.gs true p0 (vb (!p1)) rfl rfl rfl (Ge (b:=p1) rfl (fun h=>by exact(cQ h:cv (true&&(p0==true)) (vb p1)= (vb p1)))) (RL.pick p0 (vb (p0&&(!p1))) (iU true) ?_))))))))
 refine aP (vb (p0&&(!p1))) (RL.nt (RC.ret ?_))
 obtain rfl:=oi j
 exact cI ⟨rfl,o.drop 0⟩
theorem tC {p0: (List aA)} {p1: (List aA)} {res: (List aA)} (o:Holds E w V) (h0:V[i0]? =some (rd v0 p0)) (h1:V[i1]? =some (rd v1 p1)) (hb:jg N p0 p1=some res):
    Calls bF 46 [v0,v1].toArray w (gT (kB E V res)):=by
 unfold jg at hb
 refine enter Tryz.func46 zr zr ?_
 have o:=(o.dup (i0+0) h0).dup (i1+1) h1
 refine RC.sr (aP (.slice none 0 0) (RL.ns (mv v0 (mv v1 ?_))))
 obtain⟨af,ab,hb⟩:=bd hb
 refine RL.call trivial rfl Jg [v0,v1,(.func (.func 76) #[] #[])] rfl (aF (wu N (i0:=1) (i1:=0) o rfl rfl ⟨76,[],rfl,Jf,fun w Γl v v' y0 y1 r i j o hi hj hr=>by obtain rfl:=o.ym (γ:=Bool) hi;obtain rfl:=o.ym (γ:=Bool) hj;exact aF (qx N (p0:=y0) (p1:=y1) o hr) fun _ _ h=>h⟩ ab) ?_)
 rintro ae w o
 refine aP ae (RL.nt (RC.ret ?_))
 obtain rfl:=oi hb
 exact cI (o.pk 3 [0])
theorem tD {p0: (List aA)} (j:Holds E w V) (h0:V[i0]? =some (rd v0 p0)) (hb:kb N p0=some res):
    Calls bF 47 [v0].toArray w (gT (aQ E V res)):=by
 unfold kb at hb
 refine enter Tryz.func47 zr zr ?_
 have j:=j.dup (i0+0) h0
 refine RC.sr (aP (vi 0) (RL.ns (aP (vi 0) (RL.nq (RC.sr (mv v0 (RL.bE 0 p0 j rn (mv (vi 0) ?_))))))))
 refine RL.nt ?_
 obtain⟨o,hN,hb⟩:=bd hb
 refine RC.fold (fun(ad:Nat) (o:Int)=>SH E V [(3,vi o),(6,v0),(7,vi p0.length),(8,vi ad)] [rd v0 p0]) (fun(o:Int)=>SH E V [(3,vi o)] [rd v0 p0]) hN ?_ ?_ ?_ ?_
 ·exact j.sp 1 [0]
 ·rintro hm o _ w ⟨O,rfl,j⟩
  refine RC.sr (ic ((p0.length:Int)) ((p0.length:Int)) (RL.nq (RC.cT mc (RC.ex ?_))))
  exact⟨rfl,j.sp 1 [0]⟩
 ·rintro hm ad o s' _ w hk ⟨O,rfl,j⟩ hb
  refine RC.sr (ic ((ad:Int)) ((p0.length:Int)) (RL.nq (RC.cS (mb hk) (RC.ss (RC.bs ?_)))))
  obtain⟨ab,ah,hb⟩:=bd hb
  refine RL.cB 0 j mC ah fun ai j=>(RL.bP 0 ab j tq fun aj j=>(RL.alloc j z6.z fun ak w j=>?_))
  refine RL.bA 0 j 1 zr tq fun w j=>?_
  refine RL.nt (RC.region (mv (vi o) (RL.aZ zr jW (RL.aX 0 j zr cZ eU fun al j=>(RL.bE 0 ab.Xs j lx (RL.quo (ab.Xs.length:Int) 2 zr zr zr zr (RL.jo o (IntKind.wrap .i64 (Int.tdiv (ab.Xs.length:Int) 2)) (aP (vi (IntKind.wrap .i64 (o+ (IntKind.wrap .i64 (Int.tdiv (ab.Xs.length:Int) 2))))) ?_))))))))
  refine RL.nil (bT (aG (RC.region (RL.inc hk hm (mv (vi ((ad+1:Nat):Int)) (RL.nil ?_))))))
  obtain rfl:=oi hb
  exact⟨rfl,j.sp 5 [4]⟩
 rintro _ w ⟨O,rfl,j⟩
 refine aG (RC.sr (mv (vi o) (aP (vi o) (RL.nt (RC.ret ?_)))))
 obtain rfl:=oi hb
 exact cI ⟨rfl,j.drop 1⟩
def qy (E:World) (V:List HP) (b1:Nat) (res:Int×(List Int)) (v:Value) (w:World):Prop:=∃u1_0:Value,v= (vi res.1)/\Holds E w ([bc 46 b1 [u1_0],own 3 u1_0 res.2]++V)
theorem jO {p1_0: (List Int)} {res:Int×(List Int)} (j:Holds E w (bc 46 b1 [v1_0]::own 3 v1_0 p1_0::V)) (o:dV N p0 p1_0=some res):
    Calls bF 77 [(vi p0),(vp b1 0)].toArray w (gT (qy E V b1 res)):=by
 unfold dV at o
 refine enter Tryz.func77 zr zr (RC.sr (aP (vi 0) (RL.nq ?_)))
 obtain⟨an,hN,o⟩:=bd o
 refine RC.iter (fun(aa:Int×(List Int))=>SH E V [(0,vi aa.1),(1,vp b1 0)] [bc 46 b1 [v1_0],own 3 v1_0 aa.2]) (fun(aa:Int×(List Int))=>SH E V [(0,vi aa.1),(1,vp b1 0)] [bc 46 b1 [v1_0],own 3 v1_0 aa.2]) (fun(r:Empty) _ _=>r.elim) hN ?_ ?_ ?_ ?_
 ·exact j.sp 2 [0,1]
 ·rintro aa fl _ w ⟨O,rfl,j⟩ o
  refine RC.seq (RC.sr (RL.aU 0 v1_0 j eU (mv (vi aa.1) ?_)))
  obtain⟨ai,ab,o⟩:=bd o
  refine RL.bV 1 j zr zr eE ab (RL.dR (f:=(fun x=>x)) 1 j (jQ 1 j ab 0) (bB ab).2.1 Fd.self cG (mv (vi aa.1) (ic ai aa.1 (RL.nt (fH o (fun hc o=>?_) fun hc o=>?_)))))
  rotate_left
  ·refine RC.ex ?_
   obtain rfl:=oi o
   exact⟨rfl,j.sp 2 [0,1]⟩
  refine RC.sn (RC.block (RC.seq (RC.yC mixed [0,0,0,0,0,0,0,0,0,0,2] [0,1,2,3,4,5,6,7,8,9,10] ?_)))
  have j:=j.drew
  refine DP.e0 zr (RL.aU 0 v1_0 j eU (cE zr (mv (vi aa.1) (cE zr (RL.aU 0 v1_0 j eU (cE zr (RL.aU 0 v1_0 j eU (cE zr ?_))))))))
  refine mv (vi aa.1) (cE zr ?_)
  obtain⟨aq,ad,o⟩:=bd o
  refine RL.bV 1 j zr zr eE ad (cE zr (RL.dR (f:=(fun x=>x)) 1 j (jQ 1 j ad 0) (bB ad).2.1 Fd.self cG (cE zr ?_)))
  obtain⟨ak,ae,o⟩:=bd o
  refine RL.bV 1 j zr zr eE ae (cE zr (RL.dR (f:=(fun x=>x)) 1 j (jQ 1 j ae 0) (bB ae).2.1 Fd.self cG (cE zr ?_)))
  obtain⟨ar,af,o⟩:=bd o
  refine RL.bV 1 j zr zr eE af (vX zr ?_)
  have j:=j.sc Int ak
  refine RL.ga (f:=(fun _ y=>y)) 2 0 j (jQ 2 j af 0) (bB af).2.1 zr Fs.self cG fun w j=>?_
  refine DP.d2 zt (DP.z (aG (RC.region (RL.aU 1 v1_0 j eU (mv (vi aa.1) ?_)))))
  obtain⟨al,ag,o⟩:=bd o
  refine RL.bV 2 j zr zr eE ag (RL.dR (f:=(fun x=>x)) 2 j (jQ 2 j ag 0) (bB ag).2.1 Fd.self cG (aP (vi al) (RL.nil (bT ?_))))
  obtain rfl:=oi o
  exact⟨rfl,j.sp 3 [1,2]⟩
 ·intro r _ _ _ _
  exact r.elim
 rintro aa _ w rfl ⟨O,rfl,j⟩
 rw [Fo.gx] at o
 refine aG (RC.sr (mv (vi aa.1) (aP (vi aa.1) (RL.nt (RC.ret ?_)))))
 obtain rfl:=oi o
 exact cI ⟨v1_0,zr,j.pk 2 [0,1]⟩
def tE (E:World) (V:List HP) (res: (List (List aA))) (v:Value) (w:World):Prop:=Holds E w ([own 76 v res]++V)
theorem sB {p0: (List aA)} {res: (List (List aA))} (o:Holds E w V) (h0:V[i0]? =some (rd v0 p0)) (hb:jE N p0=some res):
    Calls bF 48 [v0].toArray w (gT (tE E V res)):=by
 unfold jE at hb
 refine enter Tryz.func48 zr zr ?_
 have o:=o.dup (i0+0) h0
 refine RC.sr (aP (.slice none 0 0) (RL.ns (mv v0 ?_)))
 obtain⟨ao,c6,hb⟩:=bd hb
 refine RL.call zt zr Gw [v0] zr (aF (k9 N (i0:=0) o zr c6) ?_)
 rintro ag w o
 refine aP ag (RL.ns (mv ag (RL.fA 0 ao o nL ?_)))
 obtain⟨bm,c7,hb⟩:=bd hb
 refine RL.mk (ao.length:Int) o tp GY c7 fun a9 w o=>?_
 refine RL.oE o Hi fun af w o=>?_
 refine RL.gz 0 a9 o zr zr (gZ 1 o) eU fun w o=>?_
 refine RL.nq (RC.sr (RL.aU 0 a9 o eU (RL.fA 1 bm o lx (mv (vi 0) (RL.nt ?_)))))
 obtain⟨bj,hN,hb⟩:=bd hb
 refine RC.fold (fun(a7:Nat) (bj: (List Int))=>SH E V [(0,v0),(3,ag),(4,vp af 0),(32,vi bm.length),(33,vi a7)] [rd v0 p0,own 50 ag ao,bc 46 af [a9],own 3 a9 bj]) (fun(bj: (List Int))=>SH E V [(0,v0),(3,ag),(4,vp af 0)] [rd v0 p0,own 50 ag ao,bc 46 af [a9],own 3 a9 bj]) hN ?_ ?_ ?_ ?_
 ·exact o.sp 4 [3,2,0,1]
 ·rintro hm bj _ w ⟨O,rfl,o⟩
  refine RC.sr (ic ((bm.length:Int)) ((bm.length:Int)) (RL.nq (RC.cT mc (RC.ex ?_))))
  exact⟨rfl,o.sp 4 [0,1,2,3]⟩
 ·rintro hm a7 bj s' _ w hk ⟨O,rfl,o⟩ hb
  refine RC.sr (ic ((a7:Int)) ((bm.length:Int)) (RL.nq (RC.cS (mb hk) (RC.ss (RC.bs (mv (vi a7) (aP (vi a7) (RL.nt ?_))))))))
  refine RC.region (RL.aU 2 a9 o eU (mv (vi a7) (mv (vi a7) ?_)))
  obtain⟨dt,ca,hb⟩:=bd hb
  refine RL.bV 3 o zr zr eE ca ?_
  have o:=o.sc Int (a7:Int)
  refine RL.ga (f:=(fun _ y=>y)) 4 0 o (jQ 4 o ca 0) (bB ca).2.1 zr Fs.self cG fun w o=>?_
  refine RL.nil (bT (aG (RC.region (RL.inc hk hm (mv (vi ((a7+1:Nat):Int)) (RL.nil ?_))))))
  obtain rfl:=oi hb
  exact⟨rfl,o.sp 5 [1,2,3,4]⟩
 rintro _ w ⟨O,rfl,o⟩
 refine aG (RC.sr (RL.makeFunc [(vp af 0)] (aP (.func (.func 77) #[] #[(vp af 0)]) (RL.ns (aP (vi 0) (aP (vi 0) (RL.nq (RC.sr ?_))))))))
 refine mv v0 (RL.bE 0 p0 o rn (mv (vi 0) (RL.nt ?_)))
 obtain⟨ab,hN,hb⟩:=bd hb
 refine RC.fold (fun(ax:Nat) (ab: (List Int)×Int×Int) U w=>∃cr:Value,SH E V [(0,v0),(3,ag),(4,vp af 0),(6,(.func (.func 77) #[] #[(vp af 0)])),(7,vi ab.2.1),(8,vi ab.2.2),(42,v0),(43,vi p0.length),(44,vi ax)] [rd v0 p0,own 50 ag ao,bc 46 af [cr],own 3 cr ab.1] U w) (fun(ab: (List Int)×Int×Int) U w=>∃bq:Value,SH E V [(3,ag),(6,(.func (.func 77) #[] #[(vp af 0)]))] [rd v0 p0,own 50 ag ao,bc 46 af [bq],own 3 bq ab.1] U w) hN ?_ ?_ ?_ ?_
 ·exact⟨a9,o.sp 4 [0,1,2,3]⟩
 ·rintro hm ab _ w ⟨c8,O,rfl,o⟩
  refine RC.sr (ic ((p0.length:Int)) ((p0.length:Int)) (RL.nq (RC.cT mc (RC.ex ?_))))
  exact⟨rfl,c8,o.sp 4 [0,1,2,3]⟩
 ·rintro hm ax ab s' _ w hk ⟨br,O,rfl,o⟩ hb
  refine RC.sr (ic ((ax:Int)) ((p0.length:Int)) (RL.nq (RC.cS (mb hk) (RC.ss (RC.bs (mv (vi ax) ?_))))))
  obtain⟨al,c9,hb⟩:=bd hb
  refine RL.cB 0 o mC c9 fun du o=>(RL.bP 0 al o tq fun dv o=>(RL.alloc o z6.z fun dw w o=>?_))
  refine aP (vi ax) (RL.bA 0 o 1 zr tq fun w o=>?_)
  refine RL.ns (RL.aZ zr jW (RL.aX 0 o zr cZ eU fun dx o=>(RL.bE 0 al.Xs o lx (RL.quo (al.Xs.length:Int) 2 zr zr zr zr (aP (vi (IntKind.wrap .i64 (Int.tdiv (al.Xs.length:Int) 2))) (RL.nq (RC.seq ?_)))))))
  obtain⟨cb,hj,hb⟩:=bd hb
  refine RC.jn (fun(cb:Bool)=>SH E V [(0,v0),(3,ag),(4,vp af 0),(6,(.func (.func 77) #[] #[(vp af 0)])),(7,vi ab.2.1),(8,vi ab.2.2),(11,(vi (IntKind.wrap .i64 (Int.tdiv (al.Xs.length:Int) 2)))),(42,v0),(43,vi p0.length),(44,vi ax),(65,vb cb)] [rd v0 p0,own 50 ag ao,bc 46 af [br],own 3 br ab.1]) cb ?_ ?_
  ·refine RC.xf mixed ?_
   have o:=o.drew
   refine RO.go (mv (vi ax) (RO.nx (ic ((ax:Int)) 0 (RO.nx (mv (vb (decide ((ax:Int)>0))) (fY hj (fun av hj=>?_) fun av hj=>?_))))))
   rotate_left
   ·refine RO.nx (bR av (RO.nx (bR av (RO.nx (bR av (RO.nx (bR av (RO.nx ?_))))))))
    refine bR av (RO.nx (bR av (RO.nx (bR av (RO.nx (bR av (RO.nx (bR av ?_))))))))
    refine RO.nx (fV av (vb false) (RO.last ?_))
    obtain rfl:=oi hj
    exact⟨rfl,o.sp 8 [4,5,6,7]⟩
   refine RO.nx (RL.move v0 (cg av) (RO.nx (RL.move (vi ax) (cg av) (RO.nx (RL.jo (hg:=(cg av)) (ax:Int) 1 (RO.nx ?_))))))
   obtain⟨cc,da,hj⟩:=bd hj
   refine RL.cB (hg:=(cg av)) 4 o mC da fun dy o=>(RO.nx (RL.ig (hg:=(cg av)) 0 o zr kZ dZ fun dz o=>(RO.nx (RL.bG (hg:=(cg av)) cc.Y1 0 o cG (RO.nx (RL.aZ (hg:=(cg av)) zr mQ (RO.nx (RL.aK (hg:=(cg av)) 3 o zr fB cG ?_))))))))
   refine RO.nx (RL.jY cc.Y1 al.Y0 (cg av) (RO.nx (fV av (vb (cc.Y1==al.Y0)) (RO.last ?_))))
   obtain rfl:=oi hj
   exact⟨rfl,o.sp 10 [6,7,8,9]⟩
  rintro _ w ⟨O,rfl,o⟩
  refine aG ?_
  obtain⟨cd,hj,hb⟩:=bd hb
  refine RC.jn (fun(cd: (List Int)) U w=>∃bt:Value,SH E V [(0,v0),(3,ag),(4,vp af 0),(6,(.func (.func 77) #[] #[(vp af 0)])),(7,vi ab.2.1),(11,(vi (IntKind.wrap .i64 (Int.tdiv (al.Xs.length:Int) 2)))),(42,v0),(43,vi p0.length),(44,vi ax)] [rd v0 p0,own 50 ag ao,bc 46 af [bt],own 3 bt cd] U w) cd ?_ ?_
  ·refine fH hj (fun hc hj=>?_) fun hc hj=>?_
   rotate_left
   ·refine RC.skip ?_
    obtain rfl:=oi hj
    exact⟨rfl,br,o.sp 4 [0,1,2,3]⟩
   refine RC.sr (mv (vi ab.2.2) (mv (vi ab.2.1) (aP (vi ab.2.2) (aP (vi ab.2.1) (RL.nt ?_)))))
   obtain⟨d0,hN,hj⟩:=bd hj
   refine RC.iter (fun(ad: (List Int)×Int×Int) U w=>∃ct:Value,SH E V [(0,v0),(3,ag),(4,vp af 0),(6,(.func (.func 77) #[] #[(vp af 0)])),(7,vi ab.2.1),(11,(vi (IntKind.wrap .i64 (Int.tdiv (al.Xs.length:Int) 2)))),(12,vi ad.2.1),(13,vi ad.2.2),(42,v0),(43,vi p0.length),(44,vi ax)] [rd v0 p0,own 50 ag ao,bc 46 af [ct],own 3 ct ad.1] U w) (fun(ad: (List Int)×Int×Int) U w=>∃bu:Value,SH E V [(0,v0),(3,ag),(4,vp af 0),(6,(.func (.func 77) #[] #[(vp af 0)])),(7,vi ab.2.1),(11,(vi (IntKind.wrap .i64 (Int.tdiv (al.Xs.length:Int) 2)))),(42,v0),(43,vi p0.length),(44,vi ax)] [rd v0 p0,own 50 ag ao,bc 46 af [bu],own 3 bu ad.1] U w) (fun(r:Empty) _ _=>r.elim) hN ?_ ?_ ?_ ?_
   ·exact⟨br,o.sp 4 [0,1,2,3]⟩
   ·rintro ad fl _ w ⟨bw,O,rfl,o⟩ hb
    refine RC.seq (RC.sr (mv (vi ad.2.1) (mv (vi ab.2.1) (ic ad.2.1 ab.2.1 (mv (vb (decide (ad.2.1<ab.2.1))) (RL.gs true (decide (ad.2.1<ab.2.1)) (vi ad.2.2) zr zr zr dQ (RL.gs true (decide (ad.2.1<ab.2.1)) (vi ab.2.1) zr zr zr dQ (RL.gs true (decide (ad.2.1<ab.2.1)) (vi (IntKind.wrap .i64 (Int.tdiv (al.Xs.length:Int) 2))) zr zr zr dQ ?_))))))))
    refine RL.gs true (decide (ad.2.1<ab.2.1)) (vi (IntKind.wrap .i64 (ab.2.1+ (IntKind.wrap .i64 (Int.tdiv (al.Xs.length:Int) 2))))) rfl rfl rfl (Gd (bop:= .add) (K:= .i64) (a:=ab.2.1) (b:=(IntKind.wrap .i64 (Int.tdiv (al.Xs.length:Int) 2))) rfl (fun h=>by exact(cQ h:cv (true&&((decide (ad.2.1<ab.2.1))==true)) (vi ab.2.1)= (vi ab.2.1))) (fun h=>by exact(cQ h:cv (true&&((decide (ad.2.1<ab.2.1))==true)) (vi (IntKind.wrap .i64 (Int.tdiv (al.Xs.length:Int) 2)))= (vi (IntKind.wrap .i64 (Int.tdiv (al.Xs.length:Int) 2))))) rfl) (RL.gs true (decide (ad.2.1<ab.2.1)) (vb (decide (ad.2.2< (IntKind.wrap .i64 (ab.2.1+ (IntKind.wrap .i64 (Int.tdiv (al.Xs.length:Int) 2))))))) rfl rfl rfl (dT .lss .i64 ad.2.2 (IntKind.wrap .i64 (ab.2.1+ (IntKind.wrap .i64 (Int.tdiv (al.Xs.length:Int) 2)))) rfl (fun h=>by exact(cQ h:cv (true&&((decide (ad.2.1<ab.2.1))==true)) (vi ad.2.2)= (vi ad.2.2))) (fun h=>by exact(cQ h:cv (true&&((decide (ad.2.1<ab.2.1))==true)) (vi (IntKind.wrap .i64 (ab.2.1+ (IntKind.wrap .i64 (Int.tdiv (al.Xs.length:Int) 2)))))= (vi (IntKind.wrap .i64 (ab.2.1+ (IntKind.wrap .i64 (Int.tdiv (al.Xs.length:Int) 2))))))) rfl) (RL.pick (decide (ad.2.1<ab.2.1)) (vb ((decide (ad.2.1<ab.2.1))&&(decide (ad.2.2< (IntKind.wrap .i64 (ab.2.1+ (IntKind.wrap .i64 (Int.tdiv (al.Xs.length:Int) 2)))))))) (iU true) (RL.nt (fH hb (fun hc hb=>?_) fun hc hb=>?_))))
    rotate_left
    ·refine RC.ex ?_
     obtain rfl:=oi hb
     exact⟨rfl,bw,o.sp 4 [0,1,2,3]⟩
    refine RC.sn (RC.block (RC.seq (RC.seq ?_)))
    obtain⟨cf,hj,hb⟩:=bd hb
    refine RC.jn (fun(cf:Bool)=>SH E V [(0,v0),(3,ag),(4,vp af 0),(6,(.func (.func 77) #[] #[(vp af 0)])),(7,vi ab.2.1),(11,(vi (IntKind.wrap .i64 (Int.tdiv (al.Xs.length:Int) 2)))),(12,vi ad.2.1),(13,vi ad.2.2),(42,v0),(43,vi p0.length),(44,vi ax),(101,vb cf)] [rd v0 p0,own 50 ag ao,bc 46 af [bw],own 3 bw ad.1]) cf ?_ ?_
    ·refine RC.xf mixed ?_
     have o:=o.drew
     refine RO.go (mv ag (RO.nx (mv (vi ad.2.1) (RO.nx ?_))))
     obtain⟨cu,bz,hj⟩:=bd hj
     refine RL.bV 1 o zr zr kd bz (RO.nx (RL.my (α:=aI) (jQ 1 o bz 0) iX (RO.nx (RL.dR 1 o (jQ 1 o bz 0) (bB bz).2.1 eG cG (RO.nx (mv ag (RO.nx (mv (vi ad.2.2) ?_))))))))
     refine RO.nx ?_
     obtain⟨cw,b0,hj⟩:=bd hj
     refine RL.bV 1 o zr zr kd b0 (RO.nx (RL.my (α:=aI) (jQ 1 o b0 0) ke (RO.nx (RL.dR 1 o (jQ 1 o b0 2) (bB b0).2.1 fW cG (RO.nx (ic cu.X0 cw.X1 (RO.nx (mv (vb (decide (cu.X0<cw.X1))) ?_))))))))
     refine fY hj (fun an hj=>?_) fun an hj=>?_
     rotate_left
     ·refine RO.nx (bR an (RO.nx (bR an (RO.nx (bR an (RO.nx (bR an (RO.nx ?_))))))))
      refine bR an (RO.nx (bR an (RO.nx (bR an (RO.nx (bR an (RO.nx (bR an ?_))))))))
      refine RO.nx (bR an (RO.nx (bR an (RO.nx (fV an (vb false) (RO.last ?_))))))
      obtain rfl:=oi hj
      exact⟨rfl,o.sp 4 [0,1,2,3]⟩
     refine RO.nx (RL.move ag (cg an) (RO.nx (RL.move (vi ad.2.2) (cg an) (RO.nx ?_))))
     obtain⟨cx,b1,hj⟩:=bd hj
     refine RL.bV (hg:=(cg an)) 1 o zr zr kd b1 (RO.nx (RL.my (hg:=(cg an)) (α:=aI) (jQ 1 o b1 0) iX (RO.nx (RL.dR (hg:=(cg an)) 1 o (jQ 1 o b1 0) (bB b1).2.1 eG cG (RO.nx (RL.move ag (cg an) (RO.nx (RL.move (vi ad.2.1) (cg an) ?_))))))))
     refine RO.nx ?_
     obtain⟨cy,b2,hj⟩:=bd hj
     refine RL.bV (hg:=(cg an)) 1 o zr zr kd b2 (RO.nx (RL.my (hg:=(cg an)) (α:=aI) (jQ 1 o b2 0) ke (RO.nx (RL.dR (hg:=(cg an)) 1 o (jQ 1 o b2 2) (bB b2).2.1 fW cG (RO.nx (RL.jY cx.X0 cy.X1 (cg an) (RO.nx (fV an (vb (decide (cx.X0<cy.X1))) ?_))))))))
     refine RO.last ?_
     obtain rfl:=oi hj
     exact⟨rfl,o.sp 4 [0,1,2,3]⟩
    rintro _ w ⟨O,rfl,o⟩
    refine aG ?_
    obtain⟨b3,hj,hb⟩:=bd hb
    refine RC.jn (fun(b3: (List Int)) U w=>∃bk:Value,SH E V [(0,v0),(3,ag),(4,vp af 0),(6,(.func (.func 77) #[] #[(vp af 0)])),(7,vi ab.2.1),(11,(vi (IntKind.wrap .i64 (Int.tdiv (al.Xs.length:Int) 2)))),(12,vi ad.2.1),(13,vi ad.2.2),(42,v0),(43,vi p0.length),(44,vi ax)] [rd v0 p0,own 50 ag ao,bc 46 af [bk],own 3 bk b3] U w) b3 ?_ ?_
    ·refine fH hj (fun hc hj=>?_) fun hc hj=>?_
     rotate_left
     ·refine RC.skip ?_
      obtain rfl:=oi hj
      exact⟨rfl,bw,o.sp 4 [0,1,2,3]⟩
     refine RC.sr (mv (.func (.func 77) #[] #[(vp af 0)]) (mv (vi ad.2.1) ?_))
     have o:=(o.pull 3).pull 3
     obtain⟨bb,db,hj⟩:=bd hj
     refine RL.nT [(vp af 0)] GB [(vi ad.2.1)] (aF (jO N (p0:=ad.2.1) o db) ?_)
     rintro _ w ⟨d4,rfl,o⟩
     refine mv (.func (.func 77) #[] #[(vp af 0)]) (mv (vi ad.2.2) ?_)
     have o:=(o.pull 1).pull 1
     obtain⟨bf,dc,hj⟩:=bd hj
     refine RL.nT [(vp af 0)] GB [(vi ad.2.2)] (aF (jO N (p0:=ad.2.2) o dc) ?_)
     rintro _ w ⟨cz,rfl,o⟩
     refine aP (vi bb.1) (aP (vi bf.1) (RL.nt (RC.region (RL.aU 0 cz o eU (mv (vi bb.1) (mv (vi bf.1) (RL.max bb.1 bf.1 (mv (vi bb.1) ?_))))))))
     refine mv (vi bf.1) (RL.min bb.1 bf.1 ?_)
     obtain⟨d5,ch,hj⟩:=bd hj
     refine RL.bV 1 o zr zr eE ch ?_
     have o:=o.sc Int (if bf.1<bb.1 then bf.1 else bb.1)
     refine RL.ga (f:=(fun _ y=>y)) 2 0 o (jQ 2 o ch 0) (bB ch).2.1 zr Fs.self cG fun w o=>?_
     refine RL.nil ?_
     obtain rfl:=oi hj
     exact⟨rfl,cz,o.sp 9 [5,6,1,2]⟩
    rintro _ w ⟨bk,O,rfl,o⟩
    refine aG (RC.seq (RC.xf mixed ?_))
    have o:=o.drew
    refine RO.go (mv ag (RO.nx (mv (vi ad.2.1) (RO.nx ?_))))
    obtain⟨dd,b4,hb⟩:=bd hb
    refine RL.bV 1 o zr zr kd b4 (RO.nx (RL.my (α:=aI) (jQ 1 o b4 0) ke (RO.nx (RL.dR 1 o (jQ 1 o b4 2) (bB b4).2.1 fW cG (RO.nx (mv ag (RO.nx (mv (vi ad.2.2) ?_))))))))
    refine RO.nx ?_
    obtain⟨de,b5,hb⟩:=bd hb
    refine RL.bV 1 o zr zr kd b5 (RO.nx (RL.my (α:=aI) (jQ 1 o b5 0) ke (RO.nx (RL.dR 1 o (jQ 1 o b5 2) (bB b5).2.1 fW cG (RO.nx (ic dd.X1 de.X1 (RO.last (aG ?_))))))))
    obtain⟨b6,hj,hb⟩:=bd hb
    refine RC.jn (fun(b6:Int×Int)=>SH E V [(0,v0),(3,ag),(4,vp af 0),(6,(.func (.func 77) #[] #[(vp af 0)])),(7,vi ab.2.1),(11,(vi (IntKind.wrap .i64 (Int.tdiv (al.Xs.length:Int) 2)))),(12,vi b6.1),(13,vi b6.2),(42,v0),(43,vi p0.length),(44,vi ax)] [rd v0 p0,own 50 ag ao,bc 46 af [bk],own 3 bk b3]) b6 ?_ ?_
    ·refine fH hj (fun hc hj=>?_) fun hc hj=>?_
     ·refine RC.region (mv (vi ad.2.1) (RL.jo ad.2.1 1 (aP (vi (IntKind.wrap .i64 (ad.2.1+1))) (RL.nil ?_))))
      obtain rfl:=oi hj
      exact⟨rfl,o.sp 4 [0,1,2,3]⟩
     refine RC.region (mv (vi ad.2.2) (RL.jo ad.2.2 1 (aP (vi (IntKind.wrap .i64 (ad.2.2+1))) (RL.nil ?_))))
     obtain rfl:=oi hj
     exact⟨rfl,o.sp 4 [0,1,2,3]⟩
    rintro _ w ⟨O,rfl,o⟩
    refine bT ?_
    obtain rfl:=oi hb
    exact⟨rfl,bk,o.sp 4 [0,1,2,3]⟩
   ·intro r _ _ _ _
    exact r.elim
   rintro ad _ w rfl ⟨bu,O,rfl,o⟩
   rw [Fo.gx] at hj
   obtain rfl:=oi hj
   exact⟨rfl,bu,o.sp 4 [0,1,2,3]⟩
  rintro _ w ⟨bt,O,rfl,o⟩
  refine aG (RC.region (mv (vi ab.2.1) (mv (vi ab.2.1) (mv (vi (IntKind.wrap .i64 (Int.tdiv (al.Xs.length:Int) 2))) (RL.jo ab.2.1 (IntKind.wrap .i64 (Int.tdiv (al.Xs.length:Int) 2)) (aP (vi ab.2.1) (aP (vi (IntKind.wrap .i64 (ab.2.1+ (IntKind.wrap .i64 (Int.tdiv (al.Xs.length:Int) 2))))) (RL.nil ?_))))))))
  refine bT (aG (RC.region (RL.inc hk hm (mv (vi ((ax+1:Nat):Int)) (RL.nil ?_)))))
  obtain rfl:=oi hb
  exact⟨rfl,bt,o.sp 4 [0,1,2,3]⟩
 rintro _ w ⟨bq,O,rfl,o⟩
 refine aG (RC.sr (RL.makeMap (κ:=Int) (ν:=Int) zr o fun a5 w o=>(aP a5 (RL.ns (aP (.slice none 0 0) (RL.nq (RC.sr (mv ag ?_))))))))
 refine RL.fA 2 ao o nL (mv (vi 0) (RL.nt ?_))
 obtain⟨aj,hN,hb⟩:=bd hb
 refine RC.fold (fun(a4:Nat) (aj: (List Int)×(List (Int×Int))×(List (List aI))) U w=>∃(c0 c1:Value) (us939:List RV),SH E V [(6,(.func (.func 77) #[] #[(vp af 0)])),(16,a5),(17,c1),(137,ag),(138,vi ao.length),(139,vi a4)] [bc 46 af [c0],own 3 c0 aj.1,mp a5 aj.2.1,own 50 ag ao,own 23 c1 us939,iC (XS 50 aI) us939 aj.2.2 none] U w) (fun(aj: (List Int)×(List (Int×Int))×(List (List aI))) U w=>∃(cj bg:Value) (us942:List RV),SH E V [(17,bg)] [bc 46 af [cj],own 3 cj aj.1,mp a5 aj.2.1,own 50 ag ao,own 23 bg us942,iC (XS 50 aI) us942 aj.2.2 none] U w) hN ?_ ?_ ?_ ?_
 ·have o:=(o.yr (XS 50 aI)).dB RV 23
  exact⟨bq,(.slice none 0 0),([]:List RV),o.sp 7 [5,6,2,4,0,1]⟩
 ·rintro hm aj _ w ⟨df,dg,us987,O,rfl,o⟩
  refine RC.sr (ic ((ao.length:Int)) ((ao.length:Int)) (RL.nq (RC.cT mc (RC.ex ?_))))
  exact⟨rfl,df,dg,us987,o.sp 6 [0,1,2,3,4,5]⟩
 ·rintro hm a4 aj s' _ w hk ⟨d6,ck,us945,O,rfl,o⟩ hb
  refine RC.sr (ic ((a4:Int)) ((ao.length:Int)) (RL.nq (RC.cS (mb hk) (RC.ss (RC.bs (mv (vi a4) ?_))))))
  obtain⟨ba,cl,hb⟩:=bd hb
  refine RL.bV 3 o zr zr kd cl (RL.jR (f:=(fun x=>x)) 3 o (jQ 3 o cl 0) (bB cl).2.1 Fd.self eZ fun d7 o=>?_)
  refine RL.alloc o lU.z fun b7 w o=>?_
  refine aP (vi a4) (RL.bA 0 o 1 zr eZ fun w o=>?_)
  refine RL.ns (mv (.func (.func 77) #[] #[(vp af 0)]) (mv (vi a4) ?_))
  have o:=(o.pull 3).pull 3
  obtain⟨a1,dh,hb⟩:=bd hb
  refine RL.nT [(vp af 0)] GB [(vi a4)] (aF (jO N (p0:=(a4:Int)) o dh) ?_)
  rintro _ w ⟨bn,rfl,o⟩
  refine aP (vi a1.1) (RL.ns (mv a5 (mv (vi a1.1) (RL.zC 6 a1.1 zt zr o zr zr zr z7 (mv (.tuple #[(vi (dG aj.2.1 a1.1 (0:Int))),(vb (iB aj.2.1 a1.1))]) (RL.extract (vi (dG aj.2.1 a1.1 (0:Int))) (RL.extract (vb (iB aj.2.1 a1.1)) (aP (vi (dG aj.2.1 a1.1 (0:Int))) ?_))))))))
  refine aP (vb (iB aj.2.1 a1.1)) (RL.nq (RC.sr (mv (vb (iB aj.2.1 a1.1)) (RL.not (iB aj.2.1 a1.1) (RL.nt ?_)))))
  obtain⟨ae,hj,hb⟩:=bd hb
  refine RC.jn (fun(ae: (List (Int×Int))×(List (List aI))×Int) U w=>∃(a0:Value) (us956:List RV),SH E V [(6,(.func (.func 77) #[] #[(vp af 0)])),(16,a5),(17,a0),(19,vp b7 0),(21,vi ae.2.2),(137,ag),(138,vi ao.length),(139,vi a4)] [bc 46 af [bn],own 3 bn a1.2,mp a5 ae.1,bx 50 b7 ba,own 50 ag ao,own 23 a0 us956,iC (XS 50 aI) us956 ae.2.1 none] U w) ae ?_ ?_
  ·refine fH hj (fun hc hj=>?_) fun hc hj=>?_
   rotate_left
   ·refine RC.skip ?_
    obtain rfl:=oi hj
    exact⟨rfl,ck,us945,o.sp 10 [0,1,6,2,7,8,9]⟩
   refine RC.sr (mv ck (RL.pX 8 9 aj.2.2 zr o zr zr zr z5 (aP (vi aj.2.2.length) (RL.ns (mv a5 (mv (vi a1.1) (mv (vi aj.2.2.length) ?_)))))))
   have o:=o.sc Int (aj.2.2.length:Int)
   refine RL.mapUpdate 7 0 a1.1 o zr zr zr zr zr z7 fun w o=>(RL.nt (RC.region (mv ck ?_)))
   have o:=(o.dB aI 50).BO (i:=0) rfl
   refine RL.eP ([rv (.slice none 0 0)]:List RV) o [(.slice none 0 0)] A2 HF (fun M hs g=>⟨(g.sat 0 _ zr).1,zt⟩) fun d8 w o=>?_
   obtain⟨d9,di,hj⟩:=bd hj
   have o:=o.freeze 0
   refine RL.zL 12 0 13 2 zt zr o zr zr zr zr zr zr Jj di fun c2 w o=>?_
   refine aP c2 (RL.nil ?_)
   obtain rfl:=oi hj
   exact⟨rfl,c2,(us945++[rv (.slice none 0 0)]),o.sp 14 [4,5,10,6,11,12,13]⟩
  rintro _ w ⟨a0,us956,O,rfl,o⟩
  refine aG ?_
  obtain⟨ea,b8,hb⟩:=bd hb
  obtain⟨bh,dj,hb⟩:=bd hb
  obtain⟨eb,cm,hb⟩:=bd hb
  refine RC.DA E V mixed [1,1,1,1,0,0,0,0,0,0,0] [6,7,8,10] (fun(x:Value×Value×Value)=>(fun ay aw ak=>[(0,163,a0),(1,164,(vi ae.2.2)),(2,165,a0),(3,166,(vi ae.2.2)),(4,167,(zj a0 (Int.toNat ae.2.2) 1 0)),(5,168,(us956.getD (Int.toNat ae.2.2) zk).v),(6,169,ay),(7,170,aw),(8,171,ak),(9,172,(zj a0 (Int.toNat ae.2.2) 1 0))]) x.1 x.2.1 x.2.2) [(6,(.func (.func 77) #[] #[(vp af 0)])),(16,a5),(17,a0),(19,vp b7 0),(21,vi ae.2.2),(137,ag),(138,vi ao.length),(139,vi a4)] [] (fun(D:Nat->Bool) (x:Value×Value×Value)=>(fun ay aw ak=>[bif D 0 then (rd ay ba) else aY,bif D 2 then (rd aw ([ba]: (List aI))) else (bif D 1 then (own 50 aw ([ba]: (List aI))) else aY),bif D 3 then aY else (bif D 2 then (own 50 ak bh) else aY),bc 46 af [bn],own 3 bn a1.2,mp a5 ae.1,bx 50 b7 ba,own 50 ag ao,bif D 3 then (own 23 a0 (us956.set (Int.toNat ae.2.2) (rv ak))) else (own 23 a0 us956),bif D 3 then (iC (XS 50 aI) (us956.set (Int.toNat ae.2.2) (rv ak)) (ae.2.1.set (Int.toNat ae.2.2) bh) none) else (bif D 2 then (iC (XS 50 aI) us956 ae.2.1 (some (Int.toNat ae.2.2))) else (iC (XS 50 aI) us956 ae.2.1 none))]) x.1 x.2.1 x.2.2) (fun x=>by kernel_rfl) ?_ ⟨fun _=>jF gn,fun _=>jF gn,fun _=>jF gn,fun _=>jF gn,?_,?_,?_,?_,?_,?_,?_,trivial⟩ ?_
  ·have o:=(((o.drew).aY).aY).aY
   exact⟨(undef,undef,undef),eC.none,(Cq zr),zt,o⟩
  ·rintro D U w hD ar ai ⟨⟨ay,aw,ak⟩,hv,ha,_,o⟩
   obtain⟨O,rfl⟩:=(ac (hv.at 2 rfl (ar.1 rfl)) (ac (hv.at 3 rfl (ar.2.1 rfl)) az)).fC
   have o:=((o.bX 8 (nh ai hD 10)).bX 9 (nh ai hD 10)).bX 9 (nf (fun h=>ft hD ((ai 5 _ rfl ((ai 8 _ rfl h).1 rfl)).1 rfl)))
   have hl974:=o.gv 9 rfl
   have hr975:=jr zk hl974 b8
   refine RL.bV 8 o zr zr A2 hr975 ?_
   have o:=(o.eR 8 (D 10) (nh ai hD 10) (own 23 a0 (us956.set (Int.toNat ae.2.2) (rv ak)))).eR 9 (D 8) (nf (fun h=>ft hD ((ai 5 _ rfl ((ai 8 _ rfl h).1 rfl)).1 rfl))) (iC (XS 50 aI) us956 ae.2.1 (some (Int.toNat ae.2.2)))
   have o:=o.eR 9 (D 10) (nh ai hD 10) (iC (XS 50 aI) (us956.set (Int.toNat ae.2.2) (rv ak)) (ae.2.1.set (Int.toNat ae.2.2) bh) none)
   exact RL.nil ⟨rfl,(ay,aw,ak),hv.pu 4,ha.u,zt,o⟩
  ·rintro D U w hD ar ai ⟨⟨ay,aw,ak⟩,hv,ha,_,o⟩
   obtain⟨O,rfl⟩:=(ac (hv.at 4 rfl (ar.1 rfl)) az).fC
   have o:=((o.bX 8 (nh ai hD 10)).bX 9 (nh ai hD 10)).bX 9 (nh ai hD 8)
   have hl976:=o.gv 9 rfl
   have hr977:=jr zk hl976 b8
   refine RL.uo 8 9 ae.2.2 (xL 50 aI) zk zr o zr (jQ 8 o hr977 0) zr zr b8 we ?_
   have o:=(o.eR 8 (D 10) (nh ai hD 10) (own 23 a0 (us956.set (Int.toNat ae.2.2) (rv ak)))).eR 9 (D 8) (nh ai hD 8) (iC (XS 50 aI) us956 ae.2.1 (some (Int.toNat ae.2.2)))
   have o:=o.eR 9 (D 10) (nh ai hD 10) (iC (XS 50 aI) (us956.set (Int.toNat ae.2.2) (rv ak)) (ae.2.1.set (Int.toNat ae.2.2) bh) none)
   exact RL.nil ⟨rfl,(ay,aw,ak),hv.pu 5,ha.u,zt,o⟩
  ·rintro D U w hD ar ai ⟨⟨ay,aw,ak⟩,hv,ha,_,o⟩
   obtain⟨O,rfl⟩:=(ac (ha.at 3 rfl) az).fC
   have o:=o.bX 0 hD
   refine RL.aX (f:=(fun x=>x)) 6 o zr Fd.self eZ fun dk o=>?_
   have o:=(o.pl 11 [0,2,3,4,5,6,7,8,9,10]).cO 0 true aY
   exact RL.nil ⟨rfl,(dk,aw,ak),hv.pu 6,ha.u,zt,o⟩
  ·rintro D U w hD ar ai ⟨⟨ay,aw,ak⟩,hv,ha,_,o⟩
   obtain⟨O,rfl⟩:=(ac (hv.at 6 rfl (ar.1 rfl)) az).fC
   have o:=((o.cN 0 (ar.1 rfl)).bX 1 (nh ai hD 8)).bX 1 hD
   refine RL.eP ([ba]: (List aI)) o [ay] kd lU (fun M hs g=>⟨(g.sat 0 _ zr).1,zt⟩) fun c3 w o=>?_
   have o:=(((o.pl 11 [1,0,3,4,5,6,7,8,9,10]).cO (hb:=ar.1 rfl) 0 (D 6) aY).cO 1 true aY).eR 1 (D 8) (nh ai hD 8) (rd c3 ([ba]: (List aI)))
   exact RL.nil ⟨rfl,(ay,c3,ak),hv.pu 7,ha.u,zt,o⟩
  ·rintro D U w hD ar ai ⟨⟨ay,aw,ak⟩,hv,ha,_,o⟩
   obtain⟨O,rfl⟩:=(ac (hv.at 5 rfl (ar.1 rfl)) (ac (hv.at 7 rfl (ar.2.1 rfl)) az)).fC
   have o:=(((((((o.bX 1 hD).cN 1 (ar.2.1 rfl)).bX 2 (nh ai hD 10)).bX 2 hD).bX 8 (nh ai hD 10)).bX 9 (nh ai hD 10)).bX 9 hD).yt (j:=9) (jj:=ae.2.2) (xL 50 aI) zk rfl b8
   have o:=o.freeze 2
   refine RL.app 0 2 o CA dj fun cn w o=>?_
   have o:=((((o.pl 11 [1,2,0,4,5,6,7,8,9,10]).cO 1 true (bif D 7 then (own 50 aw ([ba]: (List aI))) else aY)).cO 2 true aY).eR 2 (D 10) (nh ai hD 10) aY).eR 8 (D 10) (nh ai hD 10) (own 23 a0 (us956.set (Int.toNat ae.2.2) (rv cn)))
   have o:=(o.cO 9 true (iC (XS 50 aI) us956 ae.2.1 none)).eR 9 (D 10) (nh ai hD 10) (iC (XS 50 aI) (us956.set (Int.toNat ae.2.2) (rv cn)) (ae.2.1.set (Int.toNat ae.2.2) bh) none)
   exact RL.nil ⟨rfl,(ay,aw,cn),hv.pu 8,ha.u,zt,o⟩
  ·rintro D U w hD ar ai ⟨⟨ay,aw,ak⟩,hv,ha,_,o⟩
   obtain⟨O,rfl⟩:=(ac (hv.at 0 rfl (ar.1 rfl)) (ac (hv.at 1 rfl (ar.2.1 rfl)) az)).fC
   have o:=((o.bX 8 (nh ai hD 10)).bX 9 (nh ai hD 10)).cN 9 (ar.2.2.2.2.2.2.2.2.2.2.1 rfl)
   have hl981:=o.gv 9 rfl
   have hr982:=jr zk hl981 cm
   refine RL.bV 8 o zr zr A2 hr982 ?_
   have o:=((o.eR 8 (D 10) (nh ai hD 10) (own 23 a0 (us956.set (Int.toNat ae.2.2) (rv ak)))).cO (hb:=ar.2.2.2.2.2.2.2.2.2.2.1 rfl) 9 (D 8) (iC (XS 50 aI) us956 ae.2.1 none)).eR 9 (D 10) (nh ai hD 10) (iC (XS 50 aI) (us956.set (Int.toNat ae.2.2) (rv ak)) (ae.2.1.set (Int.toNat ae.2.2) bh) none)
   exact RL.nil ⟨rfl,(ay,aw,ak),hv.pu 9,ha.u,zt,o⟩
  ·rintro D U w hD ar ai ⟨⟨ay,aw,ak⟩,hv,ha,_,o⟩
   obtain⟨O,rfl⟩:=(ac (hv.at 8 rfl (ar.2.1 rfl)) (ac (hv.at 9 rfl (ar.1 rfl)) az)).fC
   have o:=((((o.bX 2 hD).cN 2 (ar.2.1 rfl)).bX 8 hD).bX 9 hD).cN 9 (ar.2.1 rfl)
   have hl983:=o.gv 9 rfl
   have hr984:=jr zk hl983 cm
   refine RL.r7 8 9 2 ae.2.2 (xL 50 aI) zk o zr zr (jQ 8 o hr984 0) zr zr zr cm we fun w o=>?_
   have o:=((o.cO 2 true (bif D 8 then (own 50 ak bh) else aY)).cO 8 true (own 23 a0 us956)).cO 9 true (bif D 8 then (iC (XS 50 aI) us956 ae.2.1 (some (Int.toNat ae.2.2))) else (iC (XS 50 aI) us956 ae.2.1 none))
   exact RL.nil ⟨rfl,(ay,aw,ak),hv.n1,ha,zt,o⟩
  rintro D U w bo ⟨⟨ay,aw,ak⟩,hv,ha,_,o⟩
  have o:=((((o.cN 0 (jS bo 6)).cN 1 (jS bo 8)).cN 2 (jS bo 10)).cN 8 (jS bo 10)).cN 9 (jS bo 10)
  obtain⟨O,rfl⟩:=(ac (ha.at 0 rfl) (ac (ha.at 1 rfl) (ac (ha.at 2 rfl) (ac (ha.at 3 rfl) (ac (ha.at 4 rfl) (ac (ha.at 5 rfl) (ac (ha.at 6 rfl) (ac (ha.at 7 rfl) az)))))))).fC
  refine bT (aG (RC.region (RL.inc hk hm (mv (vi ((a4+1:Nat):Int)) (RL.nil ?_)))))
  obtain rfl:=oi hb
  exact⟨rfl,bn,a0,(us956.set (Int.toNat ae.2.2) (rv ak)),o.sp 10 [3,4,5,7,8,9]⟩
 rintro _ w ⟨cj,bg,us942,O,rfl,o⟩
 refine aG (RC.sr (aP (.slice none 0 0) (RL.nq (RC.sr (mv bg (RL.pX 4 5 aj.2.2 zr o zr zr zr z5 (mv (vi 0) (RL.nt ?_))))))))
 have o:=o.yu (X:=(XS 50 aI)) (b:=5) (j:=4) rfl (fun M h u x cs=>(FX 50) M h u x cs) rfl rfl (by decide)
 obtain⟨bl,hN,hb⟩:=bd hb
 refine RC.fold (fun(b9:Nat) (bl: (List (List aA))) U w=>∃c4:Value,SH E V [(23,c4),(174,bg),(175,vi aj.2.2.length),(176,vi b9)] [own 23 bg aj.2.2,own 76 c4 bl] U w) (fun(bl: (List (List aA))) U w=>∃bp:Value,SH E V [(23,bp)] [own 23 bg aj.2.2,own 76 bp bl] U w) hN ?_ ?_ ?_ ?_
 ·have o:=o.dB (List aA) 76
  exact⟨(.slice none 0 0),o.sp 7 [5,0]⟩
 ·rintro hm bl _ w ⟨dm,O,rfl,o⟩
  refine RC.sr (ic ((aj.2.2.length:Int)) ((aj.2.2.length:Int)) (RL.nq (RC.cT mc (RC.ex ?_))))
  exact⟨rfl,dm,o.sp 2 [0,1]⟩
 ·rintro hm b9 bl s' _ w hk ⟨dn,O,rfl,o⟩ hb
  refine RC.sr (ic ((b9:Int)) ((aj.2.2.length:Int)) (RL.nq (RC.cS (mb hk) (RC.ss (RC.bs ?_)))))
  obtain⟨ec,cp,hb⟩:=bd hb
  refine RL.bV 0 o zr zr A2 cp (RL.jR (f:=(fun x=>x)) 0 o (jQ 0 o cp 0) (bB cp).2.1 Fd.self we fun cq o=>?_)
  refine aP cq (RL.nt (RC.region (mv dn (mv cq ?_))))
  obtain⟨dp,dq,hb⟩:=bd hb
  refine RL.call zt zr DQ [cq] zr (aF (kh N (i0:=0) o zr dq) ?_)
  rintro dr w o
  have o:=o.freeze 0
  refine RL.eP ([dp]: (List (List aA))) o [dr] DW GA (fun M hs g=>⟨(g.sat 0 _ zr).1,zt⟩) fun ed w o=>?_
  have o:=o.freeze 0
  obtain⟨ee,ds,hb⟩:=bd hb
  refine RL.app 4 0 o HE ds fun c5 w o=>?_
  refine aP c5 (RL.nil (bT (aG (RC.region (RL.inc hk hm (mv (vi ((b9+1:Nat):Int)) (RL.nil ?_)))))))
  obtain rfl:=oi hb
  exact⟨rfl,c5,o.sp 5 [3,4]⟩
 rintro _ w ⟨bp,O,rfl,o⟩
 refine aG (RC.sr (mv bp (aP bp (RL.nt (RC.ret ?_)))))
 obtain rfl:=oi hb
 exact cI (o.pk 2 [1])
def qz (E:World) (V:List HP) (b0:Nat) (v0_0 v0_1:Value) (v0_2 v0_3:Value) (v0_6 v0_7:Value) (v0_8 v0_9:Value) (v0_10 v0_11:Value) (res:Bool×(List (List aA))×(List aH)) (v:Value) (w:World):Prop:=∃u0_4 u0_5:Value,v= (vb res.1)/\Holds E w ([bc 69 b0 [v0_0,v0_1,v0_2,v0_3,u0_4,u0_5,v0_6,v0_7,v0_8,v0_9,v0_10,v0_11],own 76 u0_4 res.2.1,own 78 u0_5 res.2.2]++V)
theorem pM {p0_0: (List (List aI))} {p0_2: (List bU)} {p0_4: (List (List aA))} {p0_5: (List aH)} {res:Bool×(List (List aA))×(List aH)} (j:Holds E w (bc 69 b0 [v0_0,v0_1,v0_2,v0_3,v0_4,v0_5,v0_6,v0_7,v0_8,v0_9,v0_10,v0_11]::rd v0_0 p0_0::rd v0_2 p0_2::own 76 v0_4 p0_4::own 78 v0_5 p0_5::V)) (o:ik N p0_0 p0_2 p0_4 p0_5=some res):
    Calls bF 18 [(vp b0 0)].toArray w (gT (qz E V b0 v0_0 v0_1 v0_2 v0_3 v0_6 v0_7 v0_8 v0_9 v0_10 v0_11 res)):=by
 unfold ik at o
 refine enter Tryz.func18 zr zr (RC.sr (aP (vb false) (RL.ns (aP (vb true) (RL.nq (RC.sr (mv (vp b0 0) (RL.nilCheck zr ?_))))))))
 refine RL.aZ zr mD (RL.aZ zr uy (RL.aU 0 v0_0 j Cy (RL.bE 1 p0_0 j z5 (mv (vi 0) (RL.nt ?_)))))
 obtain⟨aa,hN,o⟩:=bd o
 refine RC.fold (fun(ab:Nat) (aa: (List (List aA))×(List aH)×Bool) U w=>∃bf bg:Value,SH E V [(0,vp b0 0),(3,vb aa.2.2),(16,v0_0),(17,vi p0_0.length),(18,vi ab)] [bc 69 b0 [v0_0,v0_1,v0_2,v0_3,bf,bg,v0_6,v0_7,v0_8,v0_9,v0_10,v0_11],own 76 bf aa.1,own 78 bg aa.2.1,rd v0_0 p0_0,rd v0_2 p0_2] U w) (fun(aa: (List (List aA))×(List aH)×Bool) U w=>∃au al:Value,SH E V [(0,vp b0 0),(3,vb aa.2.2)] [bc 69 b0 [v0_0,v0_1,v0_2,v0_3,au,al,v0_6,v0_7,v0_8,v0_9,v0_10,v0_11],own 76 au aa.1,own 78 al aa.2.1,rd v0_0 p0_0,rd v0_2 p0_2] U w) hN ?_ ?_ ?_ ?_
 ·exact⟨v0_4,v0_5,j.sp 5 [0,3,4,1,2]⟩
 ·rintro hm aa _ w ⟨bq,br,O,rfl,j⟩
  refine RC.sr (ic ((p0_0.length:Int)) ((p0_0.length:Int)) (RL.nq (RC.cT mc (RC.ex ?_))))
  exact⟨rfl,bq,br,j.sp 5 [0,1,2,3,4]⟩
 ·rintro hm ab aa s' _ w hk ⟨af,ag,O,rfl,j⟩ o
  refine RC.sr (ic ((ab:Int)) ((p0_0.length:Int)) (RL.nq (RC.cS (mb hk) (RC.ss (RC.bs (mv (vi ab) ?_))))))
  obtain⟨a2,bt,o⟩:=bd o
  refine RL.cB 3 j A2 bt fun cp j=>(RL.bP 0 a2 j we fun ah j=>(aP (vi ab) (aP ah (RL.ns (aP (.slice none 0 0) (RL.nq (RC.sr (mv (vp b0 0) ?_))))))))
  refine RL.nilCheck zr (RL.aZ zr mD (RL.aZ zr lV (RL.aU 2 v0_2 j uz (RL.bE 6 p0_2 j wg (mv (vi 0) (RL.nt ?_))))))
  obtain⟨av,hN,o⟩:=bd o
  refine RC.fold (fun(az:Nat) (av: (List aI)) U w=>∃bh:Value,SH E V [(0,vp b0 0),(3,vb aa.2.2),(4,vi ab),(5,ah),(6,bh),(16,v0_0),(17,vi p0_0.length),(18,vi ab),(27,v0_2),(28,vi p0_2.length),(29,vi az)] [bc 69 b0 [v0_0,v0_1,v0_2,v0_3,af,ag,v0_6,v0_7,v0_8,v0_9,v0_10,v0_11],rd v0_0 p0_0,rd v0_2 p0_2,own 76 af aa.1,own 78 ag aa.2.1,rd ah a2,own 50 bh av] U w) (fun(av: (List aI)) U w=>∃a0:Value,SH E V [(0,vp b0 0),(3,vb aa.2.2),(4,vi ab),(5,ah),(6,a0),(16,v0_0),(17,vi p0_0.length),(18,vi ab)] [bc 69 b0 [v0_0,v0_1,v0_2,v0_3,af,ag,v0_6,v0_7,v0_8,v0_9,v0_10,v0_11],rd v0_0 p0_0,rd v0_2 p0_2,own 76 af aa.1,own 78 ag aa.2.1,rd ah a2,own 50 a0 av] U w) hN ?_ ?_ ?_ ?_
  ·have j:=j.dB aI 50
   exact⟨(.slice none 0 0),j.sp 8 [3,6,7,4,5,1,0]⟩
  ·rintro hm av _ w ⟨bu,O,rfl,j⟩
   refine RC.sr (ic ((p0_2.length:Int)) ((p0_2.length:Int)) (RL.nq (RC.cT mc (RC.ex ?_))))
   exact⟨rfl,bu,j.sp 7 [0,1,2,3,4,5,6]⟩
  ·rintro hm az av s' _ w hk ⟨bj,O,rfl,j⟩ o
   refine RC.sr (ic ((az:Int)) ((p0_2.length:Int)) (RL.nq (RC.cS (mb hk) (RC.ss (RC.bs ?_)))))
   obtain⟨bw,bx,o⟩:=bd o
   refine RL.cB 2 j yF bx fun cq j=>(RL.bP 0 bw j nM fun cr j=>(RL.alloc j CB.z fun ct w j=>?_))
   refine RL.bA 0 j 1 zr nM fun w j=>?_
   refine RL.ns (RL.aX (f:=(fun x=>x)) 0 j zr Fd.self nM fun bz j=>(mv (vi ab) ?_))
   obtain⟨cu,b1,o⟩:=bd o
   refine RL.call zt zr Gz [bz,(vi ab)] zr (aF (lI N (p1:=(ab:Int)) (i0:=0) j zr b1) ?_)
   rintro _ w ⟨rfl,j⟩
   refine RL.nt ?_
   obtain⟨a6,hj,o⟩:=bd o
   refine RC.jn (fun(a6: (List aI)) U w=>∃a3:Value,SH E V [(0,vp b0 0),(3,vb aa.2.2),(4,vi ab),(5,ah),(6,a3),(16,v0_0),(17,vi p0_0.length),(18,vi ab),(27,v0_2),(28,vi p0_2.length),(29,vi az)] [bc 69 b0 [v0_0,v0_1,v0_2,v0_3,af,ag,v0_6,v0_7,v0_8,v0_9,v0_10,v0_11],rd v0_0 p0_0,rd v0_2 p0_2,own 76 af aa.1,own 78 ag aa.2.1,rd ah a2,own 50 a3 a6] U w) a6 ?_ ?_
   ·refine fH hj (fun hc hj=>?_) fun hc hj=>?_
    rotate_left
    ·refine RC.skip ?_
     obtain rfl:=oi hj
     exact⟨rfl,bj,j.sp 11 [4,5,6,7,8,9,10]⟩
    refine RC.region (mv bj (RL.aX (f:=(fun x=>x)) 1 j zr Fd.self nM fun b3 j=>?_))
    obtain⟨b4,b5,hj⟩:=bd hj
    refine RL.call zt zr CC [b3] zr (aF (gq N (i0:=0) j zr b5) ?_)
    rintro b6 w j
    refine RL.eP ([b4]: (List aI)) j [b6] kd lU (fun M hs g=>⟨(g.sat 0 _ zr).1,zt⟩) fun cv w j=>?_
    have j:=j.freeze 0
    obtain⟨cw,b7,hj⟩:=bd hj
    refine RL.app 13 0 j CA b7 fun bk w j=>?_
    refine aP bk (RL.nil ?_)
    obtain rfl:=oi hj
    exact⟨rfl,bk,j.sp 14 [7,8,9,10,11,12,13]⟩
   rintro _ w ⟨a3,O,rfl,j⟩
   refine bT (aG (RC.region (RL.inc hk hm (mv (vi ((az+1:Nat):Int)) (RL.nil ?_)))))
   obtain rfl:=oi o
   exact⟨rfl,a3,j.sp 7 [0,1,2,3,4,5,6]⟩
  rintro _ w ⟨a0,O,rfl,j⟩
  refine aG (RC.sr (mv ah ?_))
  obtain⟨cx,b8,o⟩:=bd o
  refine RL.call zt zr DQ [ah] zr (aF (kh N (i0:=5) j zr b8) ?_)
  rintro b9 w j
  refine mv a0 ?_
  have j:=j.freeze 7
  obtain⟨cy,ca,o⟩:=bd o
  refine RL.call zt zr DQ [a0] zr (aF (kh N (i0:=7) j zr ca) ?_)
  rintro cb w j
  have j:=(j.freeze 1).freeze 0
  obtain⟨cz,cc,o⟩:=bd o
  refine RL.call zt zr Jh [b9,cb] zr (aF (tC N (i0:=1) (i1:=0) j zr zr cc) ?_)
  rintro a1 w j
  refine aP a1 (RL.nq ?_)
  obtain⟨an,hj,o⟩:=bd o
  refine RC.jn (fun(an:Bool×(List aA)) U w=>∃ao:Value,SH E V [(0,vp b0 0),(3,vb an.1),(4,vi ab),(9,ao),(16,v0_0),(17,vi p0_0.length),(18,vi ab)] [bc 69 b0 [v0_0,v0_1,v0_2,v0_3,af,ag,v0_6,v0_7,v0_8,v0_9,v0_10,v0_11],rd v0_0 p0_0,rd v0_2 p0_2,own 76 af aa.1,own 78 ag aa.2.1,rd ao an.2] U w) an ?_ ?_
  ·refine RC.region (mv (vb aa.2.2) (mv (vb aa.2.2) (fY hj (fun ai hj=>?_) fun ai hj=>?_)))
   rotate_left
   ·refine bR ai (bR ai (bR ai (fV ai (vb false) (aP (vb false) (RL.nil ?_)))))
    obtain rfl:=oi hj
    have j:=j.freeze 0
    exact⟨rfl,a1,j.sp 10 [3,4,5,6,7,0]⟩
   refine RL.move a1 (cg ai) ?_
   have j:=j.freeze 0
   obtain⟨a7,cd,hj⟩:=bd hj
   refine RL.call (cg ai) zr Ji [a1] zr (aF (tD N (i0:=0) j zr cd) ?_)
   rintro _ w ⟨rfl,j⟩
   refine RL.jY a7 2000 (cg ai) (fV ai (vb (decide (a7<=2000))) (aP (vb (decide (a7<=2000))) (RL.nil ?_)))
   obtain rfl:=oi hj
   exact⟨rfl,a1,j.sp 10 [3,4,5,6,7,0]⟩
  rintro _ w ⟨ao,O,rfl,j⟩
  refine aG (RC.sr (mv (vp b0 0) (mv (vp b0 0) (RL.nilCheck zr (RL.aZ zr DX (RL.aU 0 af j HD (mv ao (RL.eP ([an.2]: (List (List aA))) j [ao] DW GA (fun M hs g=>⟨(g.sat 5 _ zr).1,zt⟩) fun c0 w j=>?_))))))))
  have j:=j.freeze 0
  obtain⟨bl,cf,o⟩:=bd o
  refine RL.app 4 0 j HE cf fun aq w j=>?_
  refine RL.nilCheck zr (RL.aZ zr DX (RL.gz 1 aq j zr zr (gZ 4 j) HD fun w j=>?_))
  refine RL.ns (mv ao ?_)
  obtain⟨ar,ch,o⟩:=bd o
  refine RL.call zt zr Jk [ao] zr (aF (sB N (i0:=6) j zr ch) ?_)
  rintro a8 w j
  refine RL.fA 0 ar j Hz (mv (vi 0) (RL.nt ?_))
  obtain⟨aw,hN,o⟩:=bd o
  refine RC.fold (fun(a4:Nat) (aw: (List aH)) U w=>∃bm:Value,SH E V [(0,vp b0 0),(3,vb an.1),(4,vi ab),(16,v0_0),(17,vi p0_0.length),(18,vi ab),(64,a8),(65,vi ar.length),(66,vi a4)] [bc 69 b0 [v0_0,v0_1,v0_2,v0_3,aq,bm,v0_6,v0_7,v0_8,v0_9,v0_10,v0_11],own 78 bm aw,rd v0_0 p0_0,rd v0_2 p0_2,own 76 aq bl,own 76 a8 ar] U w) (fun(aw: (List aH)) U w=>∃a5:Value,SH E V [(0,vp b0 0),(3,vb an.1),(16,v0_0),(17,vi p0_0.length),(18,vi ab)] [bc 69 b0 [v0_0,v0_1,v0_2,v0_3,aq,a5,v0_6,v0_7,v0_8,v0_9,v0_10,v0_11],own 78 a5 aw,rd v0_0 p0_0,rd v0_2 p0_2,own 76 aq bl,own 76 a8 ar] U w) hN ?_ ?_ ?_ ?_
  ·exact⟨ag,j.sp 8 [2,6,3,4,5,0]⟩
  ·rintro hm aw _ w ⟨cj,O,rfl,j⟩
   refine RC.sr (ic ((ar.length:Int)) ((ar.length:Int)) (RL.nq (RC.cT mc (RC.ex ?_))))
   exact⟨rfl,cj,j.sp 6 [0,1,2,3,4,5]⟩
  ·rintro hm a4 aw s' _ w hk ⟨a9,O,rfl,j⟩ o
   refine RC.sr (ic ((a4:Int)) ((ar.length:Int)) (RL.nq (RC.cS (mb hk) (RC.ss (RC.bs ?_)))))
   obtain⟨bn,ba,o⟩:=bd o
   refine RL.bV 5 j zr zr DW ba (RL.jR (f:=(fun x=>x)) 5 j (jQ 5 j ba 0) (bB ba).2.1 Fd.self HA fun ax j=>?_)
   refine aP ax (RL.nt ?_)
   have j:=j.drew
   refine RC.DE (fun w=>Holds E w ([bc 69 b0 [v0_0,v0_1,v0_2,v0_3,aq,a9,v0_6,v0_7,v0_8,v0_9,v0_10,v0_11]]++V)) mixed zr [1,1,1,1,1,1,1,0,2,0,2,2,0,0,2] [0,1,2,3,4,5,6,7,8,9,10,11,12,13,14] (j.pk 7 [1]) (DP.e1 (vp b0 0) zr (fun w=>RL.move (vp b0 0) zt DP.d1) (DP.e1 (vp b0 0) zr (fun w=>RL.move (vp b0 0) zt DP.d1) (DP.e1 (vp b0 0) zr (fun w=>RL.nilCheck zr DP.d1) (DP.e1 (vp b0 5) zr (fun w=>RL.aZ zr mE DP.d1) (DP.Gr a9 zr (fun w j=>RL.aU 0 a9 j vq DP.d1) (DP.e1 (vi ab) zr (fun w=>RL.move (vi ab) zt DP.d1) (DP.e1 ax zr (fun w=>RL.move ax zt DP.d1) (DP.e0 zr ?_))))))))
   refine mv ax (vX zr ?_)
   obtain⟨bo,ck,o⟩:=bd o
   refine RL.call zt zr Gw [ax] zr (aF (k9 N (i0:=0) j zr ck) ?_)
   rintro cl w j
   refine DP.d2 (j.pk 8 [2]) (DP.e0 zr ?_)
   have j:=(j.sc Int (ab:Int)).freeze 1
   refine RL.build (⟨(ab:Int),bn,bo⟩:aH) trivial rfl j [(0,vi ab),(1,ax),(2,cl)] rfl Jl rfl (fun M hs g=>by have h:=wc M;exact cH.cons (f:=fun(x:aH) y=>{x with cR:=y}) h tj (g.sat 0 _ rfl).1 fun _ h=>cH.cons (f:=fun(x:aH) y=>{x with Set:=y}) h tk (g.sat 2 _ rfl).1 fun _ h=>cH.cons (f:=fun(x:aH) y=>{x with iD:=y}) h tl (g.sat 1 _ rfl).1 fun _ h=>cH.nil h) fun cm j=>?_
   refine vX zr (RL.eP ([(⟨(ab:Int),bn,bo⟩:aH)]: (List aH)) j [cm] CF Fm (fun M hs g=>⟨(g.sat 0 _ zr).1,zt⟩) fun c1 w j=>(DP.d2 (j.pk 11 [5]) (DP.e2 zr ?_)))
   have j:=j.freeze 0
   obtain⟨c2,cn,o⟩:=bd o
   refine RL.app 6 0 j Jm cn fun bp w j=>?_
   refine DP.d2 (j.pk 11 [5]) (DP.e0 zr (RL.nilCheck zr (cE zr (RL.aZ zr mE (DP.d0 (DP.Ki zr zr (RL.gz 5 bp j zr zr (gZ 6 j) vq fun w j=>?_)))))))
   refine DP.d2 zt (DP.z (bT (aG (RC.region (RL.inc hk hm (mv (vi ((a4+1:Nat):Int)) (RL.nil ?_)))))))
   obtain rfl:=oi o
   exact⟨rfl,bp,j.sp 11 [5,6,7,8,9,10]⟩
  rintro _ w ⟨a5,O,rfl,j⟩
  refine bT (aG (RC.region (RL.inc hk hm (mv (vi ((ab+1:Nat):Int)) (RL.nil ?_)))))
  obtain rfl:=oi o
  exact⟨rfl,aq,a5,j.sp 6 [0,4,1,2,3]⟩
 rintro _ w ⟨au,al,O,rfl,j⟩
 refine aG (RC.seq ?_)
 obtain⟨bb,hj,o⟩:=bd o
 refine RC.jn (fun(bb:Bool)=>SH E V [(0,vp b0 0),(2,vb bb)] [bc 69 b0 [v0_0,v0_1,v0_2,v0_3,au,al,v0_6,v0_7,v0_8,v0_9,v0_10,v0_11],rd v0_0 p0_0,rd v0_2 p0_2,own 76 au aa.1,own 78 al aa.2.1]) bb ?_ ?_
 ·refine RC.region (mv (vb aa.2.2) (mv (vb aa.2.2) (fY hj (fun ae hj=>?_) fun ae hj=>?_)))
  ·refine RL.move (vp b0 0) (cg ae) (RL.nilCheck (hg:=(cg ae)) zr (RL.aZ (hg:=(cg ae)) zr mE (RL.aU (hg:=(cg ae)) 0 al j vq (RL.fA (hg:=(cg ae)) 2 aa.2.1 j z8 (RL.jY (aa.2.1.length:Int) 2000 (cg ae) (fV ae (vb (decide ((aa.2.1.length:Int)<=2000))) (aP (vb (decide ((aa.2.1.length:Int)<=2000))) (RL.nil ?_))))))))
   obtain rfl:=oi hj
   exact⟨rfl,j.sp 5 [0,3,4,1,2]⟩
  refine bR ae (bR ae (bR ae (bR ae (bR ae (bR ae (fV ae (vb false) (aP (vb false) (RL.nil ?_))))))))
  obtain rfl:=oi hj
  exact⟨rfl,j.sp 5 [0,3,4,1,2]⟩
 rintro _ w ⟨O,rfl,j⟩
 refine aG (RC.ret ?_)
 obtain rfl:=oi o
 exact cI ⟨au,al,zr,j.pk 5 [0,3,4]⟩
end Go.Gk
namespace Go.Gk
open Go Go.Proofs
variable (N:Nat) {E w:World} {b0 i0 i1:Nat} {p0 p1 p2 res:Int} {v0 v0_0 v0_1 v0_10 v0_11 v0_2 v0_3 v0_4 v0_5 v0_6 v0_7 v0_8 v0_9 v1:Value} {V:List HP}
theorem uL {p0 p1:aI} {res:Bool} (j:Holds E w V) (h0:V[i0]? =some (rd v0 p0)) (h1:V[i1]? =some (rd v1 p1)) (hb:og N p0 p1=some res):
    Calls bF 51 [v0,v1].toArray w (gT (bD E V res)):=by
 unfold og at hb
 refine enter Tryz.func51 zr zr ?_
 have j:=(j.dup (i0+0) h0).dup (i1+1) h1
 refine RC.sr (RL.dD 1 v0 j zr fun o w j=>?_)
 refine RL.dD 1 v1 j zr fun aa w j=>?_
 refine aP (vb false) (RL.ns (RL.aZ zr iX (RL.aK 1 j zr eG cG (RL.aZ zr ke (RL.aK 0 j zr fW cG (ic p0.X0 p1.X1 (mv (vb (decide (p0.X0<p1.X1))) (RL.gs true (decide (p0.X0<p1.X1)) (vp aa 0) zr zr zr (dI iX) ?_))))))))
 refine RL.gs true (decide (p0.X0<p1.X1)) (vi p1.X0) rfl rfl rfl (bQ 0 rfl j (fun h=>by exact(cQ h:cv (true&&((decide (p0.X0<p1.X1))==true)) (vp aa 0)= (vp aa 0))) rfl eG cG) (RL.gs true (decide (p0.X0<p1.X1)) (vp o 2) rfl rfl rfl (dI ke) (RL.gs true (decide (p0.X0<p1.X1)) (vi p0.X1) rfl rfl rfl (bQ 1 rfl j (fun h=>by exact(cQ h:cv (true&&((decide (p0.X0<p1.X1))==true)) (vp o 2)= (vp o 2))) rfl fW cG) (RL.gs true (decide (p0.X0<p1.X1)) (vb (decide (p1.X0<p0.X1))) rfl rfl rfl (dT .lss .i64 p1.X0 p0.X1 rfl (fun h=>by exact(cQ h:cv (true&&((decide (p0.X0<p1.X1))==true)) (vi p1.X0)= (vi p1.X0))) (fun h=>by exact(cQ h:cv (true&&((decide (p0.X0<p1.X1))==true)) (vi p0.X1)= (vi p0.X1))) rfl) (RL.pick (decide (p0.X0<p1.X1)) (vb ((decide (p0.X0<p1.X1))&&(decide (p1.X0<p0.X1)))) (iU true) (aP (vb ((decide (p0.X0<p1.X1))&&(decide (p1.X0<p0.X1)))) (RL.ns (RL.aZ rfl jy (RL.aK 1 j rfl eQ cG ?_))))))))
 refine RL.aZ rfl nk (RL.aK 0 j rfl jh cG (ic p0.Y0 p1.Y1 (mv (vb (decide (p0.Y0<p1.Y1))) (RL.gs true (decide (p0.Y0<p1.Y1)) (vp aa 1) rfl rfl rfl (dI jy) (RL.gs true (decide (p0.Y0<p1.Y1)) (vi p1.Y0) rfl rfl rfl (bQ 0 rfl j (fun h=>by exact(cQ h:cv (true&&((decide (p0.Y0<p1.Y1))==true)) (vp aa 1)= (vp aa 1))) rfl eQ cG) (RL.gs true (decide (p0.Y0<p1.Y1)) (vp o 3) rfl rfl rfl (dI nk) (RL.gs true (decide (p0.Y0<p1.Y1)) (vi p0.Y1) rfl rfl rfl (bQ 1 rfl j (fun h=>by exact(cQ h:cv (true&&((decide (p0.Y0<p1.Y1))==true)) (vp o 3)= (vp o 3))) rfl jh cG) (RL.gs true (decide (p0.Y0<p1.Y1)) (vb (decide (p1.Y0<p0.Y1))) rfl rfl rfl (dT .lss .i64 p1.Y0 p0.Y1 rfl (fun h=>by exact(cQ h:cv (true&&((decide (p0.Y0<p1.Y1))==true)) (vi p1.Y0)= (vi p1.Y0))) (fun h=>by exact(cQ h:cv (true&&((decide (p0.Y0<p1.Y1))==true)) (vi p0.Y1)= (vi p0.Y1))) rfl) ?_))))))))
 refine RL.pick (decide (p0.Y0<p1.Y1)) (vb ((decide (p0.Y0<p1.Y1))&&(decide (p1.Y0<p0.Y1)))) (iU true) (aP (vb ((decide (p0.Y0<p1.Y1))&&(decide (p1.Y0<p0.Y1)))) (RL.ns (mv (vb ((decide (p0.X0<p1.X1))&&(decide (p1.X0<p0.X1)))) (mv (vb ((decide (p0.X0<p1.X1))&&(decide (p1.X0<p0.X1)))) (RL.gs true ((decide (p0.X0<p1.X1))&&(decide (p1.X0<p0.X1))) (vp o 3) rfl rfl rfl (dI nk) (RL.gs true ((decide (p0.X0<p1.X1))&&(decide (p1.X0<p0.X1))) (vi p0.Y1) rfl rfl rfl (bQ 1 rfl j (fun h=>by exact(cQ h:cv (true&&(((decide (p0.X0<p1.X1))&&(decide (p1.X0<p0.X1)))==true)) (vp o 3)= (vp o 3))) rfl jh cG) (RL.gs true ((decide (p0.X0<p1.X1))&&(decide (p1.X0<p0.X1))) (vp aa 1) rfl rfl rfl (dI jy) (RL.gs true ((decide (p0.X0<p1.X1))&&(decide (p1.X0<p0.X1))) (vi p1.Y0) rfl rfl rfl (bQ 0 rfl j (fun h=>by exact(cQ h:cv (true&&(((decide (p0.X0<p1.X1))&&(decide (p1.X0<p0.X1)))==true)) (vp aa 1)= (vp aa 1))) rfl eQ cG) ?_))))))))
 refine RL.gs true ((decide (p0.X0<p1.X1))&&(decide (p1.X0<p0.X1))) (vb (p0.Y1==p1.Y0)) rfl rfl rfl (dT .eql .i64 p0.Y1 p1.Y0 rfl (fun h=>by exact(cQ h:cv (true&&(((decide (p0.X0<p1.X1))&&(decide (p1.X0<p0.X1)))==true)) (vi p0.Y1)= (vi p0.Y1))) (fun h=>by exact(cQ h:cv (true&&(((decide (p0.X0<p1.X1))&&(decide (p1.X0<p0.X1)))==true)) (vi p1.Y0)= (vi p1.Y0))) rfl) (RL.gs true ((decide (p0.X0<p1.X1))&&(decide (p1.X0<p0.X1))) (vb (p0.Y1==p1.Y0)) rfl rfl rfl (dQ (hx:=fun h=>by exact(cQ h:cv (true&&(((decide (p0.X0<p1.X1))&&(decide (p1.X0<p0.X1)))==true)) (vb (p0.Y1==p1.Y0))= (vb (p0.Y1==p1.Y0))))) (RL.gs (true&&(((decide (p0.X0<p1.X1))&&(decide (p1.X0<p0.X1)))==true)) (p0.Y1==p1.Y0) (vp aa 3) rfl rfl rfl (dI nk) (RL.gs (true&&(((decide (p0.X0<p1.X1))&&(decide (p1.X0<p0.X1)))==true)) (p0.Y1==p1.Y0) (vi p1.Y1) rfl rfl rfl (bQ 0 rfl j (fun h=>by exact(cQ h:cv ((true&&(((decide (p0.X0<p1.X1))&&(decide (p1.X0<p0.X1)))==true))&&((p0.Y1==p1.Y0)==false)) (vp aa 3)= (vp aa 3))) rfl jh cG) (RL.gs (true&&(((decide (p0.X0<p1.X1))&&(decide (p1.X0<p0.X1)))==true)) (p0.Y1==p1.Y0) (vp o 1) rfl rfl rfl (dI jy) (RL.gs (true&&(((decide (p0.X0<p1.X1))&&(decide (p1.X0<p0.X1)))==true)) (p0.Y1==p1.Y0) (vi p0.Y0) rfl rfl rfl (bQ 1 rfl j (fun h=>by exact(cQ h:cv ((true&&(((decide (p0.X0<p1.X1))&&(decide (p1.X0<p0.X1)))==true))&&((p0.Y1==p1.Y0)==false)) (vp o 1)= (vp o 1))) rfl eQ cG) (RL.gs (true&&(((decide (p0.X0<p1.X1))&&(decide (p1.X0<p0.X1)))==true)) (p0.Y1==p1.Y0) (vb (p1.Y1==p0.Y0)) rfl rfl rfl (dT .eql .i64 p1.Y1 p0.Y0 rfl (fun h=>by exact(cQ h:cv ((true&&(((decide (p0.X0<p1.X1))&&(decide (p1.X0<p0.X1)))==true))&&((p0.Y1==p1.Y0)==false)) (vi p1.Y1)= (vi p1.Y1))) (fun h=>by exact(cQ h:cv ((true&&(((decide (p0.X0<p1.X1))&&(decide (p1.X0<p0.X1)))==true))&&((p0.Y1==p1.Y0)==false)) (vi p0.Y0)= (vi p0.Y0))) rfl) (RL.gs true ((decide (p0.X0<p1.X1))&&(decide (p1.X0<p0.X1))) (vb ((p0.Y1==p1.Y0)||(p1.Y1==p0.Y0))) rfl rfl rfl (nU (p0.Y1==p1.Y0) rfl (fun h=>by exact(cQ h:cv (true&&(((decide (p0.X0<p1.X1))&&(decide (p1.X0<p0.X1)))==true)) (vb (p0.Y1==p1.Y0))= (vb (p0.Y1==p1.Y0)))) (fun h=>by exact m7 (true&&(((decide (p0.X0<p1.X1))&&(decide (p1.X0<p0.X1)))==true)) h)) (RL.pick ((decide (p0.X0<p1.X1))&&(decide (p1.X0<p0.X1))) (vb (((decide (p0.X0<p1.X1))&&(decide (p1.X0<p0.X1)))&&((p0.Y1==p1.Y0)||(p1.Y1==p0.Y0)))) (iU true) ?_))))))))
 refine mv (vb (((decide (p0.X0<p1.X1))&&(decide (p1.X0<p0.X1)))&&((p0.Y1==p1.Y0)||(p1.Y1==p0.Y0)))) (RL.gs true (((decide (p0.X0<p1.X1))&&(decide (p1.X0<p0.X1)))&&((p0.Y1==p1.Y0)||(p1.Y1==p0.Y0))) (vb ((decide (p0.Y0<p1.Y1))&&(decide (p1.Y0<p0.Y1)))) rfl rfl rfl dQ (RL.gs true (((decide (p0.X0<p1.X1))&&(decide (p1.X0<p0.X1)))&&((p0.Y1==p1.Y0)||(p1.Y1==p0.Y0))) (vb ((decide (p0.Y0<p1.Y1))&&(decide (p1.Y0<p0.Y1)))) rfl rfl rfl (dQ (hx:=fun h=>by exact(cQ h:cv (true&&((((decide (p0.X0<p1.X1))&&(decide (p1.X0<p0.X1)))&&((p0.Y1==p1.Y0)||(p1.Y1==p0.Y0)))==false)) (vb ((decide (p0.Y0<p1.Y1))&&(decide (p1.Y0<p0.Y1))))= (vb ((decide (p0.Y0<p1.Y1))&&(decide (p1.Y0<p0.Y1))))))) (RL.gs (true&&((((decide (p0.X0<p1.X1))&&(decide (p1.X0<p0.X1)))&&((p0.Y1==p1.Y0)||(p1.Y1==p0.Y0)))==false)) ((decide (p0.Y0<p1.Y1))&&(decide (p1.Y0<p0.Y1))) (vp o 2) rfl rfl rfl (dI ke) (RL.gs (true&&((((decide (p0.X0<p1.X1))&&(decide (p1.X0<p0.X1)))&&((p0.Y1==p1.Y0)||(p1.Y1==p0.Y0)))==false)) ((decide (p0.Y0<p1.Y1))&&(decide (p1.Y0<p0.Y1))) (vi p0.X1) rfl rfl rfl (bQ 1 rfl j (fun h=>by exact(cQ h:cv ((true&&((((decide (p0.X0<p1.X1))&&(decide (p1.X0<p0.X1)))&&((p0.Y1==p1.Y0)||(p1.Y1==p0.Y0)))==false))&&(((decide (p0.Y0<p1.Y1))&&(decide (p1.Y0<p0.Y1)))==true)) (vp o 2)= (vp o 2))) rfl fW cG) (RL.gs (true&&((((decide (p0.X0<p1.X1))&&(decide (p1.X0<p0.X1)))&&((p0.Y1==p1.Y0)||(p1.Y1==p0.Y0)))==false)) ((decide (p0.Y0<p1.Y1))&&(decide (p1.Y0<p0.Y1))) (vp aa 0) rfl rfl rfl (dI iX) (RL.gs (true&&((((decide (p0.X0<p1.X1))&&(decide (p1.X0<p0.X1)))&&((p0.Y1==p1.Y0)||(p1.Y1==p0.Y0)))==false)) ((decide (p0.Y0<p1.Y1))&&(decide (p1.Y0<p0.Y1))) (vi p1.X0) rfl rfl rfl (bQ 0 rfl j (fun h=>by exact(cQ h:cv ((true&&((((decide (p0.X0<p1.X1))&&(decide (p1.X0<p0.X1)))&&((p0.Y1==p1.Y0)||(p1.Y1==p0.Y0)))==false))&&(((decide (p0.Y0<p1.Y1))&&(decide (p1.Y0<p0.Y1)))==true)) (vp aa 0)= (vp aa 0))) rfl eG cG) (RL.gs (true&&((((decide (p0.X0<p1.X1))&&(decide (p1.X0<p0.X1)))&&((p0.Y1==p1.Y0)||(p1.Y1==p0.Y0)))==false)) ((decide (p0.Y0<p1.Y1))&&(decide (p1.Y0<p0.Y1))) (vb (p0.X1==p1.X0)) rfl rfl rfl (dT .eql .i64 p0.X1 p1.X0 rfl (fun h=>by exact(cQ h:cv ((true&&((((decide (p0.X0<p1.X1))&&(decide (p1.X0<p0.X1)))&&((p0.Y1==p1.Y0)||(p1.Y1==p0.Y0)))==false))&&(((decide (p0.Y0<p1.Y1))&&(decide (p1.Y0<p0.Y1)))==true)) (vi p0.X1)= (vi p0.X1))) (fun h=>by exact(cQ h:cv ((true&&((((decide (p0.X0<p1.X1))&&(decide (p1.X0<p0.X1)))&&((p0.Y1==p1.Y0)||(p1.Y1==p0.Y0)))==false))&&(((decide (p0.Y0<p1.Y1))&&(decide (p1.Y0<p0.Y1)))==true)) (vi p1.X0)= (vi p1.X0))) rfl) (RL.gs (true&&((((decide (p0.X0<p1.X1))&&(decide (p1.X0<p0.X1)))&&((p0.Y1==p1.Y0)||(p1.Y1==p0.Y0)))==false)) ((decide (p0.Y0<p1.Y1))&&(decide (p1.Y0<p0.Y1))) (vb (p0.X1==p1.X0)) rfl rfl rfl (dQ (hx:=fun h=>by exact(cQ h:cv ((true&&((((decide (p0.X0<p1.X1))&&(decide (p1.X0<p0.X1)))&&((p0.Y1==p1.Y0)||(p1.Y1==p0.Y0)))==false))&&(((decide (p0.Y0<p1.Y1))&&(decide (p1.Y0<p0.Y1)))==true)) (vb (p0.X1==p1.X0))= (vb (p0.X1==p1.X0))))) ?_))))))))
 refine RL.gs ((true&&((((decide (p0.X0<p1.X1))&&(decide (p1.X0<p0.X1)))&&((p0.Y1==p1.Y0)||(p1.Y1==p0.Y0)))==false))&&(((decide (p0.Y0<p1.Y1))&&(decide (p1.Y0<p0.Y1)))==true)) (p0.X1==p1.X0) (vp aa 2) rfl rfl rfl (dI ke) (RL.gs ((true&&((((decide (p0.X0<p1.X1))&&(decide (p1.X0<p0.X1)))&&((p0.Y1==p1.Y0)||(p1.Y1==p0.Y0)))==false))&&(((decide (p0.Y0<p1.Y1))&&(decide (p1.Y0<p0.Y1)))==true)) (p0.X1==p1.X0) (vi p1.X1) rfl rfl rfl (bQ 0 rfl j (fun h=>by exact(cQ h:cv (((true&&((((decide (p0.X0<p1.X1))&&(decide (p1.X0<p0.X1)))&&((p0.Y1==p1.Y0)||(p1.Y1==p0.Y0)))==false))&&(((decide (p0.Y0<p1.Y1))&&(decide (p1.Y0<p0.Y1)))==true))&&((p0.X1==p1.X0)==false)) (vp aa 2)= (vp aa 2))) rfl fW cG) (RL.gs ((true&&((((decide (p0.X0<p1.X1))&&(decide (p1.X0<p0.X1)))&&((p0.Y1==p1.Y0)||(p1.Y1==p0.Y0)))==false))&&(((decide (p0.Y0<p1.Y1))&&(decide (p1.Y0<p0.Y1)))==true)) (p0.X1==p1.X0) (vp o 0) rfl rfl rfl (dI iX) (RL.gs ((true&&((((decide (p0.X0<p1.X1))&&(decide (p1.X0<p0.X1)))&&((p0.Y1==p1.Y0)||(p1.Y1==p0.Y0)))==false))&&(((decide (p0.Y0<p1.Y1))&&(decide (p1.Y0<p0.Y1)))==true)) (p0.X1==p1.X0) (vi p0.X0) rfl rfl rfl (bQ 1 rfl j (fun h=>by exact(cQ h:cv (((true&&((((decide (p0.X0<p1.X1))&&(decide (p1.X0<p0.X1)))&&((p0.Y1==p1.Y0)||(p1.Y1==p0.Y0)))==false))&&(((decide (p0.Y0<p1.Y1))&&(decide (p1.Y0<p0.Y1)))==true))&&((p0.X1==p1.X0)==false)) (vp o 0)= (vp o 0))) rfl eG cG) (RL.gs ((true&&((((decide (p0.X0<p1.X1))&&(decide (p1.X0<p0.X1)))&&((p0.Y1==p1.Y0)||(p1.Y1==p0.Y0)))==false))&&(((decide (p0.Y0<p1.Y1))&&(decide (p1.Y0<p0.Y1)))==true)) (p0.X1==p1.X0) (vb (p1.X1==p0.X0)) rfl rfl rfl (dT .eql .i64 p1.X1 p0.X0 rfl (fun h=>by exact(cQ h:cv (((true&&((((decide (p0.X0<p1.X1))&&(decide (p1.X0<p0.X1)))&&((p0.Y1==p1.Y0)||(p1.Y1==p0.Y0)))==false))&&(((decide (p0.Y0<p1.Y1))&&(decide (p1.Y0<p0.Y1)))==true))&&((p0.X1==p1.X0)==false)) (vi p1.X1)= (vi p1.X1))) (fun h=>by exact(cQ h:cv (((true&&((((decide (p0.X0<p1.X1))&&(decide (p1.X0<p0.X1)))&&((p0.Y1==p1.Y0)||(p1.Y1==p0.Y0)))==false))&&(((decide (p0.Y0<p1.Y1))&&(decide (p1.Y0<p0.Y1)))==true))&&((p0.X1==p1.X0)==false)) (vi p0.X0)= (vi p0.X0))) rfl) (RL.gs (true&&((((decide (p0.X0<p1.X1))&&(decide (p1.X0<p0.X1)))&&((p0.Y1==p1.Y0)||(p1.Y1==p0.Y0)))==false)) ((decide (p0.Y0<p1.Y1))&&(decide (p1.Y0<p0.Y1))) (vb ((p0.X1==p1.X0)||(p1.X1==p0.X0))) rfl rfl rfl (nU (p0.X1==p1.X0) rfl (fun h=>by exact(cQ h:cv ((true&&((((decide (p0.X0<p1.X1))&&(decide (p1.X0<p0.X1)))&&((p0.Y1==p1.Y0)||(p1.Y1==p0.Y0)))==false))&&(((decide (p0.Y0<p1.Y1))&&(decide (p1.Y0<p0.Y1)))==true)) (vb (p0.X1==p1.X0))= (vb (p0.X1==p1.X0)))) (fun h=>by exact m7 ((true&&((((decide (p0.X0<p1.X1))&&(decide (p1.X0<p0.X1)))&&((p0.Y1==p1.Y0)||(p1.Y1==p0.Y0)))==false))&&(((decide (p0.Y0<p1.Y1))&&(decide (p1.Y0<p0.Y1)))==true)) h)) (RL.gs true (((decide (p0.X0<p1.X1))&&(decide (p1.X0<p0.X1)))&&((p0.Y1==p1.Y0)||(p1.Y1==p0.Y0))) (vb (((decide (p0.Y0<p1.Y1))&&(decide (p1.Y0<p0.Y1)))&&((p0.X1==p1.X0)||(p1.X1==p0.X0)))) rfl rfl rfl (nU ((decide (p0.Y0<p1.Y1))&&(decide (p1.Y0<p0.Y1))) rfl (fun h=>by exact(cQ h:cv (true&&((((decide (p0.X0<p1.X1))&&(decide (p1.X0<p0.X1)))&&((p0.Y1==p1.Y0)||(p1.Y1==p0.Y0)))==false)) (vb ((decide (p0.Y0<p1.Y1))&&(decide (p1.Y0<p0.Y1))))= (vb ((decide (p0.Y0<p1.Y1))&&(decide (p1.Y0<p0.Y1)))))) (fun h=>by exact iU (h:=h) (true&&((((decide (p0.X0<p1.X1))&&(decide (p1.X0<p0.X1)))&&((p0.Y1==p1.Y0)||(p1.Y1==p0.Y0)))==false)))) (RL.pick (((decide (p0.X0<p1.X1))&&(decide (p1.X0<p0.X1)))&&((p0.Y1==p1.Y0)||(p1.Y1==p0.Y0))) (vb ((((decide (p0.X0<p1.X1))&&(decide (p1.X0<p0.X1)))&&((p0.Y1==p1.Y0)||(p1.Y1==p0.Y0)))||(((decide (p0.Y0<p1.Y1))&&(decide (p1.Y0<p0.Y1)))&&((p0.X1==p1.X0)||(p1.X1==p0.X0))))) (m7 true rfl) (aP (vb ((((decide (p0.X0<p1.X1))&&(decide (p1.X0<p0.X1)))&&((p0.Y1==p1.Y0)||(p1.Y1==p0.Y0)))||(((decide (p0.Y0<p1.Y1))&&(decide (p1.Y0<p0.Y1)))&&((p0.X1==p1.X0)||(p1.X1==p0.X0))))) ?_))))))))
 refine RL.nt (RC.ret ?_)
 obtain rfl:=oi hb
 exact cI ⟨rfl,j.drop 4⟩
theorem ov {p0:aI} {p1:bU} {res:Bool} (j:Holds E w V) (h0:V[i0]? =some (rd v0 p0)) (h1:V[i1]? =some (pt v1 p1)) (o:iA N p0 p1=some res):
    Calls bF 50 [v0,v1].toArray w (gT (bD E V res)):=by
 unfold iA at o
 refine enter Tryz.func50 zr zr ?_
 have j:=(j.dup (i0+0) h0).vL (i:=i1+1) h1
 refine RC.sr (RL.dD 1 v0 j zr fun ah w j=>?_)
 have j:=j.fT (i:=0) rfl
 refine aP (vb false) (RL.nq (RC.yC mixed [1,0,2,2,0] [0,1,2,3,4] ?_))
 have j:=j.drew
 refine DP.uu p0 0 zr j eZ fun aa a33 ai j=>(DP.e0 zr (RL.bP 3 p1 j nM fun ab j=>(vX zr ?_)))
 obtain⟨aj,ad,o⟩:=bd o
 refine RL.call zt zr CC [ab] zr (aF (gq N (i0:=0) j zr ad) ?_)
 rintro ae w j
 refine DP.d2 (⟨zt,j.j3 2⟩) (DP.e2 zr ?_)
 obtain⟨af,ag,o⟩:=bd o
 refine RL.call zt zr Jo [aa,ae] zr (aF (uL N (i0:=3) (i1:=0) j zr zr ag) ?_)
 rintro _ w ⟨rfl,j⟩
 refine DP.d2 (⟨zt,j.j3 2⟩) (DP.e0 zr (aP (vb af) (DP.d0 ?_)))
 have j:=j.pl 7 [0,1,3,4,5,6]
 refine DP.z (aG (RC.ret ?_))
 obtain rfl:=oi o
 exact cI ⟨rfl,j.drop 6⟩
theorem jX {p0: (List aI)} {p1:aI->Option Bool} {res:Bool} (j:Holds E w V) (h0:V[i0]? =some (rd v0 p0)) (h1:EU bF E V v1 p1 (fun(r:Bool)=>Value.bool r)) (o:fw N p0 p1=some res):
    Calls bF 49 [v0,v1].toArray w (gT (bD E V res)):=by
 unfold fw at o
 refine enter Tryz.func49 zr zr ?_
 have j:=j.dup (i0+0) h0
 refine RC.sr (aP (vb false) (RL.ns (mv v0 (mv v1 ?_))))
 obtain⟨aa,ab,o⟩:=bd o
 refine RL.call zt zr Hj [v0,v1] zr (aF (ot N (i0:=0) j zr (h1.lift 1 zr) ab) ?_)
 rintro _ w ⟨rfl,j⟩
 refine ic aa 0 (aP (vb (decide (aa>=0))) (RL.nt (RC.ret ?_)))
 obtain rfl:=oi o
 exact cI ⟨rfl,j.drop 1⟩
def qA (E:World) (V:List HP) (b0:Nat) (v0_0 v0_1:Value) (v0_2 v0_3:Value) (v0_4 v0_5:Value) (v0_7 v0_8:Value) (v0_9 v0_10 v0_11:Value) (res: (List (List Int))) (v:Value) (w:World):Prop:=∃u0_6:Value,v = .tuple #[]/\Holds E w ([bc 69 b0 [v0_0,v0_1,v0_2,v0_3,v0_4,v0_5,u0_6,v0_7,v0_8,v0_9,v0_10,v0_11],own 46 u0_6 res]++V)
theorem pN {p0_2: (List bU)} {p0_5: (List aH)} {p0_6: (List (List Int))} {res: (List (List Int))} (j:Holds E w (bc 69 b0 [v0_0,v0_1,v0_2,v0_3,v0_4,v0_5,v0_6,v0_7,v0_8,v0_9,v0_10,v0_11]::rd v0_2 p0_2::rd v0_5 p0_5::own 46 v0_6 p0_6::V)) (hb:il N p0_2 p0_5 p0_6=some res):
    Calls bF 19 [(vp b0 0)].toArray w (gT (qA E V b0 v0_0 v0_1 v0_2 v0_3 v0_4 v0_5 v0_7 v0_8 v0_9 v0_10 v0_11 res)):=by
 unfold il at hb
 refine enter Tryz.func19 zr zr (RC.sr (mv (vp b0 0) (RL.nilCheck zr (RL.aZ zr mD (RL.aZ zr lV (RL.aU 0 v0_2 j uz (RL.bE 1 p0_2 j wg (mv (vi 0) ?_))))))))
 refine RL.nt ?_
 obtain⟨af,hN,hb⟩:=bd hb
 refine RC.fold (fun(ai:Nat) (af: (List (List Int))) U w=>∃az:Value,SH E V [(0,vp b0 0),(11,v0_2),(12,vi p0_2.length),(13,vi ai)] [bc 69 b0 [v0_0,v0_1,v0_2,v0_3,v0_4,v0_5,az,v0_7,v0_8,v0_9,v0_10,v0_11],own 46 az af,rd v0_2 p0_2,rd v0_5 p0_5] U w) (fun(af: (List (List Int))) U w=>∃aq:Value,SH E V [(0,vp b0 0)] [bc 69 b0 [v0_0,v0_1,v0_2,v0_3,v0_4,v0_5,aq,v0_7,v0_8,v0_9,v0_10,v0_11],own 46 aq af,rd v0_2 p0_2,rd v0_5 p0_5] U w) hN ?_ ?_ ?_ ?_
 ·exact⟨v0_6,j.sp 4 [0,3,1,2]⟩
 ·rintro hm af _ w ⟨a4,O,rfl,j⟩
  refine RC.sr (ic ((p0_2.length:Int)) ((p0_2.length:Int)) (RL.nq (RC.cT mc (RC.ex ?_))))
  exact⟨rfl,a4,j.sp 4 [0,1,2,3]⟩
 ·rintro hm ai af s' _ w hk ⟨ah,O,rfl,j⟩ hb
  refine RC.sr (ic ((ai:Int)) ((p0_2.length:Int)) (RL.nq (RC.cS (mb hk) (RC.ss (RC.bs ?_)))))
  obtain⟨aj,a5,hb⟩:=bd hb
  refine RL.cB 2 j yF a5 fun bk j=>(RL.bP 0 aj j nM fun bl j=>(RL.alloc j CB.z fun ag w j=>?_))
  refine RL.bA 0 j 1 zr nM fun w j=>?_
  refine RL.ns (aP (.slice none 0 0) (RL.nq (RC.sr (mv (vp b0 0) (RL.nilCheck zr (RL.aZ zr mE (RL.aU 3 v0_5 j vq (RL.bE 6 p0_5 j z8 ?_))))))))
  refine mv (vi 0) (RL.nt ?_)
  have j:=j.fT (i:=0) rfl
  obtain⟨ak,hN,hb⟩:=bd hb
  refine RC.fold (fun(ab:Nat) (ak: (List Int)) U w=>∃a0:Value,SH E V [(0,vp b0 0),(3,vp ag 0),(4,a0),(11,v0_2),(12,vi p0_2.length),(13,vi ai),(20,v0_5),(21,vi p0_5.length),(22,vi ab)] [bc 69 b0 [v0_0,v0_1,v0_2,v0_3,v0_4,v0_5,ah,v0_7,v0_8,v0_9,v0_10,v0_11],rd v0_2 p0_2,rd v0_5 p0_5,own 46 ah af,pt (vp ag 0) aj,own 3 a0 ak] U w) (fun(ak: (List Int)) U w=>∃ao:Value,SH E V [(0,vp b0 0),(4,ao),(11,v0_2),(12,vi p0_2.length),(13,vi ai)] [bc 69 b0 [v0_0,v0_1,v0_2,v0_3,v0_4,v0_5,ah,v0_7,v0_8,v0_9,v0_10,v0_11],rd v0_2 p0_2,rd v0_5 p0_5,own 46 ah af,pt (vp ag 0) aj,own 3 ao ak] U w) hN ?_ ?_ ?_ ?_
  ·have j:=j.dB Int 3
   exact⟨(.slice none 0 0),j.sp 8 [4,6,7,5,1,0]⟩
  ·rintro hm ak _ w ⟨a6,O,rfl,j⟩
   refine RC.sr (ic ((p0_5.length:Int)) ((p0_5.length:Int)) (RL.nq (RC.cT mc (RC.ex ?_))))
   exact⟨rfl,a6,j.sp 6 [0,1,2,3,4,5]⟩
  ·rintro hm ab ak s' _ w hk ⟨ar,O,rfl,j⟩ hb
   refine RC.sr (ic ((ab:Int)) ((p0_5.length:Int)) (RL.nq (RC.cS (mb hk) (RC.ss (RC.bs (mv (vi ab) ?_))))))
   obtain⟨aw,a7,hb⟩:=bd hb
   refine RL.cB 2 j CF a7 fun bm j=>(RL.bP 0 aw j CG fun bn j=>(RL.alloc j Fm.z fun bo w j=>?_))
   refine aP (vi ab) (RL.bA 0 j 1 zr CG fun w j=>?_)
   refine RL.nq ?_
   obtain⟨ax,o,hb⟩:=bd hb
   refine RC.jn (fun(ax:Bool)=>SH E V [(0,vp b0 0),(3,vp ag 0),(4,ar),(5,vi ab),(11,v0_2),(12,vi p0_2.length),(13,vi ai),(20,v0_5),(21,vi p0_5.length),(22,vi ab),(40,vb ax)] [bc 69 b0 [v0_0,v0_1,v0_2,v0_3,v0_4,v0_5,ah,v0_7,v0_8,v0_9,v0_10,v0_11],rd v0_2 p0_2,rd v0_5 p0_5,own 46 ah af,pt (vp ag 0) aj,own 3 ar ak]) ax ?_ ?_
   ·refine RC.region (RL.ig 7 j zr yH qU fun bp j=>(RL.bG aj.gA 0 j xU (mv (vb aj.gA) (fY o (fun ad o=>?_) fun ad o=>?_))))
    rotate_left
    ·refine bR ad (bR ad (bR ad (bR ad (fV ad (vb false) (mv (vb false) (nI (nI (nI ?_))))))))
     refine nI (RL.pick false (vb false) zr (RL.nil ?_))
     obtain rfl:=oi o
     exact⟨rfl,j.sp 10 [4,5,6,7,8,9]⟩
    refine RL.bP (hg:=(cg ad)) 8 aj j nM fun a8 j=>(RL.aZ (hg:=(cg ad)) zr yI (RL.aK (hg:=(cg ad)) 2 j zr jU cG ?_))
    obtain⟨a1,a9,o⟩:=bd o
    refine RL.call (cg ad) zr Gz [a8,(vi aw.cR)] zr (aF (lI N (p1:=aw.cR) (i0:=0) j zr a9) ?_)
    rintro _ w ⟨rfl,j⟩
    refine fV ad (vb a1) (mv (vb a1) (fY o (fun ae o=>?_) fun ae o=>?_))
    rotate_left
    ·refine bR ae (bR ae (bR ae (bR ae (fV ae (vb false) (RL.nil ?_)))))
     obtain rfl:=oi o
     exact⟨rfl,j.sp 11 [5,6,7,8,9,10]⟩
    refine RL.aZ (hg:=(cg ae)) zr yJ (RL.aX (hg:=(cg ae)) 2 j zr jV we fun ba j=>(RL.makeFunc (hg:=(cg ae)) [(vp ag 0)] ?_))
    obtain⟨bb,bf,o⟩:=bd o
    refine RL.call (cg ae) rfl HG [ba,(.func (.func 50) #[] #[(vp ag 0)])] rfl (aF (jX N (i0:=0) j rfl ⟨50,[(vp ag 0)],rfl,Jp,fun w Γl v y0 r i j hi hr=>by exact aF (ov N (i0:=i) (i1:=Γl.length+10) j hi (yo rfl) hr) fun _ _ h=>h⟩ bf) ?_)
    rintro _ w ⟨rfl,j⟩
    refine fV ae (vb bb) (RL.nil ?_)
    obtain rfl:=oi o
    exact⟨rfl,j.sp 12 [6,7,8,9,10,11]⟩
   rintro _ w ⟨O,rfl,j⟩
   refine aG ?_
   obtain⟨ay,o,hb⟩:=bd hb
   refine RC.jn (fun(ay: (List Int)) U w=>∃au:Value,SH E V [(0,vp b0 0),(3,vp ag 0),(4,au),(11,v0_2),(12,vi p0_2.length),(13,vi ai),(20,v0_5),(21,vi p0_5.length),(22,vi ab)] [bc 69 b0 [v0_0,v0_1,v0_2,v0_3,v0_4,v0_5,ah,v0_7,v0_8,v0_9,v0_10,v0_11],rd v0_2 p0_2,rd v0_5 p0_5,own 46 ah af,pt (vp ag 0) aj,own 3 au ay] U w) ay ?_ ?_
   ·refine fH o (fun hc o=>?_) fun hc o=>?_
    rotate_left
    ·refine RC.skip ?_
     obtain rfl:=oi o
     exact⟨rfl,ar,j.sp 6 [0,1,2,3,4,5]⟩
    refine RC.region (mv ar (mv (vi ab) ?_))
    have j:=j.sc Int (ab:Int)
    refine RL.eP ([(ab:Int)]: (List Int)) j [(vi ab)] eE DO (fun M hs g=>⟨(g.sat 0 _ zr).1,zt⟩) fun bq w j=>?_
    have j:=j.freeze 0
    obtain⟨br,bh,o⟩:=bd o
    refine RL.app 7 0 j tp bh fun a2 w j=>?_
    refine aP a2 (RL.nil ?_)
    obtain rfl:=oi o
    exact⟨rfl,a2,j.sp 8 [2,3,4,5,6,7]⟩
   rintro _ w ⟨au,O,rfl,j⟩
   refine bT (aG (RC.region (RL.inc hk hm (mv (vi ((ab+1:Nat):Int)) (RL.nil ?_)))))
   obtain rfl:=oi hb
   exact⟨rfl,au,j.sp 6 [0,1,2,3,4,5]⟩
  rintro _ w ⟨ao,O,rfl,j⟩
  refine aG (RC.region (mv (vp b0 0) (mv (vp b0 0) (RL.nilCheck zr (RL.aZ zr yK (RL.aU 0 ah j Fp (mv ao ?_)))))))
  have j:=j.freeze 5
  refine RL.eP ([ak]: (List (List Int))) j [ao] A8 HH (fun M hs g=>⟨(g.sat 5 _ zr).1,zt⟩) fun bt w j=>?_
  have j:=j.freeze 0
  obtain⟨bu,bj,hb⟩:=bd hb
  refine RL.app 4 0 j HI bj fun a3 w j=>?_
  refine RL.nilCheck zr (RL.aZ zr yK (RL.gz 1 a3 j zr zr (gZ 4 j) Fp fun w j=>?_))
  refine RL.nil (bT (aG (RC.region (RL.inc hk hm (mv (vi ((ai+1:Nat):Int)) (RL.nil ?_))))))
  obtain rfl:=oi hb
  exact⟨rfl,a3,j.sp 7 [1,4,2,3]⟩
 rintro _ w ⟨aq,O,rfl,j⟩
 obtain rfl:=oi hb
 refine xG ?_
 exact Dh zr ⟨aq,zr,j.pk 4 [0,1]⟩
def sC (E:World) (V:List HP) (res: ((List Int))) (v:Value) (w:World):Prop:=∃(ub0:Nat) (u0_0:Value),v=vp ub0 0/\Holds E w ([bc 117 ub0 [u0_0],own 3 u0_0 res]++V)
theorem mL {res: ((List Int))} (j:Holds E w V) (hb:hG N p0=some res):
    Calls bF 25 [(vi p0)].toArray w (gT (sC E V res)):=by
 unfold hG at hb
 refine enter Tryz.func25 zr zr (RC.sr (aP (.pointer none) (RL.ns (mv (vi p0) ?_))))
 obtain⟨af,aj,hb⟩:=bd hb
 refine RL.mk p0 j tp GY aj fun o w j=>?_
 refine RL.Dr (zs:=[(.slice none 0 0)]) (cs:=[o]) zt zr [(0,o)] zr HJ ⟨(gZ 0 j),zt⟩ zr (RL.BQ (cs:=[o]) zt zr j zr (zG.all (⟨(gZ 0 j),zt⟩:zG [o])) fun ab w j=>?_)
 refine aP (vp ab 0) (RL.nq (RC.sr (mv (vp ab 0) (RL.nilCheck zr (RL.aZ zr mR (RL.aU 0 o j eU (RL.fA 1 af j lx (mv (vi 0) ?_))))))))
 refine RL.nt ?_
 obtain⟨ae,hN,hb⟩:=bd hb
 refine RC.fold (fun(ad:Nat) (ae: (List Int))=>SH E V [(3,vp ab 0),(13,vi af.length),(14,vi ad)] [bc 117 ab [o],own 3 o ae]) (fun(ae: (List Int))=>SH E V [(3,vp ab 0)] [bc 117 ab [o],own 3 o ae]) hN ?_ ?_ ?_ ?_
 ·exact j.sp 2 [0,1]
 ·rintro hm ae _ w ⟨O,rfl,j⟩
  refine RC.sr (ic ((af.length:Int)) ((af.length:Int)) (RL.nq (RC.cT mc (RC.ex ?_))))
  exact⟨rfl,j.sp 2 [0,1]⟩
 ·rintro hm ad ae s' _ w hk ⟨O,rfl,j⟩ hb
  refine RC.sr (ic ((ad:Int)) ((af.length:Int)) (RL.nq (RC.cS (mb hk) (RC.ss (RC.bs (mv (vi ad) (aP (vi ad) (RL.nt ?_))))))))
  refine RC.region (mv (vp ab 0) (RL.nilCheck zr (RL.aZ zr mR (RL.aU 0 o j eU (mv (vi ad) (mv (vi ad) ?_))))))
  obtain⟨al,ag,hb⟩:=bd hb
  refine RL.bV 1 j zr zr eE ag ?_
  have j:=j.sc Int (ad:Int)
  refine RL.ga (f:=(fun _ y=>y)) 2 0 j (jQ 2 j ag 0) (bB ag).2.1 zr Fs.self cG fun w j=>?_
  refine RL.nil (bT (aG (RC.region (RL.inc hk hm (mv (vi ((ad+1:Nat):Int)) (RL.nil ?_))))))
  obtain rfl:=oi hb
  exact⟨rfl,j.sp 3 [1,2]⟩
 rintro _ w ⟨O,rfl,j⟩
 refine aG (RC.sr (mv (vp ab 0) (aP (vp ab 0) (RL.nt (RC.ret ?_)))))
 obtain rfl:=oi hb
 exact cI ⟨ab,o,zr,j.pk 2 [0,1]⟩
def rE (E:World) (V:List HP) (b0:Nat) (res:Int×(List Int)) (v:Value) (w:World):Prop:=∃u0_0:Value,v= (vi res.1)/\Holds E w ([bc 117 b0 [u0_0],own 3 u0_0 res.2]++V)
theorem fM {p0_0: (List Int)} {res:Int×(List Int)} (j:Holds E w (bc 117 b0 [v0_0]::own 3 v0_0 p0_0::V)) (o:dJ N p0_0 p1=some res):
    Calls bF 28 [(vp b0 0),(vi p1)].toArray w (gT (rE E V b0 res)):=by
 unfold dJ at o
 refine enter Tryz.func28 zr zr (RC.sr (aP (vi 0) (RL.nq ?_)))
 obtain⟨an,hN,o⟩:=bd o
 refine RC.iter (fun(aa: (List Int)×Int)=>SH E V [(0,vp b0 0),(1,vi aa.2)] [bc 117 b0 [v0_0],own 3 v0_0 aa.1]) (fun(aa: (List Int)×Int)=>SH E V [(0,vp b0 0),(1,vi aa.2)] [bc 117 b0 [v0_0],own 3 v0_0 aa.1]) (fun(r:Empty) _ _=>r.elim) hN ?_ ?_ ?_ ?_
 ·exact j.sp 2 [0,1]
 ·rintro aa fl _ w ⟨O,rfl,j⟩ o
  refine RC.seq (RC.sr (mv (vp b0 0) (RL.nilCheck zr (RL.aZ zr mR (RL.aU 0 v0_0 j eU (mv (vi aa.2) ?_))))))
  obtain⟨ai,ab,o⟩:=bd o
  refine RL.bV 1 j zr zr eE ab (RL.dR (f:=(fun x=>x)) 1 j (jQ 1 j ab 0) (bB ab).2.1 Fd.self cG (mv (vi aa.2) (ic ai aa.2 (RL.nt (fH o (fun hc o=>?_) fun hc o=>?_)))))
  rotate_left
  ·refine RC.ex ?_
   obtain rfl:=oi o
   exact⟨rfl,j.sp 2 [0,1]⟩
  refine RC.sn (RC.block (RC.seq (RC.yC mixed [0,0,0,0,0,0,0,0,0,0,0,0,0,0,0,0,0,0,0,2] [0,1,2,3,4,5,6,7,8,9,10,11,12,13,14,15,16,17,18,19] ?_)))
  have j:=j.drew
  refine DP.e0 zr (mv (vp b0 0) (cE zr (RL.nilCheck zr (cE zr (RL.aZ zr mR (cE zr (RL.aU 0 v0_0 j eU (cE zr ?_))))))))
  refine mv (vi aa.2) (cE zr (mv (vp b0 0) (cE zr (RL.nilCheck zr (cE zr (RL.aZ zr mR (cE zr (RL.aU 0 v0_0 j eU ?_))))))))
  refine cE zr (mv (vp b0 0) (cE zr (RL.nilCheck zr (cE zr (RL.aZ zr mR (cE zr (RL.aU 0 v0_0 j eU (cE zr ?_))))))))
  refine mv (vi aa.2) (cE zr ?_)
  obtain⟨aq,ad,o⟩:=bd o
  refine RL.bV 1 j zr zr eE ad (cE zr (RL.dR (f:=(fun x=>x)) 1 j (jQ 1 j ad 0) (bB ad).2.1 Fd.self cG (cE zr ?_)))
  obtain⟨ak,ae,o⟩:=bd o
  refine RL.bV 1 j zr zr eE ae (cE zr (RL.dR (f:=(fun x=>x)) 1 j (jQ 1 j ae 0) (bB ae).2.1 Fd.self cG (cE zr ?_)))
  obtain⟨ar,af,o⟩:=bd o
  refine RL.bV 1 j zr zr eE af (vX zr ?_)
  have j:=j.sc Int ak
  refine RL.ga (f:=(fun _ y=>y)) 2 0 j (jQ 2 j af 0) (bB af).2.1 zr Fs.self cG fun w j=>?_
  refine DP.d2 zt (DP.z (aG (RC.region (mv (vp b0 0) (RL.nilCheck zr (RL.aZ zr mR (RL.aU 1 v0_0 j eU (mv (vi aa.2) ?_))))))))
  obtain⟨al,ag,o⟩:=bd o
  refine RL.bV 2 j zr zr eE ag (RL.dR (f:=(fun x=>x)) 2 j (jQ 2 j ag 0) (bB ag).2.1 Fd.self cG (aP (vi al) (RL.nil (bT ?_))))
  obtain rfl:=oi o
  exact⟨rfl,j.sp 3 [1,2]⟩
 ·intro r _ _ _ _
  exact r.elim
 rintro aa _ w rfl ⟨O,rfl,j⟩
 rw [Fo.gx] at o
 refine aG (RC.sr (mv (vi aa.2) (aP (vi aa.2) (RL.nt (RC.ret ?_)))))
 obtain rfl:=oi o
 exact cI ⟨v0_0,zr,j.pk 2 [0,1]⟩
def qB (E:World) (V:List HP) (b0:Nat) (res: (List Int)) (v:Value) (w:World):Prop:=∃u0_0:Value,v = .tuple #[]/\Holds E w ([bc 117 b0 [u0_0],own 3 u0_0 res]++V)
theorem lP {p0_0: (List Int)} {res: (List Int)} (j:Holds E w (bc 117 b0 [v0_0]::own 3 v0_0 p0_0::V)) (o:dA N p0_0 p1 p2=some res):
    Calls bF 27 [(vp b0 0),(vi p1),(vi p2)].toArray w (gT (qB E V b0 res)):=by
 unfold dA at o
 refine enter Tryz.func27 zr zr (RC.sr (mv (vp b0 0) (mv (vi p1) ?_)))
 have j:=(j.pull 1).pull 1
 obtain⟨aa,af,o⟩:=bd o
 refine RL.call zt zr CH [(vp b0 0),(vi p1)] zr (aF (fM N (p1:=p1) j af) ?_)
 rintro _ w ⟨ah,rfl,j⟩
 refine mv (vp b0 0) (mv (vi p2) ?_)
 have j:=(j.pull 1).pull 1
 obtain⟨ab,ag,o⟩:=bd o
 refine RL.call zt zr CH [(vp b0 0),(vi p2)] zr (aF (fM N (p1:=p2) j ag) ?_)
 rintro _ w ⟨ae,rfl,j⟩
 refine aP (vi aa.1) (aP (vi ab.1) (RL.nt (RC.region (mv (vp b0 0) (RL.nilCheck zr (RL.aZ zr mR (RL.aU 0 ae j eU (mv (vi aa.1) ?_))))))))
 refine mv (vi ab.1) (RL.max aa.1 ab.1 (mv (vi aa.1) (mv (vi ab.1) (RL.min aa.1 ab.1 ?_))))
 obtain⟨ai,ad,o⟩:=bd o
 refine RL.bV 1 j zr zr eE ad ?_
 have j:=j.sc Int (if ab.1<aa.1 then ab.1 else aa.1)
 refine RL.ga (f:=(fun _ y=>y)) 2 0 j (jQ 2 j ad 0) (bB ad).2.1 zr Fs.self cG fun w j=>?_
 refine RL.nil ?_
 obtain rfl:=oi o
 refine xG ?_
 exact Dh zr ⟨ae,zr,j.pk 7 [1,2]⟩
def qC (E:World) (V:List HP) (b0:Nat) (res: (List (List Int))×(List Int)) (v:Value) (w:World):Prop:=∃u0 u0_0:Value,v=u0/\Holds E w ([own 46 u0 res.1,bc 117 b0 [u0_0],own 3 u0_0 res.2]++V)
theorem pO {p0_0: (List Int)} {res: (List (List Int))×(List Int)} (o:Holds E w (bc 117 b0 [v0_0]::own 3 v0_0 p0_0::V)) (hb:iq N p0_0=some res):
    Calls bF 52 [(vp b0 0)].toArray w (gT (qC E V b0 res)):=by
 unfold iq at hb
 refine enter Tryz.func52 zr zr (RC.sr (aP (.slice none 0 0) (RL.ns (aP (.slice none 0 0) (RL.ns (RL.makeMap (κ:=Int) (ν:=Int) zr o fun an w o=>(aP an (RL.nq ?_))))))))
 refine RC.sr (mv (vp b0 0) (RL.nilCheck zr (RL.aZ zr mR (RL.aU 1 v0_0 o eU (RL.fA 2 p0_0 o lx (mv (vi 0) (RL.nt ?_)))))))
 obtain⟨al,hN,hb⟩:=bd hb
 refine RC.fold (fun(ah:Nat) (al: (List Int)×(List (List Int))×(List (Int×Int))) U w=>∃(a2 a3:Value) (us110:List RV),SH E V [(0,vp b0 0),(3,a3),(4,an),(12,vi p0_0.length),(13,vi ah)] [bc 117 b0 [a2],own 3 a2 al.1,mp an al.2.2,own 46 a3 us110,iC (XS 3 Int) us110 al.2.1 none] U w) (fun(al: (List Int)×(List (List Int))×(List (Int×Int))) U w=>∃(av ar:Value) (us113:List RV),SH E V [(0,vp b0 0),(3,ar)] [bc 117 b0 [av],own 3 av al.1,mp an al.2.2,own 46 ar us113,iC (XS 3 Int) us113 al.2.1 none] U w) hN ?_ ?_ ?_ ?_
 ·have o:=(o.yr (XS 3 Int)).dB RV 46
  exact⟨v0_0,(.slice none 0 0),([]:List RV),o.sp 5 [3,4,2,0,1]⟩
 ·rintro hm al _ w ⟨a9,ba,us153,O,rfl,o⟩
  refine RC.sr (ic ((p0_0.length:Int)) ((p0_0.length:Int)) (RL.nq (RC.cT mc (RC.ex ?_))))
  exact⟨rfl,a9,ba,us153,o.sp 5 [0,1,2,3,4]⟩
 ·rintro hm ah al s' _ w hk ⟨bj,ay,us116,O,rfl,o⟩ hb
  refine RC.sr (ic ((ah:Int)) ((p0_0.length:Int)) (RL.nq (RC.cS (mb hk) (RC.ss (RC.bs (mv (vi ah) (aP (vi ah) (RL.ns ?_))))))))
  refine mv (vp b0 0) (mv (vi ah) ?_)
  have o:=(o.pull 1).pull 1
  obtain⟨dH,bb,hb⟩:=bd hb
  refine RL.call zt zr CH [(vp b0 0),(vi ah)] zr (aF (fM N (p1:=(ah:Int)) o bb) ?_)
  rintro _ w ⟨au,rfl,o⟩
  refine aP (vi dH.1) (RL.nq (RC.sr (mv (vi dH.1) (mv (vi ah) (ic dH.1 ((ah:Int)) (RL.nt ?_))))))
  obtain⟨aa,hj,hb⟩:=bd hb
  refine RC.jn (fun(aa: (List (List Int))×(List (Int×Int))) U w=>∃(ak:Value) (us124:List RV),SH E V [(0,vp b0 0),(3,ak),(4,an),(5,vi ah),(6,vi dH.1),(12,vi p0_0.length),(13,vi ah)] [bc 117 b0 [au],own 3 au dH.2,mp an aa.2,own 46 ak us124,iC (XS 3 Int) us124 aa.1 none] U w) aa ?_ ?_
  ·refine fH hj (fun hc hj=>?_) fun hc hj=>?_
   rotate_left
   ·refine RC.skip ?_
    obtain rfl:=oi hj
    exact⟨rfl,ay,us116,o.sp 7 [0,1,4,5,6]⟩
   refine RC.sr (mv an (mv (vi ah) (mv ay (RL.pX 5 6 al.2.1 zr o zr zr zr Fq ?_))))
   have o:=o.sc Int (al.2.1.length:Int)
   refine RL.mapUpdate 5 0 (ah:Int) o zr zr zr zr zr z7 fun w o=>(RL.nt (RC.region (mv ay ?_)))
   have o:=(o.dB Int 3).BO (i:=0) rfl
   refine RL.eP ([rv (.slice none 0 0)]:List RV) o [(.slice none 0 0)] A8 HH (fun M hs g=>⟨(g.sat 0 _ zr).1,zt⟩) fun bk w o=>?_
   obtain⟨bl,bg,hj⟩:=bd hj
   have o:=o.freeze 0
   refine RL.zL 9 0 10 2 zt zr o zr zr zr zr zr zr HI bg fun a6 w o=>?_
   refine aP a6 (RL.nil ?_)
   obtain rfl:=oi hj
   exact⟨rfl,a6,(us116++[rv (.slice none 0 0)]),o.sp 11 [4,5,8,9,10]⟩
  rintro _ w ⟨ak,us124,O,rfl,o⟩
  refine aG ?_
  obtain⟨bm,aw,hb⟩:=bd hb
  obtain⟨aq,bh,hb⟩:=bd hb
  obtain⟨bn,a0,hb⟩:=bd hb
  refine RC.DA E V mixed [1,1,1,0,1,1,1,0,0,0,1,0,0,0,0] [11,12,14] (fun(x:Value×Value)=>(fun aj af=>[(0,29,ak),(1,30,an),(2,31,(vi dH.1)),(3,32,(vi (dG aa.2 dH.1 (0:Int)))),(4,33,ak),(5,34,an),(6,35,(vi dH.1)),(7,36,(vi (dG aa.2 dH.1 (0:Int)))),(8,37,(zj ak (Int.toNat (dG aa.2 dH.1 (0:Int))) 1 0)),(9,38,(us124.getD (Int.toNat (dG aa.2 dH.1 (0:Int))) zk).v),(10,39,(vi ah)),(11,40,aj),(12,41,af),(13,42,(zj ak (Int.toNat (dG aa.2 dH.1 (0:Int))) 1 0))]) x.1 x.2) [(0,vp b0 0),(3,ak),(4,an),(5,vi ah),(6,vi dH.1),(12,vi p0_0.length),(13,vi ah)] [] (fun(D:Nat->Bool) (x:Value×Value)=>(fun aj af=>[bif D 1 then (rd aj ([(ah:Int)]: (List Int))) else (bif D 0 then (own 3 aj ([(ah:Int)]: (List Int))) else aY),bif D 2 then aY else (bif D 1 then (own 3 af aq) else aY),bc 117 b0 [au],own 3 au dH.2,mp an aa.2,bif D 2 then (own 46 ak (us124.set (Int.toNat (dG aa.2 dH.1 (0:Int))) (rv af))) else (own 46 ak us124),bif D 2 then (iC (XS 3 Int) (us124.set (Int.toNat (dG aa.2 dH.1 (0:Int))) (rv af)) (aa.1.set (Int.toNat (dG aa.2 dH.1 (0:Int))) aq) none) else (bif D 1 then (iC (XS 3 Int) us124 aa.1 (some (Int.toNat (dG aa.2 dH.1 (0:Int))))) else (iC (XS 3 Int) us124 aa.1 none))]) x.1 x.2) (fun x=>by kernel_rfl) ?_ ⟨fun _=>jF gn,fun _=>jF gn,fun _=>jF gn,?_,fun _=>jF gn,fun _=>jF gn,fun _=>jF gn,?_,?_,?_,fun _=>jF gn,?_,?_,?_,?_,trivial⟩ ?_
  ·have o:=((o.drew).aY).aY
   exact⟨(undef,undef),eC.none,(Cq zr),zt,o⟩
  ·rintro D U w hD ag ad ⟨⟨aj,af⟩,hv,ha,_,o⟩
   obtain⟨O,rfl⟩:=(ac (hv.at 1 rfl (ag.1 rfl)) (ac (hv.at 2 rfl (ag.2.1 rfl)) az)).fC
   refine RL.oD 4 dH.1 zt o z7 ?_
   exact RL.nil ⟨rfl,(aj,af),hv.pu 3,ha.u,zt,o⟩
  ·rintro D U w hD ag ad ⟨⟨aj,af⟩,hv,ha,_,o⟩
   obtain⟨O,rfl⟩:=(ac (hv.at 5 rfl (ag.1 rfl)) (ac (hv.at 6 rfl (ag.2.1 rfl)) az)).fC
   refine RL.oD 4 dH.1 zt o z7 ?_
   exact RL.nil ⟨rfl,(aj,af),hv.pu 7,ha.u,zt,o⟩
  ·rintro D U w hD ag ad ⟨⟨aj,af⟩,hv,ha,_,o⟩
   obtain⟨O,rfl⟩:=(ac (hv.at 4 rfl (ag.1 rfl)) (ac (hv.at 7 rfl (ag.2.1 rfl)) az)).fC
   have o:=((o.bX 5 (nh ad hD 14)).bX 6 (nh ad hD 14)).bX 6 (nf (fun h=>ft hD ((ad 9 _ rfl ((ad 12 _ rfl h).1 rfl)).1 rfl)))
   have hl141:=o.gv 6 rfl
   have hr142:=jr zk hl141 aw
   refine RL.bV 5 o zr zr A8 hr142 ?_
   have o:=(o.eR 5 (D 14) (nh ad hD 14) (own 46 ak (us124.set (Int.toNat (dG aa.2 dH.1 (0:Int))) (rv af)))).eR 6 (D 12) (nf (fun h=>ft hD ((ad 9 _ rfl ((ad 12 _ rfl h).1 rfl)).1 rfl))) (iC (XS 3 Int) us124 aa.1 (some (Int.toNat (dG aa.2 dH.1 (0:Int)))))
   have o:=o.eR 6 (D 14) (nh ad hD 14) (iC (XS 3 Int) (us124.set (Int.toNat (dG aa.2 dH.1 (0:Int))) (rv af)) (aa.1.set (Int.toNat (dG aa.2 dH.1 (0:Int))) aq) none)
   exact RL.nil ⟨rfl,(aj,af),hv.pu 8,ha.u,zt,o⟩
  ·rintro D U w hD ag ad ⟨⟨aj,af⟩,hv,ha,_,o⟩
   obtain⟨O,rfl⟩:=(ac (hv.at 8 rfl (ag.1 rfl)) az).fC
   have o:=((o.bX 5 (nh ad hD 14)).bX 6 (nh ad hD 14)).bX 6 (nh ad hD 12)
   have hl143:=o.gv 6 rfl
   have hr144:=jr zk hl143 aw
   refine RL.uo 5 6 (dG aa.2 dH.1 (0:Int)) (xL 3 Int) zk zr o zr (jQ 5 o hr144 0) zr zr aw eU ?_
   have o:=(o.eR 5 (D 14) (nh ad hD 14) (own 46 ak (us124.set (Int.toNat (dG aa.2 dH.1 (0:Int))) (rv af)))).eR 6 (D 12) (nh ad hD 12) (iC (XS 3 Int) us124 aa.1 (some (Int.toNat (dG aa.2 dH.1 (0:Int)))))
   have o:=o.eR 6 (D 14) (nh ad hD 14) (iC (XS 3 Int) (us124.set (Int.toNat (dG aa.2 dH.1 (0:Int))) (rv af)) (aa.1.set (Int.toNat (dG aa.2 dH.1 (0:Int))) aq) none)
   exact RL.nil ⟨rfl,(aj,af),hv.pu 9,ha.u,zt,o⟩
  ·rintro D U w hD ag ad ⟨⟨aj,af⟩,hv,ha,_,o⟩
   obtain⟨O,rfl⟩:=(ac (hv.at 10 rfl (ag.1 rfl)) az).fC
   have o:=((o.bX 0 (nh ad hD 12)).bX 0 hD).sc Int (ah:Int)
   refine RL.eP ([(ah:Int)]: (List Int)) o [(vi ah)] eE DO (fun M hs g=>⟨(g.sat 0 _ zr).1,zt⟩) fun a7 w o=>?_
   have o:=((o.pl 9 [0,3,4,5,6,7,8]).cO 0 true aY).eR 0 (D 12) (nh ad hD 12) (rd a7 ([(ah:Int)]: (List Int)))
   exact RL.nil ⟨rfl,(a7,af),hv.pu 11,ha.u,zt,o⟩
  ·rintro D U w hD ag ad ⟨⟨aj,af⟩,hv,ha,_,o⟩
   obtain⟨O,rfl⟩:=(ac (hv.at 9 rfl (ag.1 rfl)) (ac (hv.at 11 rfl (ag.2.1 rfl)) az)).fC
   have o:=(((((((o.bX 0 hD).cN 0 (ag.2.1 rfl)).bX 1 (nh ad hD 14)).bX 1 hD).bX 5 (nh ad hD 14)).bX 6 (nh ad hD 14)).bX 6 hD).yt (j:=6) (jj:=(dG aa.2 dH.1 (0:Int))) (xL 3 Int) zk rfl aw
   have o:=o.freeze 1
   refine RL.app 0 1 o tp bh fun a1 w o=>?_
   have o:=((((o.pl 8 [1,0,3,4,5,6,7]).cO 0 true (bif D 11 then (own 3 aj ([(ah:Int)]: (List Int))) else aY)).cO 1 true aY).eR 1 (D 14) (nh ad hD 14) aY).eR 5 (D 14) (nh ad hD 14) (own 46 ak (us124.set (Int.toNat (dG aa.2 dH.1 (0:Int))) (rv a1)))
   have o:=(o.cO 6 true (iC (XS 3 Int) us124 aa.1 none)).eR 6 (D 14) (nh ad hD 14) (iC (XS 3 Int) (us124.set (Int.toNat (dG aa.2 dH.1 (0:Int))) (rv a1)) (aa.1.set (Int.toNat (dG aa.2 dH.1 (0:Int))) aq) none)
   exact RL.nil ⟨rfl,(aj,a1),hv.pu 12,ha.u,zt,o⟩
  ·rintro D U w hD ag ad ⟨⟨aj,af⟩,hv,ha,_,o⟩
   obtain⟨O,rfl⟩:=(ac (hv.at 0 rfl (ag.1 rfl)) (ac (hv.at 3 rfl (ag.2.1 rfl)) az)).fC
   have o:=((o.bX 5 (nh ad hD 14)).bX 6 (nh ad hD 14)).cN 6 (ag.2.2.2.2.2.2.2.2.2.2.2.2.2.2.1 rfl)
   have hl147:=o.gv 6 rfl
   have hr148:=jr zk hl147 a0
   refine RL.bV 5 o zr zr A8 hr148 ?_
   have o:=(o.eR 5 (D 14) (nh ad hD 14) (own 46 ak (us124.set (Int.toNat (dG aa.2 dH.1 (0:Int))) (rv af)))).cO (hb:=ag.2.2.2.2.2.2.2.2.2.2.2.2.2.2.1 rfl) 6 (D 12) (iC (XS 3 Int) us124 aa.1 none)
   have o:=o.eR 6 (D 14) (nh ad hD 14) (iC (XS 3 Int) (us124.set (Int.toNat (dG aa.2 dH.1 (0:Int))) (rv af)) (aa.1.set (Int.toNat (dG aa.2 dH.1 (0:Int))) aq) none)
   exact RL.nil ⟨rfl,(aj,af),hv.pu 13,ha.u,zt,o⟩
  ·rintro D U w hD ag ad ⟨⟨aj,af⟩,hv,ha,_,o⟩
   obtain⟨O,rfl⟩:=(ac (hv.at 12 rfl (ag.2.1 rfl)) (ac (hv.at 13 rfl (ag.1 rfl)) az)).fC
   have o:=((((o.bX 1 hD).cN 1 (ag.2.1 rfl)).bX 5 hD).bX 6 hD).cN 6 (ag.2.1 rfl)
   have hl149:=o.gv 6 rfl
   have hr150:=jr zk hl149 a0
   refine RL.r7 5 6 1 (dG aa.2 dH.1 (0:Int)) (xL 3 Int) zk o zr zr (jQ 5 o hr150 0) zr zr zr a0 eU fun w o=>?_
   have o:=((o.cO 1 true (bif D 12 then (own 3 af aq) else aY)).cO 5 true (own 46 ak us124)).cO 6 true (bif D 12 then (iC (XS 3 Int) us124 aa.1 (some (Int.toNat (dG aa.2 dH.1 (0:Int))))) else (iC (XS 3 Int) us124 aa.1 none))
   exact RL.nil ⟨rfl,(aj,af),hv.n1,ha,zt,o⟩
  rintro D U w ax ⟨⟨aj,af⟩,hv,ha,_,o⟩
  have o:=(((o.cN 0 (jS ax 12)).cN 1 (jS ax 14)).cN 5 (jS ax 14)).cN 6 (jS ax 14)
  obtain⟨O,rfl⟩:=(ac (ha.at 0 rfl) (ac (ha.at 1 rfl) (ac (ha.at 2 rfl) (ac (ha.at 3 rfl) (ac (ha.at 4 rfl) (ac (ha.at 5 rfl) (ac (ha.at 6 rfl) az))))))).fC
  refine bT (aG (RC.region (RL.inc hk hm (mv (vi ((ah+1:Nat):Int)) (RL.nil ?_)))))
  obtain rfl:=oi hb
  exact⟨rfl,au,ak,(us124.set (Int.toNat (dG aa.2 dH.1 (0:Int))) (rv af)),o.sp 7 [2,3,4,5,6]⟩
 rintro _ w ⟨av,ar,us113,O,rfl,o⟩
 refine aG (RC.sr (mv ar (aP ar (RL.nt (RC.ret ?_)))))
 obtain rfl:=oi hb
 have o:=o.yu (X:=(XS 3 Int)) (b:=4) (j:=3) rfl (fun M h u x cs=>(FX 3) M h u x cs) rfl rfl (by decide)
 exact cI ⟨ar,av,zr,o.pk 5 [3,0,1]⟩
theorem pP {p0:aI} {p1:eF} {res:Bool} (j:Holds E w V) (h0:V[i0]? =some (rd v0 p0)) (h1:V[i1]? =some (pt v1 p1)) (hb:jv N p0 p1=some res):
    Calls bF 93 [v0,v1].toArray w (gT (bD E V res)):=by
 unfold jv at hb
 refine enter Tryz.func93 zr zr ?_
 have j:=(j.dup (i0+0) h0).vL (i:=i1+1) h1
 refine RC.sr (RL.dD 1 v0 j zr fun ag w j=>?_)
 refine aP (vb false) (RL.nq ?_)
 obtain⟨af,o,hb⟩:=bd hb
 refine RC.jn (fun(af:Bool)=>SH E V [(3,vb af)] []) af ?_ ?_
 ·refine RC.region (RL.ig 1 j zr qj kc fun ah j=>(RL.bG p1.X 0 j cG (RL.aZ zr iX (RL.aK 1 j zr eG cG (ic p1.X p0.X0 (mv (vb (decide (p1.X>=p0.X0))) (fY o (fun aa o=>?_) fun aa o=>?_)))))))
  rotate_left
  ·refine bR aa (bR aa (bR aa (bR aa (bR aa (fV aa (vb false) (mv (vb false) (nI (nI ?_))))))))
   refine nI (nI (nI (RL.pick false (vb false) zr (mv (vb false) (nI (nI (nI (nI ?_))))))))
   refine nI (RL.pick false (vb false) zr (aP (vb false) (RL.nil ?_)))
   obtain rfl:=oi o
   exact⟨rfl,j.sp 4 []⟩
  refine RL.ig (hg:=(cg aa)) 2 j zr qj kc fun ai j=>(RL.bG (hg:=(cg aa)) p1.X 0 j cG (RL.aZ (hg:=(cg aa)) zr ke (RL.aK (hg:=(cg aa)) 2 j zr fW cG (RL.jY p1.X p0.X1 (cg aa) (fV aa (vb (decide (p1.X<p0.X1))) (mv (vb (decide (p1.X<p0.X1))) (fY o (fun ab o=>?_) fun ab o=>?_)))))))
  rotate_left
  ·refine bR ab (bR ab (bR ab (bR ab (bR ab (fV ab (vb false) (mv (vb false) (nI (nI ?_))))))))
   refine nI (nI (nI (RL.pick false (vb false) zr (aP (vb false) (RL.nil ?_)))))
   obtain rfl:=oi o
   exact⟨rfl,j.sp 5 []⟩
  refine RL.ig (hg:=(cg ab)) 3 j zr oh iW fun aj j=>(RL.bG (hg:=(cg ab)) p1.Y 0 j cG (RL.aZ (hg:=(cg ab)) zr jy (RL.aK (hg:=(cg ab)) 3 j zr eQ cG (RL.jY p1.Y p0.Y0 (cg ab) (fV ab (vb (decide (p1.Y>=p0.Y0))) (mv (vb (decide (p1.Y>=p0.Y0))) (fY o (fun ad o=>?_) fun ad o=>?_)))))))
  ·refine RL.ig (hg:=(cg ad)) 4 j zr oh iW fun ak j=>(RL.bG (hg:=(cg ad)) p1.Y 0 j cG (RL.aZ (hg:=(cg ad)) zr nk (RL.aK (hg:=(cg ad)) 4 j zr jh cG (RL.jY p1.Y p0.Y1 (cg ad) (fV ad (vb (decide (p1.Y<p0.Y1))) (aP (vb (decide (p1.Y<p0.Y1))) (RL.nil ?_)))))))
   obtain rfl:=oi o
   exact⟨rfl,j.sp 7 []⟩
  refine bR ad (bR ad (bR ad (bR ad (bR ad (fV ad (vb false) (aP (vb false) (RL.nil ?_)))))))
  obtain rfl:=oi o
  exact⟨rfl,j.sp 6 []⟩
 rintro _ w ⟨O,rfl,j⟩
 refine aG (RC.ret ?_)
 obtain rfl:=oi hb
 exact cI ⟨rfl,j.drop 0⟩
theorem nv {p0: (List aI)} {p1:eF} {res:Bool} (j:Holds E w V) (h0:V[i0]? =some (rd v0 p0)) (h1:V[i1]? =some (rd v1 p1)) (o:iH N p0 p1=some res):
    Calls bF 79 [v0,v1].toArray w (gT (bD E V res)):=by
 unfold iH at o
 refine enter Tryz.func79 zr zr ?_
 have j:=(j.dup (i0+0) h0).dup (i1+1) h1
 refine RC.sr (RL.dD 0 v1 j zr fun aa w j=>?_)
 have j:=j.fT (i:=0) rfl
 refine aP (vb false) (RL.ns (mv v0 (RL.makeFunc [(vp aa 0)] ?_)))
 obtain⟨ab,ad,o⟩:=bd o
 refine RL.call trivial rfl HG [v0,(.func (.func 93) #[] #[(vp aa 0)])] rfl (aF (jX N (i0:=2) j rfl ⟨93,[(vp aa 0)],rfl,Jw,fun w Γl v y0 r i j hi hr=>by exact aF (pP N (i0:=i) (i1:=Γl.length+0) j hi (yo rfl) hr) fun _ _ h=>h⟩ ad) ?_)
 rintro _ w ⟨rfl,j⟩
 refine aP (vb ab) (RL.nt (RC.ret ?_))
 obtain rfl:=oi o
 exact cI ⟨rfl,j.drop 3⟩
def mm (E:World) (V:List HP) (b0:Nat) (v0_0 v0_1:Value) (v0_2 v0_3:Value) (v0_4 v0_5:Value) (v0_6 v0_7:Value) (v0_8 v0_9:Value) (v0_10 v0_11:Value) (res:dO×Bool) (v:Value) (w:World):Prop:=∃u0:Value,v = .tuple #[u0,(vb res.2)]/\Holds E w ([rd u0 res.1,bc 69 b0 [v0_0,v0_1,v0_2,v0_3,v0_4,v0_5,v0_6,v0_7,v0_8,v0_9,v0_10,v0_11]]++V)
def mn (E:World) (V:List HP) (b0:Nat) (v0_0 v0_1:Value) (v0_2 v0_3:Value) (v0_4 v0_5:Value) (v0_6 v0_7:Value) (v0_8 v0_9:Value) (v0_10 v0_11:Value) (r:dO×Bool) (U:Nat->Value) (w:World):Prop:=mx bF 66 Tryz.f53 (mm E V b0 v0_0 v0_1 v0_2 v0_3 v0_4 v0_5 v0_6 v0_7 v0_8 v0_9 v0_10 v0_11 r) .ret U w
theorem pQ {p0_2: (List bU)} {p0_5: (List aH)} {p1:cV} {res:dO×Bool} (j:Holds E w (bc 69 b0 [v0_0,v0_1,v0_2,v0_3,v0_4,v0_5,v0_6,v0_7,v0_8,v0_9,v0_10,v0_11]::rd v0_2 p0_2::rd v0_5 p0_5::V)) (h1:V[i1]? =some (rd v1 p1)) (o:ir N p0_2 p0_5 p1=some res):
    Calls bF 53 [(vp b0 0),v1].toArray w (gT (mm E V b0 v0_0 v0_1 v0_2 v0_3 v0_4 v0_5 v0_6 v0_7 v0_8 v0_9 v0_10 v0_11 res)):=by
 unfold ir at o
 refine enter Tryz.func53 zr zr ?_
 have j:=j.dup (i1+3) h1
 refine RC.sr (RL.dD 0 v1 j zr fun ah w j=>?_)
 have j:=j.fT (i:=0) rfl
 refine RL.alloc j Fu.z fun ae w j=>?_
 refine aP (vb false) (RL.nq (RC.sr (mv (vp b0 0) (RL.nilCheck zr (RL.aZ zr mD (RL.aZ zr lV (RL.aU 3 v0_2 j uz (RL.bE 4 p0_2 j wg ?_))))))))
 refine mv (vi 0) (RL.nt ?_)
 obtain⟨bn,hN,o⟩:=bd o
 refine RC.range (fun(af:Nat) (al:Unit)=>SH E V [(0,vp b0 0),(3,vp ah 0),(4,vp ae 0),(14,v0_2),(15,vi p0_2.length),(16,vi af)] [bc 69 b0 [v0_0,v0_1,v0_2,v0_3,v0_4,v0_5,v0_6,v0_7,v0_8,v0_9,v0_10,v0_11],rd v0_2 p0_2,rd v0_5 p0_5,pt (vp ah 0) p1,raw 38 ae 2]) (fun(al:Unit)=>SH E V [(0,vp b0 0),(3,vp ah 0),(4,vp ae 0)] [bc 69 b0 [v0_0,v0_1,v0_2,v0_3,v0_4,v0_5,v0_6,v0_7,v0_8,v0_9,v0_10,v0_11],rd v0_2 p0_2,rd v0_5 p0_5,pt (vp ah 0) p1,raw 38 ae 2]) (mn E V b0 v0_0 v0_1 v0_2 v0_3 v0_4 v0_5 v0_6 v0_7 v0_8 v0_9 v0_10 v0_11) hN ?_ ?_ ?_ ?_ ?_
 ·exact j.sp 6 [3,4,5,1,0]
 ·rintro hm al _ w ⟨O,rfl,j⟩
  refine RC.sr (ic ((p0_2.length:Int)) ((p0_2.length:Int)) (RL.nq (RC.cT mc (RC.ex ?_))))
  exact⟨rfl,j.sp 5 [0,1,2,3,4]⟩
 ·rintro hm af al fl _ w hk ⟨O,rfl,j⟩ o
  refine RC.sr (ic ((af:Int)) ((p0_2.length:Int)) (RL.nq (RC.cS (mb hk) (RC.ss (RC.bs (mv (vi af) ?_))))))
  obtain⟨ax,a0,o⟩:=bd o
  refine RL.cB 1 j yF a0 fun bo j=>(RL.bP 0 ax j nM fun bp j=>(RL.alloc j CB.z fun bq w j=>?_))
  refine aP (vi af) (RL.bA 0 j 1 zr nM fun w j=>?_)
  refine RL.nq ?_
  obtain⟨aq,hj,o⟩:=bd o
  refine RC.jn (fun(aq:Bool)=>SH E V [(0,vp b0 0),(3,vp ah 0),(4,vp ae 0),(6,vi af),(14,v0_2),(15,vi p0_2.length),(16,vi af),(36,vb aq)] [bc 69 b0 [v0_0,v0_1,v0_2,v0_3,v0_4,v0_5,v0_6,v0_7,v0_8,v0_9,v0_10,v0_11],rd v0_2 p0_2,rd v0_5 p0_5,pt (vp ah 0) p1,raw 38 ae 2]) aq ?_ ?_
  ·refine RC.yC mixed [0,0,0,0,0,0,2,0,0,0,2,2,1,1,2,0] [0,1,2,3,4,5,6,7,8,9,12,13,10,11,14,15] ?_
   have j:=j.drew
   refine DP.e0 zr (RL.aZ zr yH (cE zr (RL.aK 0 j zr qU xU (cE zr (mv (vb ax.gA) (DP.d0 (fY hj (fun ai hj=>?_) fun ai hj=>?_)))))))
   rotate_left
   ·refine DP.e0 zr (bR ai (cE zr (bR ai (cE zr (bR ai (vX zr (bR ai (AI zr ?_))))))))
    refine fV ai (vb false) (cE zr (mv (vb false) (cE zr (nI (DP.d0 (DP.e1 undef zr (fun w=>nI DP.d1) (DP.e1 undef zr (fun w=>nI DP.d1) (DP.e2 zr ?_))))))))
    refine nI (Gs zr (nI (Gs zr (nI (AI zr (RL.pick false (vb false) zr (DP.d0 (DP.z ?_))))))))
    obtain rfl:=oi hj
    exact⟨rfl,j.sp 8 [3,4,5,6,7]⟩
   refine DP.e0 zr (RL.aX (hg:=(cg ai)) (f:=(fun x=>x)) 0 j zr Fd.self nM fun a1 j=>(cE zr (RL.ig (hg:=(cg ai)) 7 j zr A6 uw fun br j=>(cE zr (RL.bG (hg:=(cg ai)) p1.cR 0 j cG (vX zr ?_))))))
   obtain⟨ay,a2,hj⟩:=bd hj
   refine RL.call (cg ai) zr Gz [a1,(vi p1.cR)] zr (aF (lI N (p1:=p1.cR) (i0:=1) j zr a2) ?_)
   rintro _ w ⟨rfl,j⟩
   refine AI zr (fV ai (vb ay) (cE zr (mv (vb ay) (DP.d0 (fY hj (fun ab hj=>?_) fun ab hj=>?_)))))
   rotate_left
   ·refine DP.e0 zr (bR ab (DP.d0 (DP.e1 undef zr (fun w=>bR ab DP.d1) (DP.e1 undef zr (fun w=>bR ab DP.d1) (DP.e2 zr (bR ab (Gs zr (bR ab ?_))))))))
    refine Gs zr (bR ab (AI zr (fV ab (vb false) (DP.d0 (DP.z ?_)))))
    obtain rfl:=oi hj
    exact⟨rfl,j.sp 10 [5,6,7,8,9]⟩
   refine DP.e0 zr (RL.aX (hg:=(cg ab)) (f:=(fun x=>x)) 2 j zr Fd.self nM fun a3 j=>(DP.d0 (DP.He 9 zr zr (cg ab) zr j zr zr A7 ux fun bt j=>(DP.uu (hg:=(cg ab)) p1.At 0 zr j rp fun a4 a105 bu j=>(DP.e2 zr ?_)))))
   obtain⟨a5,a6,hj⟩:=bd hj
   refine RL.call (cg ab) zr CC [a3] zr (aF (gq N (i0:=3) j zr a6) ?_)
   rintro a7 w j
   refine DP.d2 (⟨zt,j.j3 1⟩) (DP.e2 zr (RL.eP (hg:=(cg ab)) ([a5]: (List aI)) j [a7] kd lU (fun M hs g=>⟨(g.sat 0 _ zr).1,zt⟩) fun a8 w j=>(DP.d2 (⟨zt,j.j3 2⟩) (DP.e2 zr ?_))))
   have j:=j.freeze 0
   obtain⟨a9,ba,hj⟩:=bd hj
   refine RL.call (cg ab) zr HN [a8,a4] zr (aF (nv N (i0:=0) (i1:=3) j zr zr ba) ?_)
   rintro _ w ⟨rfl,j⟩
   refine DP.d2 (⟨zt,j.j3 2⟩) (DP.e0 zr (fV ab (vb a9) (DP.d0 ?_)))
   have j:=j.pl 16 [0,1,3,4,5,6,7,8,9,10,11,12,13,14,15]
   refine DP.z ?_
   obtain rfl:=oi hj
   exact⟨rfl,j.sp 15 [10,11,12,13,14]⟩
  rintro _ w ⟨O,rfl,j⟩
  refine aG (fH o (fun hc o=>?_) fun hc o=>?_)
  rotate_left
  ·refine RC.skip (bT (aG (RC.region (RL.inc hk hm (mv (vi ((af+1:Nat):Int)) (RL.nil ?_))))))
   obtain rfl:=oi o
   exact⟨rfl,j.sp 5 [0,1,2,3,4]⟩
  refine RC.sr (mv (vi af) ?_)
  have j:=(j.sc Bool true).sc Int (af:Int)
  refine RL.build (⟨true,(af:Int)⟩:dO) trivial rfl j [(0,vb true),(1,vi af)] rfl CI rfl (fun M hs g=>by have h:=v9 M;exact cH.cons (f:=fun(x:dO) y=>{x with bU:=y}) h zZ (g.sat 1 _ rfl).1 fun _ h=>cH.cons (f:=fun(x:dO) y=>{x with Number:=y}) h tm (g.sat 0 _ rfl).1 fun _ h=>cH.nil h) fun bw j=>?_
  refine RL.bA 7 j 0 zr ql fun w j=>?_
  refine aP (vb true) (RL.nt (RC.rb (cC ?_)))
  obtain rfl:=oi o
  exact⟨rfl,xI 7 j ql fun bb j=>⟨bb,zr,j.pk 9 [0,4]⟩⟩
 ·intro r U w e hK
  subst e
  refine cC ?_
  obtain rfl:=oi o
  exact hK
 rintro al _ w rfl ⟨O,rfl,j⟩
 rw [Fo.gx] at o
 refine aG (RC.seq (RC.sr (mv (vp b0 0) (RL.nilCheck zr (RL.aZ zr mE (RL.aU 0 v0_5 j vq (RL.bE 2 p0_5 j z8 (mv (vi 0) ?_))))))))
 refine RL.nt ?_
 obtain⟨bx,hN,o⟩:=bd o
 refine RC.range (fun(ag:Nat) (an:Unit)=>SH E V [(0,vp b0 0),(3,vp ah 0),(4,vp ae 0),(43,v0_5),(44,vi p0_5.length),(45,vi ag)] [bc 69 b0 [v0_0,v0_1,v0_2,v0_3,v0_4,v0_5,v0_6,v0_7,v0_8,v0_9,v0_10,v0_11],rd v0_2 p0_2,rd v0_5 p0_5,pt (vp ah 0) p1,raw 38 ae 2]) (fun(an:Unit)=>SH E V [(0,vp b0 0),(4,vp ae 0)] [bc 69 b0 [v0_0,v0_1,v0_2,v0_3,v0_4,v0_5,v0_6,v0_7,v0_8,v0_9,v0_10,v0_11],rd v0_2 p0_2,rd v0_5 p0_5,pt (vp ah 0) p1,raw 38 ae 2]) (mn E V b0 v0_0 v0_1 v0_2 v0_3 v0_4 v0_5 v0_6 v0_7 v0_8 v0_9 v0_10 v0_11) hN ?_ ?_ ?_ ?_ ?_
 ·exact j.sp 5 [0,1,2,3,4]
 ·rintro hm an _ w ⟨O,rfl,j⟩
  refine RC.sr (ic ((p0_5.length:Int)) ((p0_5.length:Int)) (RL.nq (RC.cT mc (RC.ex ?_))))
  exact⟨rfl,j.sp 5 [0,1,2,3,4]⟩
 ·rintro hm ag an fl _ w hk ⟨O,rfl,j⟩ o
  refine RC.sr (ic ((ag:Int)) ((p0_5.length:Int)) (RL.nq (RC.cS (mb hk) (RC.ss (RC.bs (mv (vi ag) ?_))))))
  obtain⟨av,bf,o⟩:=bd o
  refine RL.cB 2 j CF bf fun bz j=>(RL.bP 0 av j CG fun b1 j=>(RL.alloc j Fm.z fun b2 w j=>?_))
  refine aP (vi ag) (RL.bA 0 j 1 zr CG fun w j=>?_)
  refine RL.nq ?_
  obtain⟨aw,hj,o⟩:=bd o
  refine RC.jn (fun(aw:Bool)=>SH E V [(0,vp b0 0),(3,vp ah 0),(4,vp ae 0),(8,vi ag),(43,v0_5),(44,vi p0_5.length),(45,vi ag),(61,vb aw)] [bc 69 b0 [v0_0,v0_1,v0_2,v0_3,v0_4,v0_5,v0_6,v0_7,v0_8,v0_9,v0_10,v0_11],rd v0_2 p0_2,rd v0_5 p0_5,pt (vp ah 0) p1,raw 38 ae 2]) aw ?_ ?_
  ·refine RC.region (RL.aZ zr yI (RL.aK 0 j zr jU cG (RL.ig 6 j zr A6 uw fun b3 j=>(RL.bG p1.cR 0 j cG (ic av.cR p1.cR (mv (vb (av.cR==p1.cR)) (fY hj (fun ad hj=>?_) fun ad hj=>?_)))))))
   rotate_left
   ·refine bR ad (bR ad (bR ad (bR ad (bR ad (fV ad (vb false) (RL.nil ?_))))))
    obtain rfl:=oi hj
    exact⟨rfl,j.sp 9 [4,5,6,7,8]⟩
   refine RL.aZ (hg:=(cg ad)) zr yJ (RL.aX (hg:=(cg ad)) 1 j zr jV we fun bg j=>(RL.ig (hg:=(cg ad)) 8 j zr A7 ux fun b4 j=>(RL.bP (hg:=(cg ad)) 0 p1.At j rp fun bh j=>?_)))
   obtain⟨bj,bk,hj⟩:=bd hj
   refine RL.call (cg ad) zr HN [bg,bh] zr (aF (nv N (i0:=2) (i1:=0) j zr zr bk) ?_)
   rintro _ w ⟨rfl,j⟩
   refine fV ad (vb bj) (RL.nil ?_)
   obtain rfl:=oi hj
   exact⟨rfl,j.sp 12 [7,8,9,10,11]⟩
  rintro _ w ⟨O,rfl,j⟩
  refine aG (fH o (fun hc o=>?_) fun hc o=>?_)
  rotate_left
  ·refine RC.skip (bT (aG (RC.region (RL.inc hk hm (mv (vi ((ag+1:Nat):Int)) (RL.nil ?_))))))
   obtain rfl:=oi o
   exact⟨rfl,j.sp 5 [0,1,2,3,4]⟩
  refine RC.sr (mv (vi ag) ?_)
  have j:=j.sc Int (ag:Int)
  refine RL.build (⟨false,(ag:Int)⟩:dO) trivial rfl j [(1,vi ag)] rfl CI rfl (fun M hs g=>by have h:=v9 M;exact cH.cons (f:=fun(x:dO) y=>{x with Number:=y}) h tm (g.sat 0 _ rfl).1 fun _ h=>cH.nil h) fun b5 j=>?_
  refine RL.bA 6 j 0 zr ql fun w j=>?_
  refine aP (vb true) (RL.nt (RC.rb (cC ?_)))
  obtain rfl:=oi o
  exact⟨rfl,xI 6 j ql fun bl j=>⟨bl,zr,j.pk 8 [0,3]⟩⟩
 ·intro r U w e hK
  subst e
  refine cC ?_
  obtain rfl:=oi o
  exact hK
 rintro an _ w rfl ⟨O,rfl,j⟩
 rw [Fo.gx] at o
 refine aG (RC.sr (RL.build (⟨false,0⟩:dO) trivial rfl j [] rfl CI rfl (fun M hs g=>by have h:=v9 M;exact cH.nil h) fun b6 j=>?_))
 refine RL.bA 5 j 0 zr ql fun w j=>?_
 refine aP (vb false) (RL.nt (RC.ret ?_))
 obtain rfl:=oi o
 exact xI 5 j ql fun bm j=>⟨bm,zr,j.pk 7 [0,2]⟩
theorem ny {p0_8: (List Int)} {p0_9: (List Int)} {p1:dO} (j:Holds E w (bc 69 b0 [v0_0,v0_1,v0_2,v0_3,v0_4,v0_5,v0_6,v0_7,v0_8,v0_9,v0_10,v0_11]::rd v0_8 p0_8::rd v0_9 p0_9::V)) (h1:V[i1]? =some (rd v1 p1)) (o:fK N p0_8 p0_9 p1=some res):
    Calls bF 54 [(vp b0 0),v1].toArray w (gT (iE E V b0 v0_0 v0_1 v0_2 v0_3 v0_4 v0_5 v0_6 v0_7 v0_8 v0_9 v0_10 v0_11 res)):=by
 unfold fK at o
 refine enter Tryz.func54 zr zr ?_
 have j:=j.dup (i1+3) h1
 refine RC.sr (RL.dD 0 v1 j zr fun ag w j=>?_)
 refine aP (vi 0) (RL.nq (RC.sr (RL.aZ zr Bc (RL.aK 0 j zr v8 xU (RL.nt (fH o (fun hc o=>?_) fun hc o=>?_))))))
 ·refine RC.seq (RC.xf mixed ?_)
  have j:=j.drew
  refine RO.go (mv (vp b0 0) (RO.nx (RL.nilCheck zr (RO.nx (RL.aZ zr wj (RO.nx (RL.aU 2 v0_9 j eU (RO.nx ?_))))))))
  refine RL.aZ zr sg (RO.nx (RL.aK 0 j zr nj cG (RO.nx ?_)))
  obtain⟨aa,ae,o⟩:=bd o
  refine RL.cB 4 j eE ae fun ah j=>(RO.nx (RL.bG aa 0 j cG (RO.nx (aP (vi aa) (RO.last (aG (RC.rt ?_)))))))
  obtain rfl:=oi o
  exact cI ⟨rfl,j.pk 6 [3]⟩
 refine RC.ss (RC.xf mixed ?_)
 have j:=j.drew
 refine RO.go (mv (vp b0 0) (RO.nx (RL.nilCheck zr (RO.nx (RL.aZ zr uC (RO.nx (RL.aU 2 v0_8 j eU (RO.nx ?_))))))))
 refine RL.aZ zr sg (RO.nx (RL.aK 0 j zr nj cG (RO.nx ?_)))
 obtain⟨ab,af,o⟩:=bd o
 refine RL.cB 3 j eE af fun ai j=>(RO.nx (RL.bG ab 0 j cG (RO.nx (aP (vi ab) (RO.last (aG (RC.ret ?_)))))))
 obtain rfl:=oi o
 exact cI ⟨rfl,j.pk 6 [3]⟩
end Go.Gk
