/-
  Printed texts: Go functions as plain functions, and that they are. No statement of the seed is proved here.
-/
import Derived.Test.YtmmiladckdcjeadGreatDoorG1
import Derived.Test.YtmmiladckdcjeadGreatDoorG2
import Derived.Test.YtmmiladckdcjeadGreatDoorA2
set_option linter.unusedVariables false
set_option linter.unusedSimpArgs false
set_option linter.unusedSectionVars false
set_option maxRecDepth 100000
set_option maxHeartbeats 4000000
namespace Go.Gk
open Go Go.Proofs
variable (N:Nat) {E w:World} {b0 b1 i0 i1:Nat} {p0 p1 p2 res:Int} {v0 v0_0 v0_1 v0_10 v0_11 v0_2 v0_3 v0_4 v0_5 v0_6 v0_7 v0_8 v0_9 v1 v1_0 v2:Value} {V:List HP}
theorem oM {p0:cE} {res:Bool} (j:Holds E w V) (h0:V[i0]? =some (rd v0 p0)) (hb:ll N p0 p1=some res):
    Calls bN 58 [v0,(vi p1)].toArray w (gQ (aU E V res)):=by
 unfold ll at hb
 refine enter Tryz.func58 zr zr ?_
 have j:=j.dup (i0+0) h0
 refine RC.sr (RL.dK 0 v0 j zr fun o w j=>?_)
 refine aP (vb false) (RL.ns (RL.aZ zr pM (RL.aM 0 j zr kC cG (mv (vi p1) (ic p0.cR p1 (mv (vb (decide (p0.cR<=p1))) (RL.gs true (decide (p0.cR<=p1)) (vi p1) zr zr zr cI (RL.gs true (decide (p0.cR<=p1)) (vp o 4) zr zr zr (eC rQ) ?_))))))))
 refine RL.gs true (decide (p0.cR<=p1)) (vi p0.To) rfl rfl rfl (cB 0 rfl j (fun h=>by exact(cO h:cv (true&&((decide (p0.cR<=p1))==true)) (vp o 4)= (vp o 4))) rfl l7 cG) (RL.gs true (decide (p0.cR<=p1)) (vb (decide (p1<=p0.To))) rfl rfl rfl (dL .leq .i64 p1 p0.To rfl (fun h=>by exact(cO h:cv (true&&((decide (p0.cR<=p1))==true)) (vi p1)= (vi p1))) (fun h=>by exact(cO h:cv (true&&((decide (p0.cR<=p1))==true)) (vi p0.To)= (vi p0.To))) rfl) (RL.pick (decide (p0.cR<=p1)) (vb ((decide (p0.cR<=p1))&&(decide (p1<=p0.To)))) (gx true rfl) (aP (vb ((decide (p0.cR<=p1))&&(decide (p1<=p0.To)))) (RL.nt (RC.ret ?_)))))
 obtain rfl:=oi hb
 exact bY ⟨rfl,j.drop 2⟩
def Af (E:World) (V:List HP) (res: (List Int)×Int) (v:Value) (w:World):Prop:=∃u0:Value,v = .tuple #[u0,(vi res.2)]/\Holds E w ([rd u0 res.1]++V)
theorem t9 {p0: (List aA)} {res: (List Int)×Int} (j:Holds E w V) (h0:V[i0]? =some (rd v0 p0)) (o:nc N p0 p1 p2=some res):
    Calls bN 125 [v0,(vi p1),(vi p2)].toArray w (gQ (Af E V res)):=by
 unfold nc at o
 refine enter Tryz.func125 zr zr ?_
 have j:=j.dup (i0+0) h0
 refine RC.sr (aP (.slice none 0 0) (aP (vi 0) (RL.nq (RC.bs (mv v0 (RL.bC 0 p0 j vI (ic ((p0.length:Int)) 0 (aP (vb ((p0.length:Int)==0)) ?_))))))))
 refine RL.nt (dX o (fun hc o=>?_) fun hc o=>?_)
 ·refine RC.sr (mv (vi p2) (aP (.slice none 0 0) (aP (vi p2) (RL.nt (RC.rb (bQ ?_))))))
  obtain rfl:=oi o
  have j:=j.yf Int
  exact qA ⟨(.slice none 0 0),zr,j.pk 2 [0]⟩
 refine RC.sr (mv (vi p1) (mv v0 ?_))
 obtain⟨ae,ag,o⟩:=bd o
 refine RL.bM 0 j o0 ag fun al j=>(RL.dN 0 j zr rO gK fun an j=>(RL.bB ae.Y0 0 j cG (ic p1 ae.Y0 (aP (vb (decide (p1<ae.Y0))) (RL.nt (dX o (fun hc o=>?_) fun hc o=>?_))))))
 ·refine RC.seq (RC.yh mixed ?_)
  have j:=j.drew
  refine RO.go (mv (vi p2) (RO.nx (mv v0 (RO.nx ?_))))
  obtain⟨aa,ah,o⟩:=bd o
  refine RL.bM 2 j o0 ah fun ao j=>(RO.nx (RL.dN 0 j zr rO gK fun aq j=>(RO.nx (RL.bB aa.Y0 0 j cG (RO.nx (RL.min p2 aa.Y0 (RO.nx (aP (.slice none 0 0) ?_))))))))
  refine RO.nx (aP (vi (if aa.Y0<p2 then aa.Y0 else p2)) (RO.last (aG (RC.rb (bQ ?_)))))
  obtain rfl:=oi o
  have j:=j.yf Int
  exact qA ⟨(.slice none 0 0),zr,j.pk 6 [0]⟩
 refine RC.skip (bO (aG (RC.seq (RC.yh mixed ?_))))
 have j:=j.drew
 refine RO.go (mv v0 (RO.nx ?_))
 obtain⟨ai,aj,o⟩:=bd o
 refine RL.bM 2 j o0 aj fun ar j=>(RO.nx (RL.dN 0 j zr nP dS fun au j=>(RO.nx (RL.bF 0 ai.Xs j fM fun af j=>(RO.nx (mv (vi p2) (RO.nx (mv v0 ?_))))))))
 refine RO.nx ?_
 obtain⟨ab,ak,o⟩:=bd o
 refine RL.bM 5 j o0 ak fun av j=>(RO.nx (RL.dN 0 j zr pL fQ fun aw j=>(RO.nx (RL.bB ab.Y1 0 j cG (RO.nx (RL.min p2 ab.Y1 (RO.nx (aP af ?_))))))))
 refine RO.nx (aP (vi (if ab.Y1<p2 then ab.Y1 else p2)) (RO.last (aG (RC.ret ?_))))
 obtain rfl:=oi o
 exact qA ⟨af,zr,j.pk 8 [2]⟩
theorem Bp {p0: (List Int)} {p1: (List Int)} {p2:Bool->Bool->Option Bool} {res: (List Int)} (j:Holds E w V) (h0:V[i0]? =some (rd v0 p0)) (h1:V[i1]? =some (rd v1 p1)) (h2:JZ bN E V v2 p2 (fun(r:Bool)=>Value.bool r)) (hb:qB N p0 p1 p2=some res):
    Calls bN 126 [v0,v1,v2].toArray w (gQ (mI E V res)):=by
 unfold qB at hb
 refine enter Tryz.func126 zr zr ?_
 have j:=(j.dup (i0+0) h0).dup (i1+1) h1
 refine RC.sr (aP (.slice none 0 0) (RL.ns (aP (.slice none 0 0) (RL.ns (aP (vb false) (aP (vb false) (aP (vb false) (RL.nq ?_))))))))
 obtain⟨bu,hN,hb⟩:=bd hb
 refine RC.iter (fun(o: (List Int)×(List Int)×(List Int)×Bool×Bool×Bool) U w=>∃a7 a8 a9:Value,SH E V [(0,a7),(1,a8),(2,v2),(7,a9),(8,vb o.2.2.2.1),(9,vb o.2.2.2.2.1),(10,vb o.2.2.2.2.2)] [rd a7 o.1,rd a8 o.2.1,own 3 a9 o.2.2.1] U w) (fun(o: (List Int)×(List Int)×(List Int)×Bool×Bool×Bool) U w=>∃av:Value,SH E V [(7,av)] [own 3 av o.2.2.1] U w) (fun(r:Empty) _ _=>r.elim) hN ?_ ?_ ?_ ?_
 ·have j:=j.cQ Int 3
  exact⟨v0,v1,(.slice none 0 0),j.sp 3 [2,1,0]⟩
 ·rintro o fl _ w ⟨ah,ad,ae,O,rfl,j⟩ hb
  refine RC.seq (RC.seq ?_)
  obtain⟨a1,hj,hb⟩:=bd hb
  refine RC.jn (fun(a1:Bool)=>SH E V [(0,ah),(1,ad),(2,v2),(7,ae),(8,vb o.2.2.2.1),(9,vb o.2.2.2.2.1),(10,vb o.2.2.2.2.2),(20,vb a1)] [rd ah o.1,rd ad o.2.1,own 3 ae o.2.2.1]) a1 ?_ ?_
  ·refine RC.region (mv ah (RL.bC 0 o.1 j mw (ic ((o.1.length:Int)) 0 (mv (vb (decide ((o.1.length:Int)>0))) (fN hj (fun ao hj=>?_) fun ao hj=>?_)))))
   ·refine bJ ao (bJ ao (bJ ao (fU ao (vb true) (RL.nil ?_))))
    obtain rfl:=oi hj
    exact⟨rfl,j.sp 3 [0,1,2]⟩
   refine RL.move ad (cg ao) (RL.bC (hg:=(cg ao)) 1 o.2.1 j mw (RL.ld (o.2.1.length:Int) 0 (cg ao) (fU ao (vb (decide ((o.2.1.length:Int)>0))) (RL.nil ?_))))
   obtain rfl:=oi hj
   exact⟨rfl,j.sp 3 [0,1,2]⟩
  rintro _ w ⟨O,rfl,j⟩
  refine aG (dX hb (fun hc hb=>?_) fun hc hb=>?_)
  rotate_left
  ·refine RC.ex ?_
   obtain rfl:=oi hb
   exact⟨rfl,ae,j.sp 3 [2]⟩
  refine RC.sn (RC.bs (aP (vi 0) (RL.nq (RC.seq ?_))))
  obtain⟨a2,hj,hb⟩:=bd hb
  refine RC.jn (fun(a2:Bool)=>SH E V [(0,ah),(1,ad),(2,v2),(7,ae),(8,vb o.2.2.2.1),(9,vb o.2.2.2.2.1),(10,vb o.2.2.2.2.2),(37,vb a2)] [rd ah o.1,rd ad o.2.1,own 3 ae o.2.2.1]) a2 ?_ ?_
  ·refine RC.yh mixed ?_
   have j:=j.drew
   refine RO.go (mv ad (RO.nx (RL.bC 1 o.2.1 j mw (RO.nx (ic ((o.2.1.length:Int)) 0 (RO.nx (mv (vb ((o.2.1.length:Int)==0)) (fN hj (fun ai hj=>?_) fun ai hj=>?_))))))))
   ·refine RO.nx (bJ ai (RO.nx (bJ ai (RO.nx (bJ ai (RO.nx (bJ ai (RO.nx ?_))))))))
    refine CW (RO.nx (CW (RO.nx (CW (RO.nx (CW (RO.nx (CW ?_))))))))
    refine RO.nx (CW (RO.nx (CW (RO.nx (bJ ai (RO.nx (fU ai (vb true) (RO.last ?_))))))))
    obtain rfl:=oi hj
    exact⟨rfl,j.sp 3 [0,1,2]⟩
   refine RO.nx (RL.move ah (cg ai) (RO.nx (RL.bC (hg:=(cg ai)) 0 o.1 j mw (RO.nx (RL.ld (o.1.length:Int) 0 (cg ai) (RO.nx (RL.move (vb (decide ((o.1.length:Int)>0))) (cg ai) (fN hj (fun af hj=>?_) fun af hj=>?_))))))))
   rotate_left
   ·refine RO.nx (bJ af (RO.nx (bJ af (RO.nx (bJ af (RO.nx (bJ af (RO.nx ?_))))))))
    refine bJ af (RO.nx (bJ af (RO.nx (bJ af (RO.nx (fU af (vb false) (hg:=(cg ai)) (RO.nx (fU ai (vb false) ?_))))))))
    refine RO.last ?_
    obtain rfl:=oi hj
    exact⟨rfl,j.sp 3 [0,1,2]⟩
   refine RO.nx (RL.move ah (cg af) (RO.nx ?_))
   obtain⟨ax,bj,hj⟩:=bd hj
   refine RL.bM (hg:=(cg af)) 0 j eD bj fun bx j=>(RO.nx (RL.bB (hg:=(cg af)) ax 0 j cG (RO.nx (RL.move ad (cg af) (RO.nx ?_)))))
   obtain⟨ay,bk,hj⟩:=bd hj
   refine RL.bM (hg:=(cg af)) 2 j eD bk fun bz j=>(RO.nx (RL.bB (hg:=(cg af)) ay 0 j cG (RO.nx (RL.ld ax ay (cg af) (RO.nx (fU af (vb (decide (ax<=ay))) (hg:=(cg ai)) (RO.nx (fU ai (vb (decide (ax<=ay))) ?_))))))))
   refine RO.last ?_
   obtain rfl:=oi hj
   exact⟨rfl,j.sp 5 [2,3,4]⟩
  rintro _ w ⟨O,rfl,j⟩
  refine aG ?_
  obtain⟨ag,hj,hb⟩:=bd hb
  refine RC.jn (fun(ag:Int)=>SH E V [(0,ah),(1,ad),(2,v2),(7,ae),(8,vb o.2.2.2.1),(9,vb o.2.2.2.2.1),(10,vb o.2.2.2.2.2),(11,vi ag)] [rd ah o.1,rd ad o.2.1,own 3 ae o.2.2.1]) ag ?_ ?_
  ·refine dX hj (fun hc hj=>?_) fun hc hj=>?_
   ·refine RC.region (mv ah ?_)
    obtain⟨ba,bl,hj⟩:=bd hj
    refine RL.bM 0 j eD bl fun b0 j=>(RL.bB ba 0 j cG (aP (vi ba) (RL.nil ?_)))
    obtain rfl:=oi hj
    exact⟨rfl,j.sp 4 [1,2,3]⟩
   refine RC.region (mv ad ?_)
   obtain⟨bb,bm,hj⟩:=bd hj
   refine RL.bM 1 j eD bm fun b1 j=>(RL.bB bb 0 j cG (aP (vi bb) (RL.nil ?_)))
   obtain rfl:=oi hj
   exact⟨rfl,j.sp 4 [1,2,3]⟩
  rintro _ w ⟨O,rfl,j⟩
  refine aG (RC.seq (RC.seq ?_))
  obtain⟨a3,hj,hb⟩:=bd hb
  refine RC.jn (fun(a3:Bool)=>SH E V [(0,ah),(1,ad),(2,v2),(7,ae),(8,vb o.2.2.2.1),(9,vb o.2.2.2.2.1),(10,vb o.2.2.2.2.2),(11,vi ag),(53,vb a3)] [rd ah o.1,rd ad o.2.1,own 3 ae o.2.2.1]) a3 ?_ ?_
  ·refine RC.region (mv ah (RL.bC 0 o.1 j mw (ic ((o.1.length:Int)) 0 (mv (vb (decide ((o.1.length:Int)>0))) (fN hj (fun aj hj=>?_) fun aj hj=>?_)))))
   rotate_left
   ·refine bJ aj (bJ aj (bJ aj (bJ aj (bJ aj (fU aj (vb false) (RL.nil ?_))))))
    obtain rfl:=oi hj
    exact⟨rfl,j.sp 3 [0,1,2]⟩
   refine RL.move ah (cg aj) ?_
   obtain⟨a4,bn,hj⟩:=bd hj
   refine RL.bM (hg:=(cg aj)) 0 j eD bn fun b2 j=>(RL.bB (hg:=(cg aj)) a4 0 j cG (RL.move (vi ag) (cg aj) (RL.ld a4 ag (cg aj) (fU aj (vb (a4==ag)) (RL.nil ?_)))))
   obtain rfl:=oi hj
   exact⟨rfl,j.sp 4 [1,2,3]⟩
  rintro _ w ⟨O,rfl,j⟩
  refine aG ?_
  obtain⟨al,hj,hb⟩:=bd hb
  refine RC.jn (fun(al: (List Int)×Bool) U w=>∃an:Value,SH E V [(0,an),(1,ad),(2,v2),(7,ae),(8,vb al.2),(9,vb o.2.2.2.2.1),(10,vb o.2.2.2.2.2),(11,vi ag)] [rd ad o.2.1,own 3 ae o.2.2.1,rd an al.1] U w) al ?_ ?_
  ·refine dX hj (fun hc hj=>?_) fun hc hj=>?_
   rotate_left
   ·refine RC.skip ?_
    obtain rfl:=oi hj
    exact⟨rfl,ah,j.sp 3 [1,2,0]⟩
   refine RC.region (mv ah ?_)
   obtain⟨b3,bo,hj⟩:=bd hj
   refine RL.cut 0 j eD (.inr ⟨rfl,zr⟩) bo fun bc j=>(mv (vb o.2.2.2.1) (RL.not o.2.2.2.1 (aP bc (aP (vb (!o.2.2.2.1)) (RL.nil ?_)))))
   obtain rfl:=oi hj
   exact⟨rfl,bc,j.sp 4 [2,3,0]⟩
  rintro _ w ⟨an,O,rfl,j⟩
  refine aG (RC.seq (RC.seq ?_))
  obtain⟨a5,hj,hb⟩:=bd hb
  refine RC.jn (fun(a5:Bool)=>SH E V [(0,an),(1,ad),(2,v2),(7,ae),(8,vb al.2),(9,vb o.2.2.2.2.1),(10,vb o.2.2.2.2.2),(11,vi ag),(67,vb a5)] [rd an al.1,rd ad o.2.1,own 3 ae o.2.2.1]) a5 ?_ ?_
  ·refine RC.region (mv ad (RL.bC 0 o.2.1 j mw (ic ((o.2.1.length:Int)) 0 (mv (vb (decide ((o.2.1.length:Int)>0))) (fN hj (fun ak hj=>?_) fun ak hj=>?_)))))
   rotate_left
   ·refine bJ ak (bJ ak (bJ ak (bJ ak (bJ ak (fU ak (vb false) (RL.nil ?_))))))
    obtain rfl:=oi hj
    exact⟨rfl,j.sp 3 [2,0,1]⟩
   refine RL.move ad (cg ak) ?_
   obtain⟨a6,bp,hj⟩:=bd hj
   refine RL.bM (hg:=(cg ak)) 0 j eD bp fun b4 j=>(RL.bB (hg:=(cg ak)) a6 0 j cG (RL.move (vi ag) (cg ak) (RL.ld a6 ag (cg ak) (fU ak (vb (a6==ag)) (RL.nil ?_)))))
   obtain rfl:=oi hj
   exact⟨rfl,j.sp 4 [3,1,2]⟩
  rintro _ w ⟨O,rfl,j⟩
  refine aG ?_
  obtain⟨ar,hj,hb⟩:=bd hb
  refine RC.jn (fun(ar: (List Int)×Bool) U w=>∃au:Value,SH E V [(0,an),(1,au),(2,v2),(7,ae),(8,vb al.2),(9,vb ar.2),(10,vb o.2.2.2.2.2),(11,vi ag)] [rd an al.1,own 3 ae o.2.2.1,rd au ar.1] U w) ar ?_ ?_
  ·refine dX hj (fun hc hj=>?_) fun hc hj=>?_
   rotate_left
   ·refine RC.skip ?_
    obtain rfl:=oi hj
    exact⟨rfl,ad,j.sp 3 [0,2,1]⟩
   refine RC.region (mv ad ?_)
   obtain⟨b5,bq,hj⟩:=bd hj
   refine RL.cut 1 j eD (.inr ⟨rfl,zr⟩) bq fun bf j=>(mv (vb o.2.2.2.2.1) (RL.not o.2.2.2.2.1 (aP bf (aP (vb (!o.2.2.2.2.1)) (RL.nil ?_)))))
   obtain rfl:=oi hj
   exact⟨rfl,bf,j.sp 4 [1,3,0]⟩
  rintro _ w ⟨au,O,rfl,j⟩
  refine aG (RC.sr (mv v2 (mv (vb al.2) (mv (vb ar.2) ?_))))
  have j:=(j.sc Bool al.2).sc Bool ar.2
  obtain⟨aw,br,hb⟩:=bd hb
  refine RL.Hd 1 0 zt zr j zr h2 5 zr zr zr zr zr br fun w j=>(aP (vb aw) (RL.ns (mv (vb aw) (mv (vb o.2.2.2.2.2) (RL.IH (a:=aw) (b:=o.2.2.2.2.2) zt zr zr zr NZ (RL.nt ?_))))))
  obtain⟨az,hj,hb⟩:=bd hb
  refine RC.jn (fun(az: (List Int)×Bool) U w=>∃a0:Value,SH E V [(0,an),(1,au),(2,v2),(7,a0),(8,vb al.2),(9,vb ar.2),(10,vb az.2)] [rd an al.1,rd au ar.1,own 3 a0 az.1] U w) az ?_ ?_
  ·refine dX hj (fun hc hj=>?_) fun hc hj=>?_
   rotate_left
   ·refine RC.skip ?_
    obtain rfl:=oi hj
    exact⟨rfl,ae,j.sp 5 [2,4,3]⟩
   refine RC.region (mv ae (mv (vi ag) ?_))
   have j:=j.sc Int ag
   refine RL.dQ ([ag]: (List Int)) j [(vi ag)] eD CX (fun M hs g=>⟨(g.sat 0 _ zr).1,zt⟩) fun b6 w j=>?_
   have j:=j.freeze 0
   obtain⟨b7,bt,hj⟩:=bd hj
   refine RL.app 5 0 j rh bt fun bg w j=>?_
   refine mv (vb aw) (aP bg (aP (vb aw) (RL.nil ?_)))
   obtain rfl:=oi hj
   exact⟨rfl,bg,j.sp 7 [4,6,5]⟩
  rintro _ w ⟨a0,O,rfl,j⟩
  refine bO ?_
  obtain rfl:=oi hb
  exact⟨rfl,an,au,a0,j.sp 3 [0,1,2]⟩
 ·intro r _ _ _ _
  exact r.elim
 rintro o _ w rfl ⟨av,O,rfl,j⟩
 rw [Fo.dB] at hb
 refine aG (RC.sr (mv av (aP av (RL.nt (RC.ret ?_)))))
 obtain rfl:=oi hb
 exact bY (j.pk 1 [0])
theorem Ag {p0: (List aA)} {p1: (List aA)} {p2:Bool->Bool->Option Bool} {res: (List aA)} (j:Holds E w V) (h0:V[i0]? =some (rd v0 p0)) (h1:V[i1]? =some (rd v1 p1)) (h2:JZ bN E V v2 p2 (fun(r:Bool)=>Value.bool r)) (o:ph N p0 p1 p2=some res):
    Calls bN 100 [v0,v1,v2].toArray w (gQ (ng E V res)):=by
 unfold ph at o
 refine enter Tryz.func100 zr zr ?_
 have j:=(j.dup (i0+0) h0).dup (i1+1) h1
 refine RC.sr (aP (.slice none 0 0) (RL.ns (aP (.slice none 0 0) (RL.nq (RC.sr (mv v0 (RL.bC 1 p0 j vI (mv v1 ?_))))))))
 refine RL.bC 0 p1 j vI (RL.fO (p0.length:Int) (p1.length:Int) (ic ((IntKind.wrap .i64 ((p0.length:Int)+ (p1.length:Int)))) 0 (RL.nt (dX o (fun hc o=>?_) fun hc o=>?_))))
 ·refine RC.sr (aP (.slice none 0 0) (RL.nt (RC.rt ?_)))
  obtain rfl:=oi o
  have j:=j.cQ aA 81
  exact bY (j.pk 3 [0])
 refine RC.sx (aP (vi 0) (aP (vi 0) (RL.nq (RC.sr (mv v0 (mv v1 (RL.dQ ([p0,p1]: (List (List aA))) j [v0,v1] Gr Ki (fun M hs g=>⟨(g.sat 1 _ zr).1,⟨(g.sat 0 _ zr).1,zt⟩⟩) fun ar w j=>(RL.fS 0 ([p0,p1]: (List (List aA))) j Kj ?_))))))))
 refine mv (vi 0) (RL.nt ?_)
 obtain⟨ad,hN,o⟩:=bd o
 refine RC.fold (fun(aj:Nat) (ad:Int×Int)=>SH E V [(0,v0),(1,v1),(2,v2),(7,(.slice none 0 0)),(8,vi ad.1),(9,vi ad.2),(25,ar),(26,(vi ((([p0,p1]: (List (List aA))).length:Nat):Int))),(27,vi aj)] [rd v0 p0,rd v1 p1,own 56 ar ([p0,p1]: (List (List aA)))]) (fun(ad:Int×Int)=>SH E V [(0,v0),(1,v1),(2,v2),(7,(.slice none 0 0)),(8,vi ad.1),(9,vi ad.2)] [rd v0 p0,rd v1 p1,own 56 ar ([p0,p1]: (List (List aA)))]) hN ?_ ?_ ?_ ?_
 ·exact j.sp 3 [2,1,0]
 ·rintro hm ad _ w ⟨O,rfl,j⟩
  refine RC.sr (ic (((([p0,p1]: (List (List aA))).length:Nat):Int)) (((([p0,p1]: (List (List aA))).length:Nat):Int)) (RL.nq (RC.fw sf (RC.ex ?_))))
  exact⟨rfl,j.sp 3 [0,1,2]⟩
 ·rintro hm aj ad s' _ w hk ⟨O,rfl,j⟩ o
  refine RC.sr (ic ((aj:Int)) (((([p0,p1]: (List (List aA))).length:Nat):Int)) (RL.nq (RC.fu (sd hk) (RC.ss (RC.bs (mv (vi aj) ?_))))))
  obtain⟨aw,a8,o⟩:=bd o
  refine RL.bS 2 j zr zr Gr a8 (RL.kn (f:=(fun x=>x)) 2 j (jJ 2 j a8 0) (bI a8).2.1 Fd.self IY fun ak j=>?_)
  refine aP (vi aj) (aP ak (RL.ns (mv ak (RL.bC 0 aw j vI (ic ((aw.length:Int)) 0 (RL.nt ?_))))))
  obtain⟨a5,hj,o⟩:=bd o
  refine RC.jn (fun(a5:Int×Int)=>SH E V [(0,v0),(1,v1),(2,v2),(7,(.slice none 0 0)),(8,vi a5.1),(9,vi a5.2),(25,ar),(26,(vi ((([p0,p1]: (List (List aA))).length:Nat):Int))),(27,vi aj)] [rd v0 p0,rd v1 p1,own 56 ar ([p0,p1]: (List (List aA)))]) a5 ?_ ?_
  ·refine dX hj (fun hc hj=>?_) fun hc hj=>?_
   rotate_left
   ·refine RC.skip ?_
    obtain rfl:=oi hj
    exact⟨rfl,j.sp 4 [1,2,3]⟩
   refine RC.seq (RC.seq ?_)
   obtain⟨a9,hjj,hj⟩:=bd hj
   refine RC.jn (fun(a9:Bool)=>SH E V [(0,v0),(1,v1),(2,v2),(7,(.slice none 0 0)),(8,vi ad.1),(9,vi ad.2),(11,ak),(25,ar),(26,(vi ((([p0,p1]: (List (List aA))).length:Nat):Int))),(27,vi aj),(41,vb a9)] [rd v0 p0,rd v1 p1,rd ak aw,own 56 ar ([p0,p1]: (List (List aA)))]) a9 ?_ ?_
   ·refine RC.region (mv (vi aj) (ic ((aj:Int)) 0 (mv (vb ((aj:Int)==0)) (fN hjj (fun au hjj=>?_) fun au hjj=>?_))))
    ·refine bJ au (bJ au (bJ au (fU au (vb true) (RL.nil ?_))))
     obtain rfl:=oi hjj
     exact⟨rfl,j.sp 4 [1,2,0,3]⟩
    refine RL.move v0 (cg au) (RL.bC (hg:=(cg au)) 1 p0 j vI (RL.ld (p0.length:Int) 0 (cg au) (fU au (vb ((p0.length:Int)==0)) (RL.nil ?_))))
    obtain rfl:=oi hjj
    exact⟨rfl,j.sp 4 [1,2,0,3]⟩
   rintro _ w ⟨O,rfl,j⟩
   refine aG ?_
   obtain⟨al,hjj,hj⟩:=bd hj
   refine RC.jn (fun(al:Int×Int)=>SH E V [(0,v0),(1,v1),(2,v2),(7,(.slice none 0 0)),(8,vi al.1),(9,vi al.2),(11,ak),(25,ar),(26,(vi ((([p0,p1]: (List (List aA))).length:Nat):Int))),(27,vi aj)] [rd v0 p0,rd v1 p1,rd ak aw,own 56 ar ([p0,p1]: (List (List aA)))]) al ?_ ?_
   ·refine dX hjj (fun hc hjj=>?_) fun hc hjj=>?_
    rotate_left
    ·refine RC.skip ?_
     obtain rfl:=oi hjj
     exact⟨rfl,j.sp 4 [0,1,2,3]⟩
    refine RC.yh mixed ?_
    have j:=j.drew
    refine RO.go (mv ak (RO.nx ?_))
    obtain⟨bj,bw,hjj⟩:=bd hjj
    refine RL.bM 2 j o0 bw fun cd j=>(RO.nx (RL.dN 0 j zr rO gK fun cf j=>(RO.nx (RL.bB bj.Y0 0 j cG (RO.nx (mv ak (RO.nx (mv ak ?_))))))))
    refine RO.nx (RL.bC 4 aw j vI (RO.nx (RL.fO (aw.length:Int) 1 (RO.nx ?_))))
    obtain⟨bk,bx,hjj⟩:=bd hjj
    refine RL.bM 4 j o0 bx fun ch j=>(RO.nx (RL.dN 0 j zr pL fQ fun cj j=>(RO.nx (RL.bB bk.Y1 0 j cG (RO.nx (aP (vi bj.Y0) (RO.nx (aP (vi bk.Y1) ?_))))))))
    refine RO.last ?_
    obtain rfl:=oi hjj
    exact⟨rfl,j.sp 8 [4,5,6,7]⟩
   rintro _ w ⟨O,rfl,j⟩
   refine aG (RC.yh mixed ?_)
   have j:=j.drew
   refine RO.go (mv (vi al.1) (RO.nx (mv ak (RO.nx ?_))))
   obtain⟨a6,bz,hj⟩:=bd hj
   refine RL.bM 2 j o0 bz fun ck j=>(RO.nx (RL.dN 0 j zr rO gK fun cl j=>(RO.nx (RL.bB a6.Y0 0 j cG (RO.nx (RL.min al.1 a6.Y0 (RO.nx (mv (vi al.2) ?_))))))))
   refine RO.nx (mv ak (RO.nx (mv ak (RO.nx (RL.bC 4 aw j vI (RO.nx (RL.fO (aw.length:Int) 1 (RO.nx ?_))))))))
   obtain⟨a7,b0,hj⟩:=bd hj
   refine RL.bM 4 j o0 b0 fun cm j=>(RO.nx (RL.dN 0 j zr pL fQ fun cn j=>(RO.nx (RL.bB a7.Y1 0 j cG (RO.nx (RL.max al.2 a7.Y1 (RO.nx (aP (vi (if a6.Y0<al.1 then a6.Y0 else al.1)) ?_))))))))
   refine RO.nx (aP (vi (if al.2<a7.Y1 then a7.Y1 else al.2)) (RO.last ?_))
   obtain rfl:=oi hj
   exact⟨rfl,j.sp 8 [4,5,7]⟩
  rintro _ w ⟨O,rfl,j⟩
  refine bO (aG (RC.region (RL.inc hk hm (mv (vi ((aj+1:Nat):Int)) (RL.nil ?_)))))
  obtain rfl:=oi o
  exact⟨rfl,j.sp 3 [0,1,2]⟩
 rintro _ w ⟨O,rfl,j⟩
 refine aG (RC.seq ?_)
 obtain⟨cp,hN,o⟩:=bd o
 refine RC.iter (fun(aa: (List aA)×(List aA)×(List aA)×Int) U w=>∃bl bm bn:Value,SH E V [(0,bl),(1,bm),(2,v2),(7,bn),(8,vi aa.2.2.2),(9,vi ad.2)] [rd bl aa.1,rd bm aa.2.1,own 81 bn aa.2.2.1] U w) (fun(aa: (List aA)×(List aA)×(List aA)×Int) U w=>∃a2:Value,SH E V [(7,a2)] [own 81 a2 aa.2.2.1] U w) (fun(r:Empty) _ _=>r.elim) hN ?_ ?_ ?_ ?_
 ·have j:=j.cQ aA 81
  exact⟨v0,v1,(.slice none 0 0),j.sp 4 [1,2,0]⟩
 ·rintro aa fl _ w ⟨b1,ay,ag,O,rfl,j⟩ o
  refine RC.seq (RC.sr (mv (vi aa.2.2.2) (mv (vi ad.2) (ic aa.2.2.2 ad.2 (RL.nt (dX o (fun hc o=>?_) fun hc o=>?_))))))
  rotate_left
  ·refine RC.ex ?_
   obtain rfl:=oi o
   exact⟨rfl,ag,j.sp 3 [2]⟩
  refine RC.sn (RC.block (RC.seq ?_))
  obtain⟨cq,hN,o⟩:=bd o
  refine RC.iter (fun(an: (List aA)) U w=>∃bp:Value,SH E V [(0,bp),(1,ay),(2,v2),(7,ag),(8,vi aa.2.2.2),(9,vi ad.2)] [rd ay aa.2.1,own 81 ag aa.2.2.1,rd bp an] U w) (fun(an: (List aA)) U w=>∃ao:Value,SH E V [(0,ao),(1,ay),(2,v2),(7,ag),(8,vi aa.2.2.2),(9,vi ad.2)] [rd ay aa.2.1,own 81 ag aa.2.2.1,rd ao an] U w) (fun(r:Empty) _ _=>r.elim) hN ?_ ?_ ?_ ?_
  ·exact⟨b1,j.sp 3 [1,2,0]⟩
  ·rintro an fl _ w ⟨az,O,rfl,j⟩ o
   refine RC.seq (RC.seq ?_)
   obtain⟨ba,hj,o⟩:=bd o
   refine RC.jn (fun(ba:Bool)=>SH E V [(0,az),(1,ay),(2,v2),(7,ag),(8,vi aa.2.2.2),(9,vi ad.2),(82,vb ba)] [rd az an,rd ay aa.2.1,own 81 ag aa.2.2.1]) ba ?_ ?_
   ·refine RC.region (mv az (RL.bC 2 an j vI (ic ((an.length:Int)) 0 (mv (vb (decide ((an.length:Int)>0))) (fN hj (fun ah hj=>?_) fun ah hj=>?_)))))
    rotate_left
    ·refine bJ ah (bJ ah (bJ ah (bJ ah (bJ ah (bJ ah (fU ah (vb false) (RL.nil ?_)))))))
     obtain rfl:=oi hj
     exact⟨rfl,j.sp 3 [2,0,1]⟩
    refine RL.move az (cg ah) ?_
    obtain⟨bb,b2,hj⟩:=bd hj
    refine RL.bM (hg:=(cg ah)) 2 j o0 b2 fun cr j=>(RL.dN (hg:=(cg ah)) 0 j zr pL fQ fun ct j=>(RL.bB (hg:=(cg ah)) bb.Y1 0 j cG (RL.move (vi aa.2.2.2) (cg ah) (RL.ld bb.Y1 aa.2.2.2 (cg ah) (fU ah (vb (decide (bb.Y1<=aa.2.2.2))) (RL.nil ?_))))))
    obtain rfl:=oi hj
    exact⟨rfl,j.sp 5 [4,2,3]⟩
   rintro _ w ⟨O,rfl,j⟩
   refine aG (dX o (fun hc o=>?_) fun hc o=>?_)
   rotate_left
   ·refine RC.ex ?_
    obtain rfl:=oi o
    exact⟨rfl,az,j.sp 3 [1,2,0]⟩
   refine RC.sn (RC.block (RC.region (mv az ?_)))
   obtain⟨cu,b3,o⟩:=bd o
   refine RL.cut 0 j o0 (.inr ⟨rfl,zr⟩) b3 fun bq j=>(aP bq (RL.nil (bO ?_)))
   obtain rfl:=oi o
   exact⟨rfl,bq,j.sp 4 [2,3,0]⟩
  ·intro r _ _ _ _
   exact r.elim
  rintro an _ w rfl ⟨ao,O,rfl,j⟩
  rw [Fo.dB] at o
  refine aG (RC.seq ?_)
  obtain⟨cv,hN,o⟩:=bd o
  refine RC.iter (fun(av: (List aA)) U w=>∃br:Value,SH E V [(0,ao),(1,br),(2,v2),(7,ag),(8,vi aa.2.2.2),(9,vi ad.2)] [rd ao an,own 81 ag aa.2.2.1,rd br av] U w) (fun(av: (List aA)) U w=>∃a0:Value,SH E V [(0,ao),(1,a0),(2,v2),(7,ag),(8,vi aa.2.2.2),(9,vi ad.2)] [rd ao an,own 81 ag aa.2.2.1,rd a0 av] U w) (fun(r:Empty) _ _=>r.elim) hN ?_ ?_ ?_ ?_
  ·exact⟨ay,j.sp 3 [2,1,0]⟩
  ·rintro av fl _ w ⟨a1,O,rfl,j⟩ o
   refine RC.seq (RC.seq ?_)
   obtain⟨bc,hj,o⟩:=bd o
   refine RC.jn (fun(bc:Bool)=>SH E V [(0,ao),(1,a1),(2,v2),(7,ag),(8,vi aa.2.2.2),(9,vi ad.2),(95,vb bc)] [rd ao an,rd a1 av,own 81 ag aa.2.2.1]) bc ?_ ?_
   ·refine RC.region (mv a1 (RL.bC 2 av j vI (ic ((av.length:Int)) 0 (mv (vb (decide ((av.length:Int)>0))) (fN hj (fun ai hj=>?_) fun ai hj=>?_)))))
    rotate_left
    ·refine bJ ai (bJ ai (bJ ai (bJ ai (bJ ai (bJ ai (fU ai (vb false) (RL.nil ?_)))))))
     obtain rfl:=oi hj
     exact⟨rfl,j.sp 3 [0,2,1]⟩
    refine RL.move a1 (cg ai) ?_
    obtain⟨bf,b4,hj⟩:=bd hj
    refine RL.bM (hg:=(cg ai)) 2 j o0 b4 fun cw j=>(RL.dN (hg:=(cg ai)) 0 j zr pL fQ fun cx j=>(RL.bB (hg:=(cg ai)) bf.Y1 0 j cG (RL.move (vi aa.2.2.2) (cg ai) (RL.ld bf.Y1 aa.2.2.2 (cg ai) (fU ai (vb (decide (bf.Y1<=aa.2.2.2))) (RL.nil ?_))))))
    obtain rfl:=oi hj
    exact⟨rfl,j.sp 5 [2,4,3]⟩
   rintro _ w ⟨O,rfl,j⟩
   refine aG (dX o (fun hc o=>?_) fun hc o=>?_)
   rotate_left
   ·refine RC.ex ?_
    obtain rfl:=oi o
    exact⟨rfl,a1,j.sp 3 [0,2,1]⟩
   refine RC.sn (RC.block (RC.region (mv a1 ?_)))
   obtain⟨cy,b5,o⟩:=bd o
   refine RL.cut 1 j o0 (.inr ⟨rfl,zr⟩) b5 fun bt j=>(aP bt (RL.nil (bO ?_)))
   obtain rfl:=oi o
   exact⟨rfl,bt,j.sp 4 [1,3,0]⟩
  ·intro r _ _ _ _
   exact r.elim
  rintro av _ w rfl ⟨a0,O,rfl,j⟩
  rw [Fo.dB] at o
  refine aG (RC.sr (mv ao (mv (vi aa.2.2.2) (mv (vi ad.2) ?_))))
  obtain⟨ae,b6,o⟩:=bd o
  refine RL.call zt zr Jz [ao,(vi aa.2.2.2),(vi ad.2)] zr (aD (t9 N (p1:=aa.2.2.2) (p2:=ad.2) (i0:=0) j zr b6) ?_)
  rintro _ w ⟨a3,rfl,j⟩
  refine mv (.tuple #[a3,(vi ae.2)]) (RL.extract a3 (RL.extract (vi ae.2) (aP a3 (aP (vi ae.2) (RL.ns (mv a0 (mv (vi aa.2.2.2) (mv (vi ad.2) ?_))))))))
  obtain⟨af,b7,o⟩:=bd o
  refine RL.call zt zr Jz [a0,(vi aa.2.2.2),(vi ad.2)] zr (aD (t9 N (p1:=aa.2.2.2) (p2:=ad.2) (i0:=3) j zr b7) ?_)
  rintro _ w ⟨a4,rfl,j⟩
  refine mv (.tuple #[a4,(vi af.2)]) (RL.extract a4 (RL.extract (vi af.2) (aP a4 (aP (vi af.2) (RL.ns (mv (vi ae.2) (mv (vi af.2) (RL.min ae.2 af.2 ?_))))))))
  refine aP (vi (if af.2<ae.2 then af.2 else ae.2)) (RL.ns (mv ag (mv (vi aa.2.2.2) (mv (vi (if af.2<ae.2 then af.2 else ae.2)) (mv a3 (mv a4 (mv v2 ?_)))))))
  obtain⟨b8,b9,o⟩:=bd o
  refine RL.call zt zr Lr [a3,a4,v2] zr (aD (Bp N (i0:=1) (i1:=0) j zr zr (h2.lift 5 zr) b9) ?_)
  rintro ca w j
  have j:=((j.sc Int aa.2.2.2).sc Int (if af.2<ae.2 then af.2 else ae.2)).freeze 2
  refine RL.build (⟨aa.2.2.2,(if af.2<ae.2 then af.2 else ae.2),b8⟩:aA) trivial rfl j [(0,vi aa.2.2.2),(1,(vi (if af.2<ae.2 then af.2 else ae.2))),(2,ca)] rfl K5 rfl (fun M hs g=>by have h:=xp M;exact cS.cons (f:=fun(x:aA) y=>{x with Y0:=y}) h t5 (g.sat 1 _ rfl).1 fun _ h=>cS.cons (f:=fun(x:aA) y=>{x with Y1:=y}) h pK (g.sat 0 _ rfl).1 fun _ h=>cS.cons (f:=fun(x:aA) y=>{x with Xs:=y}) h t6 (g.sat 2 _ rfl).1 fun _ h=>cS.nil h) fun cb j=>?_
  have j:=j.pull 7
  obtain⟨cz,cc,o⟩:=bd o
  refine RL.call zt zr K7 [ag,cb] zr (aD (rC N (i1:=0) j zr cc) ?_)
  rintro bu w j
  refine aP bu (RL.nt (RC.region (mv (vi (if af.2<ae.2 then af.2 else ae.2)) (aP (vi (if af.2<ae.2 then af.2 else ae.2)) (RL.nil (bO ?_))))))
  obtain rfl:=oi o
  exact⟨rfl,ao,a0,bu,j.sp 10 [7,9,0]⟩
 ·intro r _ _ _ _
  exact r.elim
 rintro aa _ w rfl ⟨a2,O,rfl,j⟩
 rw [Fo.dB] at o
 refine aG (RC.sr (mv a2 (aP a2 (RL.nt (RC.ret ?_)))))
 obtain rfl:=oi o
 exact bY (j.pk 1 [0])
theorem uT {p0 p1 res:Bool} (o:Holds E w V) (j:oC N p0 p1=some res):
    Calls bN 101 [(vb p0),(vb p1)].toArray w (gQ (aU E V res)):=by
 unfold oC at j
 refine enter Tryz.func101 rfl rfl (RC.sr (aP (vb false) (RL.ns (mv (vb p0) (mv (vb p0) (RL.gs true p0 (vb p1) rfl rfl rfl cI (RL.gs true p0 (vb (!p1)) rfl rfl rfl (G8 p1 rfl (fun h=>by exact(cO h:cv (true&&(p0==true)) (vb p1)= (vb p1)))) (RL.pick p0 (vb (p0&&(!p1))) (gx true rfl) ?_))))))))
 refine aP (vb (p0&&(!p1))) (RL.nt (RC.ret ?_))
 obtain rfl:=oi j
 exact bY ⟨rfl,o.drop 0⟩
theorem xB {p0: (List aA)} {p1: (List aA)} {res: (List aA)} (o:Holds E w V) (h0:V[i0]? =some (rd v0 p0)) (h1:V[i1]? =some (rd v1 p1)) (hb:ln N p0 p1=some res):
    Calls bN 59 [v0,v1].toArray w (gQ (ng E V res)):=by
 unfold ln at hb
 refine enter Tryz.func59 zr zr ?_
 have o:=(o.dup (i0+0) h0).dup (i1+1) h1
 refine RC.sr (aP (.slice none 0 0) (RL.ns (mv v0 (mv v1 ?_))))
 obtain⟨af,ab,hb⟩:=bd hb
 refine RL.call trivial rfl Lt [v0,v1,(.func (.func 101) #[] #[])] rfl (aD (Ag N (i0:=1) (i1:=0) o rfl rfl ⟨101,[],rfl,Ls,fun w Γl v v' y0 y1 r i j o hi hj hr=>by obtain rfl:=o.C3 (γ:=Bool) hi;obtain rfl:=o.C3 (γ:=Bool) hj;exact aD (uT N (p0:=y0) (p1:=y1) o hr) fun _ _ h=>h⟩ ab) ?_)
 rintro ae w o
 refine aP ae (RL.nt (RC.ret ?_))
 obtain rfl:=oi hb
 exact bY (o.pk 3 [0])
theorem xC {p0: (List aA)} (j:Holds E w V) (h0:V[i0]? =some (rd v0 p0)) (hb:mE N p0=some res):
    Calls bN 60 [v0].toArray w (gQ (aV E V res)):=by
 unfold mE at hb
 refine enter Tryz.func60 zr zr ?_
 have j:=j.dup (i0+0) h0
 refine RC.sr (aP (vi 0) (RL.ns (aP (vi 0) (RL.nq (RC.sr (mv v0 (RL.bC 0 p0 j vI (mv (vi 0) ?_))))))))
 refine RL.nt ?_
 obtain⟨o,hN,hb⟩:=bd hb
 refine RC.fold (fun(ad:Nat) (o:Int)=>SH E V [(3,vi o),(6,v0),(7,vi p0.length),(8,vi ad)] [rd v0 p0]) (fun(o:Int)=>SH E V [(3,vi o)] [rd v0 p0]) hN ?_ ?_ ?_ ?_
 ·exact j.sp 1 [0]
 ·rintro hm o _ w ⟨O,rfl,j⟩
  refine RC.sr (ic ((p0.length:Int)) ((p0.length:Int)) (RL.nq (RC.fw sf (RC.ex ?_))))
  exact⟨rfl,j.sp 1 [0]⟩
 ·rintro hm ad o s' _ w hk ⟨O,rfl,j⟩ hb
  refine RC.sr (ic ((ad:Int)) ((p0.length:Int)) (RL.nq (RC.fu (sd hk) (RC.ss (RC.bs ?_)))))
  obtain⟨ab,ah,hb⟩:=bd hb
  refine RL.bM 0 j o0 ah fun ai j=>(RL.bF 0 ab j Cs fun aj j=>(RL.alloc j Hx.z fun ak w j=>?_))
  refine RL.bZ 0 j 1 zr Cs fun w j=>?_
  refine RL.nt (RC.region (mv (vi o) (RL.aZ zr nP (RL.bG 0 j zr dS fM fun al j=>(RL.bC 0 ab.Xs j mw (RL.quo (ab.Xs.length:Int) 2 (RL.fO o (IntKind.wrap .i64 (Int.tdiv (ab.Xs.length:Int) 2)) (aP (vi (IntKind.wrap .i64 (o+ (IntKind.wrap .i64 (Int.tdiv (ab.Xs.length:Int) 2))))) ?_))))))))
  refine RL.nil (bO (aG (RC.region (RL.inc hk hm (mv (vi ((ad+1:Nat):Int)) (RL.nil ?_))))))
  obtain rfl:=oi hb
  exact⟨rfl,j.sp 5 [4]⟩
 rintro _ w ⟨O,rfl,j⟩
 refine aG (RC.sr (mv (vi o) (aP (vi o) (RL.nt (RC.ret ?_)))))
 obtain rfl:=oi hb
 exact bY ⟨rfl,j.drop 1⟩
def uU (E:World) (V:List HP) (b1:Nat) (res:Int×(List Int)) (v:Value) (w:World):Prop:=∃u1_0:Value,v= (vi res.1)/\Holds E w ([bc 51 b1 [u1_0],own 3 u1_0 res.2]++V)
theorem mg {p1_0: (List Int)} {res:Int×(List Int)} (j:Holds E w (bc 51 b1 [v1_0]::own 3 v1_0 p1_0::V)) (o:fJ N p0 p1_0=some res):
    Calls bN 102 [(vi p0),(vp b1 0)].toArray w (gQ (uU E V b1 res)):=by
 unfold fJ at o
 refine enter Tryz.func102 zr zr (RC.sr (aP (vi 0) (RL.nq ?_)))
 obtain⟨an,hN,o⟩:=bd o
 refine RC.iter (fun(aa:Int×(List Int))=>SH E V [(0,vi aa.1),(1,vp b1 0)] [bc 51 b1 [v1_0],own 3 v1_0 aa.2]) (fun(aa:Int×(List Int))=>SH E V [(0,vi aa.1),(1,vp b1 0)] [bc 51 b1 [v1_0],own 3 v1_0 aa.2]) (fun(r:Empty) _ _=>r.elim) hN ?_ ?_ ?_ ?_
 ·exact j.sp 2 [0,1]
 ·rintro aa fl _ w ⟨O,rfl,j⟩ o
  refine RC.seq (RC.sr (RL.bK 0 v1_0 j fM (mv (vi aa.1) ?_)))
  obtain⟨ai,ab,o⟩:=bd o
  refine RL.bS 1 j zr zr eD ab (RL.dR (f:=(fun x=>x)) 1 j (jJ 1 j ab 0) (bI ab).2.1 Fd.self cG (mv (vi aa.1) (ic ai aa.1 (RL.nt (dX o (fun hc o=>?_) fun hc o=>?_)))))
  rotate_left
  ·refine RC.ex ?_
   obtain rfl:=oi o
   exact⟨rfl,j.sp 2 [0,1]⟩
  refine RC.sn (RC.block (RC.seq (RC.vH mixed [0,0,0,0,0,0,0,0,0,0,2] [0,1,2,3,4,5,6,7,8,9,10] ?_)))
  have j:=j.drew
  refine DP.e0 zr (RL.bK 0 v1_0 j fM (aY zr (mv (vi aa.1) (aY zr (RL.bK 0 v1_0 j fM (aY zr (RL.bK 0 v1_0 j fM (aY zr ?_))))))))
  refine mv (vi aa.1) (aY zr ?_)
  obtain⟨aq,ad,o⟩:=bd o
  refine RL.bS 1 j zr zr eD ad (aY zr (RL.dR (f:=(fun x=>x)) 1 j (jJ 1 j ad 0) (bI ad).2.1 Fd.self cG (aY zr ?_)))
  obtain⟨ak,ae,o⟩:=bd o
  refine RL.bS 1 j zr zr eD ae (aY zr (RL.dR (f:=(fun x=>x)) 1 j (jJ 1 j ae 0) (bI ae).2.1 Fd.self cG (aY zr ?_)))
  obtain⟨ar,af,o⟩:=bd o
  refine RL.bS 1 j zr zr eD af (oN zr ?_)
  have j:=j.sc Int ak
  refine RL.gR (f:=(fun _ y=>y)) 2 0 j (jJ 2 j af 0) (bI af).2.1 zr Fs.self cG fun w j=>?_
  refine DP.d2 zt (DP.z (aG (RC.region (RL.bK 1 v1_0 j fM (mv (vi aa.1) ?_)))))
  obtain⟨al,ag,o⟩:=bd o
  refine RL.bS 2 j zr zr eD ag (RL.dR (f:=(fun x=>x)) 2 j (jJ 2 j ag 0) (bI ag).2.1 Fd.self cG (aP (vi al) (RL.nil (bO ?_))))
  obtain rfl:=oi o
  exact⟨rfl,j.sp 3 [1,2]⟩
 ·intro r _ _ _ _
  exact r.elim
 rintro aa _ w rfl ⟨O,rfl,j⟩
 rw [Fo.dB] at o
 refine aG (RC.sr (mv (vi aa.1) (aP (vi aa.1) (RL.nt (RC.ret ?_)))))
 obtain rfl:=oi o
 exact bY ⟨v1_0,zr,j.pk 2 [0,1]⟩
def xD (E:World) (V:List HP) (res: (List (List aA))) (v:Value) (w:World):Prop:=Holds E w ([own 56 v res]++V)
theorem wI {p0: (List aA)} {res: (List (List aA))} (o:Holds E w V) (h0:V[i0]? =some (rd v0 p0)) (hb:lT N p0=some res):
    Calls bN 61 [v0].toArray w (gQ (xD E V res)):=by
 unfold lT at hb
 refine enter Tryz.func61 zr zr ?_
 have o:=o.dup (i0+0) h0
 refine RC.sr (aP (.slice none 0 0) (RL.ns (mv v0 ?_)))
 obtain⟨aq,c7,hb⟩:=bd hb
 refine RL.call zt zr IW [v0] zr (aD (lN N (i0:=0) o zr c7) ?_)
 rintro ah w o
 refine aP ah (RL.ns (mv ah (RL.fS 0 aq o mH ?_)))
 obtain⟨bn,c8,hb⟩:=bd hb
 refine RL.mk (aq.length:Int) o rh K3 c8 fun ba w o=>?_
 refine RL.uD zr o K2 zr fun ag w o=>?_
 refine RL.iB 0 ba o zr zr (iS 1 o) fM fun w o=>?_
 refine RL.nq (RC.sr (RL.bK 0 ba o fM (RL.fS 1 bn o mw (mv (vi 0) (RL.nt ?_)))))
 obtain⟨bk,hN,hb⟩:=bd hb
 refine RC.fold (fun(a8:Nat) (bk: (List Int))=>SH E V [(0,v0),(3,ah),(4,vp ag 0),(32,vi bn.length),(33,vi a8)] [rd v0 p0,own 73 ah aq,bc 51 ag [ba],own 3 ba bk]) (fun(bk: (List Int))=>SH E V [(0,v0),(3,ah),(4,vp ag 0)] [rd v0 p0,own 73 ah aq,bc 51 ag [ba],own 3 ba bk]) hN ?_ ?_ ?_ ?_
 ·exact o.sp 4 [3,2,0,1]
 ·rintro hm bk _ w ⟨O,rfl,o⟩
  refine RC.sr (ic ((bn.length:Int)) ((bn.length:Int)) (RL.nq (RC.fw sf (RC.ex ?_))))
  exact⟨rfl,o.sp 4 [0,1,2,3]⟩
 ·rintro hm a8 bk s' _ w hk ⟨O,rfl,o⟩ hb
  refine RC.sr (ic ((a8:Int)) ((bn.length:Int)) (RL.nq (RC.fu (sd hk) (RC.ss (RC.bs (mv (vi a8) (aP (vi a8) (RL.nt ?_))))))))
  refine RC.region (RL.bK 2 ba o fM (mv (vi a8) (mv (vi a8) ?_)))
  obtain⟨du,cb,hb⟩:=bd hb
  refine RL.bS 3 o zr zr eD cb ?_
  have o:=o.sc Int (a8:Int)
  refine RL.gR (f:=(fun _ y=>y)) 4 0 o (jJ 4 o cb 0) (bI cb).2.1 zr Fs.self cG fun w o=>?_
  refine RL.nil (bO (aG (RC.region (RL.inc hk hm (mv (vi ((a8+1:Nat):Int)) (RL.nil ?_))))))
  obtain rfl:=oi hb
  exact⟨rfl,o.sp 5 [1,2,3,4]⟩
 rintro _ w ⟨O,rfl,o⟩
 refine aG (RC.sr (RL.makeFunc zt zr [(vp ag 0)] zr (aP (.func (.func 102) #[] #[(vp ag 0)]) (RL.ns (aP (vi 0) (aP (vi 0) (RL.nq (RC.sr ?_))))))))
 refine mv v0 (RL.bC 0 p0 o vI (mv (vi 0) (RL.nt ?_)))
 obtain⟨ad,hN,hb⟩:=bd hb
 refine RC.fold (fun(ay:Nat) (ad: (List Int)×Int×Int) U w=>∃ct:Value,SH E V [(0,v0),(3,ah),(4,vp ag 0),(6,(.func (.func 102) #[] #[(vp ag 0)])),(7,vi ad.2.1),(8,vi ad.2.2),(42,v0),(43,vi p0.length),(44,vi ay)] [rd v0 p0,own 73 ah aq,bc 51 ag [ct],own 3 ct ad.1] U w) (fun(ad: (List Int)×Int×Int) U w=>∃br:Value,SH E V [(3,ah),(6,(.func (.func 102) #[] #[(vp ag 0)]))] [rd v0 p0,own 73 ah aq,bc 51 ag [br],own 3 br ad.1] U w) hN ?_ ?_ ?_ ?_
 ·exact⟨ba,o.sp 4 [0,1,2,3]⟩
 ·rintro hm ad _ w ⟨c9,O,rfl,o⟩
  refine RC.sr (ic ((p0.length:Int)) ((p0.length:Int)) (RL.nq (RC.fw sf (RC.ex ?_))))
  exact⟨rfl,c9,o.sp 4 [0,1,2,3]⟩
 ·rintro hm ay ad s' _ w hk ⟨bt,O,rfl,o⟩ hb
  refine RC.sr (ic ((ay:Int)) ((p0.length:Int)) (RL.nq (RC.fu (sd hk) (RC.ss (RC.bs (mv (vi ay) ?_))))))
  obtain⟨an,da,hb⟩:=bd hb
  refine RL.bM 0 o o0 da fun dv o=>(RL.bF 0 an o Cs fun dw o=>(RL.alloc o Hx.z fun dx w o=>?_))
  refine aP (vi ay) (RL.bZ 0 o 1 zr Cs fun w o=>?_)
  refine RL.ns (RL.aZ zr nP (RL.bG 0 o zr dS fM fun dy o=>(RL.bC 0 an.Xs o mw (RL.quo (an.Xs.length:Int) 2 (aP (vi (IntKind.wrap .i64 (Int.tdiv (an.Xs.length:Int) 2))) (RL.nq (RC.seq ?_)))))))
  obtain⟨cc,hj,hb⟩:=bd hb
  refine RC.jn (fun(cc:Bool)=>SH E V [(0,v0),(3,ah),(4,vp ag 0),(6,(.func (.func 102) #[] #[(vp ag 0)])),(7,vi ad.2.1),(8,vi ad.2.2),(11,(vi (IntKind.wrap .i64 (Int.tdiv (an.Xs.length:Int) 2)))),(42,v0),(43,vi p0.length),(44,vi ay),(65,vb cc)] [rd v0 p0,own 73 ah aq,bc 51 ag [bt],own 3 bt ad.1]) cc ?_ ?_
  ·refine RC.yh mixed ?_
   have o:=o.drew
   refine RO.go (mv (vi ay) (RO.nx (ic ((ay:Int)) 0 (RO.nx (mv (vb (decide ((ay:Int)>0))) (fN hj (fun aw hj=>?_) fun aw hj=>?_))))))
   rotate_left
   ·refine RO.nx (bJ aw (RO.nx (bJ aw (RO.nx (bJ aw (RO.nx (bJ aw (RO.nx ?_))))))))
    refine bJ aw (RO.nx (bJ aw (RO.nx (bJ aw (RO.nx (bJ aw (RO.nx (bJ aw ?_))))))))
    refine RO.nx (fU aw (vb false) (RO.last ?_))
    obtain rfl:=oi hj
    exact⟨rfl,o.sp 8 [4,5,6,7]⟩
   refine RO.nx (RL.move v0 (cg aw) (RO.nx (RL.move (vi ay) (cg aw) (RO.nx (RL.fO (hg:=(cg aw)) (ay:Int) 1 (RO.nx ?_))))))
   obtain⟨cd,db,hj⟩:=bd hj
   refine RL.bM (hg:=(cg aw)) 4 o o0 db fun dz o=>(RO.nx (RL.dN (hg:=(cg aw)) 0 o zr pL fQ fun d0 o=>(RO.nx (RL.bB (hg:=(cg aw)) cd.Y1 0 o cG (RO.nx (RL.aZ (hg:=(cg aw)) zr rO (RO.nx (RL.aM (hg:=(cg aw)) 3 o zr gK cG ?_))))))))
   refine RO.nx (RL.ld cd.Y1 an.Y0 (cg aw) (RO.nx (fU aw (vb (cd.Y1==an.Y0)) (RO.last ?_))))
   obtain rfl:=oi hj
   exact⟨rfl,o.sp 10 [6,7,8,9]⟩
  rintro _ w ⟨O,rfl,o⟩
  refine aG ?_
  obtain⟨cf,hj,hb⟩:=bd hb
  refine RC.jn (fun(cf: (List Int)) U w=>∃bu:Value,SH E V [(0,v0),(3,ah),(4,vp ag 0),(6,(.func (.func 102) #[] #[(vp ag 0)])),(7,vi ad.2.1),(11,(vi (IntKind.wrap .i64 (Int.tdiv (an.Xs.length:Int) 2)))),(42,v0),(43,vi p0.length),(44,vi ay)] [rd v0 p0,own 73 ah aq,bc 51 ag [bu],own 3 bu cf] U w) cf ?_ ?_
  ·refine dX hj (fun hc hj=>?_) fun hc hj=>?_
   rotate_left
   ·refine RC.skip ?_
    obtain rfl:=oi hj
    exact⟨rfl,bt,o.sp 4 [0,1,2,3]⟩
   refine RC.sr (mv (vi ad.2.2) (mv (vi ad.2.1) (aP (vi ad.2.2) (aP (vi ad.2.1) (RL.nt ?_)))))
   obtain⟨d3,hN,hj⟩:=bd hj
   refine RC.iter (fun(ae: (List Int)×Int×Int) U w=>∃cu:Value,SH E V [(0,v0),(3,ah),(4,vp ag 0),(6,(.func (.func 102) #[] #[(vp ag 0)])),(7,vi ad.2.1),(11,(vi (IntKind.wrap .i64 (Int.tdiv (an.Xs.length:Int) 2)))),(12,vi ae.2.1),(13,vi ae.2.2),(42,v0),(43,vi p0.length),(44,vi ay)] [rd v0 p0,own 73 ah aq,bc 51 ag [cu],own 3 cu ae.1] U w) (fun(ae: (List Int)×Int×Int) U w=>∃bw:Value,SH E V [(0,v0),(3,ah),(4,vp ag 0),(6,(.func (.func 102) #[] #[(vp ag 0)])),(7,vi ad.2.1),(11,(vi (IntKind.wrap .i64 (Int.tdiv (an.Xs.length:Int) 2)))),(42,v0),(43,vi p0.length),(44,vi ay)] [rd v0 p0,own 73 ah aq,bc 51 ag [bw],own 3 bw ae.1] U w) (fun(r:Empty) _ _=>r.elim) hN ?_ ?_ ?_ ?_
   ·exact⟨bt,o.sp 4 [0,1,2,3]⟩
   ·rintro ae fl _ w ⟨bz,O,rfl,o⟩ hb
    refine RC.seq (RC.sr (mv (vi ae.2.1) (mv (vi ad.2.1) (ic ae.2.1 ad.2.1 (mv (vb (decide (ae.2.1<ad.2.1))) (RL.gs true (decide (ae.2.1<ad.2.1)) (vi ae.2.2) zr zr zr cI (RL.gs true (decide (ae.2.1<ad.2.1)) (vi ad.2.1) zr zr zr cI (RL.gs true (decide (ae.2.1<ad.2.1)) (vi (IntKind.wrap .i64 (Int.tdiv (an.Xs.length:Int) 2))) zr zr zr cI ?_))))))))
    refine RL.gs true (decide (ae.2.1<ad.2.1)) (vi (IntKind.wrap .i64 (ad.2.1+ (IntKind.wrap .i64 (Int.tdiv (an.Xs.length:Int) 2))))) rfl rfl rfl (JX (bop:= .add) (K:= .i64) (a:=ad.2.1) (b:=(IntKind.wrap .i64 (Int.tdiv (an.Xs.length:Int) 2))) rfl (fun h=>by exact(cO h:cv (true&&((decide (ae.2.1<ad.2.1))==true)) (vi ad.2.1)= (vi ad.2.1))) (fun h=>by exact(cO h:cv (true&&((decide (ae.2.1<ad.2.1))==true)) (vi (IntKind.wrap .i64 (Int.tdiv (an.Xs.length:Int) 2)))= (vi (IntKind.wrap .i64 (Int.tdiv (an.Xs.length:Int) 2))))) rfl) (RL.gs true (decide (ae.2.1<ad.2.1)) (vb (decide (ae.2.2< (IntKind.wrap .i64 (ad.2.1+ (IntKind.wrap .i64 (Int.tdiv (an.Xs.length:Int) 2))))))) rfl rfl rfl (dL .lss .i64 ae.2.2 (IntKind.wrap .i64 (ad.2.1+ (IntKind.wrap .i64 (Int.tdiv (an.Xs.length:Int) 2)))) rfl (fun h=>by exact(cO h:cv (true&&((decide (ae.2.1<ad.2.1))==true)) (vi ae.2.2)= (vi ae.2.2))) (fun h=>by exact(cO h:cv (true&&((decide (ae.2.1<ad.2.1))==true)) (vi (IntKind.wrap .i64 (ad.2.1+ (IntKind.wrap .i64 (Int.tdiv (an.Xs.length:Int) 2)))))= (vi (IntKind.wrap .i64 (ad.2.1+ (IntKind.wrap .i64 (Int.tdiv (an.Xs.length:Int) 2))))))) rfl) (RL.pick (decide (ae.2.1<ad.2.1)) (vb ((decide (ae.2.1<ad.2.1))&&(decide (ae.2.2< (IntKind.wrap .i64 (ad.2.1+ (IntKind.wrap .i64 (Int.tdiv (an.Xs.length:Int) 2)))))))) (gx true rfl) (RL.nt (dX hb (fun hc hb=>?_) fun hc hb=>?_))))
    rotate_left
    ·refine RC.ex ?_
     obtain rfl:=oi hb
     exact⟨rfl,bz,o.sp 4 [0,1,2,3]⟩
    refine RC.sn (RC.block (RC.seq (RC.seq ?_)))
    obtain⟨ch,hj,hb⟩:=bd hb
    refine RC.jn (fun(ch:Bool)=>SH E V [(0,v0),(3,ah),(4,vp ag 0),(6,(.func (.func 102) #[] #[(vp ag 0)])),(7,vi ad.2.1),(11,(vi (IntKind.wrap .i64 (Int.tdiv (an.Xs.length:Int) 2)))),(12,vi ae.2.1),(13,vi ae.2.2),(42,v0),(43,vi p0.length),(44,vi ay),(101,vb ch)] [rd v0 p0,own 73 ah aq,bc 51 ag [bz],own 3 bz ae.1]) ch ?_ ?_
    ·refine RC.yh mixed ?_
     have o:=o.drew
     refine RO.go (mv ah (RO.nx (mv (vi ae.2.1) (RO.nx ?_))))
     obtain⟨cw,b0,hj⟩:=bd hj
     refine RL.bS 1 o zr zr iK b0 (RO.nx (RL.lh (α:=aI) zt (jJ 1 o b0 0) gO (RO.nx (RL.dR 1 o (jJ 1 o b0 0) (bI b0).2.1 dD cG (RO.nx (mv ah (RO.nx (mv (vi ae.2.2) ?_))))))))
     refine RO.nx ?_
     obtain⟨cx,b1,hj⟩:=bd hj
     refine RL.bS 1 o zr zr iK b1 (RO.nx (RL.lh (α:=aI) zt (jJ 1 o b1 0) iX (RO.nx (RL.dR 1 o (jJ 1 o b1 2) (bI b1).2.1 dY cG (RO.nx (ic cw.X0 cx.X1 (RO.nx (mv (vb (decide (cw.X0<cx.X1))) ?_))))))))
     refine fN hj (fun ao hj=>?_) fun ao hj=>?_
     rotate_left
     ·refine RO.nx (bJ ao (RO.nx (bJ ao (RO.nx (bJ ao (RO.nx (bJ ao (RO.nx ?_))))))))
      refine bJ ao (RO.nx (bJ ao (RO.nx (bJ ao (RO.nx (bJ ao (RO.nx (bJ ao ?_))))))))
      refine RO.nx (bJ ao (RO.nx (bJ ao (RO.nx (fU ao (vb false) (RO.last ?_))))))
      obtain rfl:=oi hj
      exact⟨rfl,o.sp 4 [0,1,2,3]⟩
     refine RO.nx (RL.move ah (cg ao) (RO.nx (RL.move (vi ae.2.2) (cg ao) (RO.nx ?_))))
     obtain⟨cy,b2,hj⟩:=bd hj
     refine RL.bS (hg:=(cg ao)) 1 o zr zr iK b2 (RO.nx (RL.lh (α:=aI) (cg ao) (jJ 1 o b2 0) gO (RO.nx (RL.dR (hg:=(cg ao)) 1 o (jJ 1 o b2 0) (bI b2).2.1 dD cG (RO.nx (RL.move ah (cg ao) (RO.nx (RL.move (vi ae.2.1) (cg ao) ?_))))))))
     refine RO.nx ?_
     obtain⟨cz,b3,hj⟩:=bd hj
     refine RL.bS (hg:=(cg ao)) 1 o zr zr iK b3 (RO.nx (RL.lh (α:=aI) (cg ao) (jJ 1 o b3 0) iX (RO.nx (RL.dR (hg:=(cg ao)) 1 o (jJ 1 o b3 2) (bI b3).2.1 dY cG (RO.nx (RL.ld cy.X0 cz.X1 (cg ao) (RO.nx (fU ao (vb (decide (cy.X0<cz.X1))) ?_))))))))
     refine RO.last ?_
     obtain rfl:=oi hj
     exact⟨rfl,o.sp 4 [0,1,2,3]⟩
    rintro _ w ⟨O,rfl,o⟩
    refine aG ?_
    obtain⟨b4,hj,hb⟩:=bd hb
    refine RC.jn (fun(b4: (List Int)) U w=>∃bl:Value,SH E V [(0,v0),(3,ah),(4,vp ag 0),(6,(.func (.func 102) #[] #[(vp ag 0)])),(7,vi ad.2.1),(11,(vi (IntKind.wrap .i64 (Int.tdiv (an.Xs.length:Int) 2)))),(12,vi ae.2.1),(13,vi ae.2.2),(42,v0),(43,vi p0.length),(44,vi ay)] [rd v0 p0,own 73 ah aq,bc 51 ag [bl],own 3 bl b4] U w) b4 ?_ ?_
    ·refine dX hj (fun hc hj=>?_) fun hc hj=>?_
     rotate_left
     ·refine RC.skip ?_
      obtain rfl:=oi hj
      exact⟨rfl,bz,o.sp 4 [0,1,2,3]⟩
     refine RC.sr (mv (.func (.func 102) #[] #[(vp ag 0)]) (mv (vi ae.2.1) ?_))
     have o:=(o.pull 3).pull 3
     obtain⟨bf,dc,hj⟩:=bd hj
     refine RL.C0 (cap:=[(vp ag 0)]) zt zr HE zr [(vi ae.2.1)] zr (aD (mg N (p0:=ae.2.1) o dc) ?_)
     rintro _ w ⟨d5,rfl,o⟩
     refine mv (.func (.func 102) #[] #[(vp ag 0)]) (mv (vi ae.2.2) ?_)
     have o:=(o.pull 1).pull 1
     obtain⟨bg,dd,hj⟩:=bd hj
     refine RL.C0 (cap:=[(vp ag 0)]) zt zr HE zr [(vi ae.2.2)] zr (aD (mg N (p0:=ae.2.2) o dd) ?_)
     rintro _ w ⟨c0,rfl,o⟩
     refine aP (vi bf.1) (aP (vi bg.1) (RL.nt (RC.region (RL.bK 0 c0 o fM (mv (vi bf.1) (mv (vi bg.1) (RL.max bf.1 bg.1 (mv (vi bf.1) ?_))))))))
     refine mv (vi bg.1) (RL.min bf.1 bg.1 ?_)
     obtain⟨d6,cj,hj⟩:=bd hj
     refine RL.bS 1 o zr zr eD cj ?_
     have o:=o.sc Int (if bg.1<bf.1 then bg.1 else bf.1)
     refine RL.gR (f:=(fun _ y=>y)) 2 0 o (jJ 2 o cj 0) (bI cj).2.1 zr Fs.self cG fun w o=>?_
     refine RL.nil ?_
     obtain rfl:=oi hj
     exact⟨rfl,c0,o.sp 9 [5,6,1,2]⟩
    rintro _ w ⟨bl,O,rfl,o⟩
    refine aG (RC.seq (RC.yh mixed ?_))
    have o:=o.drew
    refine RO.go (mv ah (RO.nx (mv (vi ae.2.1) (RO.nx ?_))))
    obtain⟨de,b5,hb⟩:=bd hb
    refine RL.bS 1 o zr zr iK b5 (RO.nx (RL.lh (α:=aI) zt (jJ 1 o b5 0) iX (RO.nx (RL.dR 1 o (jJ 1 o b5 2) (bI b5).2.1 dY cG (RO.nx (mv ah (RO.nx (mv (vi ae.2.2) ?_))))))))
    refine RO.nx ?_
    obtain⟨df,b6,hb⟩:=bd hb
    refine RL.bS 1 o zr zr iK b6 (RO.nx (RL.lh (α:=aI) zt (jJ 1 o b6 0) iX (RO.nx (RL.dR 1 o (jJ 1 o b6 2) (bI b6).2.1 dY cG (RO.nx (ic de.X1 df.X1 (RO.last (aG ?_))))))))
    obtain⟨b7,hj,hb⟩:=bd hb
    refine RC.jn (fun(b7:Int×Int)=>SH E V [(0,v0),(3,ah),(4,vp ag 0),(6,(.func (.func 102) #[] #[(vp ag 0)])),(7,vi ad.2.1),(11,(vi (IntKind.wrap .i64 (Int.tdiv (an.Xs.length:Int) 2)))),(12,vi b7.1),(13,vi b7.2),(42,v0),(43,vi p0.length),(44,vi ay)] [rd v0 p0,own 73 ah aq,bc 51 ag [bl],own 3 bl b4]) b7 ?_ ?_
    ·refine dX hj (fun hc hj=>?_) fun hc hj=>?_
     ·refine RC.region (mv (vi ae.2.1) (RL.fO ae.2.1 1 (aP (vi (IntKind.wrap .i64 (ae.2.1+1))) (RL.nil ?_))))
      obtain rfl:=oi hj
      exact⟨rfl,o.sp 4 [0,1,2,3]⟩
     refine RC.region (mv (vi ae.2.2) (RL.fO ae.2.2 1 (aP (vi (IntKind.wrap .i64 (ae.2.2+1))) (RL.nil ?_))))
     obtain rfl:=oi hj
     exact⟨rfl,o.sp 4 [0,1,2,3]⟩
    rintro _ w ⟨O,rfl,o⟩
    refine bO ?_
    obtain rfl:=oi hb
    exact⟨rfl,bl,o.sp 4 [0,1,2,3]⟩
   ·intro r _ _ _ _
    exact r.elim
   rintro ae _ w rfl ⟨bw,O,rfl,o⟩
   rw [Fo.dB] at hj
   obtain rfl:=oi hj
   exact⟨rfl,bw,o.sp 4 [0,1,2,3]⟩
  rintro _ w ⟨bu,O,rfl,o⟩
  refine aG (RC.region (mv (vi ad.2.1) (mv (vi ad.2.1) (mv (vi (IntKind.wrap .i64 (Int.tdiv (an.Xs.length:Int) 2))) (RL.fO ad.2.1 (IntKind.wrap .i64 (Int.tdiv (an.Xs.length:Int) 2)) (aP (vi ad.2.1) (aP (vi (IntKind.wrap .i64 (ad.2.1+ (IntKind.wrap .i64 (Int.tdiv (an.Xs.length:Int) 2))))) (RL.nil ?_))))))))
  refine bO (aG (RC.region (RL.inc hk hm (mv (vi ((ay+1:Nat):Int)) (RL.nil ?_)))))
  obtain rfl:=oi hb
  exact⟨rfl,bu,o.sp 4 [0,1,2,3]⟩
 rintro _ w ⟨br,O,rfl,o⟩
 refine aG (RC.sr (RL.makeMap (κ:=Int) (ν:=Int) zt zr o fun a6 w o=>(aP a6 (RL.ns (aP (.slice none 0 0) (RL.nq (RC.sr (mv ah ?_))))))))
 refine RL.fS 2 aq o mH (mv (vi 0) (RL.nt ?_))
 obtain⟨ak,hN,hb⟩:=bd hb
 refine RC.fold (fun(a5:Nat) (ak: (List Int)×(List (Int×Int))×(List (List aI))) U w=>∃(c1 c2:Value) (us939:List RV),SH E V [(6,(.func (.func 102) #[] #[(vp ag 0)])),(16,a6),(17,c2),(137,ah),(138,vi aq.length),(139,vi a5)] [bc 51 ag [c1],own 3 c1 ak.1,mp a6 ak.2.1,own 73 ah aq,own 23 c2 us939,iz (XS 73 aI) us939 ak.2.2 none] U w) (fun(ak: (List Int)×(List (Int×Int))×(List (List aI))) U w=>∃(ck bh:Value) (us942:List RV),SH E V [(17,bh)] [bc 51 ag [ck],own 3 ck ak.1,mp a6 ak.2.1,own 73 ah aq,own 23 bh us942,iz (XS 73 aI) us942 ak.2.2 none] U w) hN ?_ ?_ ?_ ?_
 ·have o:=(o.zA (XS 73 aI)).cQ RV 23
  exact⟨br,(.slice none 0 0),([]:List RV),o.sp 7 [5,6,2,4,0,1]⟩
 ·rintro hm ak _ w ⟨dg,dh,us987,O,rfl,o⟩
  refine RC.sr (ic ((aq.length:Int)) ((aq.length:Int)) (RL.nq (RC.fw sf (RC.ex ?_))))
  exact⟨rfl,dg,dh,us987,o.sp 6 [0,1,2,3,4,5]⟩
 ·rintro hm a5 ak s' _ w hk ⟨d7,cl,us945,O,rfl,o⟩ hb
  refine RC.sr (ic ((a5:Int)) ((aq.length:Int)) (RL.nq (RC.fu (sd hk) (RC.ss (RC.bs (mv (vi a5) ?_))))))
  obtain⟨bb,cm,hb⟩:=bd hb
  refine RL.bS 3 o zr zr iK cm (RL.kn (f:=(fun x=>x)) 3 o (jJ 3 o cm 0) (bI cm).2.1 Fd.self iq fun d8 o=>?_)
  refine RL.alloc o om.z fun b8 w o=>?_
  refine aP (vi a5) (RL.bZ 0 o 1 zr iq fun w o=>?_)
  refine RL.ns (mv (.func (.func 102) #[] #[(vp ag 0)]) (mv (vi a5) ?_))
  have o:=(o.pull 3).pull 3
  obtain⟨a2,di,hb⟩:=bd hb
  refine RL.C0 (cap:=[(vp ag 0)]) zt zr HE zr [(vi a5)] zr (aD (mg N (p0:=(a5:Int)) o di) ?_)
  rintro _ w ⟨bo,rfl,o⟩
  refine aP (vi a2.1) (RL.ns (mv a6 (mv (vi a2.1) (RL.Hg (i:=6) (k:=a2.1) zt zr o zr zr zr DK (mv (.tuple #[(vi (jA ak.2.1 a2.1 (0:Int))),(vb (ue ak.2.1 a2.1))]) (RL.extract (vi (jA ak.2.1 a2.1 (0:Int))) (RL.extract (vb (ue ak.2.1 a2.1)) (aP (vi (jA ak.2.1 a2.1 (0:Int))) ?_))))))))
  refine aP (vb (ue ak.2.1 a2.1)) (RL.nq (RC.sr (mv (vb (ue ak.2.1 a2.1)) (RL.not (ue ak.2.1 a2.1) (RL.nt ?_)))))
  obtain⟨af,hj,hb⟩:=bd hb
  refine RC.jn (fun(af: (List (Int×Int))×(List (List aI))×Int) U w=>∃(a1:Value) (us956:List RV),SH E V [(6,(.func (.func 102) #[] #[(vp ag 0)])),(16,a6),(17,a1),(19,vp b8 0),(21,vi af.2.2),(137,ah),(138,vi aq.length),(139,vi a5)] [bc 51 ag [bo],own 3 bo a2.2,mp a6 af.1,bx 73 b8 bb,own 73 ah aq,own 23 a1 us956,iz (XS 73 aI) us956 af.2.1 none] U w) af ?_ ?_
  ·refine dX hj (fun hc hj=>?_) fun hc hj=>?_
   rotate_left
   ·refine RC.skip ?_
    obtain rfl:=oi hj
    exact⟨rfl,cl,us945,o.sp 10 [0,1,6,2,7,8,9]⟩
   refine RC.sr (mv cl (RL.sg 8 9 ak.2.2 o oR (aP (vi ak.2.2.length) (RL.ns (mv a6 (mv (vi a2.1) (mv (vi ak.2.2.length) ?_)))))))
   have o:=o.sc Int (ak.2.2.length:Int)
   refine RL.mapUpdate 7 0 a2.1 zt o zr zr zr zr zr DK fun w o=>(RL.nt (RC.region (mv cl ?_)))
   have o:=(o.cQ aI 73).BF (i:=0) rfl
   refine RL.dQ ([rv (.slice none 0 0)]:List RV) o [(.slice none 0 0)] rf HF (fun M hs g=>⟨(g.sat 0 _ zr).1,zt⟩) fun d9 w o=>?_
   obtain⟨ea,dj,hj⟩:=bd hj
   have o:=o.freeze 0
   refine RL.Dk 12 0 13 2 zt zr o zr zr zr zr zr zr EX dj fun c3 w o=>?_
   refine aP c3 (RL.nil ?_)
   obtain rfl:=oi hj
   exact⟨rfl,c3,(us945++[rv (.slice none 0 0)]),o.sp 14 [4,5,10,6,11,12,13]⟩
  rintro _ w ⟨a1,us956,O,rfl,o⟩
  refine aG ?_
  obtain⟨eb,b9,hb⟩:=bd hb
  obtain⟨bj,dk,hb⟩:=bd hb
  obtain⟨ec,cn,hb⟩:=bd hb
  refine RC.ER E V mixed [1,1,1,1,0,0,0,0,0,0,0] [6,7,8,10] (fun(x:Value×Value×Value)=>(fun a0 ax al=>[(0,163,a1),(1,164,(vi af.2.2)),(2,165,a1),(3,166,(vi af.2.2)),(4,167,(zi a1 (Int.toNat af.2.2) 1 0)),(5,168,(us956.getD (Int.toNat af.2.2) CU).v),(6,169,a0),(7,170,ax),(8,171,al),(9,172,(zi a1 (Int.toNat af.2.2) 1 0))]) x.1 x.2.1 x.2.2) [(6,(.func (.func 102) #[] #[(vp ag 0)])),(16,a6),(17,a1),(19,vp b8 0),(21,vi af.2.2),(137,ah),(138,vi aq.length),(139,vi a5)] [] (fun(D:Nat->Bool) (x:Value×Value×Value)=>(fun a0 ax al=>[bif D 0 then (rd a0 bb) else aX,bif D 2 then (rd ax ([bb]: (List aI))) else (bif D 1 then (own 73 ax ([bb]: (List aI))) else aX),bif D 3 then aX else (bif D 2 then (own 73 al bj) else aX),bc 51 ag [bo],own 3 bo a2.2,mp a6 af.1,bx 73 b8 bb,own 73 ah aq,bif D 3 then (own 23 a1 (us956.set (Int.toNat af.2.2) (rv al))) else (own 23 a1 us956),bif D 3 then (iz (XS 73 aI) (us956.set (Int.toNat af.2.2) (rv al)) (af.2.1.set (Int.toNat af.2.2) bj) none) else (bif D 2 then (iz (XS 73 aI) us956 af.2.1 (some (Int.toNat af.2.2))) else (iz (XS 73 aI) us956 af.2.1 none))]) x.1 x.2.1 x.2.2) (fun x=>by kernel_rfl) ?_ ⟨fun _=>je gn,fun _=>je gn,fun _=>je gn,fun _=>je gn,?_,?_,?_,?_,?_,?_,?_,trivial⟩ ?_
  ·have o:=(((o.drew).aX).aX).aX
   exact⟨(undef,undef,undef),eU.none,(DB zr),zt,o⟩
  ·rintro D U w hD au aj ⟨⟨a0,ax,al⟩,hv,ha,_,o⟩
   obtain⟨O,rfl⟩:=(ac (hv.at 2 rfl (au.1 rfl)) (ac (hv.at 3 rfl (au.2.1 rfl)) az)).eN
   have o:=((o.bX 8 (nh aj hD 10)).bX 9 (nh aj hD 10)).bX 9 (nf (fun h=>ft hD ((aj 5 _ rfl ((aj 8 _ rfl h).1 rfl)).1 rfl)))
   have hl974:=o.eE 9
   have hr975:=fT CU hl974 b9
   refine RL.bS 8 o zr zr rf hr975 ?_
   have o:=(o.eY 8 (D 10) (nh aj hD 10) (own 23 a1 (us956.set (Int.toNat af.2.2) (rv al)))).eY 9 (D 8) (nf (fun h=>ft hD ((aj 5 _ rfl ((aj 8 _ rfl h).1 rfl)).1 rfl))) (iz (XS 73 aI) us956 af.2.1 (some (Int.toNat af.2.2)))
   have o:=o.eY 9 (D 10) (nh aj hD 10) (iz (XS 73 aI) (us956.set (Int.toNat af.2.2) (rv al)) (af.2.1.set (Int.toNat af.2.2) bj) none)
   exact RL.nil ⟨rfl,(a0,ax,al),hv.pu 4,ha.u,zt,o⟩
  ·rintro D U w hD au aj ⟨⟨a0,ax,al⟩,hv,ha,_,o⟩
   obtain⟨O,rfl⟩:=(ac (hv.at 4 rfl (au.1 rfl)) az).eN
   have o:=((o.bX 8 (nh aj hD 10)).bX 9 (nh aj hD 10)).bX 9 (nh aj hD 8)
   have hl976:=o.eE 9
   have hr977:=fT CU hl976 b9
   refine RL.vk 8 9 af.2.2 (BE 73 aI) CU zr o zr (jJ 8 o hr977 0) zr zr b9 q9 ?_
   have o:=(o.eY 8 (D 10) (nh aj hD 10) (own 23 a1 (us956.set (Int.toNat af.2.2) (rv al)))).eY 9 (D 8) (nh aj hD 8) (iz (XS 73 aI) us956 af.2.1 (some (Int.toNat af.2.2)))
   have o:=o.eY 9 (D 10) (nh aj hD 10) (iz (XS 73 aI) (us956.set (Int.toNat af.2.2) (rv al)) (af.2.1.set (Int.toNat af.2.2) bj) none)
   exact RL.nil ⟨rfl,(a0,ax,al),hv.pu 5,ha.u,zt,o⟩
  ·rintro D U w hD au aj ⟨⟨a0,ax,al⟩,hv,ha,_,o⟩
   obtain⟨O,rfl⟩:=(ac (ha.at 3 rfl) az).eN
   have o:=o.bX 0 hD
   refine RL.bG (f:=(fun x=>x)) 6 o zr Fd.self iq fun dm o=>?_
   have o:=(o.pl 11 [0,2,3,4,5,6,7,8,9,10]).cD 0 true rfl aX
   exact RL.nil ⟨rfl,(dm,ax,al),hv.pu 6,ha.u,zt,o⟩
  ·rintro D U w hD au aj ⟨⟨a0,ax,al⟩,hv,ha,_,o⟩
   obtain⟨O,rfl⟩:=(ac (hv.at 6 rfl (au.1 rfl)) az).eN
   have o:=((o.cC 0 (au.1 rfl)).bX 1 (nh aj hD 8)).bX 1 hD
   refine RL.dQ ([bb]: (List aI)) o [a0] iK om (fun M hs g=>⟨(g.sat 0 _ zr).1,zt⟩) fun c4 w o=>?_
   have o:=(((o.pl 11 [1,0,3,4,5,6,7,8,9,10]).cD 0 (D 6) (au.1 rfl) aX).cD 1 true rfl aX).eY 1 (D 8) (nh aj hD 8) (rd c4 ([bb]: (List aI)))
   exact RL.nil ⟨rfl,(a0,c4,al),hv.pu 7,ha.u,zt,o⟩
  ·rintro D U w hD au aj ⟨⟨a0,ax,al⟩,hv,ha,_,o⟩
   obtain⟨O,rfl⟩:=(ac (hv.at 5 rfl (au.1 rfl)) (ac (hv.at 7 rfl (au.2.1 rfl)) az)).eN
   have o:=(((((((o.bX 1 hD).cC 1 (au.2.1 rfl)).bX 2 (nh aj hD 10)).bX 2 hD).bX 8 (nh aj hD 10)).bX 9 (nh aj hD 10)).bX 9 hD).zS (j:=9) (jj:=af.2.2) (BE 73 aI) CU rfl b9
   have o:=o.freeze 2
   refine RL.app 0 2 o z9 dk fun cp w o=>?_
   have o:=((((o.pl 11 [1,2,0,4,5,6,7,8,9,10]).cD 1 true rfl (bif D 7 then (own 73 ax ([bb]: (List aI))) else aX)).cD 2 true rfl aX).eY 2 (D 10) (nh aj hD 10) aX).eY 8 (D 10) (nh aj hD 10) (own 23 a1 (us956.set (Int.toNat af.2.2) (rv cp)))
   have o:=(o.cD 9 true rfl (iz (XS 73 aI) us956 af.2.1 none)).eY 9 (D 10) (nh aj hD 10) (iz (XS 73 aI) (us956.set (Int.toNat af.2.2) (rv cp)) (af.2.1.set (Int.toNat af.2.2) bj) none)
   exact RL.nil ⟨rfl,(a0,ax,cp),hv.pu 8,ha.u,zt,o⟩
  ·rintro D U w hD au aj ⟨⟨a0,ax,al⟩,hv,ha,_,o⟩
   obtain⟨O,rfl⟩:=(ac (hv.at 0 rfl (au.1 rfl)) (ac (hv.at 1 rfl (au.2.1 rfl)) az)).eN
   have o:=((o.bX 8 (nh aj hD 10)).bX 9 (nh aj hD 10)).cC 9 (au.2.2.2.2.2.2.2.2.2.2.1 rfl)
   have hl981:=o.eE 9
   have hr982:=fT CU hl981 cn
   refine RL.bS 8 o zr zr rf hr982 ?_
   have o:=((o.eY 8 (D 10) (nh aj hD 10) (own 23 a1 (us956.set (Int.toNat af.2.2) (rv al)))).cD 9 (D 8) (au.2.2.2.2.2.2.2.2.2.2.1 rfl) (iz (XS 73 aI) us956 af.2.1 none)).eY 9 (D 10) (nh aj hD 10) (iz (XS 73 aI) (us956.set (Int.toNat af.2.2) (rv al)) (af.2.1.set (Int.toNat af.2.2) bj) none)
   exact RL.nil ⟨rfl,(a0,ax,al),hv.pu 9,ha.u,zt,o⟩
  ·rintro D U w hD au aj ⟨⟨a0,ax,al⟩,hv,ha,_,o⟩
   obtain⟨O,rfl⟩:=(ac (hv.at 8 rfl (au.2.1 rfl)) (ac (hv.at 9 rfl (au.1 rfl)) az)).eN
   have o:=((((o.bX 2 hD).cC 2 (au.2.1 rfl)).bX 8 hD).bX 9 hD).cC 9 (au.2.1 rfl)
   have hl983:=o.eE 9
   have hr984:=fT CU hl983 cn
   refine RL.tr 8 9 2 af.2.2 (BE 73 aI) CU o zr zr (jJ 8 o hr984 0) zr zr zr cn q9 fun w o=>?_
   have o:=((o.cD 2 true rfl (bif D 8 then (own 73 al bj) else aX)).cD 8 true rfl (own 23 a1 us956)).cD 9 true rfl (bif D 8 then (iz (XS 73 aI) us956 af.2.1 (some (Int.toNat af.2.2))) else (iz (XS 73 aI) us956 af.2.1 none))
   exact RL.nil ⟨rfl,(a0,ax,al),hv.n1,ha,zt,o⟩
  rintro D U w bp ⟨⟨a0,ax,al⟩,hv,ha,_,o⟩
  have o:=((((o.cC 0 (jQ bp 6)).cC 1 (jQ bp 8)).cC 2 (jQ bp 10)).cC 8 (jQ bp 10)).cC 9 (jQ bp 10)
  obtain⟨O,rfl⟩:=(ac (ha.at 0 rfl) (ac (ha.at 1 rfl) (ac (ha.at 2 rfl) (ac (ha.at 3 rfl) (ac (ha.at 4 rfl) (ac (ha.at 5 rfl) (ac (ha.at 6 rfl) (ac (ha.at 7 rfl) az)))))))).eN
  refine bO (aG (RC.region (RL.inc hk hm (mv (vi ((a5+1:Nat):Int)) (RL.nil ?_)))))
  obtain rfl:=oi hb
  exact⟨rfl,bo,a1,(us956.set (Int.toNat af.2.2) (rv al)),o.sp 10 [3,4,5,7,8,9]⟩
 rintro _ w ⟨ck,bh,us942,O,rfl,o⟩
 refine aG (RC.sr (aP (.slice none 0 0) (RL.nq (RC.sr (mv bh (RL.sg 4 5 ak.2.2 o oR (mv (vi 0) (RL.nt ?_))))))))
 have o:=o.zB (X:=(XS 73 aI)) (b:=5) (j:=4) rfl (fun M h u x cs=>(Js 73) M h u x cs) rfl rfl (by decide)
 obtain⟨bm,hN,hb⟩:=bd hb
 refine RC.fold (fun(ca:Nat) (bm: (List (List aA))) U w=>∃c5:Value,SH E V [(23,c5),(174,bh),(175,vi ak.2.2.length),(176,vi ca)] [own 23 bh ak.2.2,own 56 c5 bm] U w) (fun(bm: (List (List aA))) U w=>∃bq:Value,SH E V [(23,bq)] [own 23 bh ak.2.2,own 56 bq bm] U w) hN ?_ ?_ ?_ ?_
 ·have o:=o.cQ (List aA) 56
  exact⟨(.slice none 0 0),o.sp 7 [5,0]⟩
 ·rintro hm bm _ w ⟨dn,O,rfl,o⟩
  refine RC.sr (ic ((ak.2.2.length:Int)) ((ak.2.2.length:Int)) (RL.nq (RC.fw sf (RC.ex ?_))))
  exact⟨rfl,dn,o.sp 2 [0,1]⟩
 ·rintro hm ca bm s' _ w hk ⟨dp,O,rfl,o⟩ hb
  refine RC.sr (ic ((ca:Int)) ((ak.2.2.length:Int)) (RL.nq (RC.fu (sd hk) (RC.ss (RC.bs ?_)))))
  obtain⟨ed,cq,hb⟩:=bd hb
  refine RL.bS 0 o zr zr rf cq (RL.kn (f:=(fun x=>x)) 0 o (jJ 0 o cq 0) (bI cq).2.1 Fd.self q9 fun cr o=>?_)
  refine aP cr (RL.nt (RC.region (mv dp (mv cr ?_))))
  obtain⟨dq,dr,hb⟩:=bd hb
  refine RL.call zt zr Hy [cr] zr (aD (mK N (i0:=0) o zr dr) ?_)
  rintro ds w o
  have o:=o.freeze 0
  refine RL.dQ ([dq]: (List (List aA))) o [ds] Gr Ki (fun M hs g=>⟨(g.sat 0 _ zr).1,zt⟩) fun ee w o=>?_
  have o:=o.freeze 0
  obtain⟨ef,dt,hb⟩:=bd hb
  refine RL.app 4 0 o Lu dt fun c6 w o=>?_
  refine aP c6 (RL.nil (bO (aG (RC.region (RL.inc hk hm (mv (vi ((ca+1:Nat):Int)) (RL.nil ?_)))))))
  obtain rfl:=oi hb
  exact⟨rfl,c6,o.sp 5 [3,4]⟩
 rintro _ w ⟨bq,O,rfl,o⟩
 refine aG (RC.sr (mv bq (aP bq (RL.nt (RC.ret ?_)))))
 obtain rfl:=oi hb
 exact bY (o.pk 2 [1])
def uV (E:World) (V:List HP) (b0:Nat) (v0_0 v0_1:Value) (v0_2 v0_3:Value) (v0_6 v0_7:Value) (v0_8 v0_9:Value) (v0_10 v0_11:Value) (res:Bool×(List (List aA))×(List aK)) (v:Value) (w:World):Prop:=∃u0_4 u0_5:Value,v= (vb res.1)/\Holds E w ([bc 54 b0 [v0_0,v0_1,v0_2,v0_3,u0_4,u0_5,v0_6,v0_7,v0_8,v0_9,v0_10,v0_11],own 56 u0_4 res.2.1,own 60 u0_5 res.2.2]++V)
theorem uk {p0_0: (List (List aI))} {p0_2: (List cE)} {p0_4: (List (List aA))} {p0_5: (List aK)} {res:Bool×(List (List aA))×(List aK)} (j:Holds E w (bc 54 b0 [v0_0,v0_1,v0_2,v0_3,v0_4,v0_5,v0_6,v0_7,v0_8,v0_9,v0_10,v0_11]::rd v0_0 p0_0::rd v0_2 p0_2::own 56 v0_4 p0_4::own 60 v0_5 p0_5::V)) (o:kb N p0_0 p0_2 p0_4 p0_5=some res):
    Calls bN 32 [(vp b0 0)].toArray w (gQ (uV E V b0 v0_0 v0_1 v0_2 v0_3 v0_6 v0_7 v0_8 v0_9 v0_10 v0_11 res)):=by
 unfold kb at o
 refine enter Tryz.func32 zr zr (RC.sr (aP (vb false) (RL.ns (aP (vb true) (RL.nq (RC.sr (mv (vp b0 0) (RL.nilCheck zr ?_))))))))
 refine RL.aZ zr uL (RL.aZ zr me (RL.bK 0 v0_0 j oQ (RL.bC 1 p0_0 j oR (mv (vi 0) (RL.nt ?_)))))
 obtain⟨aa,hN,o⟩:=bd o
 refine RC.fold (fun(ab:Nat) (aa: (List (List aA))×(List aK)×Bool) U w=>∃bf bg:Value,SH E V [(0,vp b0 0),(3,vb aa.2.2),(16,v0_0),(17,vi p0_0.length),(18,vi ab)] [bc 54 b0 [v0_0,v0_1,v0_2,v0_3,bf,bg,v0_6,v0_7,v0_8,v0_9,v0_10,v0_11],own 56 bf aa.1,own 60 bg aa.2.1,rd v0_0 p0_0,rd v0_2 p0_2] U w) (fun(aa: (List (List aA))×(List aK)×Bool) U w=>∃au al:Value,SH E V [(0,vp b0 0),(3,vb aa.2.2)] [bc 54 b0 [v0_0,v0_1,v0_2,v0_3,au,al,v0_6,v0_7,v0_8,v0_9,v0_10,v0_11],own 56 au aa.1,own 60 al aa.2.1,rd v0_0 p0_0,rd v0_2 p0_2] U w) hN ?_ ?_ ?_ ?_
 ·exact⟨v0_4,v0_5,j.sp 5 [0,3,4,1,2]⟩
 ·rintro hm aa _ w ⟨bq,br,O,rfl,j⟩
  refine RC.sr (ic ((p0_0.length:Int)) ((p0_0.length:Int)) (RL.nq (RC.fw sf (RC.ex ?_))))
  exact⟨rfl,bq,br,j.sp 5 [0,1,2,3,4]⟩
 ·rintro hm ab aa s' _ w hk ⟨af,ag,O,rfl,j⟩ o
  refine RC.sr (ic ((ab:Int)) ((p0_0.length:Int)) (RL.nq (RC.fu (sd hk) (RC.ss (RC.bs (mv (vi ab) ?_))))))
  obtain⟨a2,bt,o⟩:=bd o
  refine RL.bM 3 j rf bt fun cp j=>(RL.bF 0 a2 j q9 fun ah j=>(aP (vi ab) (aP ah (RL.ns (aP (.slice none 0 0) (RL.nq (RC.sr (mv (vp b0 0) ?_))))))))
  refine RL.nilCheck zr (RL.aZ zr uL (RL.aZ zr iw (RL.bK 2 v0_2 j nQ (RL.bC 6 p0_2 j wy (mv (vi 0) (RL.nt ?_))))))
  obtain⟨av,hN,o⟩:=bd o
  refine RC.fold (fun(az:Nat) (av: (List aI)) U w=>∃bh:Value,SH E V [(0,vp b0 0),(3,vb aa.2.2),(4,vi ab),(5,ah),(6,bh),(16,v0_0),(17,vi p0_0.length),(18,vi ab),(27,v0_2),(28,vi p0_2.length),(29,vi az)] [bc 54 b0 [v0_0,v0_1,v0_2,v0_3,af,ag,v0_6,v0_7,v0_8,v0_9,v0_10,v0_11],rd v0_0 p0_0,rd v0_2 p0_2,own 56 af aa.1,own 60 ag aa.2.1,rd ah a2,own 73 bh av] U w) (fun(av: (List aI)) U w=>∃a0:Value,SH E V [(0,vp b0 0),(3,vb aa.2.2),(4,vi ab),(5,ah),(6,a0),(16,v0_0),(17,vi p0_0.length),(18,vi ab)] [bc 54 b0 [v0_0,v0_1,v0_2,v0_3,af,ag,v0_6,v0_7,v0_8,v0_9,v0_10,v0_11],rd v0_0 p0_0,rd v0_2 p0_2,own 56 af aa.1,own 60 ag aa.2.1,rd ah a2,own 73 a0 av] U w) hN ?_ ?_ ?_ ?_
  ·have j:=j.cQ aI 73
   exact⟨(.slice none 0 0),j.sp 8 [3,6,7,4,5,1,0]⟩
  ·rintro hm av _ w ⟨bu,O,rfl,j⟩
   refine RC.sr (ic ((p0_2.length:Int)) ((p0_2.length:Int)) (RL.nq (RC.fw sf (RC.ex ?_))))
   exact⟨rfl,bu,j.sp 7 [0,1,2,3,4,5,6]⟩
  ·rintro hm az av s' _ w hk ⟨bj,O,rfl,j⟩ o
   refine RC.sr (ic ((az:Int)) ((p0_2.length:Int)) (RL.nq (RC.fu (sd hk) (RC.ss (RC.bs ?_)))))
   obtain⟨bw,bx,o⟩:=bd o
   refine RL.bM 2 j qE bx fun cq j=>(RL.bF 0 bw j mf fun cr j=>(RL.alloc j EV.z fun ct w j=>?_))
   refine RL.bZ 0 j 1 zr mf fun w j=>?_
   refine RL.ns (RL.bG (f:=(fun x=>x)) 0 j zr Fd.self mf fun bz j=>(mv (vi ab) ?_))
   obtain⟨cu,b1,o⟩:=bd o
   refine RL.call zt zr Kh [bz,(vi ab)] zr (aD (oM N (p1:=(ab:Int)) (i0:=0) j zr b1) ?_)
   rintro _ w ⟨rfl,j⟩
   refine RL.nt ?_
   obtain⟨a6,hj,o⟩:=bd o
   refine RC.jn (fun(a6: (List aI)) U w=>∃a3:Value,SH E V [(0,vp b0 0),(3,vb aa.2.2),(4,vi ab),(5,ah),(6,a3),(16,v0_0),(17,vi p0_0.length),(18,vi ab),(27,v0_2),(28,vi p0_2.length),(29,vi az)] [bc 54 b0 [v0_0,v0_1,v0_2,v0_3,af,ag,v0_6,v0_7,v0_8,v0_9,v0_10,v0_11],rd v0_0 p0_0,rd v0_2 p0_2,own 56 af aa.1,own 60 ag aa.2.1,rd ah a2,own 73 a3 a6] U w) a6 ?_ ?_
   ·refine dX hj (fun hc hj=>?_) fun hc hj=>?_
    rotate_left
    ·refine RC.skip ?_
     obtain rfl:=oi hj
     exact⟨rfl,bj,j.sp 11 [4,5,6,7,8,9,10]⟩
    refine RC.region (mv bj (RL.bG (f:=(fun x=>x)) 1 j zr Fd.self mf fun b3 j=>?_))
    obtain⟨b4,b5,hj⟩:=bd hj
    refine RL.call zt zr Gn [b3] zr (aD (jr N (i0:=0) j zr b5) ?_)
    rintro b6 w j
    refine RL.dQ ([b4]: (List aI)) j [b6] iK om (fun M hs g=>⟨(g.sat 0 _ zr).1,zt⟩) fun cv w j=>?_
    have j:=j.freeze 0
    obtain⟨cw,b7,hj⟩:=bd hj
    refine RL.app 13 0 j z9 b7 fun bk w j=>?_
    refine aP bk (RL.nil ?_)
    obtain rfl:=oi hj
    exact⟨rfl,bk,j.sp 14 [7,8,9,10,11,12,13]⟩
   rintro _ w ⟨a3,O,rfl,j⟩
   refine bO (aG (RC.region (RL.inc hk hm (mv (vi ((az+1:Nat):Int)) (RL.nil ?_)))))
   obtain rfl:=oi o
   exact⟨rfl,a3,j.sp 7 [0,1,2,3,4,5,6]⟩
  rintro _ w ⟨a0,O,rfl,j⟩
  refine aG (RC.sr (mv ah ?_))
  obtain⟨cx,b8,o⟩:=bd o
  refine RL.call zt zr Hy [ah] zr (aD (mK N (i0:=5) j zr b8) ?_)
  rintro b9 w j
  refine mv a0 ?_
  have j:=j.freeze 7
  obtain⟨cy,ca,o⟩:=bd o
  refine RL.call zt zr Hy [a0] zr (aD (mK N (i0:=7) j zr ca) ?_)
  rintro cb w j
  have j:=(j.freeze 1).freeze 0
  obtain⟨cz,cc,o⟩:=bd o
  refine RL.call zt zr MO [b9,cb] zr (aD (xB N (i0:=1) (i1:=0) j zr zr cc) ?_)
  rintro a1 w j
  refine aP a1 (RL.nq ?_)
  obtain⟨an,hj,o⟩:=bd o
  refine RC.jn (fun(an:Bool×(List aA)) U w=>∃ao:Value,SH E V [(0,vp b0 0),(3,vb an.1),(4,vi ab),(9,ao),(16,v0_0),(17,vi p0_0.length),(18,vi ab)] [bc 54 b0 [v0_0,v0_1,v0_2,v0_3,af,ag,v0_6,v0_7,v0_8,v0_9,v0_10,v0_11],rd v0_0 p0_0,rd v0_2 p0_2,own 56 af aa.1,own 60 ag aa.2.1,rd ao an.2] U w) an ?_ ?_
  ·refine RC.region (mv (vb aa.2.2) (mv (vb aa.2.2) (fN hj (fun ai hj=>?_) fun ai hj=>?_)))
   rotate_left
   ·refine bJ ai (bJ ai (bJ ai (fU ai (vb false) (aP (vb false) (RL.nil ?_)))))
    obtain rfl:=oi hj
    have j:=j.freeze 0
    exact⟨rfl,a1,j.sp 10 [3,4,5,6,7,0]⟩
   refine RL.move a1 (cg ai) ?_
   have j:=j.freeze 0
   obtain⟨a7,cd,hj⟩:=bd hj
   refine RL.call (cg ai) zr MP [a1] zr (aD (xC N (i0:=0) j zr cd) ?_)
   rintro _ w ⟨rfl,j⟩
   refine RL.ld a7 2000 (cg ai) (fU ai (vb (decide (a7<=2000))) (aP (vb (decide (a7<=2000))) (RL.nil ?_)))
   obtain rfl:=oi hj
   exact⟨rfl,a1,j.sp 10 [3,4,5,6,7,0]⟩
  rintro _ w ⟨ao,O,rfl,j⟩
  refine aG (RC.sr (mv (vp b0 0) (mv (vp b0 0) (RL.nilCheck zr (RL.aZ zr EW (RL.bK 0 af j Kk (mv ao (RL.dQ ([an.2]: (List (List aA))) j [ao] Gr Ki (fun M hs g=>⟨(g.sat 5 _ zr).1,zt⟩) fun c0 w j=>?_))))))))
  have j:=j.freeze 0
  obtain⟨bl,cf,o⟩:=bd o
  refine RL.app 4 0 j Lu cf fun aq w j=>?_
  refine RL.nilCheck zr (RL.aZ zr EW (RL.iB 1 aq j zr zr (iS 4 j) Kk fun w j=>?_))
  refine RL.ns (mv ao ?_)
  obtain⟨ar,ch,o⟩:=bd o
  refine RL.call zt zr MQ [ao] zr (aD (wI N (i0:=6) j zr ch) ?_)
  rintro a8 w j
  refine RL.fS 0 ar j Kj (mv (vi 0) (RL.nt ?_))
  obtain⟨aw,hN,o⟩:=bd o
  refine RC.fold (fun(a4:Nat) (aw: (List aK)) U w=>∃bm:Value,SH E V [(0,vp b0 0),(3,vb an.1),(4,vi ab),(16,v0_0),(17,vi p0_0.length),(18,vi ab),(64,a8),(65,vi ar.length),(66,vi a4)] [bc 54 b0 [v0_0,v0_1,v0_2,v0_3,aq,bm,v0_6,v0_7,v0_8,v0_9,v0_10,v0_11],own 60 bm aw,rd v0_0 p0_0,rd v0_2 p0_2,own 56 aq bl,own 56 a8 ar] U w) (fun(aw: (List aK)) U w=>∃a5:Value,SH E V [(0,vp b0 0),(3,vb an.1),(16,v0_0),(17,vi p0_0.length),(18,vi ab)] [bc 54 b0 [v0_0,v0_1,v0_2,v0_3,aq,a5,v0_6,v0_7,v0_8,v0_9,v0_10,v0_11],own 60 a5 aw,rd v0_0 p0_0,rd v0_2 p0_2,own 56 aq bl,own 56 a8 ar] U w) hN ?_ ?_ ?_ ?_
  ·exact⟨ag,j.sp 8 [2,6,3,4,5,0]⟩
  ·rintro hm aw _ w ⟨cj,O,rfl,j⟩
   refine RC.sr (ic ((ar.length:Int)) ((ar.length:Int)) (RL.nq (RC.fw sf (RC.ex ?_))))
   exact⟨rfl,cj,j.sp 6 [0,1,2,3,4,5]⟩
  ·rintro hm a4 aw s' _ w hk ⟨a9,O,rfl,j⟩ o
   refine RC.sr (ic ((a4:Int)) ((ar.length:Int)) (RL.nq (RC.fu (sd hk) (RC.ss (RC.bs ?_)))))
   obtain⟨bn,ba,o⟩:=bd o
   refine RL.bS 5 j zr zr Gr ba (RL.kn (f:=(fun x=>x)) 5 j (jJ 5 j ba 0) (bI ba).2.1 Fd.self IY fun ax j=>?_)
   refine aP ax (RL.nt ?_)
   have j:=j.drew
   refine RC.EU (fun w=>Holds E w ([bc 54 b0 [v0_0,v0_1,v0_2,v0_3,aq,a9,v0_6,v0_7,v0_8,v0_9,v0_10,v0_11]]++V)) mixed zr [1,1,1,1,1,1,1,0,2,0,2,2,0,0,2] [0,1,2,3,4,5,6,7,8,9,10,11,12,13,14] (j.pk 7 [1]) (DP.e1 (vp b0 0) zr (fun w=>RL.move (vp b0 0) zt DP.d1) (DP.e1 (vp b0 0) zr (fun w=>RL.move (vp b0 0) zt DP.d1) (DP.e1 (vp b0 0) zr (fun w=>RL.nilCheck zr DP.d1) (DP.e1 (vp b0 5) zr (fun w=>RL.aZ zr wB DP.d1) (DP.IV a9 zr (fun w j=>RL.bK 0 a9 j EY DP.d1) (DP.e1 (vi ab) zr (fun w=>RL.move (vi ab) zt DP.d1) (DP.e1 ax zr (fun w=>RL.move ax zt DP.d1) (DP.e0 zr ?_))))))))
   refine mv ax (oN zr ?_)
   obtain⟨bo,ck,o⟩:=bd o
   refine RL.call zt zr IW [ax] zr (aD (lN N (i0:=0) j zr ck) ?_)
   rintro cl w j
   refine DP.d2 (j.pk 8 [2]) (DP.e0 zr ?_)
   have j:=(j.sc Int (ab:Int)).freeze 1
   refine RL.build (⟨(ab:Int),bn,bo⟩:aK) trivial rfl j [(0,vi ab),(1,ax),(2,cl)] rfl MR rfl (fun M hs g=>by have h:=z8 M;exact cS.cons (f:=fun(x:aK) y=>{x with cK:=y}) h xg (g.sat 0 _ rfl).1 fun _ h=>cS.cons (f:=fun(x:aK) y=>{x with Set:=y}) h xk (g.sat 2 _ rfl).1 fun _ h=>cS.cons (f:=fun(x:aK) y=>{x with gz:=y}) h xl (g.sat 1 _ rfl).1 fun _ h=>cS.nil h) fun cm j=>?_
   refine oN zr (RL.dQ ([(⟨(ab:Int),bn,bo⟩:aK)]: (List aK)) j [cm] IZ I0 (fun M hs g=>⟨(g.sat 0 _ zr).1,zt⟩) fun c1 w j=>(DP.d2 (j.pk 11 [5]) (DP.e2 zr ?_)))
   have j:=j.freeze 0
   obtain⟨c2,cn,o⟩:=bd o
   refine RL.app 6 0 j MS cn fun bp w j=>?_
   refine DP.d2 (j.pk 11 [5]) (DP.e0 zr (RL.nilCheck zr (aY zr (RL.aZ zr wB (DP.d0 (DP.Me zr zr (RL.iB 5 bp j zr zr (iS 6 j) EY fun w j=>?_)))))))
   refine DP.d2 zt (DP.z (bO (aG (RC.region (RL.inc hk hm (mv (vi ((a4+1:Nat):Int)) (RL.nil ?_)))))))
   obtain rfl:=oi o
   exact⟨rfl,bp,j.sp 11 [5,6,7,8,9,10]⟩
  rintro _ w ⟨a5,O,rfl,j⟩
  refine bO (aG (RC.region (RL.inc hk hm (mv (vi ((ab+1:Nat):Int)) (RL.nil ?_)))))
  obtain rfl:=oi o
  exact⟨rfl,aq,a5,j.sp 6 [0,4,1,2,3]⟩
 rintro _ w ⟨au,al,O,rfl,j⟩
 refine aG (RC.seq ?_)
 obtain⟨bb,hj,o⟩:=bd o
 refine RC.jn (fun(bb:Bool)=>SH E V [(0,vp b0 0),(2,vb bb)] [bc 54 b0 [v0_0,v0_1,v0_2,v0_3,au,al,v0_6,v0_7,v0_8,v0_9,v0_10,v0_11],rd v0_0 p0_0,rd v0_2 p0_2,own 56 au aa.1,own 60 al aa.2.1]) bb ?_ ?_
 ·refine RC.region (mv (vb aa.2.2) (mv (vb aa.2.2) (fN hj (fun ae hj=>?_) fun ae hj=>?_)))
  ·refine RL.move (vp b0 0) (cg ae) (RL.nilCheck (hg:=(cg ae)) zr (RL.aZ (hg:=(cg ae)) zr wB (RL.bK (hg:=(cg ae)) 0 al j EY (RL.fS (hg:=(cg ae)) 2 aa.2.1 j HG (RL.ld (aa.2.1.length:Int) 2000 (cg ae) (fU ae (vb (decide ((aa.2.1.length:Int)<=2000))) (aP (vb (decide ((aa.2.1.length:Int)<=2000))) (RL.nil ?_))))))))
   obtain rfl:=oi hj
   exact⟨rfl,j.sp 5 [0,3,4,1,2]⟩
  refine bJ ae (bJ ae (bJ ae (bJ ae (bJ ae (bJ ae (fU ae (vb false) (aP (vb false) (RL.nil ?_))))))))
  obtain rfl:=oi hj
  exact⟨rfl,j.sp 5 [0,3,4,1,2]⟩
 rintro _ w ⟨O,rfl,j⟩
 refine aG (RC.ret ?_)
 obtain rfl:=oi o
 exact bY ⟨au,al,zr,j.pk 5 [0,3,4]⟩
end Go.Gk
namespace Go.Gk
open Go Go.Proofs
variable (N:Nat) {E w:World} {b0 i0 i1:Nat} {p0 p1 p2 res:Int} {v0 v0_0 v0_1 v0_10 v0_11 v0_2 v0_3 v0_4 v0_5 v0_6 v0_7 v0_8 v0_9 v1:Value} {V:List HP}
theorem yx {p0 p1:aI} {res:Bool} (j:Holds E w V) (h0:V[i0]? =some (rd v0 p0)) (h1:V[i1]? =some (rd v1 p1)) (hb:rM N p0 p1=some res):
    Calls bN 64 [v0,v1].toArray w (gQ (aU E V res)):=by
 unfold rM at hb
 refine enter Tryz.func64 zr zr ?_
 have j:=(j.dup (i0+0) h0).dup (i1+1) h1
 refine RC.sr (RL.dK 1 v0 j zr fun o w j=>?_)
 refine RL.dK 1 v1 j zr fun aa w j=>?_
 refine aP (vb false) (RL.ns (RL.aZ zr gO (RL.aM 1 j zr dD cG (RL.aZ zr iX (RL.aM 0 j zr dY cG (ic p0.X0 p1.X1 (mv (vb (decide (p0.X0<p1.X1))) (RL.gs true (decide (p0.X0<p1.X1)) (vp aa 0) zr zr zr (eC gO) ?_))))))))
 refine RL.gs true (decide (p0.X0<p1.X1)) (vi p1.X0) rfl rfl rfl (cB 0 rfl j (fun h=>by exact(cO h:cv (true&&((decide (p0.X0<p1.X1))==true)) (vp aa 0)= (vp aa 0))) rfl dD cG) (RL.gs true (decide (p0.X0<p1.X1)) (vp o 2) rfl rfl rfl (eC iX) (RL.gs true (decide (p0.X0<p1.X1)) (vi p0.X1) rfl rfl rfl (cB 1 rfl j (fun h=>by exact(cO h:cv (true&&((decide (p0.X0<p1.X1))==true)) (vp o 2)= (vp o 2))) rfl dY cG) (RL.gs true (decide (p0.X0<p1.X1)) (vb (decide (p1.X0<p0.X1))) rfl rfl rfl (dL .lss .i64 p1.X0 p0.X1 rfl (fun h=>by exact(cO h:cv (true&&((decide (p0.X0<p1.X1))==true)) (vi p1.X0)= (vi p1.X0))) (fun h=>by exact(cO h:cv (true&&((decide (p0.X0<p1.X1))==true)) (vi p0.X1)= (vi p0.X1))) rfl) (RL.pick (decide (p0.X0<p1.X1)) (vb ((decide (p0.X0<p1.X1))&&(decide (p1.X0<p0.X1)))) (gx true rfl) (aP (vb ((decide (p0.X0<p1.X1))&&(decide (p1.X0<p0.X1)))) (RL.ns (RL.aZ rfl gG (RL.aM 1 j rfl cZ cG ?_))))))))
 refine RL.aZ rfl jZ (RL.aM 0 j rfl eT cG (ic p0.Y0 p1.Y1 (mv (vb (decide (p0.Y0<p1.Y1))) (RL.gs true (decide (p0.Y0<p1.Y1)) (vp aa 1) rfl rfl rfl (eC gG) (RL.gs true (decide (p0.Y0<p1.Y1)) (vi p1.Y0) rfl rfl rfl (cB 0 rfl j (fun h=>by exact(cO h:cv (true&&((decide (p0.Y0<p1.Y1))==true)) (vp aa 1)= (vp aa 1))) rfl cZ cG) (RL.gs true (decide (p0.Y0<p1.Y1)) (vp o 3) rfl rfl rfl (eC jZ) (RL.gs true (decide (p0.Y0<p1.Y1)) (vi p0.Y1) rfl rfl rfl (cB 1 rfl j (fun h=>by exact(cO h:cv (true&&((decide (p0.Y0<p1.Y1))==true)) (vp o 3)= (vp o 3))) rfl eT cG) (RL.gs true (decide (p0.Y0<p1.Y1)) (vb (decide (p1.Y0<p0.Y1))) rfl rfl rfl (dL .lss .i64 p1.Y0 p0.Y1 rfl (fun h=>by exact(cO h:cv (true&&((decide (p0.Y0<p1.Y1))==true)) (vi p1.Y0)= (vi p1.Y0))) (fun h=>by exact(cO h:cv (true&&((decide (p0.Y0<p1.Y1))==true)) (vi p0.Y1)= (vi p0.Y1))) rfl) ?_))))))))
 refine RL.pick (decide (p0.Y0<p1.Y1)) (vb ((decide (p0.Y0<p1.Y1))&&(decide (p1.Y0<p0.Y1)))) (gx true rfl) (aP (vb ((decide (p0.Y0<p1.Y1))&&(decide (p1.Y0<p0.Y1)))) (RL.ns (mv (vb ((decide (p0.X0<p1.X1))&&(decide (p1.X0<p0.X1)))) (mv (vb ((decide (p0.X0<p1.X1))&&(decide (p1.X0<p0.X1)))) (RL.gs true ((decide (p0.X0<p1.X1))&&(decide (p1.X0<p0.X1))) (vp o 3) rfl rfl rfl (eC jZ) (RL.gs true ((decide (p0.X0<p1.X1))&&(decide (p1.X0<p0.X1))) (vi p0.Y1) rfl rfl rfl (cB 1 rfl j (fun h=>by exact(cO h:cv (true&&(((decide (p0.X0<p1.X1))&&(decide (p1.X0<p0.X1)))==true)) (vp o 3)= (vp o 3))) rfl eT cG) (RL.gs true ((decide (p0.X0<p1.X1))&&(decide (p1.X0<p0.X1))) (vp aa 1) rfl rfl rfl (eC gG) (RL.gs true ((decide (p0.X0<p1.X1))&&(decide (p1.X0<p0.X1))) (vi p1.Y0) rfl rfl rfl (cB 0 rfl j (fun h=>by exact(cO h:cv (true&&(((decide (p0.X0<p1.X1))&&(decide (p1.X0<p0.X1)))==true)) (vp aa 1)= (vp aa 1))) rfl cZ cG) ?_))))))))
 refine RL.gs true ((decide (p0.X0<p1.X1))&&(decide (p1.X0<p0.X1))) (vb (p0.Y1==p1.Y0)) rfl rfl rfl (dL .eql .i64 p0.Y1 p1.Y0 rfl (fun h=>by exact(cO h:cv (true&&(((decide (p0.X0<p1.X1))&&(decide (p1.X0<p0.X1)))==true)) (vi p0.Y1)= (vi p0.Y1))) (fun h=>by exact(cO h:cv (true&&(((decide (p0.X0<p1.X1))&&(decide (p1.X0<p0.X1)))==true)) (vi p1.Y0)= (vi p1.Y0))) rfl) (RL.gs true ((decide (p0.X0<p1.X1))&&(decide (p1.X0<p0.X1))) (vb (p0.Y1==p1.Y0)) rfl rfl rfl (cI (hx:=fun h=>by exact(cO h:cv (true&&(((decide (p0.X0<p1.X1))&&(decide (p1.X0<p0.X1)))==true)) (vb (p0.Y1==p1.Y0))= (vb (p0.Y1==p1.Y0))))) (RL.gs (true&&(((decide (p0.X0<p1.X1))&&(decide (p1.X0<p0.X1)))==true)) (p0.Y1==p1.Y0) (vp aa 3) rfl rfl rfl (eC jZ) (RL.gs (true&&(((decide (p0.X0<p1.X1))&&(decide (p1.X0<p0.X1)))==true)) (p0.Y1==p1.Y0) (vi p1.Y1) rfl rfl rfl (cB 0 rfl j (fun h=>by exact(cO h:cv ((true&&(((decide (p0.X0<p1.X1))&&(decide (p1.X0<p0.X1)))==true))&&((p0.Y1==p1.Y0)==false)) (vp aa 3)= (vp aa 3))) rfl eT cG) (RL.gs (true&&(((decide (p0.X0<p1.X1))&&(decide (p1.X0<p0.X1)))==true)) (p0.Y1==p1.Y0) (vp o 1) rfl rfl rfl (eC gG) (RL.gs (true&&(((decide (p0.X0<p1.X1))&&(decide (p1.X0<p0.X1)))==true)) (p0.Y1==p1.Y0) (vi p0.Y0) rfl rfl rfl (cB 1 rfl j (fun h=>by exact(cO h:cv ((true&&(((decide (p0.X0<p1.X1))&&(decide (p1.X0<p0.X1)))==true))&&((p0.Y1==p1.Y0)==false)) (vp o 1)= (vp o 1))) rfl cZ cG) (RL.gs (true&&(((decide (p0.X0<p1.X1))&&(decide (p1.X0<p0.X1)))==true)) (p0.Y1==p1.Y0) (vb (p1.Y1==p0.Y0)) rfl rfl rfl (dL .eql .i64 p1.Y1 p0.Y0 rfl (fun h=>by exact(cO h:cv ((true&&(((decide (p0.X0<p1.X1))&&(decide (p1.X0<p0.X1)))==true))&&((p0.Y1==p1.Y0)==false)) (vi p1.Y1)= (vi p1.Y1))) (fun h=>by exact(cO h:cv ((true&&(((decide (p0.X0<p1.X1))&&(decide (p1.X0<p0.X1)))==true))&&((p0.Y1==p1.Y0)==false)) (vi p0.Y0)= (vi p0.Y0))) rfl) (RL.gs true ((decide (p0.X0<p1.X1))&&(decide (p1.X0<p0.X1))) (vb ((p0.Y1==p1.Y0)||(p1.Y1==p0.Y0))) rfl rfl rfl (kG (p0.Y1==p1.Y0) rfl (fun h=>by exact(cO h:cv (true&&(((decide (p0.X0<p1.X1))&&(decide (p1.X0<p0.X1)))==true)) (vb (p0.Y1==p1.Y0))= (vb (p0.Y1==p1.Y0)))) (fun h=>by exact nW (h:=h) (true&&(((decide (p0.X0<p1.X1))&&(decide (p1.X0<p0.X1)))==true)))) (RL.pick ((decide (p0.X0<p1.X1))&&(decide (p1.X0<p0.X1))) (vb (((decide (p0.X0<p1.X1))&&(decide (p1.X0<p0.X1)))&&((p0.Y1==p1.Y0)||(p1.Y1==p0.Y0)))) (gx true rfl) ?_))))))))
 refine mv (vb (((decide (p0.X0<p1.X1))&&(decide (p1.X0<p0.X1)))&&((p0.Y1==p1.Y0)||(p1.Y1==p0.Y0)))) (RL.gs true (((decide (p0.X0<p1.X1))&&(decide (p1.X0<p0.X1)))&&((p0.Y1==p1.Y0)||(p1.Y1==p0.Y0))) (vb ((decide (p0.Y0<p1.Y1))&&(decide (p1.Y0<p0.Y1)))) rfl rfl rfl cI (RL.gs true (((decide (p0.X0<p1.X1))&&(decide (p1.X0<p0.X1)))&&((p0.Y1==p1.Y0)||(p1.Y1==p0.Y0))) (vb ((decide (p0.Y0<p1.Y1))&&(decide (p1.Y0<p0.Y1)))) rfl rfl rfl (cI (hx:=fun h=>by exact(cO h:cv (true&&((((decide (p0.X0<p1.X1))&&(decide (p1.X0<p0.X1)))&&((p0.Y1==p1.Y0)||(p1.Y1==p0.Y0)))==false)) (vb ((decide (p0.Y0<p1.Y1))&&(decide (p1.Y0<p0.Y1))))= (vb ((decide (p0.Y0<p1.Y1))&&(decide (p1.Y0<p0.Y1))))))) (RL.gs (true&&((((decide (p0.X0<p1.X1))&&(decide (p1.X0<p0.X1)))&&((p0.Y1==p1.Y0)||(p1.Y1==p0.Y0)))==false)) ((decide (p0.Y0<p1.Y1))&&(decide (p1.Y0<p0.Y1))) (vp o 2) rfl rfl rfl (eC iX) (RL.gs (true&&((((decide (p0.X0<p1.X1))&&(decide (p1.X0<p0.X1)))&&((p0.Y1==p1.Y0)||(p1.Y1==p0.Y0)))==false)) ((decide (p0.Y0<p1.Y1))&&(decide (p1.Y0<p0.Y1))) (vi p0.X1) rfl rfl rfl (cB 1 rfl j (fun h=>by exact(cO h:cv ((true&&((((decide (p0.X0<p1.X1))&&(decide (p1.X0<p0.X1)))&&((p0.Y1==p1.Y0)||(p1.Y1==p0.Y0)))==false))&&(((decide (p0.Y0<p1.Y1))&&(decide (p1.Y0<p0.Y1)))==true)) (vp o 2)= (vp o 2))) rfl dY cG) (RL.gs (true&&((((decide (p0.X0<p1.X1))&&(decide (p1.X0<p0.X1)))&&((p0.Y1==p1.Y0)||(p1.Y1==p0.Y0)))==false)) ((decide (p0.Y0<p1.Y1))&&(decide (p1.Y0<p0.Y1))) (vp aa 0) rfl rfl rfl (eC gO) (RL.gs (true&&((((decide (p0.X0<p1.X1))&&(decide (p1.X0<p0.X1)))&&((p0.Y1==p1.Y0)||(p1.Y1==p0.Y0)))==false)) ((decide (p0.Y0<p1.Y1))&&(decide (p1.Y0<p0.Y1))) (vi p1.X0) rfl rfl rfl (cB 0 rfl j (fun h=>by exact(cO h:cv ((true&&((((decide (p0.X0<p1.X1))&&(decide (p1.X0<p0.X1)))&&((p0.Y1==p1.Y0)||(p1.Y1==p0.Y0)))==false))&&(((decide (p0.Y0<p1.Y1))&&(decide (p1.Y0<p0.Y1)))==true)) (vp aa 0)= (vp aa 0))) rfl dD cG) (RL.gs (true&&((((decide (p0.X0<p1.X1))&&(decide (p1.X0<p0.X1)))&&((p0.Y1==p1.Y0)||(p1.Y1==p0.Y0)))==false)) ((decide (p0.Y0<p1.Y1))&&(decide (p1.Y0<p0.Y1))) (vb (p0.X1==p1.X0)) rfl rfl rfl (dL .eql .i64 p0.X1 p1.X0 rfl (fun h=>by exact(cO h:cv ((true&&((((decide (p0.X0<p1.X1))&&(decide (p1.X0<p0.X1)))&&((p0.Y1==p1.Y0)||(p1.Y1==p0.Y0)))==false))&&(((decide (p0.Y0<p1.Y1))&&(decide (p1.Y0<p0.Y1)))==true)) (vi p0.X1)= (vi p0.X1))) (fun h=>by exact(cO h:cv ((true&&((((decide (p0.X0<p1.X1))&&(decide (p1.X0<p0.X1)))&&((p0.Y1==p1.Y0)||(p1.Y1==p0.Y0)))==false))&&(((decide (p0.Y0<p1.Y1))&&(decide (p1.Y0<p0.Y1)))==true)) (vi p1.X0)= (vi p1.X0))) rfl) (RL.gs (true&&((((decide (p0.X0<p1.X1))&&(decide (p1.X0<p0.X1)))&&((p0.Y1==p1.Y0)||(p1.Y1==p0.Y0)))==false)) ((decide (p0.Y0<p1.Y1))&&(decide (p1.Y0<p0.Y1))) (vb (p0.X1==p1.X0)) rfl rfl rfl (cI (hx:=fun h=>by exact(cO h:cv ((true&&((((decide (p0.X0<p1.X1))&&(decide (p1.X0<p0.X1)))&&((p0.Y1==p1.Y0)||(p1.Y1==p0.Y0)))==false))&&(((decide (p0.Y0<p1.Y1))&&(decide (p1.Y0<p0.Y1)))==true)) (vb (p0.X1==p1.X0))= (vb (p0.X1==p1.X0))))) ?_))))))))
 refine RL.gs ((true&&((((decide (p0.X0<p1.X1))&&(decide (p1.X0<p0.X1)))&&((p0.Y1==p1.Y0)||(p1.Y1==p0.Y0)))==false))&&(((decide (p0.Y0<p1.Y1))&&(decide (p1.Y0<p0.Y1)))==true)) (p0.X1==p1.X0) (vp aa 2) rfl rfl rfl (eC iX) (RL.gs ((true&&((((decide (p0.X0<p1.X1))&&(decide (p1.X0<p0.X1)))&&((p0.Y1==p1.Y0)||(p1.Y1==p0.Y0)))==false))&&(((decide (p0.Y0<p1.Y1))&&(decide (p1.Y0<p0.Y1)))==true)) (p0.X1==p1.X0) (vi p1.X1) rfl rfl rfl (cB 0 rfl j (fun h=>by exact(cO h:cv (((true&&((((decide (p0.X0<p1.X1))&&(decide (p1.X0<p0.X1)))&&((p0.Y1==p1.Y0)||(p1.Y1==p0.Y0)))==false))&&(((decide (p0.Y0<p1.Y1))&&(decide (p1.Y0<p0.Y1)))==true))&&((p0.X1==p1.X0)==false)) (vp aa 2)= (vp aa 2))) rfl dY cG) (RL.gs ((true&&((((decide (p0.X0<p1.X1))&&(decide (p1.X0<p0.X1)))&&((p0.Y1==p1.Y0)||(p1.Y1==p0.Y0)))==false))&&(((decide (p0.Y0<p1.Y1))&&(decide (p1.Y0<p0.Y1)))==true)) (p0.X1==p1.X0) (vp o 0) rfl rfl rfl (eC gO) (RL.gs ((true&&((((decide (p0.X0<p1.X1))&&(decide (p1.X0<p0.X1)))&&((p0.Y1==p1.Y0)||(p1.Y1==p0.Y0)))==false))&&(((decide (p0.Y0<p1.Y1))&&(decide (p1.Y0<p0.Y1)))==true)) (p0.X1==p1.X0) (vi p0.X0) rfl rfl rfl (cB 1 rfl j (fun h=>by exact(cO h:cv (((true&&((((decide (p0.X0<p1.X1))&&(decide (p1.X0<p0.X1)))&&((p0.Y1==p1.Y0)||(p1.Y1==p0.Y0)))==false))&&(((decide (p0.Y0<p1.Y1))&&(decide (p1.Y0<p0.Y1)))==true))&&((p0.X1==p1.X0)==false)) (vp o 0)= (vp o 0))) rfl dD cG) (RL.gs ((true&&((((decide (p0.X0<p1.X1))&&(decide (p1.X0<p0.X1)))&&((p0.Y1==p1.Y0)||(p1.Y1==p0.Y0)))==false))&&(((decide (p0.Y0<p1.Y1))&&(decide (p1.Y0<p0.Y1)))==true)) (p0.X1==p1.X0) (vb (p1.X1==p0.X0)) rfl rfl rfl (dL .eql .i64 p1.X1 p0.X0 rfl (fun h=>by exact(cO h:cv (((true&&((((decide (p0.X0<p1.X1))&&(decide (p1.X0<p0.X1)))&&((p0.Y1==p1.Y0)||(p1.Y1==p0.Y0)))==false))&&(((decide (p0.Y0<p1.Y1))&&(decide (p1.Y0<p0.Y1)))==true))&&((p0.X1==p1.X0)==false)) (vi p1.X1)= (vi p1.X1))) (fun h=>by exact(cO h:cv (((true&&((((decide (p0.X0<p1.X1))&&(decide (p1.X0<p0.X1)))&&((p0.Y1==p1.Y0)||(p1.Y1==p0.Y0)))==false))&&(((decide (p0.Y0<p1.Y1))&&(decide (p1.Y0<p0.Y1)))==true))&&((p0.X1==p1.X0)==false)) (vi p0.X0)= (vi p0.X0))) rfl) (RL.gs (true&&((((decide (p0.X0<p1.X1))&&(decide (p1.X0<p0.X1)))&&((p0.Y1==p1.Y0)||(p1.Y1==p0.Y0)))==false)) ((decide (p0.Y0<p1.Y1))&&(decide (p1.Y0<p0.Y1))) (vb ((p0.X1==p1.X0)||(p1.X1==p0.X0))) rfl rfl rfl (kG (p0.X1==p1.X0) rfl (fun h=>by exact(cO h:cv ((true&&((((decide (p0.X0<p1.X1))&&(decide (p1.X0<p0.X1)))&&((p0.Y1==p1.Y0)||(p1.Y1==p0.Y0)))==false))&&(((decide (p0.Y0<p1.Y1))&&(decide (p1.Y0<p0.Y1)))==true)) (vb (p0.X1==p1.X0))= (vb (p0.X1==p1.X0)))) (fun h=>by exact nW (h:=h) ((true&&((((decide (p0.X0<p1.X1))&&(decide (p1.X0<p0.X1)))&&((p0.Y1==p1.Y0)||(p1.Y1==p0.Y0)))==false))&&(((decide (p0.Y0<p1.Y1))&&(decide (p1.Y0<p0.Y1)))==true)))) (RL.gs true (((decide (p0.X0<p1.X1))&&(decide (p1.X0<p0.X1)))&&((p0.Y1==p1.Y0)||(p1.Y1==p0.Y0))) (vb (((decide (p0.Y0<p1.Y1))&&(decide (p1.Y0<p0.Y1)))&&((p0.X1==p1.X0)||(p1.X1==p0.X0)))) rfl rfl rfl (kG ((decide (p0.Y0<p1.Y1))&&(decide (p1.Y0<p0.Y1))) rfl (fun h=>by exact(cO h:cv (true&&((((decide (p0.X0<p1.X1))&&(decide (p1.X0<p0.X1)))&&((p0.Y1==p1.Y0)||(p1.Y1==p0.Y0)))==false)) (vb ((decide (p0.Y0<p1.Y1))&&(decide (p1.Y0<p0.Y1))))= (vb ((decide (p0.Y0<p1.Y1))&&(decide (p1.Y0<p0.Y1)))))) (fun h=>by exact gx (true&&((((decide (p0.X0<p1.X1))&&(decide (p1.X0<p0.X1)))&&((p0.Y1==p1.Y0)||(p1.Y1==p0.Y0)))==false)) h)) (RL.pick (((decide (p0.X0<p1.X1))&&(decide (p1.X0<p0.X1)))&&((p0.Y1==p1.Y0)||(p1.Y1==p0.Y0))) (vb ((((decide (p0.X0<p1.X1))&&(decide (p1.X0<p0.X1)))&&((p0.Y1==p1.Y0)||(p1.Y1==p0.Y0)))||(((decide (p0.Y0<p1.Y1))&&(decide (p1.Y0<p0.Y1)))&&((p0.X1==p1.X0)||(p1.X1==p0.X0))))) (nW true) (aP (vb ((((decide (p0.X0<p1.X1))&&(decide (p1.X0<p0.X1)))&&((p0.Y1==p1.Y0)||(p1.Y1==p0.Y0)))||(((decide (p0.Y0<p1.Y1))&&(decide (p1.Y0<p0.Y1)))&&((p0.X1==p1.X0)||(p1.X1==p0.X0))))) ?_))))))))
 refine RL.nt (RC.ret ?_)
 obtain rfl:=oi hb
 exact bY ⟨rfl,j.drop 4⟩
theorem rX {p0:aI} {p1:cE} {res:Bool} (j:Holds E w V) (h0:V[i0]? =some (rd v0 p0)) (h1:V[i1]? =some (pt v1 p1)) (o:ko N p0 p1=some res):
    Calls bN 63 [v0,v1].toArray w (gQ (aU E V res)):=by
 unfold ko at o
 refine enter Tryz.func63 zr zr ?_
 have j:=(j.dup (i0+0) h0).Cf (i:=i1+1) h1
 refine RC.sr (RL.dK 1 v0 j zr fun ah w j=>?_)
 have j:=j.lf (i:=0) rfl
 refine aP (vb false) (RL.nq (RC.vH mixed [1,0,2,2,0] [0,1,2,3,4] ?_))
 have j:=j.drew
 refine DP.yj p0 0 zr zt j iq fun aa a33 ai j=>(DP.e0 zr (RL.bF 3 p1 j mf fun ab j=>(oN zr ?_)))
 obtain⟨aj,ad,o⟩:=bd o
 refine RL.call zt zr Gn [ab] zr (aD (jr N (i0:=0) j zr ad) ?_)
 rintro ae w j
 refine DP.d2 (⟨zt,j.gm 2⟩) (DP.e2 zr ?_)
 obtain⟨af,ag,o⟩:=bd o
 refine RL.call zt zr MU [aa,ae] zr (aD (yx N (i0:=3) (i1:=0) j zr zr ag) ?_)
 rintro _ w ⟨rfl,j⟩
 refine DP.d2 (⟨zt,j.gm 2⟩) (DP.e0 zr (aP (vb af) (DP.d0 ?_)))
 have j:=j.pl 7 [0,1,3,4,5,6]
 refine DP.z (aG (RC.ret ?_))
 obtain rfl:=oi o
 exact bY ⟨rfl,j.drop 6⟩
theorem ml {p0: (List aI)} {p1:aI->Option Bool} {res:Bool} (j:Holds E w V) (h0:V[i0]? =some (rd v0 p0)) (h1:Iw bN E V v1 p1 (fun(r:Bool)=>Value.bool r)) (o:hU N p0 p1=some res):
    Calls bN 62 [v0,v1].toArray w (gQ (aU E V res)):=by
 unfold hU at o
 refine enter Tryz.func62 zr zr ?_
 have j:=j.dup (i0+0) h0
 refine RC.sr (aP (vb false) (RL.ns (mv v0 (mv v1 ?_))))
 obtain⟨aa,ab,o⟩:=bd o
 refine RL.call zt zr Jv [v0,v1] zr (aD (rV N (i0:=0) j zr (h1.lift 1 zr) ab) ?_)
 rintro _ w ⟨rfl,j⟩
 refine ic aa 0 (aP (vb (decide (aa>=0))) (RL.nt (RC.ret ?_)))
 obtain rfl:=oi o
 exact bY ⟨rfl,j.drop 1⟩
def uW (E:World) (V:List HP) (b0:Nat) (v0_0 v0_1:Value) (v0_2 v0_3:Value) (v0_4 v0_5:Value) (v0_7 v0_8:Value) (v0_9 v0_10 v0_11:Value) (res: (List (List Int))) (v:Value) (w:World):Prop:=∃u0_6:Value,v = .tuple #[]/\Holds E w ([bc 54 b0 [v0_0,v0_1,v0_2,v0_3,v0_4,v0_5,u0_6,v0_7,v0_8,v0_9,v0_10,v0_11],own 51 u0_6 res]++V)
theorem um {p0_2: (List cE)} {p0_5: (List aK)} {p0_6: (List (List Int))} {res: (List (List Int))} (j:Holds E w (bc 54 b0 [v0_0,v0_1,v0_2,v0_3,v0_4,v0_5,v0_6,v0_7,v0_8,v0_9,v0_10,v0_11]::rd v0_2 p0_2::rd v0_5 p0_5::own 51 v0_6 p0_6::V)) (hb:kc N p0_2 p0_5 p0_6=some res):
    Calls bN 33 [(vp b0 0)].toArray w (gQ (uW E V b0 v0_0 v0_1 v0_2 v0_3 v0_4 v0_5 v0_7 v0_8 v0_9 v0_10 v0_11 res)):=by
 unfold kc at hb
 refine enter Tryz.func33 zr zr (RC.sr (mv (vp b0 0) (RL.nilCheck zr (RL.aZ zr uL (RL.aZ zr iw (RL.bK 0 v0_2 j nQ (RL.bC 1 p0_2 j wy (mv (vi 0) ?_))))))))
 refine RL.nt ?_
 obtain⟨af,hN,hb⟩:=bd hb
 refine RC.fold (fun(ai:Nat) (af: (List (List Int))) U w=>∃az:Value,SH E V [(0,vp b0 0),(11,v0_2),(12,vi p0_2.length),(13,vi ai)] [bc 54 b0 [v0_0,v0_1,v0_2,v0_3,v0_4,v0_5,az,v0_7,v0_8,v0_9,v0_10,v0_11],own 51 az af,rd v0_2 p0_2,rd v0_5 p0_5] U w) (fun(af: (List (List Int))) U w=>∃aq:Value,SH E V [(0,vp b0 0)] [bc 54 b0 [v0_0,v0_1,v0_2,v0_3,v0_4,v0_5,aq,v0_7,v0_8,v0_9,v0_10,v0_11],own 51 aq af,rd v0_2 p0_2,rd v0_5 p0_5] U w) hN ?_ ?_ ?_ ?_
 ·exact⟨v0_6,j.sp 4 [0,3,1,2]⟩
 ·rintro hm af _ w ⟨a4,O,rfl,j⟩
  refine RC.sr (ic ((p0_2.length:Int)) ((p0_2.length:Int)) (RL.nq (RC.fw sf (RC.ex ?_))))
  exact⟨rfl,a4,j.sp 4 [0,1,2,3]⟩
 ·rintro hm ai af s' _ w hk ⟨ah,O,rfl,j⟩ hb
  refine RC.sr (ic ((ai:Int)) ((p0_2.length:Int)) (RL.nq (RC.fu (sd hk) (RC.ss (RC.bs ?_)))))
  obtain⟨aj,a5,hb⟩:=bd hb
  refine RL.bM 2 j qE a5 fun bk j=>(RL.bF 0 aj j mf fun bl j=>(RL.alloc j EV.z fun ag w j=>?_))
  refine RL.bZ 0 j 1 zr mf fun w j=>?_
  refine RL.ns (aP (.slice none 0 0) (RL.nq (RC.sr (mv (vp b0 0) (RL.nilCheck zr (RL.aZ zr wB (RL.bK 3 v0_5 j EY (RL.bC 6 p0_5 j HG ?_))))))))
  refine mv (vi 0) (RL.nt ?_)
  have j:=j.lf (i:=0) rfl
  obtain⟨ak,hN,hb⟩:=bd hb
  refine RC.fold (fun(ab:Nat) (ak: (List Int)) U w=>∃a0:Value,SH E V [(0,vp b0 0),(3,vp ag 0),(4,a0),(11,v0_2),(12,vi p0_2.length),(13,vi ai),(20,v0_5),(21,vi p0_5.length),(22,vi ab)] [bc 54 b0 [v0_0,v0_1,v0_2,v0_3,v0_4,v0_5,ah,v0_7,v0_8,v0_9,v0_10,v0_11],rd v0_2 p0_2,rd v0_5 p0_5,own 51 ah af,pt (vp ag 0) aj,own 3 a0 ak] U w) (fun(ak: (List Int)) U w=>∃ao:Value,SH E V [(0,vp b0 0),(4,ao),(11,v0_2),(12,vi p0_2.length),(13,vi ai)] [bc 54 b0 [v0_0,v0_1,v0_2,v0_3,v0_4,v0_5,ah,v0_7,v0_8,v0_9,v0_10,v0_11],rd v0_2 p0_2,rd v0_5 p0_5,own 51 ah af,pt (vp ag 0) aj,own 3 ao ak] U w) hN ?_ ?_ ?_ ?_
  ·have j:=j.cQ Int 3
   exact⟨(.slice none 0 0),j.sp 8 [4,6,7,5,1,0]⟩
  ·rintro hm ak _ w ⟨a6,O,rfl,j⟩
   refine RC.sr (ic ((p0_5.length:Int)) ((p0_5.length:Int)) (RL.nq (RC.fw sf (RC.ex ?_))))
   exact⟨rfl,a6,j.sp 6 [0,1,2,3,4,5]⟩
  ·rintro hm ab ak s' _ w hk ⟨ar,O,rfl,j⟩ hb
   refine RC.sr (ic ((ab:Int)) ((p0_5.length:Int)) (RL.nq (RC.fu (sd hk) (RC.ss (RC.bs (mv (vi ab) ?_))))))
   obtain⟨aw,a7,hb⟩:=bd hb
   refine RL.bM 2 j IZ a7 fun bm j=>(RL.bF 0 aw j Gs fun bn j=>(RL.alloc j I0.z fun bo w j=>?_))
   refine aP (vi ab) (RL.bZ 0 j 1 zr Gs fun w j=>?_)
   refine RL.nq ?_
   obtain⟨ax,o,hb⟩:=bd hb
   refine RC.jn (fun(ax:Bool)=>SH E V [(0,vp b0 0),(3,vp ag 0),(4,ar),(5,vi ab),(11,v0_2),(12,vi p0_2.length),(13,vi ai),(20,v0_5),(21,vi p0_5.length),(22,vi ab),(40,vb ax)] [bc 54 b0 [v0_0,v0_1,v0_2,v0_3,v0_4,v0_5,ah,v0_7,v0_8,v0_9,v0_10,v0_11],rd v0_2 p0_2,rd v0_5 p0_5,own 51 ah af,pt (vp ag 0) aj,own 3 ar ak]) ax ?_ ?_
   ·refine RC.region (RL.dN 7 j zr yo qt fun bp j=>(RL.bB aj.fY 0 j BN (mv (vb aj.fY) (fN o (fun ad o=>?_) fun ad o=>?_))))
    rotate_left
    ·refine bJ ad (bJ ad (bJ ad (bJ ad (fU ad (vb false) (mv (vb false) (jR (jR (jR ?_))))))))
     refine jR (RL.pick false (vb false) zr (RL.nil ?_))
     obtain rfl:=oi o
     exact⟨rfl,j.sp 10 [4,5,6,7,8,9]⟩
    refine RL.bF (hg:=(cg ad)) 8 aj j mf fun a8 j=>(RL.aZ (hg:=(cg ad)) zr EZ (RL.aM (hg:=(cg ad)) 2 j zr oG cG ?_))
    obtain⟨a1,a9,o⟩:=bd o
    refine RL.call (cg ad) zr Kh [a8,(vi aw.cK)] zr (aD (oM N (p1:=aw.cK) (i0:=0) j zr a9) ?_)
    rintro _ w ⟨rfl,j⟩
    refine fU ad (vb a1) (mv (vb a1) (fN o (fun ae o=>?_) fun ae o=>?_))
    rotate_left
    ·refine bJ ae (bJ ae (bJ ae (bJ ae (fU ae (vb false) (RL.nil ?_)))))
     obtain rfl:=oi o
     exact⟨rfl,j.sp 11 [5,6,7,8,9,10]⟩
    refine RL.aZ (hg:=(cg ae)) zr E0 (RL.bG (hg:=(cg ae)) 2 j zr oH q9 fun ba j=>(RL.makeFunc (cg ae) zr [(vp ag 0)] zr ?_))
    obtain⟨bb,bf,o⟩:=bd o
    refine RL.call (cg ae) rfl Lv [ba,(.func (.func 63) #[] #[(vp ag 0)])] rfl (aD (ml N (i0:=0) j rfl ⟨63,[(vp ag 0)],rfl,MV,fun w Γl v y0 r i j hi hr=>by exact aD (rX N (i0:=i) (i1:=Γl.length+10) j hi (Cd rfl) hr) fun _ _ h=>h⟩ bf) ?_)
    rintro _ w ⟨rfl,j⟩
    refine fU ae (vb bb) (RL.nil ?_)
    obtain rfl:=oi o
    exact⟨rfl,j.sp 12 [6,7,8,9,10,11]⟩
   rintro _ w ⟨O,rfl,j⟩
   refine aG ?_
   obtain⟨ay,o,hb⟩:=bd hb
   refine RC.jn (fun(ay: (List Int)) U w=>∃au:Value,SH E V [(0,vp b0 0),(3,vp ag 0),(4,au),(11,v0_2),(12,vi p0_2.length),(13,vi ai),(20,v0_5),(21,vi p0_5.length),(22,vi ab)] [bc 54 b0 [v0_0,v0_1,v0_2,v0_3,v0_4,v0_5,ah,v0_7,v0_8,v0_9,v0_10,v0_11],rd v0_2 p0_2,rd v0_5 p0_5,own 51 ah af,pt (vp ag 0) aj,own 3 au ay] U w) ay ?_ ?_
   ·refine dX o (fun hc o=>?_) fun hc o=>?_
    rotate_left
    ·refine RC.skip ?_
     obtain rfl:=oi o
     exact⟨rfl,ar,j.sp 6 [0,1,2,3,4,5]⟩
    refine RC.region (mv ar (mv (vi ab) ?_))
    have j:=j.sc Int (ab:Int)
    refine RL.dQ ([(ab:Int)]: (List Int)) j [(vi ab)] eD CX (fun M hs g=>⟨(g.sat 0 _ zr).1,zt⟩) fun bq w j=>?_
    have j:=j.freeze 0
    obtain⟨br,bh,o⟩:=bd o
    refine RL.app 7 0 j rh bh fun a2 w j=>?_
    refine aP a2 (RL.nil ?_)
    obtain rfl:=oi o
    exact⟨rfl,a2,j.sp 8 [2,3,4,5,6,7]⟩
   rintro _ w ⟨au,O,rfl,j⟩
   refine bO (aG (RC.region (RL.inc hk hm (mv (vi ((ab+1:Nat):Int)) (RL.nil ?_)))))
   obtain rfl:=oi hb
   exact⟨rfl,au,j.sp 6 [0,1,2,3,4,5]⟩
  rintro _ w ⟨ao,O,rfl,j⟩
  refine aG (RC.region (mv (vp b0 0) (mv (vp b0 0) (RL.nilCheck zr (RL.aZ zr E1 (RL.bK 0 ah j zn (mv ao ?_)))))))
  have j:=j.freeze 5
  refine RL.dQ ([ak]: (List (List Int))) j [ao] Aa Kl (fun M hs g=>⟨(g.sat 5 _ zr).1,zt⟩) fun bt w j=>?_
  have j:=j.freeze 0
  obtain⟨bu,bj,hb⟩:=bd hb
  refine RL.app 4 0 j Km bj fun a3 w j=>?_
  refine RL.nilCheck zr (RL.aZ zr E1 (RL.iB 1 a3 j zr zr (iS 4 j) zn fun w j=>?_))
  refine RL.nil (bO (aG (RC.region (RL.inc hk hm (mv (vi ((ai+1:Nat):Int)) (RL.nil ?_))))))
  obtain rfl:=oi hb
  exact⟨rfl,a3,j.sp 7 [1,4,2,3]⟩
 rintro _ w ⟨aq,O,rfl,j⟩
 obtain rfl:=oi hb
 refine CZ ?_
 exact IB zr ⟨aq,zr,j.pk 4 [0,1]⟩
def wJ (E:World) (V:List HP) (res: ((List Int))) (v:Value) (w:World):Prop:=∃(ub0:Nat) (u0_0:Value),v=vp ub0 0/\Holds E w ([bc 148 ub0 [u0_0],own 3 u0_0 res]++V)
theorem vU {res: ((List Int))} (j:Holds E w V) (hb:lq N p0=some res):
    Calls bN 65 [(vi p0)].toArray w (gQ (wJ E V res)):=by
 unfold lq at hb
 refine enter Tryz.func65 zr zr (RC.sr (aP (.pointer none) (RL.ns (mv (vi p0) ?_))))
 obtain⟨af,aj,hb⟩:=bd hb
 refine RL.mk p0 j rh K3 aj fun o w j=>?_
 refine RL.EJ [(.slice none 0 0)] [o] zr [(0,o)] zr Lw ⟨(iS 0 j),zt⟩ zr (RL.Ci [o] zr j zr (w5.all (⟨(iS 0 j),zt⟩:w5 [o])) fun ab w j=>?_)
 refine aP (vp ab 0) (RL.nq (RC.sr (mv (vp ab 0) (RL.nilCheck zr (RL.aZ zr p5 (RL.bK 0 o j fM (RL.fS 1 af j mw (mv (vi 0) ?_))))))))
 refine RL.nt ?_
 obtain⟨ae,hN,hb⟩:=bd hb
 refine RC.fold (fun(ad:Nat) (ae: (List Int))=>SH E V [(3,vp ab 0),(13,vi af.length),(14,vi ad)] [bc 148 ab [o],own 3 o ae]) (fun(ae: (List Int))=>SH E V [(3,vp ab 0)] [bc 148 ab [o],own 3 o ae]) hN ?_ ?_ ?_ ?_
 ·exact j.sp 2 [0,1]
 ·rintro hm ae _ w ⟨O,rfl,j⟩
  refine RC.sr (ic ((af.length:Int)) ((af.length:Int)) (RL.nq (RC.fw sf (RC.ex ?_))))
  exact⟨rfl,j.sp 2 [0,1]⟩
 ·rintro hm ad ae s' _ w hk ⟨O,rfl,j⟩ hb
  refine RC.sr (ic ((ad:Int)) ((af.length:Int)) (RL.nq (RC.fu (sd hk) (RC.ss (RC.bs (mv (vi ad) (aP (vi ad) (RL.nt ?_))))))))
  refine RC.region (mv (vp ab 0) (RL.nilCheck zr (RL.aZ zr p5 (RL.bK 0 o j fM (mv (vi ad) (mv (vi ad) ?_))))))
  obtain⟨al,ag,hb⟩:=bd hb
  refine RL.bS 1 j zr zr eD ag ?_
  have j:=j.sc Int (ad:Int)
  refine RL.gR (f:=(fun _ y=>y)) 2 0 j (jJ 2 j ag 0) (bI ag).2.1 zr Fs.self cG fun w j=>?_
  refine RL.nil (bO (aG (RC.region (RL.inc hk hm (mv (vi ((ad+1:Nat):Int)) (RL.nil ?_))))))
  obtain rfl:=oi hb
  exact⟨rfl,j.sp 3 [1,2]⟩
 rintro _ w ⟨O,rfl,j⟩
 refine aG (RC.sr (mv (vp ab 0) (aP (vp ab 0) (RL.nt (RC.ret ?_)))))
 obtain rfl:=oi hb
 exact bY ⟨ab,o,zr,j.pk 2 [0,1]⟩
def vV (E:World) (V:List HP) (b0:Nat) (res:Int×(List Int)) (v:Value) (w:World):Prop:=∃u0_0:Value,v= (vi res.1)/\Holds E w ([bc 148 b0 [u0_0],own 3 u0_0 res.2]++V)
theorem mL {p0_0: (List Int)} {res:Int×(List Int)} (j:Holds E w (bc 148 b0 [v0_0]::own 3 v0_0 p0_0::V)) (o:gY N p0_0 p1=some res):
    Calls bN 104 [(vp b0 0),(vi p1)].toArray w (gQ (vV E V b0 res)):=by
 unfold gY at o
 refine enter Tryz.func104 zr zr (RC.sr (aP (vi 0) (RL.nq ?_)))
 obtain⟨an,hN,o⟩:=bd o
 refine RC.iter (fun(aa: (List Int)×Int)=>SH E V [(0,vp b0 0),(1,vi aa.2)] [bc 148 b0 [v0_0],own 3 v0_0 aa.1]) (fun(aa: (List Int)×Int)=>SH E V [(0,vp b0 0),(1,vi aa.2)] [bc 148 b0 [v0_0],own 3 v0_0 aa.1]) (fun(r:Empty) _ _=>r.elim) hN ?_ ?_ ?_ ?_
 ·exact j.sp 2 [0,1]
 ·rintro aa fl _ w ⟨O,rfl,j⟩ o
  refine RC.seq (RC.sr (mv (vp b0 0) (RL.nilCheck zr (RL.aZ zr p5 (RL.bK 0 v0_0 j fM (mv (vi aa.2) ?_))))))
  obtain⟨ai,ab,o⟩:=bd o
  refine RL.bS 1 j zr zr eD ab (RL.dR (f:=(fun x=>x)) 1 j (jJ 1 j ab 0) (bI ab).2.1 Fd.self cG (mv (vi aa.2) (ic ai aa.2 (RL.nt (dX o (fun hc o=>?_) fun hc o=>?_)))))
  rotate_left
  ·refine RC.ex ?_
   obtain rfl:=oi o
   exact⟨rfl,j.sp 2 [0,1]⟩
  refine RC.sn (RC.block (RC.seq (RC.vH mixed [0,0,0,0,0,0,0,0,0,0,0,0,0,0,0,0,0,0,0,2] [0,1,2,3,4,5,6,7,8,9,10,11,12,13,14,15,16,17,18,19] ?_)))
  have j:=j.drew
  refine DP.e0 zr (mv (vp b0 0) (aY zr (RL.nilCheck zr (aY zr (RL.aZ zr p5 (aY zr (RL.bK 0 v0_0 j fM (aY zr ?_))))))))
  refine mv (vi aa.2) (aY zr (mv (vp b0 0) (aY zr (RL.nilCheck zr (aY zr (RL.aZ zr p5 (aY zr (RL.bK 0 v0_0 j fM ?_))))))))
  refine aY zr (mv (vp b0 0) (aY zr (RL.nilCheck zr (aY zr (RL.aZ zr p5 (aY zr (RL.bK 0 v0_0 j fM (aY zr ?_))))))))
  refine mv (vi aa.2) (aY zr ?_)
  obtain⟨aq,ad,o⟩:=bd o
  refine RL.bS 1 j zr zr eD ad (aY zr (RL.dR (f:=(fun x=>x)) 1 j (jJ 1 j ad 0) (bI ad).2.1 Fd.self cG (aY zr ?_)))
  obtain⟨ak,ae,o⟩:=bd o
  refine RL.bS 1 j zr zr eD ae (aY zr (RL.dR (f:=(fun x=>x)) 1 j (jJ 1 j ae 0) (bI ae).2.1 Fd.self cG (aY zr ?_)))
  obtain⟨ar,af,o⟩:=bd o
  refine RL.bS 1 j zr zr eD af (oN zr ?_)
  have j:=j.sc Int ak
  refine RL.gR (f:=(fun _ y=>y)) 2 0 j (jJ 2 j af 0) (bI af).2.1 zr Fs.self cG fun w j=>?_
  refine DP.d2 zt (DP.z (aG (RC.region (mv (vp b0 0) (RL.nilCheck zr (RL.aZ zr p5 (RL.bK 1 v0_0 j fM (mv (vi aa.2) ?_))))))))
  obtain⟨al,ag,o⟩:=bd o
  refine RL.bS 2 j zr zr eD ag (RL.dR (f:=(fun x=>x)) 2 j (jJ 2 j ag 0) (bI ag).2.1 Fd.self cG (aP (vi al) (RL.nil (bO ?_))))
  obtain rfl:=oi o
  exact⟨rfl,j.sp 3 [1,2]⟩
 ·intro r _ _ _ _
  exact r.elim
 rintro aa _ w rfl ⟨O,rfl,j⟩
 rw [Fo.dB] at o
 refine aG (RC.sr (mv (vi aa.2) (aP (vi aa.2) (RL.nt (RC.ret ?_)))))
 obtain rfl:=oi o
 exact bY ⟨v0_0,zr,j.pk 2 [0,1]⟩
def uX (E:World) (V:List HP) (b0:Nat) (res: (List Int)) (v:Value) (w:World):Prop:=∃u0_0:Value,v = .tuple #[]/\Holds E w ([bc 148 b0 [u0_0],own 3 u0_0 res]++V)
theorem uo {p0_0: (List Int)} {res: (List Int)} (j:Holds E w (bc 148 b0 [v0_0]::own 3 v0_0 p0_0::V)) (o:iv N p0_0 p1 p2=some res):
    Calls bN 66 [(vp b0 0),(vi p1),(vi p2)].toArray w (gQ (uX E V b0 res)):=by
 unfold iv at o
 refine enter Tryz.func66 zr zr (RC.sr (mv (vp b0 0) (mv (vi p1) ?_)))
 have j:=(j.pull 1).pull 1
 obtain⟨aa,af,o⟩:=bd o
 refine RL.call zt zr HH [(vp b0 0),(vi p1)] zr (aD (mL N (p1:=p1) j af) ?_)
 rintro _ w ⟨ah,rfl,j⟩
 refine mv (vp b0 0) (mv (vi p2) ?_)
 have j:=(j.pull 1).pull 1
 obtain⟨ab,ag,o⟩:=bd o
 refine RL.call zt zr HH [(vp b0 0),(vi p2)] zr (aD (mL N (p1:=p2) j ag) ?_)
 rintro _ w ⟨ae,rfl,j⟩
 refine aP (vi aa.1) (aP (vi ab.1) (RL.nt (RC.region (mv (vp b0 0) (RL.nilCheck zr (RL.aZ zr p5 (RL.bK 0 ae j fM (mv (vi aa.1) ?_))))))))
 refine mv (vi ab.1) (RL.max aa.1 ab.1 (mv (vi aa.1) (mv (vi ab.1) (RL.min aa.1 ab.1 ?_))))
 obtain⟨ai,ad,o⟩:=bd o
 refine RL.bS 1 j zr zr eD ad ?_
 have j:=j.sc Int (if ab.1<aa.1 then ab.1 else aa.1)
 refine RL.gR (f:=(fun _ y=>y)) 2 0 j (jJ 2 j ad 0) (bI ad).2.1 zr Fs.self cG fun w j=>?_
 refine RL.nil ?_
 obtain rfl:=oi o
 refine CZ ?_
 exact IB zr ⟨ae,zr,j.pk 7 [1,2]⟩
def uY (E:World) (V:List HP) (b0:Nat) (res: (List (List Int))×(List Int)) (v:Value) (w:World):Prop:=∃u0 u0_0:Value,v=u0/\Holds E w ([own 51 u0 res.1,bc 148 b0 [u0_0],own 3 u0_0 res.2]++V)
theorem uq {p0_0: (List Int)} {res: (List (List Int))×(List Int)} (o:Holds E w (bc 148 b0 [v0_0]::own 3 v0_0 p0_0::V)) (hb:kd N p0_0=some res):
    Calls bN 67 [(vp b0 0)].toArray w (gQ (uY E V b0 res)):=by
 unfold kd at hb
 refine enter Tryz.func67 zr zr (RC.sr (aP (.slice none 0 0) (RL.ns (aP (.slice none 0 0) (RL.ns (RL.makeMap (κ:=Int) (ν:=Int) zt zr o fun aq w o=>(aP aq (RL.nq ?_))))))))
 refine RC.sr (mv (vp b0 0) (RL.nilCheck zr (RL.aZ zr p5 (RL.bK 1 v0_0 o fM (RL.fS 2 p0_0 o mw (mv (vi 0) (RL.nt ?_)))))))
 obtain⟨ao,hN,hb⟩:=bd hb
 refine RC.fold (fun(ai:Nat) (ao: (List Int)×(List (List Int))×(List (Int×Int))) U w=>∃(a4 a5:Value) (us110:List RV),SH E V [(0,vp b0 0),(3,a5),(4,aq),(12,vi p0_0.length),(13,vi ai)] [bc 148 b0 [a4],own 3 a4 ao.1,mp aq ao.2.2,own 51 a5 us110,iz (XS 3 Int) us110 ao.2.1 none] U w) (fun(ao: (List Int)×(List (List Int))×(List (Int×Int))) U w=>∃(ax av:Value) (us113:List RV),SH E V [(0,vp b0 0),(3,av)] [bc 148 b0 [ax],own 3 ax ao.1,mp aq ao.2.2,own 51 av us113,iz (XS 3 Int) us113 ao.2.1 none] U w) hN ?_ ?_ ?_ ?_
 ·have o:=(o.zA (XS 3 Int)).cQ RV 51
  exact⟨v0_0,(.slice none 0 0),([]:List RV),o.sp 5 [3,4,2,0,1]⟩
 ·rintro hm ao _ w ⟨bb,bf,us153,O,rfl,o⟩
  refine RC.sr (ic ((p0_0.length:Int)) ((p0_0.length:Int)) (RL.nq (RC.fw sf (RC.ex ?_))))
  exact⟨rfl,bb,bf,us153,o.sp 5 [0,1,2,3,4]⟩
 ·rintro hm ai ao s' _ w hk ⟨bl,a1,us116,O,rfl,o⟩ hb
  refine RC.sr (ic ((ai:Int)) ((p0_0.length:Int)) (RL.nq (RC.fu (sd hk) (RC.ss (RC.bs (mv (vi ai) (aP (vi ai) (RL.ns ?_))))))))
  refine mv (vp b0 0) (mv (vi ai) ?_)
  have o:=(o.pull 1).pull 1
  obtain⟨ab,bg,hb⟩:=bd hb
  refine RL.call zt zr HH [(vp b0 0),(vi ai)] zr (aD (mL N (p1:=(ai:Int)) o bg) ?_)
  rintro _ w ⟨aw,rfl,o⟩
  refine aP (vi ab.1) (RL.nq (RC.sr (mv (vi ab.1) (mv (vi ai) (ic ab.1 ((ai:Int)) (RL.nt ?_))))))
  obtain⟨aa,hj,hb⟩:=bd hb
  refine RC.jn (fun(aa: (List (List Int))×(List (Int×Int))) U w=>∃(an:Value) (us124:List RV),SH E V [(0,vp b0 0),(3,an),(4,aq),(5,vi ai),(6,vi ab.1),(12,vi p0_0.length),(13,vi ai)] [bc 148 b0 [aw],own 3 aw ab.2,mp aq aa.2,own 51 an us124,iz (XS 3 Int) us124 aa.1 none] U w) aa ?_ ?_
  ·refine dX hj (fun hc hj=>?_) fun hc hj=>?_
   rotate_left
   ·refine RC.skip ?_
    obtain rfl:=oi hj
    exact⟨rfl,a1,us116,o.sp 7 [0,1,4,5,6]⟩
   refine RC.sr (mv aq (mv (vi ai) (mv a1 (RL.sg 5 6 ao.2.1 o Gt ?_))))
   have o:=o.sc Int (ao.2.1.length:Int)
   refine RL.mapUpdate 5 0 (ai:Int) zt o zr zr zr zr zr DK fun w o=>(RL.nt (RC.region (mv a1 ?_)))
   have o:=(o.cQ Int 3).BF (i:=0) rfl
   refine RL.dQ ([rv (.slice none 0 0)]:List RV) o [(.slice none 0 0)] Aa Kl (fun M hs g=>⟨(g.sat 0 _ zr).1,zt⟩) fun bm w o=>?_
   obtain⟨bn,bj,hj⟩:=bd hj
   have o:=o.freeze 0
   refine RL.Dk 9 0 10 2 zt zr o zr zr zr zr zr zr Km bj fun a8 w o=>?_
   refine aP a8 (RL.nil ?_)
   obtain rfl:=oi hj
   exact⟨rfl,a8,(us116++[rv (.slice none 0 0)]),o.sp 11 [4,5,8,9,10]⟩
  rintro _ w ⟨an,us124,O,rfl,o⟩
  refine aG ?_
  obtain⟨bo,ay,hb⟩:=bd hb
  obtain⟨au,bk,hb⟩:=bd hb
  obtain⟨bp,a2,hb⟩:=bd hb
  refine RC.ER E V mixed [1,1,1,0,1,1,1,0,0,0,1,0,0,0,0] [11,12,14] (fun(x:Value×Value)=>(fun ak ag=>[(0,29,an),(1,30,aq),(2,31,(vi ab.1)),(3,32,(vi (jA aa.2 ab.1 (0:Int)))),(4,33,an),(5,34,aq),(6,35,(vi ab.1)),(7,36,(vi (jA aa.2 ab.1 (0:Int)))),(8,37,(zi an (Int.toNat (jA aa.2 ab.1 (0:Int))) 1 0)),(9,38,(us124.getD (Int.toNat (jA aa.2 ab.1 (0:Int))) CU).v),(10,39,(vi ai)),(11,40,ak),(12,41,ag),(13,42,(zi an (Int.toNat (jA aa.2 ab.1 (0:Int))) 1 0))]) x.1 x.2) [(0,vp b0 0),(3,an),(4,aq),(5,vi ai),(6,vi ab.1),(12,vi p0_0.length),(13,vi ai)] [] (fun(D:Nat->Bool) (x:Value×Value)=>(fun ak ag=>[bif D 1 then (rd ak ([(ai:Int)]: (List Int))) else (bif D 0 then (own 3 ak ([(ai:Int)]: (List Int))) else aX),bif D 2 then aX else (bif D 1 then (own 3 ag au) else aX),bc 148 b0 [aw],own 3 aw ab.2,mp aq aa.2,bif D 2 then (own 51 an (us124.set (Int.toNat (jA aa.2 ab.1 (0:Int))) (rv ag))) else (own 51 an us124),bif D 2 then (iz (XS 3 Int) (us124.set (Int.toNat (jA aa.2 ab.1 (0:Int))) (rv ag)) (aa.1.set (Int.toNat (jA aa.2 ab.1 (0:Int))) au) none) else (bif D 1 then (iz (XS 3 Int) us124 aa.1 (some (Int.toNat (jA aa.2 ab.1 (0:Int))))) else (iz (XS 3 Int) us124 aa.1 none))]) x.1 x.2) (fun x=>by kernel_rfl) ?_ ⟨fun _=>je gn,fun _=>je gn,fun _=>je gn,?_,fun _=>je gn,fun _=>je gn,fun _=>je gn,?_,?_,?_,fun _=>je gn,?_,?_,?_,?_,trivial⟩ ?_
  ·have o:=((o.drew).aX).aX
   exact⟨(undef,undef),eU.none,(DB zr),zt,o⟩
  ·rintro D U w hD ah ae ⟨⟨ak,ag⟩,hv,ha,_,o⟩
   obtain⟨O,rfl⟩:=(ac (hv.at 1 rfl (ah.1 rfl)) (ac (hv.at 2 rfl (ah.2.1 rfl)) az)).eN
   refine RL.Dc 4 ab.1 zt zr o zr zr zr DK ?_
   exact RL.nil ⟨rfl,(ak,ag),hv.pu 3,ha.u,zt,o⟩
  ·rintro D U w hD ah ae ⟨⟨ak,ag⟩,hv,ha,_,o⟩
   obtain⟨O,rfl⟩:=(ac (hv.at 5 rfl (ah.1 rfl)) (ac (hv.at 6 rfl (ah.2.1 rfl)) az)).eN
   refine RL.Dc 4 ab.1 zt zr o zr zr zr DK ?_
   exact RL.nil ⟨rfl,(ak,ag),hv.pu 7,ha.u,zt,o⟩
  ·rintro D U w hD ah ae ⟨⟨ak,ag⟩,hv,ha,_,o⟩
   obtain⟨O,rfl⟩:=(ac (hv.at 4 rfl (ah.1 rfl)) (ac (hv.at 7 rfl (ah.2.1 rfl)) az)).eN
   have o:=((o.bX 5 (nh ae hD 14)).bX 6 (nh ae hD 14)).bX 6 (nf (fun h=>ft hD ((ae 9 _ rfl ((ae 12 _ rfl h).1 rfl)).1 rfl)))
   have hl141:=o.eE 6
   have hr142:=fT CU hl141 ay
   refine RL.bS 5 o zr zr Aa hr142 ?_
   have o:=(o.eY 5 (D 14) (nh ae hD 14) (own 51 an (us124.set (Int.toNat (jA aa.2 ab.1 (0:Int))) (rv ag)))).eY 6 (D 12) (nf (fun h=>ft hD ((ae 9 _ rfl ((ae 12 _ rfl h).1 rfl)).1 rfl))) (iz (XS 3 Int) us124 aa.1 (some (Int.toNat (jA aa.2 ab.1 (0:Int)))))
   have o:=o.eY 6 (D 14) (nh ae hD 14) (iz (XS 3 Int) (us124.set (Int.toNat (jA aa.2 ab.1 (0:Int))) (rv ag)) (aa.1.set (Int.toNat (jA aa.2 ab.1 (0:Int))) au) none)
   exact RL.nil ⟨rfl,(ak,ag),hv.pu 8,ha.u,zt,o⟩
  ·rintro D U w hD ah ae ⟨⟨ak,ag⟩,hv,ha,_,o⟩
   obtain⟨O,rfl⟩:=(ac (hv.at 8 rfl (ah.1 rfl)) az).eN
   have o:=((o.bX 5 (nh ae hD 14)).bX 6 (nh ae hD 14)).bX 6 (nh ae hD 12)
   have hl143:=o.eE 6
   have hr144:=fT CU hl143 ay
   refine RL.vk 5 6 (jA aa.2 ab.1 (0:Int)) (BE 3 Int) CU zr o zr (jJ 5 o hr144 0) zr zr ay fM ?_
   have o:=(o.eY 5 (D 14) (nh ae hD 14) (own 51 an (us124.set (Int.toNat (jA aa.2 ab.1 (0:Int))) (rv ag)))).eY 6 (D 12) (nh ae hD 12) (iz (XS 3 Int) us124 aa.1 (some (Int.toNat (jA aa.2 ab.1 (0:Int)))))
   have o:=o.eY 6 (D 14) (nh ae hD 14) (iz (XS 3 Int) (us124.set (Int.toNat (jA aa.2 ab.1 (0:Int))) (rv ag)) (aa.1.set (Int.toNat (jA aa.2 ab.1 (0:Int))) au) none)
   exact RL.nil ⟨rfl,(ak,ag),hv.pu 9,ha.u,zt,o⟩
  ·rintro D U w hD ah ae ⟨⟨ak,ag⟩,hv,ha,_,o⟩
   obtain⟨O,rfl⟩:=(ac (hv.at 10 rfl (ah.1 rfl)) az).eN
   have o:=((o.bX 0 (nh ae hD 12)).bX 0 hD).sc Int (ai:Int)
   refine RL.dQ ([(ai:Int)]: (List Int)) o [(vi ai)] eD CX (fun M hs g=>⟨(g.sat 0 _ zr).1,zt⟩) fun a9 w o=>?_
   have o:=((o.pl 9 [0,3,4,5,6,7,8]).cD 0 true rfl aX).eY 0 (D 12) (nh ae hD 12) (rd a9 ([(ai:Int)]: (List Int)))
   exact RL.nil ⟨rfl,(a9,ag),hv.pu 11,ha.u,zt,o⟩
  ·rintro D U w hD ah ae ⟨⟨ak,ag⟩,hv,ha,_,o⟩
   obtain⟨O,rfl⟩:=(ac (hv.at 9 rfl (ah.1 rfl)) (ac (hv.at 11 rfl (ah.2.1 rfl)) az)).eN
   have o:=(((((((o.bX 0 hD).cC 0 (ah.2.1 rfl)).bX 1 (nh ae hD 14)).bX 1 hD).bX 5 (nh ae hD 14)).bX 6 (nh ae hD 14)).bX 6 hD).zS (j:=6) (jj:=(jA aa.2 ab.1 (0:Int))) (BE 3 Int) CU rfl ay
   have o:=o.freeze 1
   refine RL.app 0 1 o rh bk fun a3 w o=>?_
   have o:=((((o.pl 8 [1,0,3,4,5,6,7]).cD 0 true rfl (bif D 11 then (own 3 ak ([(ai:Int)]: (List Int))) else aX)).cD 1 true rfl aX).eY 1 (D 14) (nh ae hD 14) aX).eY 5 (D 14) (nh ae hD 14) (own 51 an (us124.set (Int.toNat (jA aa.2 ab.1 (0:Int))) (rv a3)))
   have o:=(o.cD 6 true rfl (iz (XS 3 Int) us124 aa.1 none)).eY 6 (D 14) (nh ae hD 14) (iz (XS 3 Int) (us124.set (Int.toNat (jA aa.2 ab.1 (0:Int))) (rv a3)) (aa.1.set (Int.toNat (jA aa.2 ab.1 (0:Int))) au) none)
   exact RL.nil ⟨rfl,(ak,a3),hv.pu 12,ha.u,zt,o⟩
  ·rintro D U w hD ah ae ⟨⟨ak,ag⟩,hv,ha,_,o⟩
   obtain⟨O,rfl⟩:=(ac (hv.at 0 rfl (ah.1 rfl)) (ac (hv.at 3 rfl (ah.2.1 rfl)) az)).eN
   have o:=((o.bX 5 (nh ae hD 14)).bX 6 (nh ae hD 14)).cC 6 (ah.2.2.2.2.2.2.2.2.2.2.2.2.2.2.1 rfl)
   have hl147:=o.eE 6
   have hr148:=fT CU hl147 a2
   refine RL.bS 5 o zr zr Aa hr148 ?_
   have o:=(o.eY 5 (D 14) (nh ae hD 14) (own 51 an (us124.set (Int.toNat (jA aa.2 ab.1 (0:Int))) (rv ag)))).cD 6 (D 12) (ah.2.2.2.2.2.2.2.2.2.2.2.2.2.2.1 rfl) (iz (XS 3 Int) us124 aa.1 none)
   have o:=o.eY 6 (D 14) (nh ae hD 14) (iz (XS 3 Int) (us124.set (Int.toNat (jA aa.2 ab.1 (0:Int))) (rv ag)) (aa.1.set (Int.toNat (jA aa.2 ab.1 (0:Int))) au) none)
   exact RL.nil ⟨rfl,(ak,ag),hv.pu 13,ha.u,zt,o⟩
  ·rintro D U w hD ah ae ⟨⟨ak,ag⟩,hv,ha,_,o⟩
   obtain⟨O,rfl⟩:=(ac (hv.at 12 rfl (ah.2.1 rfl)) (ac (hv.at 13 rfl (ah.1 rfl)) az)).eN
   have o:=((((o.bX 1 hD).cC 1 (ah.2.1 rfl)).bX 5 hD).bX 6 hD).cC 6 (ah.2.1 rfl)
   have hl149:=o.eE 6
   have hr150:=fT CU hl149 a2
   refine RL.tr 5 6 1 (jA aa.2 ab.1 (0:Int)) (BE 3 Int) CU o zr zr (jJ 5 o hr150 0) zr zr zr a2 fM fun w o=>?_
   have o:=((o.cD 1 true rfl (bif D 12 then (own 3 ag au) else aX)).cD 5 true rfl (own 51 an us124)).cD 6 true rfl (bif D 12 then (iz (XS 3 Int) us124 aa.1 (some (Int.toNat (jA aa.2 ab.1 (0:Int))))) else (iz (XS 3 Int) us124 aa.1 none))
   exact RL.nil ⟨rfl,(ak,ag),hv.n1,ha,zt,o⟩
  rintro D U w a0 ⟨⟨ak,ag⟩,hv,ha,_,o⟩
  have o:=(((o.cC 0 (jQ a0 12)).cC 1 (jQ a0 14)).cC 5 (jQ a0 14)).cC 6 (jQ a0 14)
  obtain⟨O,rfl⟩:=(ac (ha.at 0 rfl) (ac (ha.at 1 rfl) (ac (ha.at 2 rfl) (ac (ha.at 3 rfl) (ac (ha.at 4 rfl) (ac (ha.at 5 rfl) (ac (ha.at 6 rfl) az))))))).eN
  refine bO (aG (RC.region (RL.inc hk hm (mv (vi ((ai+1:Nat):Int)) (RL.nil ?_)))))
  obtain rfl:=oi hb
  exact⟨rfl,aw,an,(us124.set (Int.toNat (jA aa.2 ab.1 (0:Int))) (rv ag)),o.sp 7 [2,3,4,5,6]⟩
 rintro _ w ⟨ax,av,us113,O,rfl,o⟩
 refine aG (RC.sr (mv av (aP av (RL.nt (RC.ret ?_)))))
 obtain rfl:=oi hb
 have o:=o.zB (X:=(XS 3 Int)) (b:=4) (j:=3) rfl (fun M h u x cs=>(Js 3) M h u x cs) rfl rfl (by decide)
 exact bY ⟨av,ax,zr,o.pk 5 [3,0,1]⟩
theorem uu {p0:aI} {p1:eQ} {res:Bool} (j:Holds E w V) (h0:V[i0]? =some (rd v0 p0)) (h1:V[i1]? =some (pt v1 p1)) (hb:lK N p0 p1=some res):
    Calls bN 127 [v0,v1].toArray w (gQ (aU E V res)):=by
 unfold lK at hb
 refine enter Tryz.func127 zr zr ?_
 have j:=(j.dup (i0+0) h0).Cf (i:=i1+1) h1
 refine RC.sr (RL.dK 1 v0 j zr fun ag w j=>?_)
 refine aP (vb false) (RL.nq ?_)
 obtain⟨af,o,hb⟩:=bd hb
 refine RC.jn (fun(af:Bool)=>SH E V [(3,vb af)] []) af ?_ ?_
 ·refine RC.region (RL.dN 1 j zr wz nN fun ah j=>(RL.bB p1.X 0 j cG (RL.aZ zr gO (RL.aM 1 j zr dD cG (ic p1.X p0.X0 (mv (vb (decide (p1.X>=p0.X0))) (fN o (fun aa o=>?_) fun aa o=>?_)))))))
  rotate_left
  ·refine bJ aa (bJ aa (bJ aa (bJ aa (bJ aa (fU aa (vb false) (mv (vb false) (jR (jR ?_))))))))
   refine jR (jR (jR (RL.pick false (vb false) zr (mv (vb false) (jR (jR (jR (jR ?_))))))))
   refine jR (RL.pick false (vb false) zr (aP (vb false) (RL.nil ?_)))
   obtain rfl:=oi o
   exact⟨rfl,j.sp 4 []⟩
  refine RL.dN (hg:=(cg aa)) 2 j zr wz nN fun ai j=>(RL.bB (hg:=(cg aa)) p1.X 0 j cG (RL.aZ (hg:=(cg aa)) zr iX (RL.aM (hg:=(cg aa)) 2 j zr dY cG (RL.ld p1.X p0.X1 (cg aa) (fU aa (vb (decide (p1.X<p0.X1))) (mv (vb (decide (p1.X<p0.X1))) (fN o (fun ab o=>?_) fun ab o=>?_)))))))
  rotate_left
  ·refine bJ ab (bJ ab (bJ ab (bJ ab (bJ ab (fU ab (vb false) (mv (vb false) (jR (jR ?_))))))))
   refine jR (jR (jR (RL.pick false (vb false) zr (aP (vb false) (RL.nil ?_)))))
   obtain rfl:=oi o
   exact⟨rfl,j.sp 5 []⟩
  refine RL.dN (hg:=(cg ab)) 3 j zr wA nO fun aj j=>(RL.bB (hg:=(cg ab)) p1.Y 0 j cG (RL.aZ (hg:=(cg ab)) zr gG (RL.aM (hg:=(cg ab)) 3 j zr cZ cG (RL.ld p1.Y p0.Y0 (cg ab) (fU ab (vb (decide (p1.Y>=p0.Y0))) (mv (vb (decide (p1.Y>=p0.Y0))) (fN o (fun ad o=>?_) fun ad o=>?_)))))))
  ·refine RL.dN (hg:=(cg ad)) 4 j zr wA nO fun ak j=>(RL.bB (hg:=(cg ad)) p1.Y 0 j cG (RL.aZ (hg:=(cg ad)) zr jZ (RL.aM (hg:=(cg ad)) 4 j zr eT cG (RL.ld p1.Y p0.Y1 (cg ad) (fU ad (vb (decide (p1.Y<p0.Y1))) (aP (vb (decide (p1.Y<p0.Y1))) (RL.nil ?_)))))))
   obtain rfl:=oi o
   exact⟨rfl,j.sp 7 []⟩
  refine bJ ad (bJ ad (bJ ad (bJ ad (bJ ad (fU ad (vb false) (aP (vb false) (RL.nil ?_)))))))
  obtain rfl:=oi o
  exact⟨rfl,j.sp 6 []⟩
 rintro _ w ⟨O,rfl,j⟩
 refine aG (RC.ret ?_)
 obtain rfl:=oi hb
 exact bY ⟨rfl,j.drop 0⟩
theorem qK {p0: (List aI)} {p1:eQ} {res:Bool} (j:Holds E w V) (h0:V[i0]? =some (rd v0 p0)) (h1:V[i1]? =some (rd v1 p1)) (o:kA N p0 p1=some res):
    Calls bN 105 [v0,v1].toArray w (gQ (aU E V res)):=by
 unfold kA at o
 refine enter Tryz.func105 zr zr ?_
 have j:=(j.dup (i0+0) h0).dup (i1+1) h1
 refine RC.sr (RL.dK 0 v1 j zr fun aa w j=>?_)
 have j:=j.lf (i:=0) rfl
 refine aP (vb false) (RL.ns (mv v0 (RL.makeFunc zt zr [(vp aa 0)] zr ?_)))
 obtain⟨ab,ad,o⟩:=bd o
 refine RL.call trivial rfl Lv [v0,(.func (.func 127) #[] #[(vp aa 0)])] rfl (aD (ml N (i0:=2) j rfl ⟨127,[(vp aa 0)],rfl,Lx,fun w Γl v y0 r i j hi hr=>by exact aD (uu N (i0:=i) (i1:=Γl.length+0) j hi (Cd rfl) hr) fun _ _ h=>h⟩ ad) ?_)
 rintro _ w ⟨rfl,j⟩
 refine aP (vb ab) (RL.nt (RC.ret ?_))
 obtain rfl:=oi o
 exact bY ⟨rfl,j.drop 3⟩
def pz (E:World) (V:List HP) (b0:Nat) (v0_0 v0_1:Value) (v0_2 v0_3:Value) (v0_4 v0_5:Value) (v0_6 v0_7:Value) (v0_8 v0_9:Value) (v0_10 v0_11:Value) (res:j4×Bool) (v:Value) (w:World):Prop:=∃u0:Value,v = .tuple #[u0,(vb res.2)]/\Holds E w ([rd u0 res.1,bc 54 b0 [v0_0,v0_1,v0_2,v0_3,v0_4,v0_5,v0_6,v0_7,v0_8,v0_9,v0_10,v0_11]]++V)
def pA (E:World) (V:List HP) (b0:Nat) (v0_0 v0_1:Value) (v0_2 v0_3:Value) (v0_4 v0_5:Value) (v0_6 v0_7:Value) (v0_8 v0_9:Value) (v0_10 v0_11:Value) (r:j4×Bool) (U:Nat->Value) (w:World):Prop:=lS bN 66 Tryz.f68 (pz E V b0 v0_0 v0_1 v0_2 v0_3 v0_4 v0_5 v0_6 v0_7 v0_8 v0_9 v0_10 v0_11 r) .ret U w
theorem uv {p0_2: (List cE)} {p0_5: (List aK)} {p1:fP} {res:j4×Bool} (j:Holds E w (bc 54 b0 [v0_0,v0_1,v0_2,v0_3,v0_4,v0_5,v0_6,v0_7,v0_8,v0_9,v0_10,v0_11]::rd v0_2 p0_2::rd v0_5 p0_5::V)) (h1:V[i1]? =some (rd v1 p1)) (o:ke N p0_2 p0_5 p1=some res):
    Calls bN 68 [(vp b0 0),v1].toArray w (gQ (pz E V b0 v0_0 v0_1 v0_2 v0_3 v0_4 v0_5 v0_6 v0_7 v0_8 v0_9 v0_10 v0_11 res)):=by
 unfold ke at o
 refine enter Tryz.func68 zr zr ?_
 have j:=j.dup (i1+3) h1
 refine RC.sr (RL.dK 0 v1 j zr fun ah w j=>?_)
 have j:=j.lf (i:=0) rfl
 refine RL.alloc j DM.z fun ae w j=>?_
 refine aP (vb false) (RL.nq (RC.sr (mv (vp b0 0) (RL.nilCheck zr (RL.aZ zr uL (RL.aZ zr iw (RL.bK 3 v0_2 j nQ (RL.bC 4 p0_2 j wy ?_))))))))
 refine mv (vi 0) (RL.nt ?_)
 obtain⟨bm,hN,o⟩:=bd o
 refine RC.range (fun(af:Nat) (al:Unit)=>SH E V [(0,vp b0 0),(3,vp ah 0),(4,vp ae 0),(14,v0_2),(15,vi p0_2.length),(16,vi af)] [bc 54 b0 [v0_0,v0_1,v0_2,v0_3,v0_4,v0_5,v0_6,v0_7,v0_8,v0_9,v0_10,v0_11],rd v0_2 p0_2,rd v0_5 p0_5,pt (vp ah 0) p1,raw 114 ae 2]) (fun(al:Unit)=>SH E V [(0,vp b0 0),(3,vp ah 0),(4,vp ae 0)] [bc 54 b0 [v0_0,v0_1,v0_2,v0_3,v0_4,v0_5,v0_6,v0_7,v0_8,v0_9,v0_10,v0_11],rd v0_2 p0_2,rd v0_5 p0_5,pt (vp ah 0) p1,raw 114 ae 2]) (pA E V b0 v0_0 v0_1 v0_2 v0_3 v0_4 v0_5 v0_6 v0_7 v0_8 v0_9 v0_10 v0_11) hN ?_ ?_ ?_ ?_ ?_
 ·exact j.sp 6 [3,4,5,1,0]
 ·rintro hm al _ w ⟨O,rfl,j⟩
  refine RC.sr (ic ((p0_2.length:Int)) ((p0_2.length:Int)) (RL.nq (RC.fw sf (RC.ex ?_))))
  exact⟨rfl,j.sp 5 [0,1,2,3,4]⟩
 ·rintro hm af al fl _ w hk ⟨O,rfl,j⟩ o
  refine RC.sr (ic ((af:Int)) ((p0_2.length:Int)) (RL.nq (RC.fu (sd hk) (RC.ss (RC.bs (mv (vi af) ?_))))))
  obtain⟨ax,a0,o⟩:=bd o
  refine RL.bM 1 j qE a0 fun bn j=>(RL.bF 0 ax j mf fun bo j=>(RL.alloc j EV.z fun bp w j=>?_))
  refine aP (vi af) (RL.bZ 0 j 1 zr mf fun w j=>?_)
  refine RL.nq ?_
  obtain⟨aq,hj,o⟩:=bd o
  refine RC.jn (fun(aq:Bool)=>SH E V [(0,vp b0 0),(3,vp ah 0),(4,vp ae 0),(6,vi af),(14,v0_2),(15,vi p0_2.length),(16,vi af),(36,vb aq)] [bc 54 b0 [v0_0,v0_1,v0_2,v0_3,v0_4,v0_5,v0_6,v0_7,v0_8,v0_9,v0_10,v0_11],rd v0_2 p0_2,rd v0_5 p0_5,pt (vp ah 0) p1,raw 114 ae 2]) aq ?_ ?_
  ·refine RC.vH mixed [0,0,0,0,0,0,2,0,0,0,2,2,1,1,2,0] [0,1,2,3,4,5,6,7,8,9,12,13,10,11,14,15] ?_
   have j:=j.drew
   refine DP.e0 zr (RL.aZ zr yo (aY zr (RL.aM 0 j zr qt BN (aY zr (mv (vb ax.fY) (DP.d0 (fN hj (fun ai hj=>?_) fun ai hj=>?_)))))))
   rotate_left
   ·refine DP.e0 zr (bJ ai (aY zr (bJ ai (aY zr (bJ ai (oN zr (bJ ai (uh zr ?_))))))))
    refine fU ai (vb false) (aY zr (mv (vb false) (aY zr (jR (DP.d0 (DP.e1 undef zr (fun w=>jR DP.d1) (DP.e1 undef zr (fun w=>jR DP.d1) (DP.e2 zr ?_))))))))
    refine jR (FM zr (jR (FM zr (jR (uh zr (RL.pick false (vb false) zr (DP.d0 (DP.z ?_))))))))
    obtain rfl:=oi hj
    exact⟨rfl,j.sp 8 [3,4,5,6,7]⟩
   refine DP.e0 zr (RL.bG (hg:=(cg ai)) (f:=(fun x=>x)) 0 j zr Fd.self mf fun a1 j=>(aY zr (RL.dN (hg:=(cg ai)) 7 j zr ym qw fun bq j=>(aY zr (RL.bB (hg:=(cg ai)) p1.cK 0 j cG (oN zr ?_))))))
   obtain⟨ay,a2,hj⟩:=bd hj
   refine RL.call (cg ai) zr Kh [a1,(vi p1.cK)] zr (aD (oM N (p1:=p1.cK) (i0:=1) j zr a2) ?_)
   rintro _ w ⟨rfl,j⟩
   refine uh zr (fU ai (vb ay) (aY zr (mv (vb ay) (DP.d0 (fN hj (fun ab hj=>?_) fun ab hj=>?_)))))
   rotate_left
   ·refine DP.e0 zr (bJ ab (DP.d0 (DP.e1 undef zr (fun w=>bJ ab DP.d1) (DP.e1 undef zr (fun w=>bJ ab DP.d1) (DP.e2 zr (bJ ab (FM zr (bJ ab ?_))))))))
    refine FM zr (bJ ab (uh zr (fU ab (vb false) (DP.d0 (DP.z ?_)))))
    obtain rfl:=oi hj
    exact⟨rfl,j.sp 10 [5,6,7,8,9]⟩
   refine DP.e0 zr (RL.bG (hg:=(cg ab)) (f:=(fun x=>x)) 2 j zr Fd.self mf fun a3 j=>(DP.d0 (DP.Cq 9 zr (cg ab) j zr yn qx fun br j=>(DP.yj p1.At 0 zr (cg ab) j zm fun a4 a105 bt j=>(DP.e2 zr ?_)))))
   obtain⟨a5,a6,hj⟩:=bd hj
   refine RL.call (cg ab) zr Gn [a3] zr (aD (jr N (i0:=3) j zr a6) ?_)
   rintro a7 w j
   refine DP.d2 (⟨zt,j.gm 1⟩) (DP.e2 zr (RL.dQ (hg:=(cg ab)) ([a5]: (List aI)) j [a7] iK om (fun M hs g=>⟨(g.sat 0 _ zr).1,zt⟩) fun a8 w j=>(DP.d2 (⟨zt,j.gm 2⟩) (DP.e2 zr ?_))))
   have j:=j.freeze 0
   obtain⟨a9,ba,hj⟩:=bd hj
   refine RL.call (cg ab) zr JA [a8,a4] zr (aD (qK N (i0:=0) (i1:=3) j zr zr ba) ?_)
   rintro _ w ⟨rfl,j⟩
   refine DP.d2 (⟨zt,j.gm 2⟩) (DP.e0 zr (fU ab (vb a9) (DP.d0 ?_)))
   have j:=j.pl 16 [0,1,3,4,5,6,7,8,9,10,11,12,13,14,15]
   refine DP.z ?_
   obtain rfl:=oi hj
   exact⟨rfl,j.sp 15 [10,11,12,13,14]⟩
  rintro _ w ⟨O,rfl,j⟩
  refine aG (dX o (fun hc o=>?_) fun hc o=>?_)
  rotate_left
  ·refine RC.skip (bO (aG (RC.region (RL.inc hk hm (mv (vi ((af+1:Nat):Int)) (RL.nil ?_))))))
   obtain rfl:=oi o
   exact⟨rfl,j.sp 5 [0,1,2,3,4]⟩
  refine RC.sr (mv (vi af) ?_)
  have j:=(j.sc Bool true).sc Int (af:Int)
  refine RL.build (⟨true,(af:Int)⟩:j4) trivial rfl j [(0,vb true),(1,vi af)] rfl BO rfl (fun M hs g=>by have h:=BM M;exact cS.cons (f:=fun(x:j4) y=>{x with cE:=y}) h DH (g.sat 1 _ rfl).1 fun _ h=>cS.cons (f:=fun(x:j4) y=>{x with Number:=y}) h xo (g.sat 0 _ rfl).1 fun _ h=>cS.nil h) fun bu j=>?_
  refine RL.bZ 7 j 0 zr pq fun w j=>?_
  refine aP (vb true) (RL.nt (RC.rb (bQ ?_)))
  obtain rfl:=oi o
  exact⟨rfl,wZ 7 j pq fun bb j=>⟨bb,zr,j.pk 9 [0,4]⟩⟩
 ·intro r U w e hK
  subst e
  refine bQ ?_
  obtain rfl:=oi o
  exact hK
 rintro al _ w rfl ⟨O,rfl,j⟩
 rw [Fo.dB] at o
 refine aG (RC.seq (RC.sr (mv (vp b0 0) (RL.nilCheck zr (RL.aZ zr wB (RL.bK 0 v0_5 j EY (RL.bC 2 p0_5 j HG (mv (vi 0) ?_))))))))
 refine RL.nt ?_
 obtain⟨bw,hN,o⟩:=bd o
 refine RC.range (fun(ag:Nat) (an:Unit)=>SH E V [(0,vp b0 0),(3,vp ah 0),(4,vp ae 0),(43,v0_5),(44,vi p0_5.length),(45,vi ag)] [bc 54 b0 [v0_0,v0_1,v0_2,v0_3,v0_4,v0_5,v0_6,v0_7,v0_8,v0_9,v0_10,v0_11],rd v0_2 p0_2,rd v0_5 p0_5,pt (vp ah 0) p1,raw 114 ae 2]) (fun(an:Unit)=>SH E V [(0,vp b0 0),(4,vp ae 0)] [bc 54 b0 [v0_0,v0_1,v0_2,v0_3,v0_4,v0_5,v0_6,v0_7,v0_8,v0_9,v0_10,v0_11],rd v0_2 p0_2,rd v0_5 p0_5,pt (vp ah 0) p1,raw 114 ae 2]) (pA E V b0 v0_0 v0_1 v0_2 v0_3 v0_4 v0_5 v0_6 v0_7 v0_8 v0_9 v0_10 v0_11) hN ?_ ?_ ?_ ?_ ?_
 ·exact j.sp 5 [0,1,2,3,4]
 ·rintro hm an _ w ⟨O,rfl,j⟩
  refine RC.sr (ic ((p0_5.length:Int)) ((p0_5.length:Int)) (RL.nq (RC.fw sf (RC.ex ?_))))
  exact⟨rfl,j.sp 5 [0,1,2,3,4]⟩
 ·rintro hm ag an fl _ w hk ⟨O,rfl,j⟩ o
  refine RC.sr (ic ((ag:Int)) ((p0_5.length:Int)) (RL.nq (RC.fu (sd hk) (RC.ss (RC.bs (mv (vi ag) ?_))))))
  obtain⟨av,bf,o⟩:=bd o
  refine RL.bM 2 j IZ bf fun bx j=>(RL.bF 0 av j Gs fun bz j=>(RL.alloc j I0.z fun b1 w j=>?_))
  refine aP (vi ag) (RL.bZ 0 j 1 zr Gs fun w j=>?_)
  refine RL.nq ?_
  obtain⟨aw,hj,o⟩:=bd o
  refine RC.jn (fun(aw:Bool)=>SH E V [(0,vp b0 0),(3,vp ah 0),(4,vp ae 0),(8,vi ag),(43,v0_5),(44,vi p0_5.length),(45,vi ag),(61,vb aw)] [bc 54 b0 [v0_0,v0_1,v0_2,v0_3,v0_4,v0_5,v0_6,v0_7,v0_8,v0_9,v0_10,v0_11],rd v0_2 p0_2,rd v0_5 p0_5,pt (vp ah 0) p1,raw 114 ae 2]) aw ?_ ?_
  ·refine RC.region (RL.aZ zr EZ (RL.aM 0 j zr oG cG (RL.dN 6 j zr ym qw fun b2 j=>(RL.bB p1.cK 0 j cG (ic av.cK p1.cK (mv (vb (av.cK==p1.cK)) (fN hj (fun ad hj=>?_) fun ad hj=>?_)))))))
   rotate_left
   ·refine bJ ad (bJ ad (bJ ad (bJ ad (bJ ad (fU ad (vb false) (RL.nil ?_))))))
    obtain rfl:=oi hj
    exact⟨rfl,j.sp 9 [4,5,6,7,8]⟩
   refine RL.aZ (hg:=(cg ad)) zr E0 (RL.bG (hg:=(cg ad)) 1 j zr oH q9 fun bg j=>(RL.dN (hg:=(cg ad)) 8 j zr yn qx fun b3 j=>(RL.bF (hg:=(cg ad)) 0 p1.At j zm fun bh j=>?_)))
   obtain⟨Hs,bj,hj⟩:=bd hj
   refine RL.call (cg ad) zr JA [bg,bh] zr (aD (qK N (i0:=2) (i1:=0) j zr zr bj) ?_)
   rintro _ w ⟨rfl,j⟩
   refine fU ad (vb Hs) (RL.nil ?_)
   obtain rfl:=oi hj
   exact⟨rfl,j.sp 12 [7,8,9,10,11]⟩
  rintro _ w ⟨O,rfl,j⟩
  refine aG (dX o (fun hc o=>?_) fun hc o=>?_)
  rotate_left
  ·refine RC.skip (bO (aG (RC.region (RL.inc hk hm (mv (vi ((ag+1:Nat):Int)) (RL.nil ?_))))))
   obtain rfl:=oi o
   exact⟨rfl,j.sp 5 [0,1,2,3,4]⟩
  refine RC.sr (mv (vi ag) ?_)
  have j:=j.sc Int (ag:Int)
  refine RL.build (⟨false,(ag:Int)⟩:j4) trivial rfl j [(1,vi ag)] rfl BO rfl (fun M hs g=>by have h:=BM M;exact cS.cons (f:=fun(x:j4) y=>{x with Number:=y}) h xo (g.sat 0 _ rfl).1 fun _ h=>cS.nil h) fun b4 j=>?_
  refine RL.bZ 6 j 0 zr pq fun w j=>?_
  refine aP (vb true) (RL.nt (RC.rb (bQ ?_)))
  obtain rfl:=oi o
  exact⟨rfl,wZ 6 j pq fun bk j=>⟨bk,zr,j.pk 8 [0,3]⟩⟩
 ·intro r U w e hK
  subst e
  refine bQ ?_
  obtain rfl:=oi o
  exact hK
 rintro an _ w rfl ⟨O,rfl,j⟩
 rw [Fo.dB] at o
 refine aG (RC.sr (RL.build (⟨false,0⟩:j4) trivial rfl j [] rfl BO rfl (fun M hs g=>by have h:=BM M;exact cS.nil h) fun b5 j=>?_))
 refine RL.bZ 5 j 0 zr pq fun w j=>?_
 refine aP (vb false) (RL.nt (RC.ret ?_))
 obtain rfl:=oi o
 exact wZ 5 j pq fun bl j=>⟨bl,zr,j.pk 7 [0,2]⟩
def rk (E:World) (V:List HP) (b0:Nat) (v0_0 v0_1:Value) (v0_2 v0_3:Value) (v0_4 v0_5:Value) (v0_6 v0_7:Value) (v0_8 v0_9:Value) (v0_10 v0_11:Value) (res:Int) (v:Value) (w:World):Prop:=v= (vi res)/\Holds E w ([bc 54 b0 [v0_0,v0_1,v0_2,v0_3,v0_4,v0_5,v0_6,v0_7,v0_8,v0_9,v0_10,v0_11]]++V)
theorem qL {p0_8: (List Int)} {p0_9: (List Int)} {p1:j4} (j:Holds E w (bc 54 b0 [v0_0,v0_1,v0_2,v0_3,v0_4,v0_5,v0_6,v0_7,v0_8,v0_9,v0_10,v0_11]::rd v0_8 p0_8::rd v0_9 p0_9::V)) (h1:V[i1]? =some (rd v1 p1)) (o:iD N p0_8 p0_9 p1=some res):
    Calls bN 69 [(vp b0 0),v1].toArray w (gQ (rk E V b0 v0_0 v0_1 v0_2 v0_3 v0_4 v0_5 v0_6 v0_7 v0_8 v0_9 v0_10 v0_11 res)):=by
 unfold iD at o
 refine enter Tryz.func69 zr zr ?_
 have j:=j.dup (i1+3) h1
 refine RC.sr (RL.dK 0 v1 j zr fun ag w j=>?_)
 refine aP (vi 0) (RL.nq (RC.sr (RL.aZ zr zD (RL.aM 0 j zr xn BN (RL.nt (dX o (fun hc o=>?_) fun hc o=>?_))))))
 ·refine RC.seq (RC.yh mixed ?_)
  have j:=j.drew
  refine RO.go (mv (vp b0 0) (RO.nx (RL.nilCheck zr (RO.nx (RL.aZ zr Ct (RO.nx (RL.bK 2 v0_9 j fM (RO.nx ?_))))))))
  refine RL.aZ zr xt (RO.nx (RL.aM 0 j zr uJ cG (RO.nx ?_)))
  obtain⟨aa,ae,o⟩:=bd o
  refine RL.bM 4 j eD ae fun ah j=>(RO.nx (RL.bB aa 0 j cG (RO.nx (aP (vi aa) (RO.last (aG (RC.rt ?_)))))))
  obtain rfl:=oi o
  exact bY ⟨rfl,j.pk 6 [3]⟩
 refine RC.ss (RC.yh mixed ?_)
 have j:=j.drew
 refine RO.go (mv (vp b0 0) (RO.nx (RL.nilCheck zr (RO.nx (RL.aZ zr E2 (RO.nx (RL.bK 2 v0_8 j fM (RO.nx ?_))))))))
 refine RL.aZ zr xt (RO.nx (RL.aM 0 j zr uJ cG (RO.nx ?_)))
 obtain⟨ab,af,o⟩:=bd o
 refine RL.bM 3 j eD af fun ai j=>(RO.nx (RL.bB ab 0 j cG (RO.nx (aP (vi ab) (RO.last (aG (RC.ret ?_)))))))
 obtain rfl:=oi o
 exact bY ⟨rfl,j.pk 6 [3]⟩
end Go.Gk
