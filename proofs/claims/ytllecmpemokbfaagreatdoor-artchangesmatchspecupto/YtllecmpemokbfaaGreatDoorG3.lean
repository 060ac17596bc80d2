/-
  Printed texts: Go functions as plain functions, and that they are. No statement of the seed is proved here.
-/
import Derived.Test.YtllecmpemokbfaaGreatDoorG1
import Derived.Test.YtllecmpemokbfaaGreatDoorG2
import Derived.Test.YtllecmpemokbfaaGreatDoorA2
set_option linter.unusedVariables false
set_option linter.unusedSimpArgs false
set_option linter.unusedSectionVars false
set_option maxRecDepth 100000
set_option maxHeartbeats 4000000
namespace Go.Gk
open Go Go.Proofs
variable (N:Nat) {E w:World} {b0 b1 i0 i1:Nat} {p0 p1 p2 res:Int} {v0 v0_0 v0_1 v0_10 v0_11 v0_2 v0_3 v0_4 v0_5 v0_6 v0_7 v0_8 v0_9 v1 v1_0 v2:Value} {V:List HP}
theorem nZ {p0:bJ} {res:Bool} (j:Holds E w V) (h0:V[i0]? =some (rd v0 p0)) (hb:kM N p0 p1=some res):
    Calls bD 97 [v0,(vi p1)].toArray w (gm (aS E V res)):=by
 unfold kM at hb
 refine enter Tryz.func97 zr zr ?_
 have j:=j.dup (i0+0) h0
 refine RC.sr (RL.dA 0 v0 j zr fun o w j=>?_)
 refine aP (vb false) (RL.ns (RL.aX zr o5 (RL.aL 0 j zr j8 cF (mv (vi p1) (ic p0.cH p1 (mv (vb (decide (p0.cH<=p1))) (RL.gs true (decide (p0.cH<=p1)) (vi p1) zr zr zr cE (RL.gs true (decide (p0.cH<=p1)) (vp o 4) zr zr zr (dP qQ) ?_))))))))
 refine RL.gs true (decide (p0.cH<=p1)) (vi p0.To) rfl rfl rfl (bT 0 rfl j (fun h=>by exact(cG h:cv (true&&((decide (p0.cH<=p1))==true)) (vp o 4)= (vp o 4))) rfl lK cF) (RL.gs true (decide (p0.cH<=p1)) (vb (decide (p1<=p0.To))) rfl rfl rfl (dK .leq .i64 p1 p0.To rfl (fun h=>by exact(cG h:cv (true&&((decide (p0.cH<=p1))==true)) (vi p1)= (vi p1))) (fun h=>by exact(cG h:cv (true&&((decide (p0.cH<=p1))==true)) (vi p0.To)= (vi p0.To))) rfl) (RL.pick (decide (p0.cH<=p1)) (vb ((decide (p0.cH<=p1))&&(decide (p1<=p0.To)))) (gr true) (aP (vb ((decide (p0.cH<=p1))&&(decide (p1<=p0.To)))) (RL.nt (RC.ret ?_)))))
 obtain rfl:=oi hb
 exact bM ⟨rfl,j.drop 2⟩
def yX (E:World) (V:List HP) (res: (List Int)×Int) (v:Value) (w:World):Prop:=∃u0:Value,v = .tuple #[u0,(vi res.2)]/\Holds E w ([rd u0 res.1]++V)
theorem s9 {p0: (List aA)} {res: (List Int)×Int} (j:Holds E w V) (h0:V[i0]? =some (rd v0 p0)) (o:mI N p0 p1 p2=some res):
    Calls bD 53 [v0,(vi p1),(vi p2)].toArray w (gm (yX E V res)):=by
 unfold mI at o
 refine enter Tryz.func53 zr zr ?_
 have j:=j.dup (i0+0) h0
 refine RC.sr (aP (.slice none 0 0) (aP (vi 0) (RL.nq (RC.bs (mv v0 (RL.bA 0 p0 j uN (ic ((p0.length:Int)) 0 (aP (vb ((p0.length:Int)==0)) ?_))))))))
 refine RL.nt (dW o (fun hc o=>?_) fun hc o=>?_)
 ·refine RC.sr (mv (vi p2) (aP (.slice none 0 0) (aP (vi p2) (RL.nt (RC.rb (bL ?_))))))
  obtain rfl:=oi o
  have j:=j.cO Int
  exact vo ⟨(.slice none 0 0),zr,j.pk 2 [0]⟩
 refine RC.sr (mv (vi p1) (mv v0 ?_))
 obtain⟨ae,ag,o⟩:=bd o
 refine RL.bP 0 j o0 ag fun al j=>(RL.eT 0 j zr su gO fun an j=>(RL.bG ae.Y0 0 j cF (ic p1 ae.Y0 (aP (vb (decide (p1<ae.Y0))) (RL.nt (dW o (fun hc o=>?_) fun hc o=>?_))))))
 ·refine RC.seq (RC.yk mixed ?_)
  have j:=j.drew
  refine RO.go (mv (vi p2) (RO.nx (mv v0 (RO.nx ?_))))
  obtain⟨aa,ah,o⟩:=bd o
  refine RL.bP 2 j o0 ah fun ao j=>(RO.nx (RL.eT 0 j zr su gO fun aq j=>(RO.nx (RL.bG aa.Y0 0 j cF (RO.nx (RL.min p2 aa.Y0 (RO.nx (aP (.slice none 0 0) ?_))))))))
  refine RO.nx (aP (vi (if aa.Y0<p2 then aa.Y0 else p2)) (RO.last (aJ (RC.rb (bL ?_)))))
  obtain rfl:=oi o
  have j:=j.cO Int
  exact vo ⟨(.slice none 0 0),zr,j.pk 6 [0]⟩
 refine RC.skip (bQ (aJ (RC.seq (RC.yk mixed ?_))))
 have j:=j.drew
 refine RO.go (mv v0 (RO.nx ?_))
 obtain⟨ai,aj,o⟩:=bd o
 refine RL.bP 2 j o0 aj fun ar j=>(RO.nx (RL.eT 0 j zr nW dR fun au j=>(RO.nx (RL.bF 0 ai.Xs j iq fun af j=>(RO.nx (mv (vi p2) (RO.nx (mv v0 ?_))))))))
 refine RO.nx ?_
 obtain⟨ab,ak,o⟩:=bd o
 refine RL.bP 5 j o0 ak fun av j=>(RO.nx (RL.eT 0 j zr oZ fF fun aw j=>(RO.nx (RL.bG ab.Y1 0 j cF (RO.nx (RL.min p2 ab.Y1 (RO.nx (aP af ?_))))))))
 refine RO.nx (aP (vi (if ab.Y1<p2 then ab.Y1 else p2)) (RO.last (aJ (RC.ret ?_))))
 obtain rfl:=oi o
 exact vo ⟨af,zr,j.pk 8 [2]⟩
theorem z7 {p0: (List Int)} {p1: (List Int)} {p2:Bool->Bool->Option Bool} {res: (List Int)} (j:Holds E w V) (h0:V[i0]? =some (rd v0 p0)) (h1:V[i1]? =some (rd v1 p1)) (h2:IB bD E V v2 p2 (fun(r:Bool)=>Value.bool r)) (hb:pQ N p0 p1 p2=some res):
    Calls bD 54 [v0,v1,v2].toArray w (gm (me E V res)):=by
 unfold pQ at hb
 refine enter Tryz.func54 zr zr ?_
 have j:=(j.dup (i0+0) h0).dup (i1+1) h1
 refine RC.sr (aP (.slice none 0 0) (RL.ns (aP (.slice none 0 0) (RL.ns (aP (vb false) (aP (vb false) (aP (vb false) (RL.nq ?_))))))))
 obtain⟨bu,hN,hb⟩:=bd hb
 refine RC.iter (fun(o: (List Int)×(List Int)×(List Int)×Bool×Bool×Bool) U w=>∃a7 a8 a9:Value,SH E V [(0,a7),(1,a8),(2,v2),(7,a9),(8,vb o.2.2.2.1),(9,vb o.2.2.2.2.1),(10,vb o.2.2.2.2.2)] [rd a7 o.1,rd a8 o.2.1,own 3 a9 o.2.2.1] U w) (fun(o: (List Int)×(List Int)×(List Int)×Bool×Bool×Bool) U w=>∃av:Value,SH E V [(7,av)] [own 3 av o.2.2.1] U w) (fun(r:Empty) _ _=>r.elim) hN ?_ ?_ ?_ ?_
 ·have j:=j.cX Int 3
  exact⟨v0,v1,(.slice none 0 0),j.sp 3 [2,1,0]⟩
 ·rintro o fl _ w ⟨ah,ad,ae,O,rfl,j⟩ hb
  refine RC.seq (RC.seq ?_)
  obtain⟨a1,hj,hb⟩:=bd hb
  refine RC.jn (fun(a1:Bool)=>SH E V [(0,ah),(1,ad),(2,v2),(7,ae),(8,vb o.2.2.2.1),(9,vb o.2.2.2.2.1),(10,vb o.2.2.2.2.2),(20,vb a1)] [rd ah o.1,rd ad o.2.1,own 3 ae o.2.2.1]) a1 ?_ ?_
  ·refine RC.region (mv ah (RL.bA 0 o.1 j nr (ic ((o.1.length:Int)) 0 (mv (vb (decide ((o.1.length:Int)>0))) (gu hj (fun ao hj=>?_) fun ao hj=>?_)))))
   ·refine bN ao (bN ao (bN ao (gD ao (vb true) (RL.nil ?_))))
    obtain rfl:=oi hj
    exact⟨rfl,j.sp 3 [0,1,2]⟩
   refine RL.move ad (cg ao) (RL.bA (hg:=(cg ao)) 1 o.2.1 j nr (RL.lA (o.2.1.length:Int) 0 (cg ao) (gD ao (vb (decide ((o.2.1.length:Int)>0))) (RL.nil ?_))))
   obtain rfl:=oi hj
   exact⟨rfl,j.sp 3 [0,1,2]⟩
  rintro _ w ⟨O,rfl,j⟩
  refine aJ (dW hb (fun hc hb=>?_) fun hc hb=>?_)
  rotate_left
  ·refine RC.ex ?_
   obtain rfl:=oi hb
   exact⟨rfl,ae,j.sp 3 [2]⟩
  refine RC.sn (RC.bs (aP (vi 0) (RL.nq (RC.seq ?_))))
  obtain⟨a2,hj,hb⟩:=bd hb
  refine RC.jn (fun(a2:Bool)=>SH E V [(0,ah),(1,ad),(2,v2),(7,ae),(8,vb o.2.2.2.1),(9,vb o.2.2.2.2.1),(10,vb o.2.2.2.2.2),(37,vb a2)] [rd ah o.1,rd ad o.2.1,own 3 ae o.2.2.1]) a2 ?_ ?_
  ·refine RC.yk mixed ?_
   have j:=j.drew
   refine RO.go (mv ad (RO.nx (RL.bA 1 o.2.1 j nr (RO.nx (ic ((o.2.1.length:Int)) 0 (RO.nx (mv (vb ((o.2.1.length:Int)==0)) (gu hj (fun ai hj=>?_) fun ai hj=>?_))))))))
   ·refine RO.nx (bN ai (RO.nx (bN ai (RO.nx (bN ai (RO.nx (bN ai (RO.nx ?_))))))))
    refine IM (RO.nx (IM (RO.nx (IM (RO.nx (IM (RO.nx (IM ?_))))))))
    refine RO.nx (IM (RO.nx (IM (RO.nx (bN ai (RO.nx (gD ai (vb true) (RO.last ?_))))))))
    obtain rfl:=oi hj
    exact⟨rfl,j.sp 3 [0,1,2]⟩
   refine RO.nx (RL.move ah (cg ai) (RO.nx (RL.bA (hg:=(cg ai)) 0 o.1 j nr (RO.nx (RL.lA (o.1.length:Int) 0 (cg ai) (RO.nx (RL.move (vb (decide ((o.1.length:Int)>0))) (cg ai) (gu hj (fun af hj=>?_) fun af hj=>?_))))))))
   rotate_left
   ·refine RO.nx (bN af (RO.nx (bN af (RO.nx (bN af (RO.nx (bN af (RO.nx ?_))))))))
    refine bN af (RO.nx (bN af (RO.nx (bN af (RO.nx (gD af (vb false) (hg:=(cg ai)) (RO.nx (gD ai (vb false) ?_))))))))
    refine RO.last ?_
    obtain rfl:=oi hj
    exact⟨rfl,j.sp 3 [0,1,2]⟩
   refine RO.nx (RL.move ah (cg af) (RO.nx ?_))
   obtain⟨ax,bj,hj⟩:=bd hj
   refine RL.bP (hg:=(cg af)) 0 j fG bj fun bx j=>(RO.nx (RL.bG (hg:=(cg af)) ax 0 j cF (RO.nx (RL.move ad (cg af) (RO.nx ?_)))))
   obtain⟨ay,bk,hj⟩:=bd hj
   refine RL.bP (hg:=(cg af)) 2 j fG bk fun bz j=>(RO.nx (RL.bG (hg:=(cg af)) ay 0 j cF (RO.nx (RL.lA ax ay (cg af) (RO.nx (gD af (vb (decide (ax<=ay))) (hg:=(cg ai)) (RO.nx (gD ai (vb (decide (ax<=ay))) ?_))))))))
   refine RO.last ?_
   obtain rfl:=oi hj
   exact⟨rfl,j.sp 5 [2,3,4]⟩
  rintro _ w ⟨O,rfl,j⟩
  refine aJ ?_
  obtain⟨ag,hj,hb⟩:=bd hb
  refine RC.jn (fun(ag:Int)=>SH E V [(0,ah),(1,ad),(2,v2),(7,ae),(8,vb o.2.2.2.1),(9,vb o.2.2.2.2.1),(10,vb o.2.2.2.2.2),(11,vi ag)] [rd ah o.1,rd ad o.2.1,own 3 ae o.2.2.1]) ag ?_ ?_
  ·refine dW hj (fun hc hj=>?_) fun hc hj=>?_
   ·refine RC.region (mv ah ?_)
    obtain⟨ba,bl,hj⟩:=bd hj
    refine RL.bP 0 j fG bl fun b0 j=>(RL.bG ba 0 j cF (aP (vi ba) (RL.nil ?_)))
    obtain rfl:=oi hj
    exact⟨rfl,j.sp 4 [1,2,3]⟩
   refine RC.region (mv ad ?_)
   obtain⟨bb,bm,hj⟩:=bd hj
   refine RL.bP 1 j fG bm fun b1 j=>(RL.bG bb 0 j cF (aP (vi bb) (RL.nil ?_)))
   obtain rfl:=oi hj
   exact⟨rfl,j.sp 4 [1,2,3]⟩
  rintro _ w ⟨O,rfl,j⟩
  refine aJ (RC.seq (RC.seq ?_))
  obtain⟨a3,hj,hb⟩:=bd hb
  refine RC.jn (fun(a3:Bool)=>SH E V [(0,ah),(1,ad),(2,v2),(7,ae),(8,vb o.2.2.2.1),(9,vb o.2.2.2.2.1),(10,vb o.2.2.2.2.2),(11,vi ag),(53,vb a3)] [rd ah o.1,rd ad o.2.1,own 3 ae o.2.2.1]) a3 ?_ ?_
  ·refine RC.region (mv ah (RL.bA 0 o.1 j nr (ic ((o.1.length:Int)) 0 (mv (vb (decide ((o.1.length:Int)>0))) (gu hj (fun aj hj=>?_) fun aj hj=>?_)))))
   rotate_left
   ·refine bN aj (bN aj (bN aj (bN aj (bN aj (gD aj (vb false) (RL.nil ?_))))))
    obtain rfl:=oi hj
    exact⟨rfl,j.sp 3 [0,1,2]⟩
   refine RL.move ah (cg aj) ?_
   obtain⟨a4,bn,hj⟩:=bd hj
   refine RL.bP (hg:=(cg aj)) 0 j fG bn fun b2 j=>(RL.bG (hg:=(cg aj)) a4 0 j cF (RL.move (vi ag) (cg aj) (RL.lA a4 ag (cg aj) (gD aj (vb (a4==ag)) (RL.nil ?_)))))
   obtain rfl:=oi hj
   exact⟨rfl,j.sp 4 [1,2,3]⟩
  rintro _ w ⟨O,rfl,j⟩
  refine aJ ?_
  obtain⟨al,hj,hb⟩:=bd hb
  refine RC.jn (fun(al: (List Int)×Bool) U w=>∃an:Value,SH E V [(0,an),(1,ad),(2,v2),(7,ae),(8,vb al.2),(9,vb o.2.2.2.2.1),(10,vb o.2.2.2.2.2),(11,vi ag)] [rd ad o.2.1,own 3 ae o.2.2.1,rd an al.1] U w) al ?_ ?_
  ·refine dW hj (fun hc hj=>?_) fun hc hj=>?_
   rotate_left
   ·refine RC.skip ?_
    obtain rfl:=oi hj
    exact⟨rfl,ah,j.sp 3 [1,2,0]⟩
   refine RC.region (mv ah ?_)
   obtain⟨b3,bo,hj⟩:=bd hj
   refine RL.cut 0 j fG (.inr ⟨rfl,zr⟩) bo fun bc j=>(mv (vb o.2.2.2.1) (RL.not o.2.2.2.1 (aP bc (aP (vb (!o.2.2.2.1)) (RL.nil ?_)))))
   obtain rfl:=oi hj
   exact⟨rfl,bc,j.sp 4 [2,3,0]⟩
  rintro _ w ⟨an,O,rfl,j⟩
  refine aJ (RC.seq (RC.seq ?_))
  obtain⟨a5,hj,hb⟩:=bd hb
  refine RC.jn (fun(a5:Bool)=>SH E V [(0,an),(1,ad),(2,v2),(7,ae),(8,vb al.2),(9,vb o.2.2.2.2.1),(10,vb o.2.2.2.2.2),(11,vi ag),(67,vb a5)] [rd an al.1,rd ad o.2.1,own 3 ae o.2.2.1]) a5 ?_ ?_
  ·refine RC.region (mv ad (RL.bA 0 o.2.1 j nr (ic ((o.2.1.length:Int)) 0 (mv (vb (decide ((o.2.1.length:Int)>0))) (gu hj (fun ak hj=>?_) fun ak hj=>?_)))))
   rotate_left
   ·refine bN ak (bN ak (bN ak (bN ak (bN ak (gD ak (vb false) (RL.nil ?_))))))
    obtain rfl:=oi hj
    exact⟨rfl,j.sp 3 [2,0,1]⟩
   refine RL.move ad (cg ak) ?_
   obtain⟨a6,bp,hj⟩:=bd hj
   refine RL.bP (hg:=(cg ak)) 0 j fG bp fun b4 j=>(RL.bG (hg:=(cg ak)) a6 0 j cF (RL.move (vi ag) (cg ak) (RL.lA a6 ag (cg ak) (gD ak (vb (a6==ag)) (RL.nil ?_)))))
   obtain rfl:=oi hj
   exact⟨rfl,j.sp 4 [3,1,2]⟩
  rintro _ w ⟨O,rfl,j⟩
  refine aJ ?_
  obtain⟨ar,hj,hb⟩:=bd hb
  refine RC.jn (fun(ar: (List Int)×Bool) U w=>∃au:Value,SH E V [(0,an),(1,au),(2,v2),(7,ae),(8,vb al.2),(9,vb ar.2),(10,vb o.2.2.2.2.2),(11,vi ag)] [rd an al.1,own 3 ae o.2.2.1,rd au ar.1] U w) ar ?_ ?_
  ·refine dW hj (fun hc hj=>?_) fun hc hj=>?_
   rotate_left
   ·refine RC.skip ?_
    obtain rfl:=oi hj
    exact⟨rfl,ad,j.sp 3 [0,2,1]⟩
   refine RC.region (mv ad ?_)
   obtain⟨b5,bq,hj⟩:=bd hj
   refine RL.cut 1 j fG (.inr ⟨rfl,zr⟩) bq fun bf j=>(mv (vb o.2.2.2.2.1) (RL.not o.2.2.2.2.1 (aP bf (aP (vb (!o.2.2.2.2.1)) (RL.nil ?_)))))
   obtain rfl:=oi hj
   exact⟨rfl,bf,j.sp 4 [1,3,0]⟩
  rintro _ w ⟨au,O,rfl,j⟩
  refine aJ (RC.sr (mv v2 (mv (vb al.2) (mv (vb ar.2) ?_))))
  have j:=(j.sc Bool al.2).sc Bool ar.2
  obtain⟨aw,br,hb⟩:=bd hb
  refine RL.FZ 1 0 zt zr j zr h2 5 zr zr zr zr zr br fun w j=>(aP (vb aw) (RL.ns (mv (vb aw) (mv (vb o.2.2.2.2.2) (RL.Ho (a:=aw) (b:=o.2.2.2.2.2) zt zr zr zr MA (RL.nt ?_))))))
  obtain⟨az,hj,hb⟩:=bd hb
  refine RC.jn (fun(az: (List Int)×Bool) U w=>∃a0:Value,SH E V [(0,an),(1,au),(2,v2),(7,a0),(8,vb al.2),(9,vb ar.2),(10,vb az.2)] [rd an al.1,rd au ar.1,own 3 a0 az.1] U w) az ?_ ?_
  ·refine dW hj (fun hc hj=>?_) fun hc hj=>?_
   rotate_left
   ·refine RC.skip ?_
    obtain rfl:=oi hj
    exact⟨rfl,ae,j.sp 5 [2,4,3]⟩
   refine RC.region (mv ae (mv (vi ag) ?_))
   have j:=j.sc Int ag
   refine RL.eX ([ag]: (List Int)) j [(vi ag)] fG Gh (fun M hs g=>⟨(g.sat 0 _ zr).1,zt⟩) fun b6 w j=>?_
   have j:=j.freeze 0
   obtain⟨b7,bt,hj⟩:=bd hj
   refine RL.app 5 0 j uM bt fun bg w j=>?_
   refine mv (vb aw) (aP bg (aP (vb aw) (RL.nil ?_)))
   obtain rfl:=oi hj
   exact⟨rfl,bg,j.sp 7 [4,6,5]⟩
  rintro _ w ⟨a0,O,rfl,j⟩
  refine bQ ?_
  obtain rfl:=oi hb
  exact⟨rfl,an,au,a0,j.sp 3 [0,1,2]⟩
 ·intro r _ _ _ _
  exact r.elim
 rintro o _ w rfl ⟨av,O,rfl,j⟩
 rw [Fo.dQ] at hb
 refine aJ (RC.sr (mv av (aP av (RL.nt (RC.ret ?_)))))
 obtain rfl:=oi hb
 exact bM (j.pk 1 [0])
theorem tM {p0: (List aA)} {p1: (List aA)} {p2:Bool->Bool->Option Bool} {res: (List aA)} (j:Holds E w V) (h0:V[i0]? =some (rd v0 p0)) (h1:V[i1]? =some (rd v1 p1)) (h2:IB bD E V v2 p2 (fun(r:Bool)=>Value.bool r)) (o:kY N p0 p1 p2=some res):
    Calls bD 25 [v0,v1,v2].toArray w (gm (kU E V res)):=by
 unfold kY at o
 refine enter Tryz.func25 zr zr ?_
 have j:=(j.dup (i0+0) h0).dup (i1+1) h1
 refine RC.sr (aP (.slice none 0 0) (RL.ns (aP (.slice none 0 0) (RL.nq (RC.sr (mv v0 (RL.bA 1 p0 j uN (mv v1 ?_))))))))
 refine RL.bA 0 p1 j uN (RL.gQ (p0.length:Int) (p1.length:Int) (ic ((IntKind.wrap .i64 ((p0.length:Int)+ (p1.length:Int)))) 0 (RL.nt (dW o (fun hc o=>?_) fun hc o=>?_))))
 ·refine RC.sr (aP (.slice none 0 0) (RL.nt (RC.rt ?_)))
  obtain rfl:=oi o
  have j:=j.cX aA 81
  exact bM (j.pk 3 [0])
 refine RC.sx (aP (vi 0) (aP (vi 0) (RL.nq (RC.sr (mv v0 (mv v1 (RL.eX ([p0,p1]: (List (List aA))) j [v0,v1] Gm IW (fun M hs g=>⟨(g.sat 1 _ zr).1,⟨(g.sat 0 _ zr).1,zt⟩⟩) fun ar w j=>(RL.fY 0 ([p0,p1]: (List (List aA))) j JU ?_))))))))
 refine mv (vi 0) (RL.nt ?_)
 obtain⟨ad,hN,o⟩:=bd o
 refine RC.fold (fun(aj:Nat) (ad:Int×Int)=>SH E V [(0,v0),(1,v1),(2,v2),(7,(.slice none 0 0)),(8,vi ad.1),(9,vi ad.2),(25,ar),(26,(vi ((([p0,p1]: (List (List aA))).length:Nat):Int))),(27,vi aj)] [rd v0 p0,rd v1 p1,own 38 ar ([p0,p1]: (List (List aA)))]) (fun(ad:Int×Int)=>SH E V [(0,v0),(1,v1),(2,v2),(7,(.slice none 0 0)),(8,vi ad.1),(9,vi ad.2)] [rd v0 p0,rd v1 p1,own 38 ar ([p0,p1]: (List (List aA)))]) hN ?_ ?_ ?_ ?_
 ·exact j.sp 3 [2,1,0]
 ·rintro hm ad _ w ⟨O,rfl,j⟩
  refine RC.sr (ic (((([p0,p1]: (List (List aA))).length:Nat):Int)) (((([p0,p1]: (List (List aA))).length:Nat):Int)) (RL.nq (RC.eZ r5 (RC.ex ?_))))
  exact⟨rfl,j.sp 3 [0,1,2]⟩
 ·rintro hm aj ad s' _ w hk ⟨O,rfl,j⟩ o
  refine RC.sr (ic ((aj:Int)) (((([p0,p1]: (List (List aA))).length:Nat):Int)) (RL.nq (RC.eY (rZ hk) (RC.ss (RC.bs (mv (vi aj) ?_))))))
  obtain⟨aw,a8,o⟩:=bd o
  refine RL.bX 2 j zr zr Gm a8 (RL.ld (f:=(fun x=>x)) 2 j (kJ 2 j a8 0) (bE a8).2.1 Fd.self JV fun ak j=>?_)
  refine aP (vi aj) (aP ak (RL.ns (mv ak (RL.bA 0 aw j uN (ic ((aw.length:Int)) 0 (RL.nt ?_))))))
  obtain⟨a5,hj,o⟩:=bd o
  refine RC.jn (fun(a5:Int×Int)=>SH E V [(0,v0),(1,v1),(2,v2),(7,(.slice none 0 0)),(8,vi a5.1),(9,vi a5.2),(25,ar),(26,(vi ((([p0,p1]: (List (List aA))).length:Nat):Int))),(27,vi aj)] [rd v0 p0,rd v1 p1,own 38 ar ([p0,p1]: (List (List aA)))]) a5 ?_ ?_
  ·refine dW hj (fun hc hj=>?_) fun hc hj=>?_
   rotate_left
   ·refine RC.skip ?_
    obtain rfl:=oi hj
    exact⟨rfl,j.sp 4 [1,2,3]⟩
   refine RC.seq (RC.seq ?_)
   obtain⟨a9,hjj,hj⟩:=bd hj
   refine RC.jn (fun(a9:Bool)=>SH E V [(0,v0),(1,v1),(2,v2),(7,(.slice none 0 0)),(8,vi ad.1),(9,vi ad.2),(11,ak),(25,ar),(26,(vi ((([p0,p1]: (List (List aA))).length:Nat):Int))),(27,vi aj),(41,vb a9)] [rd v0 p0,rd v1 p1,rd ak aw,own 38 ar ([p0,p1]: (List (List aA)))]) a9 ?_ ?_
   ·refine RC.region (mv (vi aj) (ic ((aj:Int)) 0 (mv (vb ((aj:Int)==0)) (gu hjj (fun au hjj=>?_) fun au hjj=>?_))))
    ·refine bN au (bN au (bN au (gD au (vb true) (RL.nil ?_))))
     obtain rfl:=oi hjj
     exact⟨rfl,j.sp 4 [1,2,0,3]⟩
    refine RL.move v0 (cg au) (RL.bA (hg:=(cg au)) 1 p0 j uN (RL.lA (p0.length:Int) 0 (cg au) (gD au (vb ((p0.length:Int)==0)) (RL.nil ?_))))
    obtain rfl:=oi hjj
    exact⟨rfl,j.sp 4 [1,2,0,3]⟩
   rintro _ w ⟨O,rfl,j⟩
   refine aJ ?_
   obtain⟨al,hjj,hj⟩:=bd hj
   refine RC.jn (fun(al:Int×Int)=>SH E V [(0,v0),(1,v1),(2,v2),(7,(.slice none 0 0)),(8,vi al.1),(9,vi al.2),(11,ak),(25,ar),(26,(vi ((([p0,p1]: (List (List aA))).length:Nat):Int))),(27,vi aj)] [rd v0 p0,rd v1 p1,rd ak aw,own 38 ar ([p0,p1]: (List (List aA)))]) al ?_ ?_
   ·refine dW hjj (fun hc hjj=>?_) fun hc hjj=>?_
    rotate_left
    ·refine RC.skip ?_
     obtain rfl:=oi hjj
     exact⟨rfl,j.sp 4 [0,1,2,3]⟩
    refine RC.yk mixed ?_
    have j:=j.drew
    refine RO.go (mv ak (RO.nx ?_))
    obtain⟨bj,bw,hjj⟩:=bd hjj
    refine RL.bP 2 j o0 bw fun cd j=>(RO.nx (RL.eT 0 j zr su gO fun cf j=>(RO.nx (RL.bG bj.Y0 0 j cF (RO.nx (mv ak (RO.nx (mv ak ?_))))))))
    refine RO.nx (RL.bA 4 aw j uN (RO.nx (RL.gQ (aw.length:Int) 1 (RO.nx ?_))))
    obtain⟨bk,bx,hjj⟩:=bd hjj
    refine RL.bP 4 j o0 bx fun ch j=>(RO.nx (RL.eT 0 j zr oZ fF fun cj j=>(RO.nx (RL.bG bk.Y1 0 j cF (RO.nx (aP (vi bj.Y0) (RO.nx (aP (vi bk.Y1) ?_))))))))
    refine RO.last ?_
    obtain rfl:=oi hjj
    exact⟨rfl,j.sp 8 [4,5,6,7]⟩
   rintro _ w ⟨O,rfl,j⟩
   refine aJ (RC.yk mixed ?_)
   have j:=j.drew
   refine RO.go (mv (vi al.1) (RO.nx (mv ak (RO.nx ?_))))
   obtain⟨a6,bz,hj⟩:=bd hj
   refine RL.bP 2 j o0 bz fun ck j=>(RO.nx (RL.eT 0 j zr su gO fun cl j=>(RO.nx (RL.bG a6.Y0 0 j cF (RO.nx (RL.min al.1 a6.Y0 (RO.nx (mv (vi al.2) ?_))))))))
   refine RO.nx (mv ak (RO.nx (mv ak (RO.nx (RL.bA 4 aw j uN (RO.nx (RL.gQ (aw.length:Int) 1 (RO.nx ?_))))))))
   obtain⟨a7,b0,hj⟩:=bd hj
   refine RL.bP 4 j o0 b0 fun cm j=>(RO.nx (RL.eT 0 j zr oZ fF fun cn j=>(RO.nx (RL.bG a7.Y1 0 j cF (RO.nx (RL.max al.2 a7.Y1 (RO.nx (aP (vi (if a6.Y0<al.1 then a6.Y0 else al.1)) ?_))))))))
   refine RO.nx (aP (vi (if al.2<a7.Y1 then a7.Y1 else al.2)) (RO.last ?_))
   obtain rfl:=oi hj
   exact⟨rfl,j.sp 8 [4,5,7]⟩
  rintro _ w ⟨O,rfl,j⟩
  refine bQ (aJ (RC.region (RL.inc hk hm (mv (vi ((aj+1:Nat):Int)) (RL.nil ?_)))))
  obtain rfl:=oi o
  exact⟨rfl,j.sp 3 [0,1,2]⟩
 rintro _ w ⟨O,rfl,j⟩
 refine aJ (RC.seq ?_)
 obtain⟨cp,hN,o⟩:=bd o
 refine RC.iter (fun(aa: (List aA)×(List aA)×(List aA)×Int) U w=>∃bl bm bn:Value,SH E V [(0,bl),(1,bm),(2,v2),(7,bn),(8,vi aa.2.2.2),(9,vi ad.2)] [rd bl aa.1,rd bm aa.2.1,own 81 bn aa.2.2.1] U w) (fun(aa: (List aA)×(List aA)×(List aA)×Int) U w=>∃a2:Value,SH E V [(7,a2)] [own 81 a2 aa.2.2.1] U w) (fun(r:Empty) _ _=>r.elim) hN ?_ ?_ ?_ ?_
 ·have j:=j.cX aA 81
  exact⟨v0,v1,(.slice none 0 0),j.sp 4 [1,2,0]⟩
 ·rintro aa fl _ w ⟨b1,ay,ag,O,rfl,j⟩ o
  refine RC.seq (RC.sr (mv (vi aa.2.2.2) (mv (vi ad.2) (ic aa.2.2.2 ad.2 (RL.nt (dW o (fun hc o=>?_) fun hc o=>?_))))))
  rotate_left
  ·refine RC.ex ?_
   obtain rfl:=oi o
   exact⟨rfl,ag,j.sp 3 [2]⟩
  refine RC.sn (RC.block (RC.seq ?_))
  obtain⟨cq,hN,o⟩:=bd o
  refine RC.iter (fun(an: (List aA)) U w=>∃bp:Value,SH E V [(0,bp),(1,ay),(2,v2),(7,ag),(8,vi aa.2.2.2),(9,vi ad.2)] [rd ay aa.2.1,own 81 ag aa.2.2.1,rd bp an] U w) (fun(an: (List aA)) U w=>∃ao:Value,SH E V [(0,ao),(1,ay),(2,v2),(7,ag),(8,vi aa.2.2.2),(9,vi ad.2)] [rd ay aa.2.1,own 81 ag aa.2.2.1,rd ao an] U w) (fun(r:Empty) _ _=>r.elim) hN ?_ ?_ ?_ ?_
  ·exact⟨b1,j.sp 3 [1,2,0]⟩
  ·rintro an fl _ w ⟨az,O,rfl,j⟩ o
   refine RC.seq (RC.seq ?_)
   obtain⟨ba,hj,o⟩:=bd o
   refine RC.jn (fun(ba:Bool)=>SH E V [(0,az),(1,ay),(2,v2),(7,ag),(8,vi aa.2.2.2),(9,vi ad.2),(82,vb ba)] [rd az an,rd ay aa.2.1,own 81 ag aa.2.2.1]) ba ?_ ?_
   ·refine RC.region (mv az (RL.bA 2 an j uN (ic ((an.length:Int)) 0 (mv (vb (decide ((an.length:Int)>0))) (gu hj (fun ah hj=>?_) fun ah hj=>?_)))))
    rotate_left
    ·refine bN ah (bN ah (bN ah (bN ah (bN ah (bN ah (gD ah (vb false) (RL.nil ?_)))))))
     obtain rfl:=oi hj
     exact⟨rfl,j.sp 3 [2,0,1]⟩
    refine RL.move az (cg ah) ?_
    obtain⟨bb,b2,hj⟩:=bd hj
    refine RL.bP (hg:=(cg ah)) 2 j o0 b2 fun cr j=>(RL.eT (hg:=(cg ah)) 0 j zr oZ fF fun ct j=>(RL.bG (hg:=(cg ah)) bb.Y1 0 j cF (RL.move (vi aa.2.2.2) (cg ah) (RL.lA bb.Y1 aa.2.2.2 (cg ah) (gD ah (vb (decide (bb.Y1<=aa.2.2.2))) (RL.nil ?_))))))
    obtain rfl:=oi hj
    exact⟨rfl,j.sp 5 [4,2,3]⟩
   rintro _ w ⟨O,rfl,j⟩
   refine aJ (dW o (fun hc o=>?_) fun hc o=>?_)
   rotate_left
   ·refine RC.ex ?_
    obtain rfl:=oi o
    exact⟨rfl,az,j.sp 3 [1,2,0]⟩
   refine RC.sn (RC.block (RC.region (mv az ?_)))
   obtain⟨cu,b3,o⟩:=bd o
   refine RL.cut 0 j o0 (.inr ⟨rfl,zr⟩) b3 fun bq j=>(aP bq (RL.nil (bQ ?_)))
   obtain rfl:=oi o
   exact⟨rfl,bq,j.sp 4 [2,3,0]⟩
  ·intro r _ _ _ _
   exact r.elim
  rintro an _ w rfl ⟨ao,O,rfl,j⟩
  rw [Fo.dQ] at o
  refine aJ (RC.seq ?_)
  obtain⟨cv,hN,o⟩:=bd o
  refine RC.iter (fun(av: (List aA)) U w=>∃br:Value,SH E V [(0,ao),(1,br),(2,v2),(7,ag),(8,vi aa.2.2.2),(9,vi ad.2)] [rd ao an,own 81 ag aa.2.2.1,rd br av] U w) (fun(av: (List aA)) U w=>∃a0:Value,SH E V [(0,ao),(1,a0),(2,v2),(7,ag),(8,vi aa.2.2.2),(9,vi ad.2)] [rd ao an,own 81 ag aa.2.2.1,rd a0 av] U w) (fun(r:Empty) _ _=>r.elim) hN ?_ ?_ ?_ ?_
  ·exact⟨ay,j.sp 3 [2,1,0]⟩
  ·rintro av fl _ w ⟨a1,O,rfl,j⟩ o
   refine RC.seq (RC.seq ?_)
   obtain⟨bc,hj,o⟩:=bd o
   refine RC.jn (fun(bc:Bool)=>SH E V [(0,ao),(1,a1),(2,v2),(7,ag),(8,vi aa.2.2.2),(9,vi ad.2),(95,vb bc)] [rd ao an,rd a1 av,own 81 ag aa.2.2.1]) bc ?_ ?_
   ·refine RC.region (mv a1 (RL.bA 2 av j uN (ic ((av.length:Int)) 0 (mv (vb (decide ((av.length:Int)>0))) (gu hj (fun ai hj=>?_) fun ai hj=>?_)))))
    rotate_left
    ·refine bN ai (bN ai (bN ai (bN ai (bN ai (bN ai (gD ai (vb false) (RL.nil ?_)))))))
     obtain rfl:=oi hj
     exact⟨rfl,j.sp 3 [0,2,1]⟩
    refine RL.move a1 (cg ai) ?_
    obtain⟨bf,b4,hj⟩:=bd hj
    refine RL.bP (hg:=(cg ai)) 2 j o0 b4 fun cw j=>(RL.eT (hg:=(cg ai)) 0 j zr oZ fF fun cx j=>(RL.bG (hg:=(cg ai)) bf.Y1 0 j cF (RL.move (vi aa.2.2.2) (cg ai) (RL.lA bf.Y1 aa.2.2.2 (cg ai) (gD ai (vb (decide (bf.Y1<=aa.2.2.2))) (RL.nil ?_))))))
    obtain rfl:=oi hj
    exact⟨rfl,j.sp 5 [2,4,3]⟩
   rintro _ w ⟨O,rfl,j⟩
   refine aJ (dW o (fun hc o=>?_) fun hc o=>?_)
   rotate_left
   ·refine RC.ex ?_
    obtain rfl:=oi o
    exact⟨rfl,a1,j.sp 3 [0,2,1]⟩
   refine RC.sn (RC.block (RC.region (mv a1 ?_)))
   obtain⟨cy,b5,o⟩:=bd o
   refine RL.cut 1 j o0 (.inr ⟨rfl,zr⟩) b5 fun bt j=>(aP bt (RL.nil (bQ ?_)))
   obtain rfl:=oi o
   exact⟨rfl,bt,j.sp 4 [1,3,0]⟩
  ·intro r _ _ _ _
   exact r.elim
  rintro av _ w rfl ⟨a0,O,rfl,j⟩
  rw [Fo.dQ] at o
  refine aJ (RC.sr (mv ao (mv (vi aa.2.2.2) (mv (vi ad.2) ?_))))
  obtain⟨ae,b6,o⟩:=bd o
  refine RL.call zt zr JW [ao,(vi aa.2.2.2),(vi ad.2)] zr (aC (s9 N (p1:=aa.2.2.2) (p2:=ad.2) (i0:=0) j zr b6) ?_)
  rintro _ w ⟨a3,rfl,j⟩
  refine mv (.tuple #[a3,(vi ae.2)]) (RL.extract a3 (RL.extract (vi ae.2) (aP a3 (aP (vi ae.2) (RL.ns (mv a0 (mv (vi aa.2.2.2) (mv (vi ad.2) ?_))))))))
  obtain⟨af,b7,o⟩:=bd o
  refine RL.call zt zr JW [a0,(vi aa.2.2.2),(vi ad.2)] zr (aC (s9 N (p1:=aa.2.2.2) (p2:=ad.2) (i0:=3) j zr b7) ?_)
  rintro _ w ⟨a4,rfl,j⟩
  refine mv (.tuple #[a4,(vi af.2)]) (RL.extract a4 (RL.extract (vi af.2) (aP a4 (aP (vi af.2) (RL.ns (mv (vi ae.2) (mv (vi af.2) (RL.min ae.2 af.2 ?_))))))))
  refine aP (vi (if af.2<ae.2 then af.2 else ae.2)) (RL.ns (mv ag (mv (vi aa.2.2.2) (mv (vi (if af.2<ae.2 then af.2 else ae.2)) (mv a3 (mv a4 (mv v2 ?_)))))))
  obtain⟨b8,b9,o⟩:=bd o
  refine RL.call zt zr LP [a3,a4,v2] zr (aC (z7 N (i0:=1) (i1:=0) j zr zr (h2.lift 5 zr) b9) ?_)
  rintro ca w j
  have j:=((j.sc Int aa.2.2.2).sc Int (if af.2<ae.2 then af.2 else ae.2)).freeze 2
  refine RL.build (⟨aa.2.2.2,(if af.2<ae.2 then af.2 else ae.2),b8⟩:aA) trivial rfl j [(0,vi aa.2.2.2),(1,(vi (if af.2<ae.2 then af.2 else ae.2))),(2,ca)] rfl JE rfl (fun M hs g=>by have h:=wu M;exact dB.cons (f:=fun(x:aA) y=>{x with Y0:=y}) h sY (g.sat 1 _ rfl).1 fun _ h=>dB.cons (f:=fun(x:aA) y=>{x with Y1:=y}) h oY (g.sat 0 _ rfl).1 fun _ h=>dB.cons (f:=fun(x:aA) y=>{x with Xs:=y}) h sZ (g.sat 2 _ rfl).1 fun _ h=>dB.nil h) fun cb j=>?_
  have j:=j.pull 7
  obtain⟨cz,cc,o⟩:=bd o
  refine RL.call zt zr JF [ag,cb] zr (aC (qD N (i1:=0) j zr cc) ?_)
  rintro bu w j
  refine aP bu (RL.nt (RC.region (mv (vi (if af.2<ae.2 then af.2 else ae.2)) (aP (vi (if af.2<ae.2 then af.2 else ae.2)) (RL.nil (bQ ?_))))))
  obtain rfl:=oi o
  exact⟨rfl,ao,a0,bu,j.sp 10 [7,9,0]⟩
 ·intro r _ _ _ _
  exact r.elim
 rintro aa _ w rfl ⟨a2,O,rfl,j⟩
 rw [Fo.dQ] at o
 refine aJ (RC.sr (mv a2 (aP a2 (RL.nt (RC.ret ?_)))))
 obtain rfl:=oi o
 exact bM (j.pk 1 [0])
theorem tN {p0 p1 res:Bool} (o:Holds E w V) (j:lU N p0 p1=some res):
    Calls bD 32 [(vb p0),(vb p1)].toArray w (gm (aS E V res)):=by
 unfold lU at j
 refine enter Tryz.func32 rfl rfl (RC.sr (aP (vb false) (RL.ns (mv (vb p0) (mv (vb p0) (RL.gs true p0 (vb p1) rfl rfl rfl cE (RL.gs true p0 (vb (!p1)) rfl rfl rfl (FU p1 rfl (fun h=>by exact(cG h:cv (true&&(p0==true)) (vb p1)= (vb p1)))) (RL.pick p0 (vb (p0&&(!p1))) (gr true) ?_))))))))
 refine aP (vb (p0&&(!p1))) (RL.nt (RC.ret ?_))
 obtain rfl:=oi j
 exact bM ⟨rfl,o.drop 0⟩
theorem qF {p0: (List aA)} {p1: (List aA)} {res: (List aA)} (o:Holds E w V) (h0:V[i0]? =some (rd v0 p0)) (h1:V[i1]? =some (rd v1 p1)) (hb:i9 N p0 p1=some res):
    Calls bD 13 [v0,v1].toArray w (gm (kU E V res)):=by
 unfold i9 at hb
 refine enter Tryz.func13 zr zr ?_
 have o:=(o.dup (i0+0) h0).dup (i1+1) h1
 refine RC.sr (aP (.slice none 0 0) (RL.ns (mv v0 (mv v1 ?_))))
 obtain⟨af,ab,hb⟩:=bd hb
 refine RL.call trivial rfl JX [v0,v1,(.func (.func 32) #[] #[])] rfl (aC (tM N (i0:=1) (i1:=0) o rfl rfl ⟨32,[],rfl,LQ,fun w Γl v v' y0 y1 r i j o hi hj hr=>by obtain rfl:=o.zU (γ:=Bool) hi;obtain rfl:=o.zU (γ:=Bool) hj;exact aC (tN N (p0:=y0) (p1:=y1) o hr) fun _ _ h=>h⟩ ab) ?_)
 rintro ae w o
 refine aP ae (RL.nt (RC.ret ?_))
 obtain rfl:=oi hb
 exact bM (o.pk 3 [0])
theorem qG {p0: (List aA)} (j:Holds E w V) (h0:V[i0]? =some (rd v0 p0)) (hb:kN N p0=some res):
    Calls bD 49 [v0].toArray w (gm (aU E V res)):=by
 unfold kN at hb
 refine enter Tryz.func49 zr zr ?_
 have j:=j.dup (i0+0) h0
 refine RC.sr (aP (vi 0) (RL.ns (aP (vi 0) (RL.nq (RC.sr (mv v0 (RL.bA 0 p0 j uN (mv (vi 0) ?_))))))))
 refine RL.nt ?_
 obtain⟨o,hN,hb⟩:=bd hb
 refine RC.fold (fun(ad:Nat) (o:Int)=>SH E V [(3,vi o),(6,v0),(7,vi p0.length),(8,vi ad)] [rd v0 p0]) (fun(o:Int)=>SH E V [(3,vi o)] [rd v0 p0]) hN ?_ ?_ ?_ ?_
 ·exact j.sp 1 [0]
 ·rintro hm o _ w ⟨O,rfl,j⟩
  refine RC.sr (ic ((p0.length:Int)) ((p0.length:Int)) (RL.nq (RC.eZ r5 (RC.ex ?_))))
  exact⟨rfl,j.sp 1 [0]⟩
 ·rintro hm ad o s' _ w hk ⟨O,rfl,j⟩ hb
  refine RC.sr (ic ((ad:Int)) ((p0.length:Int)) (RL.nq (RC.eY (rZ hk) (RC.ss (RC.bs ?_)))))
  obtain⟨ab,ah,hb⟩:=bd hb
  refine RL.bP 0 j o0 ah fun ai j=>(RL.bF 0 ab j Bb fun aj j=>(RL.alloc j Gi.z fun ak w j=>?_))
  refine RL.aY 0 j 1 zr Bb fun w j=>?_
  refine RL.nt (RC.region (mv (vi o) (RL.aX zr nW (RL.aV 0 j zr dR iq fun al j=>(RL.bA 0 ab.Xs j nr (RL.quo (ab.Xs.length:Int) 2 (RL.gQ o (IntKind.wrap .i64 (Int.tdiv (ab.Xs.length:Int) 2)) (aP (vi (IntKind.wrap .i64 (o+ (IntKind.wrap .i64 (Int.tdiv (ab.Xs.length:Int) 2))))) ?_))))))))
  refine RL.nil (bQ (aJ (RC.region (RL.inc hk hm (mv (vi ((ad+1:Nat):Int)) (RL.nil ?_))))))
  obtain rfl:=oi hb
  exact⟨rfl,j.sp 5 [4]⟩
 rintro _ w ⟨O,rfl,j⟩
 refine aJ (RC.sr (mv (vi o) (aP (vi o) (RL.nt (RC.ret ?_)))))
 obtain rfl:=oi hb
 exact bM ⟨rfl,j.drop 1⟩
def tO (E:World) (V:List HP) (b1:Nat) (res:Int×(List Int)) (v:Value) (w:World):Prop:=∃u1_0:Value,v= (vi res.1)/\Holds E w ([bc 73 b1 [u1_0],own 3 u1_0 res.2]++V)
theorem lQ {p1_0: (List Int)} {res:Int×(List Int)} (j:Holds E w (bc 73 b1 [v1_0]::own 3 v1_0 p1_0::V)) (o:fz N p0 p1_0=some res):
    Calls bD 139 [(vi p0),(vp b1 0)].toArray w (gm (tO E V b1 res)):=by
 unfold fz at o
 refine enter Tryz.func139 zr zr (RC.sr (aP (vi 0) (RL.nq ?_)))
 obtain⟨an,hN,o⟩:=bd o
 refine RC.iter (fun(aa:Int×(List Int))=>SH E V [(0,vi aa.1),(1,vp b1 0)] [bc 73 b1 [v1_0],own 3 v1_0 aa.2]) (fun(aa:Int×(List Int))=>SH E V [(0,vi aa.1),(1,vp b1 0)] [bc 73 b1 [v1_0],own 3 v1_0 aa.2]) (fun(r:Empty) _ _=>r.elim) hN ?_ ?_ ?_ ?_
 ·exact j.sp 2 [0,1]
 ·rintro aa fl _ w ⟨O,rfl,j⟩ o
  refine RC.seq (RC.sr (RL.cA 0 v1_0 j iq (mv (vi aa.1) ?_)))
  obtain⟨ai,ab,o⟩:=bd o
  refine RL.bX 1 j zr zr fG ab (RL.eH (f:=(fun x=>x)) 1 j (kJ 1 j ab 0) (bE ab).2.1 Fd.self cF (mv (vi aa.1) (ic ai aa.1 (RL.nt (dW o (fun hc o=>?_) fun hc o=>?_)))))
  rotate_left
  ·refine RC.ex ?_
   obtain rfl:=oi o
   exact⟨rfl,j.sp 2 [0,1]⟩
  refine RC.sn (RC.block (RC.seq (RC.xq mixed [0,0,0,0,0,0,0,0,0,0,2] [0,1,2,3,4,5,6,7,8,9,10] ?_)))
  have j:=j.drew
  refine DP.e0 zr (RL.cA 0 v1_0 j iq (bW zr (mv (vi aa.1) (bW zr (RL.cA 0 v1_0 j iq (bW zr (RL.cA 0 v1_0 j iq (bW zr ?_))))))))
  refine mv (vi aa.1) (bW zr ?_)
  obtain⟨aq,ad,o⟩:=bd o
  refine RL.bX 1 j zr zr fG ad (bW zr (RL.eH (f:=(fun x=>x)) 1 j (kJ 1 j ad 0) (bE ad).2.1 Fd.self cF (bW zr ?_)))
  obtain⟨ak,ae,o⟩:=bd o
  refine RL.bX 1 j zr zr fG ae (bW zr (RL.eH (f:=(fun x=>x)) 1 j (kJ 1 j ae 0) (bE ae).2.1 Fd.self cF (bW zr ?_)))
  obtain⟨ar,af,o⟩:=bd o
  refine RL.bX 1 j zr zr fG af (r6 zr ?_)
  have j:=j.sc Int ak
  refine RL.gp (f:=(fun _ y=>y)) 2 0 j (kJ 2 j af 0) (bE af).2.1 zr Fs.self cF fun w j=>?_
  refine DP.d2 zt (DP.z (aJ (RC.region (RL.cA 1 v1_0 j iq (mv (vi aa.1) ?_)))))
  obtain⟨al,ag,o⟩:=bd o
  refine RL.bX 2 j zr zr fG ag (RL.eH (f:=(fun x=>x)) 2 j (kJ 2 j ag 0) (bE ag).2.1 Fd.self cF (aP (vi al) (RL.nil (bQ ?_))))
  obtain rfl:=oi o
  exact⟨rfl,j.sp 3 [1,2]⟩
 ·intro r _ _ _ _
  exact r.elim
 rintro aa _ w rfl ⟨O,rfl,j⟩
 rw [Fo.dQ] at o
 refine aJ (RC.sr (mv (vi aa.1) (aP (vi aa.1) (RL.nt (RC.ret ?_)))))
 obtain rfl:=oi o
 exact bM ⟨v1_0,zr,j.pk 2 [0,1]⟩
def wF (E:World) (V:List HP) (res: (List (List aA))) (v:Value) (w:World):Prop:=Holds E w ([own 38 v res]++V)
theorem vG {p0: (List aA)} {res: (List (List aA))} (o:Holds E w V) (h0:V[i0]? =some (rd v0 p0)) (hb:lB N p0=some res):
    Calls bD 98 [v0].toArray w (gm (wF E V res)):=by
 unfold lB at hb
 refine enter Tryz.func98 zr zr ?_
 have o:=o.dup (i0+0) h0
 refine RC.sr (aP (.slice none 0 0) (RL.ns (mv v0 ?_)))
 obtain⟨aq,c7,hb⟩:=bd hb
 refine RL.call zt zr HA [v0] zr (aC (lq N (i0:=0) o zr c7) ?_)
 rintro ah w o
 refine aP ah (RL.ns (mv ah (RL.fY 0 aq o mS ?_)))
 obtain⟨bn,c8,hb⟩:=bd hb
 refine RL.mk (aq.length:Int) o uM JC c8 fun ba w o=>?_
 refine RL.pP o JB fun ag w o=>?_
 refine RL.gW 0 ba o zr zr (eM 1 o) iq fun w o=>?_
 refine RL.nq (RC.sr (RL.cA 0 ba o iq (RL.fY 1 bn o nr (mv (vi 0) (RL.nt ?_)))))
 obtain⟨bk,hN,hb⟩:=bd hb
 refine RC.fold (fun(a8:Nat) (bk: (List Int))=>SH E V [(0,v0),(3,ah),(4,vp ag 0),(32,vi bn.length),(33,vi a8)] [rd v0 p0,own 51 ah aq,bc 73 ag [ba],own 3 ba bk]) (fun(bk: (List Int))=>SH E V [(0,v0),(3,ah),(4,vp ag 0)] [rd v0 p0,own 51 ah aq,bc 73 ag [ba],own 3 ba bk]) hN ?_ ?_ ?_ ?_
 ·exact o.sp 4 [3,2,0,1]
 ·rintro hm bk _ w ⟨O,rfl,o⟩
  refine RC.sr (ic ((bn.length:Int)) ((bn.length:Int)) (RL.nq (RC.eZ r5 (RC.ex ?_))))
  exact⟨rfl,o.sp 4 [0,1,2,3]⟩
 ·rintro hm a8 bk s' _ w hk ⟨O,rfl,o⟩ hb
  refine RC.sr (ic ((a8:Int)) ((bn.length:Int)) (RL.nq (RC.eY (rZ hk) (RC.ss (RC.bs (mv (vi a8) (aP (vi a8) (RL.nt ?_))))))))
  refine RC.region (RL.cA 2 ba o iq (mv (vi a8) (mv (vi a8) ?_)))
  obtain⟨du,cb,hb⟩:=bd hb
  refine RL.bX 3 o zr zr fG cb ?_
  have o:=o.sc Int (a8:Int)
  refine RL.gp (f:=(fun _ y=>y)) 4 0 o (kJ 4 o cb 0) (bE cb).2.1 zr Fs.self cF fun w o=>?_
  refine RL.nil (bQ (aJ (RC.region (RL.inc hk hm (mv (vi ((a8+1:Nat):Int)) (RL.nil ?_))))))
  obtain rfl:=oi hb
  exact⟨rfl,o.sp 5 [1,2,3,4]⟩
 rintro _ w ⟨O,rfl,o⟩
 refine aJ (RC.sr (RL.makeFunc zt zr [(vp ag 0)] zr (aP (.func (.func 139) #[] #[(vp ag 0)]) (RL.ns (aP (vi 0) (aP (vi 0) (RL.nq (RC.sr ?_))))))))
 refine mv v0 (RL.bA 0 p0 o uN (mv (vi 0) (RL.nt ?_)))
 obtain⟨ad,hN,hb⟩:=bd hb
 refine RC.fold (fun(ay:Nat) (ad: (List Int)×Int×Int) U w=>∃ct:Value,SH E V [(0,v0),(3,ah),(4,vp ag 0),(6,(.func (.func 139) #[] #[(vp ag 0)])),(7,vi ad.2.1),(8,vi ad.2.2),(42,v0),(43,vi p0.length),(44,vi ay)] [rd v0 p0,own 51 ah aq,bc 73 ag [ct],own 3 ct ad.1] U w) (fun(ad: (List Int)×Int×Int) U w=>∃br:Value,SH E V [(3,ah),(6,(.func (.func 139) #[] #[(vp ag 0)]))] [rd v0 p0,own 51 ah aq,bc 73 ag [br],own 3 br ad.1] U w) hN ?_ ?_ ?_ ?_
 ·exact⟨ba,o.sp 4 [0,1,2,3]⟩
 ·rintro hm ad _ w ⟨c9,O,rfl,o⟩
  refine RC.sr (ic ((p0.length:Int)) ((p0.length:Int)) (RL.nq (RC.eZ r5 (RC.ex ?_))))
  exact⟨rfl,c9,o.sp 4 [0,1,2,3]⟩
 ·rintro hm ay ad s' _ w hk ⟨bt,O,rfl,o⟩ hb
  refine RC.sr (ic ((ay:Int)) ((p0.length:Int)) (RL.nq (RC.eY (rZ hk) (RC.ss (RC.bs (mv (vi ay) ?_))))))
  obtain⟨an,da,hb⟩:=bd hb
  refine RL.bP 0 o o0 da fun dv o=>(RL.bF 0 an o Bb fun dw o=>(RL.alloc o Gi.z fun dx w o=>?_))
  refine aP (vi ay) (RL.aY 0 o 1 zr Bb fun w o=>?_)
  refine RL.ns (RL.aX zr nW (RL.aV 0 o zr dR iq fun dy o=>(RL.bA 0 an.Xs o nr (RL.quo (an.Xs.length:Int) 2 (aP (vi (IntKind.wrap .i64 (Int.tdiv (an.Xs.length:Int) 2))) (RL.nq (RC.seq ?_)))))))
  obtain⟨cc,hj,hb⟩:=bd hb
  refine RC.jn (fun(cc:Bool)=>SH E V [(0,v0),(3,ah),(4,vp ag 0),(6,(.func (.func 139) #[] #[(vp ag 0)])),(7,vi ad.2.1),(8,vi ad.2.2),(11,(vi (IntKind.wrap .i64 (Int.tdiv (an.Xs.length:Int) 2)))),(42,v0),(43,vi p0.length),(44,vi ay),(65,vb cc)] [rd v0 p0,own 51 ah aq,bc 73 ag [bt],own 3 bt ad.1]) cc ?_ ?_
  ·refine RC.yk mixed ?_
   have o:=o.drew
   refine RO.go (mv (vi ay) (RO.nx (ic ((ay:Int)) 0 (RO.nx (mv (vb (decide ((ay:Int)>0))) (gu hj (fun aw hj=>?_) fun aw hj=>?_))))))
   rotate_left
   ·refine RO.nx (bN aw (RO.nx (bN aw (RO.nx (bN aw (RO.nx (bN aw (RO.nx ?_))))))))
    refine bN aw (RO.nx (bN aw (RO.nx (bN aw (RO.nx (bN aw (RO.nx (bN aw ?_))))))))
    refine RO.nx (gD aw (vb false) (RO.last ?_))
    obtain rfl:=oi hj
    exact⟨rfl,o.sp 8 [4,5,6,7]⟩
   refine RO.nx (RL.move v0 (cg aw) (RO.nx (RL.move (vi ay) (cg aw) (RO.nx (RL.gQ (hg:=(cg aw)) (ay:Int) 1 (RO.nx ?_))))))
   obtain⟨cd,db,hj⟩:=bd hj
   refine RL.bP (hg:=(cg aw)) 4 o o0 db fun dz o=>(RO.nx (RL.eT (hg:=(cg aw)) 0 o zr oZ fF fun d0 o=>(RO.nx (RL.bG (hg:=(cg aw)) cd.Y1 0 o cF (RO.nx (RL.aX (hg:=(cg aw)) zr su (RO.nx (RL.aL (hg:=(cg aw)) 3 o zr gO cF ?_))))))))
   refine RO.nx (RL.lA cd.Y1 an.Y0 (cg aw) (RO.nx (gD aw (vb (cd.Y1==an.Y0)) (RO.last ?_))))
   obtain rfl:=oi hj
   exact⟨rfl,o.sp 10 [6,7,8,9]⟩
  rintro _ w ⟨O,rfl,o⟩
  refine aJ ?_
  obtain⟨cf,hj,hb⟩:=bd hb
  refine RC.jn (fun(cf: (List Int)) U w=>∃bu:Value,SH E V [(0,v0),(3,ah),(4,vp ag 0),(6,(.func (.func 139) #[] #[(vp ag 0)])),(7,vi ad.2.1),(11,(vi (IntKind.wrap .i64 (Int.tdiv (an.Xs.length:Int) 2)))),(42,v0),(43,vi p0.length),(44,vi ay)] [rd v0 p0,own 51 ah aq,bc 73 ag [bu],own 3 bu cf] U w) cf ?_ ?_
  ·refine dW hj (fun hc hj=>?_) fun hc hj=>?_
   rotate_left
   ·refine RC.skip ?_
    obtain rfl:=oi hj
    exact⟨rfl,bt,o.sp 4 [0,1,2,3]⟩
   refine RC.sr (mv (vi ad.2.2) (mv (vi ad.2.1) (aP (vi ad.2.2) (aP (vi ad.2.1) (RL.nt ?_)))))
   obtain⟨d3,hN,hj⟩:=bd hj
   refine RC.iter (fun(ae: (List Int)×Int×Int) U w=>∃cu:Value,SH E V [(0,v0),(3,ah),(4,vp ag 0),(6,(.func (.func 139) #[] #[(vp ag 0)])),(7,vi ad.2.1),(11,(vi (IntKind.wrap .i64 (Int.tdiv (an.Xs.length:Int) 2)))),(12,vi ae.2.1),(13,vi ae.2.2),(42,v0),(43,vi p0.length),(44,vi ay)] [rd v0 p0,own 51 ah aq,bc 73 ag [cu],own 3 cu ae.1] U w) (fun(ae: (List Int)×Int×Int) U w=>∃bw:Value,SH E V [(0,v0),(3,ah),(4,vp ag 0),(6,(.func (.func 139) #[] #[(vp ag 0)])),(7,vi ad.2.1),(11,(vi (IntKind.wrap .i64 (Int.tdiv (an.Xs.length:Int) 2)))),(42,v0),(43,vi p0.length),(44,vi ay)] [rd v0 p0,own 51 ah aq,bc 73 ag [bw],own 3 bw ae.1] U w) (fun(r:Empty) _ _=>r.elim) hN ?_ ?_ ?_ ?_
   ·exact⟨bt,o.sp 4 [0,1,2,3]⟩
   ·rintro ae fl _ w ⟨bz,O,rfl,o⟩ hb
    refine RC.seq (RC.sr (mv (vi ae.2.1) (mv (vi ad.2.1) (ic ae.2.1 ad.2.1 (mv (vb (decide (ae.2.1<ad.2.1))) (RL.gs true (decide (ae.2.1<ad.2.1)) (vi ae.2.2) zr zr zr cE (RL.gs true (decide (ae.2.1<ad.2.1)) (vi ad.2.1) zr zr zr cE (RL.gs true (decide (ae.2.1<ad.2.1)) (vi (IntKind.wrap .i64 (Int.tdiv (an.Xs.length:Int) 2))) zr zr zr cE ?_))))))))
    refine RL.gs true (decide (ae.2.1<ad.2.1)) (vi (IntKind.wrap .i64 (ad.2.1+ (IntKind.wrap .i64 (Int.tdiv (an.Xs.length:Int) 2))))) rfl rfl rfl (Iz (bop:= .add) (K:= .i64) (a:=ad.2.1) (b:=(IntKind.wrap .i64 (Int.tdiv (an.Xs.length:Int) 2))) rfl (fun h=>by exact(cG h:cv (true&&((decide (ae.2.1<ad.2.1))==true)) (vi ad.2.1)= (vi ad.2.1))) (fun h=>by exact(cG h:cv (true&&((decide (ae.2.1<ad.2.1))==true)) (vi (IntKind.wrap .i64 (Int.tdiv (an.Xs.length:Int) 2)))= (vi (IntKind.wrap .i64 (Int.tdiv (an.Xs.length:Int) 2))))) rfl) (RL.gs true (decide (ae.2.1<ad.2.1)) (vb (decide (ae.2.2< (IntKind.wrap .i64 (ad.2.1+ (IntKind.wrap .i64 (Int.tdiv (an.Xs.length:Int) 2))))))) rfl rfl rfl (dK .lss .i64 ae.2.2 (IntKind.wrap .i64 (ad.2.1+ (IntKind.wrap .i64 (Int.tdiv (an.Xs.length:Int) 2)))) rfl (fun h=>by exact(cG h:cv (true&&((decide (ae.2.1<ad.2.1))==true)) (vi ae.2.2)= (vi ae.2.2))) (fun h=>by exact(cG h:cv (true&&((decide (ae.2.1<ad.2.1))==true)) (vi (IntKind.wrap .i64 (ad.2.1+ (IntKind.wrap .i64 (Int.tdiv (an.Xs.length:Int) 2)))))= (vi (IntKind.wrap .i64 (ad.2.1+ (IntKind.wrap .i64 (Int.tdiv (an.Xs.length:Int) 2))))))) rfl) (RL.pick (decide (ae.2.1<ad.2.1)) (vb ((decide (ae.2.1<ad.2.1))&&(decide (ae.2.2< (IntKind.wrap .i64 (ad.2.1+ (IntKind.wrap .i64 (Int.tdiv (an.Xs.length:Int) 2)))))))) (gr true) (RL.nt (dW hb (fun hc hb=>?_) fun hc hb=>?_))))
    rotate_left
    ·refine RC.ex ?_
     obtain rfl:=oi hb
     exact⟨rfl,bz,o.sp 4 [0,1,2,3]⟩
    refine RC.sn (RC.block (RC.seq (RC.seq ?_)))
    obtain⟨ch,hj,hb⟩:=bd hb
    refine RC.jn (fun(ch:Bool)=>SH E V [(0,v0),(3,ah),(4,vp ag 0),(6,(.func (.func 139) #[] #[(vp ag 0)])),(7,vi ad.2.1),(11,(vi (IntKind.wrap .i64 (Int.tdiv (an.Xs.length:Int) 2)))),(12,vi ae.2.1),(13,vi ae.2.2),(42,v0),(43,vi p0.length),(44,vi ay),(101,vb ch)] [rd v0 p0,own 51 ah aq,bc 73 ag [bz],own 3 bz ae.1]) ch ?_ ?_
    ·refine RC.yk mixed ?_
     have o:=o.drew
     refine RO.go (mv ah (RO.nx (mv (vi ae.2.1) (RO.nx ?_))))
     obtain⟨cw,b0,hj⟩:=bd hj
     refine RL.bX 1 o zr zr jt b0 (RO.nx (RL.nk (α:=aG) zt (kJ 1 o b0 0) iD (RO.nx (RL.eH 1 o (kJ 1 o b0 0) (bE b0).2.1 dM cF (RO.nx (mv ah (RO.nx (mv (vi ae.2.2) ?_))))))))
     refine RO.nx ?_
     obtain⟨cx,b1,hj⟩:=bd hj
     refine RL.bX 1 o zr zr jt b1 (RO.nx (RL.nk (α:=aG) zt (kJ 1 o b1 0) jl (RO.nx (RL.eH 1 o (kJ 1 o b1 2) (bE b1).2.1 eG cF (RO.nx (ic cw.X0 cx.X1 (RO.nx (mv (vb (decide (cw.X0<cx.X1))) ?_))))))))
     refine gu hj (fun ao hj=>?_) fun ao hj=>?_
     rotate_left
     ·refine RO.nx (bN ao (RO.nx (bN ao (RO.nx (bN ao (RO.nx (bN ao (RO.nx ?_))))))))
      refine bN ao (RO.nx (bN ao (RO.nx (bN ao (RO.nx (bN ao (RO.nx (bN ao ?_))))))))
      refine RO.nx (bN ao (RO.nx (bN ao (RO.nx (gD ao (vb false) (RO.last ?_))))))
      obtain rfl:=oi hj
      exact⟨rfl,o.sp 4 [0,1,2,3]⟩
     refine RO.nx (RL.move ah (cg ao) (RO.nx (RL.move (vi ae.2.2) (cg ao) (RO.nx ?_))))
     obtain⟨cy,b2,hj⟩:=bd hj
     refine RL.bX (hg:=(cg ao)) 1 o zr zr jt b2 (RO.nx (RL.nk (α:=aG) (cg ao) (kJ 1 o b2 0) iD (RO.nx (RL.eH (hg:=(cg ao)) 1 o (kJ 1 o b2 0) (bE b2).2.1 dM cF (RO.nx (RL.move ah (cg ao) (RO.nx (RL.move (vi ae.2.1) (cg ao) ?_))))))))
     refine RO.nx ?_
     obtain⟨cz,b3,hj⟩:=bd hj
     refine RL.bX (hg:=(cg ao)) 1 o zr zr jt b3 (RO.nx (RL.nk (α:=aG) (cg ao) (kJ 1 o b3 0) jl (RO.nx (RL.eH (hg:=(cg ao)) 1 o (kJ 1 o b3 2) (bE b3).2.1 eG cF (RO.nx (RL.lA cy.X0 cz.X1 (cg ao) (RO.nx (gD ao (vb (decide (cy.X0<cz.X1))) ?_))))))))
     refine RO.last ?_
     obtain rfl:=oi hj
     exact⟨rfl,o.sp 4 [0,1,2,3]⟩
    rintro _ w ⟨O,rfl,o⟩
    refine aJ ?_
    obtain⟨b4,hj,hb⟩:=bd hb
    refine RC.jn (fun(b4: (List Int)) U w=>∃bl:Value,SH E V [(0,v0),(3,ah),(4,vp ag 0),(6,(.func (.func 139) #[] #[(vp ag 0)])),(7,vi ad.2.1),(11,(vi (IntKind.wrap .i64 (Int.tdiv (an.Xs.length:Int) 2)))),(12,vi ae.2.1),(13,vi ae.2.2),(42,v0),(43,vi p0.length),(44,vi ay)] [rd v0 p0,own 51 ah aq,bc 73 ag [bl],own 3 bl b4] U w) b4 ?_ ?_
    ·refine dW hj (fun hc hj=>?_) fun hc hj=>?_
     rotate_left
     ·refine RC.skip ?_
      obtain rfl:=oi hj
      exact⟨rfl,bz,o.sp 4 [0,1,2,3]⟩
     refine RC.sr (mv (.func (.func 139) #[] #[(vp ag 0)]) (mv (vi ae.2.1) ?_))
     have o:=(o.pull 3).pull 3
     obtain⟨bf,dc,hj⟩:=bd hj
     refine RL.yD [(vp ag 0)] zr Gn zr [(vi ae.2.1)] zr (aC (lQ N (p0:=ae.2.1) o dc) ?_)
     rintro _ w ⟨d5,rfl,o⟩
     refine mv (.func (.func 139) #[] #[(vp ag 0)]) (mv (vi ae.2.2) ?_)
     have o:=(o.pull 1).pull 1
     obtain⟨bg,dd,hj⟩:=bd hj
     refine RL.yD [(vp ag 0)] zr Gn zr [(vi ae.2.2)] zr (aC (lQ N (p0:=ae.2.2) o dd) ?_)
     rintro _ w ⟨c0,rfl,o⟩
     refine aP (vi bf.1) (aP (vi bg.1) (RL.nt (RC.region (RL.cA 0 c0 o iq (mv (vi bf.1) (mv (vi bg.1) (RL.max bf.1 bg.1 (mv (vi bf.1) ?_))))))))
     refine mv (vi bg.1) (RL.min bf.1 bg.1 ?_)
     obtain⟨d6,cj,hj⟩:=bd hj
     refine RL.bX 1 o zr zr fG cj ?_
     have o:=o.sc Int (if bg.1<bf.1 then bg.1 else bf.1)
     refine RL.gp (f:=(fun _ y=>y)) 2 0 o (kJ 2 o cj 0) (bE cj).2.1 zr Fs.self cF fun w o=>?_
     refine RL.nil ?_
     obtain rfl:=oi hj
     exact⟨rfl,c0,o.sp 9 [5,6,1,2]⟩
    rintro _ w ⟨bl,O,rfl,o⟩
    refine aJ (RC.seq (RC.yk mixed ?_))
    have o:=o.drew
    refine RO.go (mv ah (RO.nx (mv (vi ae.2.1) (RO.nx ?_))))
    obtain⟨de,b5,hb⟩:=bd hb
    refine RL.bX 1 o zr zr jt b5 (RO.nx (RL.nk (α:=aG) zt (kJ 1 o b5 0) jl (RO.nx (RL.eH 1 o (kJ 1 o b5 2) (bE b5).2.1 eG cF (RO.nx (mv ah (RO.nx (mv (vi ae.2.2) ?_))))))))
    refine RO.nx ?_
    obtain⟨df,b6,hb⟩:=bd hb
    refine RL.bX 1 o zr zr jt b6 (RO.nx (RL.nk (α:=aG) zt (kJ 1 o b6 0) jl (RO.nx (RL.eH 1 o (kJ 1 o b6 2) (bE b6).2.1 eG cF (RO.nx (ic de.X1 df.X1 (RO.last (aJ ?_))))))))
    obtain⟨b7,hj,hb⟩:=bd hb
    refine RC.jn (fun(b7:Int×Int)=>SH E V [(0,v0),(3,ah),(4,vp ag 0),(6,(.func (.func 139) #[] #[(vp ag 0)])),(7,vi ad.2.1),(11,(vi (IntKind.wrap .i64 (Int.tdiv (an.Xs.length:Int) 2)))),(12,vi b7.1),(13,vi b7.2),(42,v0),(43,vi p0.length),(44,vi ay)] [rd v0 p0,own 51 ah aq,bc 73 ag [bl],own 3 bl b4]) b7 ?_ ?_
    ·refine dW hj (fun hc hj=>?_) fun hc hj=>?_
     ·refine RC.region (mv (vi ae.2.1) (RL.gQ ae.2.1 1 (aP (vi (IntKind.wrap .i64 (ae.2.1+1))) (RL.nil ?_))))
      obtain rfl:=oi hj
      exact⟨rfl,o.sp 4 [0,1,2,3]⟩
     refine RC.region (mv (vi ae.2.2) (RL.gQ ae.2.2 1 (aP (vi (IntKind.wrap .i64 (ae.2.2+1))) (RL.nil ?_))))
     obtain rfl:=oi hj
     exact⟨rfl,o.sp 4 [0,1,2,3]⟩
    rintro _ w ⟨O,rfl,o⟩
    refine bQ ?_
    obtain rfl:=oi hb
    exact⟨rfl,bl,o.sp 4 [0,1,2,3]⟩
   ·intro r _ _ _ _
    exact r.elim
   rintro ae _ w rfl ⟨bw,O,rfl,o⟩
   rw [Fo.dQ] at hj
   obtain rfl:=oi hj
   exact⟨rfl,bw,o.sp 4 [0,1,2,3]⟩
  rintro _ w ⟨bu,O,rfl,o⟩
  refine aJ (RC.region (mv (vi ad.2.1) (mv (vi ad.2.1) (mv (vi (IntKind.wrap .i64 (Int.tdiv (an.Xs.length:Int) 2))) (RL.gQ ad.2.1 (IntKind.wrap .i64 (Int.tdiv (an.Xs.length:Int) 2)) (aP (vi ad.2.1) (aP (vi (IntKind.wrap .i64 (ad.2.1+ (IntKind.wrap .i64 (Int.tdiv (an.Xs.length:Int) 2))))) (RL.nil ?_))))))))
  refine bQ (aJ (RC.region (RL.inc hk hm (mv (vi ((ay+1:Nat):Int)) (RL.nil ?_)))))
  obtain rfl:=oi hb
  exact⟨rfl,bu,o.sp 4 [0,1,2,3]⟩
 rintro _ w ⟨br,O,rfl,o⟩
 refine aJ (RC.sr (RL.makeMap (κ:=Int) (ν:=Int) zt zr o fun a6 w o=>(aP a6 (RL.ns (aP (.slice none 0 0) (RL.nq (RC.sr (mv ah ?_))))))))
 refine RL.fY 2 aq o mS (mv (vi 0) (RL.nt ?_))
 obtain⟨ak,hN,hb⟩:=bd hb
 refine RC.fold (fun(a5:Nat) (ak: (List Int)×(List (Int×Int))×(List (List aG))) U w=>∃(c1 c2:Value) (us939:List RV),SH E V [(6,(.func (.func 139) #[] #[(vp ag 0)])),(16,a6),(17,c2),(137,ah),(138,vi aq.length),(139,vi a5)] [bc 73 ag [c1],own 3 c1 ak.1,mp a6 ak.2.1,own 51 ah aq,own 23 c2 us939,jZ (XS 51 aG) us939 ak.2.2 none] U w) (fun(ak: (List Int)×(List (Int×Int))×(List (List aG))) U w=>∃(ck bh:Value) (us942:List RV),SH E V [(17,bh)] [bc 73 ag [ck],own 3 ck ak.1,mp a6 ak.2.1,own 51 ah aq,own 23 bh us942,jZ (XS 51 aG) us942 ak.2.2 none] U w) hN ?_ ?_ ?_ ?_
 ·have o:=(o.AZ (XS 51 aG)).cX RV 23
  exact⟨br,(.slice none 0 0),([]:List RV),o.sp 7 [5,6,2,4,0,1]⟩
 ·rintro hm ak _ w ⟨dg,dh,us987,O,rfl,o⟩
  refine RC.sr (ic ((aq.length:Int)) ((aq.length:Int)) (RL.nq (RC.eZ r5 (RC.ex ?_))))
  exact⟨rfl,dg,dh,us987,o.sp 6 [0,1,2,3,4,5]⟩
 ·rintro hm a5 ak s' _ w hk ⟨d7,cl,us945,O,rfl,o⟩ hb
  refine RC.sr (ic ((a5:Int)) ((aq.length:Int)) (RL.nq (RC.eY (rZ hk) (RC.ss (RC.bs (mv (vi a5) ?_))))))
  obtain⟨bb,cm,hb⟩:=bd hb
  refine RL.bX 3 o zr zr jt cm (RL.ld (f:=(fun x=>x)) 3 o (kJ 3 o cm 0) (bE cm).2.1 Fd.self hZ fun d8 o=>?_)
  refine RL.alloc o oe.z fun b8 w o=>?_
  refine aP (vi a5) (RL.aY 0 o 1 zr hZ fun w o=>?_)
  refine RL.ns (mv (.func (.func 139) #[] #[(vp ag 0)]) (mv (vi a5) ?_))
  have o:=(o.pull 3).pull 3
  obtain⟨a2,di,hb⟩:=bd hb
  refine RL.yD [(vp ag 0)] zr Gn zr [(vi a5)] zr (aC (lQ N (p0:=(a5:Int)) o di) ?_)
  rintro _ w ⟨bo,rfl,o⟩
  refine aP (vi a2.1) (RL.ns (mv a6 (mv (vi a2.1) (RL.F1 (i:=6) (k:=a2.1) zt zr o zr zr zr CA (mv (.tuple #[(vi (i5 ak.2.1 a2.1 (0:Int))),(vb (te ak.2.1 a2.1))]) (RL.extract (vi (i5 ak.2.1 a2.1 (0:Int))) (RL.extract (vb (te ak.2.1 a2.1)) (aP (vi (i5 ak.2.1 a2.1 (0:Int))) ?_))))))))
  refine aP (vb (te ak.2.1 a2.1)) (RL.nq (RC.sr (mv (vb (te ak.2.1 a2.1)) (RL.not (te ak.2.1 a2.1) (RL.nt ?_)))))
  obtain⟨af,hj,hb⟩:=bd hb
  refine RC.jn (fun(af: (List (Int×Int))×(List (List aG))×Int) U w=>∃(a1:Value) (us956:List RV),SH E V [(6,(.func (.func 139) #[] #[(vp ag 0)])),(16,a6),(17,a1),(19,vp b8 0),(21,vi af.2.2),(137,ah),(138,vi aq.length),(139,vi a5)] [bc 73 ag [bo],own 3 bo a2.2,mp a6 af.1,bx 51 b8 bb,own 51 ah aq,own 23 a1 us956,jZ (XS 51 aG) us956 af.2.1 none] U w) af ?_ ?_
  ·refine dW hj (fun hc hj=>?_) fun hc hj=>?_
   rotate_left
   ·refine RC.skip ?_
    obtain rfl:=oi hj
    exact⟨rfl,cl,us945,o.sp 10 [0,1,6,2,7,8,9]⟩
   refine RC.sr (mv cl (RL.tx 8 9 ak.2.2 zr o zr zr zr oN (aP (vi ak.2.2.length) (RL.ns (mv a6 (mv (vi a2.1) (mv (vi ak.2.2.length) ?_)))))))
   have o:=o.sc Int (ak.2.2.length:Int)
   refine RL.mapUpdate 7 0 a2.1 zt o zr zr zr zr zr CA fun w o=>(RL.nt (RC.region (mv cl ?_)))
   have o:=(o.cX aG 51).Ed (i:=0) rfl
   refine RL.eX ([rv (.slice none 0 0)]:List RV) o [(.slice none 0 0)] oz Gp (fun M hs g=>⟨(g.sat 0 _ zr).1,zt⟩) fun d9 w o=>?_
   obtain⟨ea,dj,hj⟩:=bd hj
   have o:=o.freeze 0
   refine RL.Ce 12 0 13 2 zt zr o zr zr zr zr zr zr Dz dj fun c3 w o=>?_
   refine aP c3 (RL.nil ?_)
   obtain rfl:=oi hj
   exact⟨rfl,c3,(us945++[rv (.slice none 0 0)]),o.sp 14 [4,5,10,6,11,12,13]⟩
  rintro _ w ⟨a1,us956,O,rfl,o⟩
  refine aJ ?_
  obtain⟨eb,b9,hb⟩:=bd hb
  obtain⟨bj,dk,hb⟩:=bd hb
  obtain⟨ec,cn,hb⟩:=bd hb
  refine RC.Hd E V mixed [1,1,1,1,0,0,0,0,0,0,0] [6,7,8,10] (fun(x:Value×Value×Value)=>(fun a0 ax al=>[(0,163,a1),(1,164,(vi af.2.2)),(2,165,a1),(3,166,(vi af.2.2)),(4,167,(BS a1 (Int.toNat af.2.2) 1 0)),(5,168,(us956.getD (Int.toNat af.2.2) BT).v),(6,169,a0),(7,170,ax),(8,171,al),(9,172,(BS a1 (Int.toNat af.2.2) 1 0))]) x.1 x.2.1 x.2.2) [(6,(.func (.func 139) #[] #[(vp ag 0)])),(16,a6),(17,a1),(19,vp b8 0),(21,vi af.2.2),(137,ah),(138,vi aq.length),(139,vi a5)] [] (fun(D:Nat->Bool) (x:Value×Value×Value)=>(fun a0 ax al=>[bif D 0 then (rd a0 bb) else bH,bif D 2 then (rd ax ([bb]: (List aG))) else (bif D 1 then (own 51 ax ([bb]: (List aG))) else bH),bif D 3 then bH else (bif D 2 then (own 51 al bj) else bH),bc 73 ag [bo],own 3 bo a2.2,mp a6 af.1,bx 51 b8 bb,own 51 ah aq,bif D 3 then (own 23 a1 (us956.set (Int.toNat af.2.2) (rv al))) else (own 23 a1 us956),bif D 3 then (jZ (XS 51 aG) (us956.set (Int.toNat af.2.2) (rv al)) (af.2.1.set (Int.toNat af.2.2) bj) none) else (bif D 2 then (jZ (XS 51 aG) us956 af.2.1 (some (Int.toNat af.2.2))) else (jZ (XS 51 aG) us956 af.2.1 none))]) x.1 x.2.1 x.2.2) (fun x=>by kernel_rfl) ?_ ⟨fun _=>lP gn,fun _=>lP gn,fun _=>lP gn,fun _=>lP gn,?_,?_,?_,?_,?_,?_,?_,trivial⟩ ?_
  ·have o:=(((o.drew).bH).bH).bH
   exact⟨(undef,undef,undef),fU.none,(FQ zr),zt,o⟩
  ·rintro D U w hD au aj ⟨⟨a0,ax,al⟩,hv,ha,_,o⟩
   obtain⟨O,rfl⟩:=(ac (hv.at 2 rfl (au.1 rfl)) (ac (hv.at 3 rfl (au.2.1 rfl)) az)).ir
   have o:=((o.cL 8 (nh aj hD 10)).cL 9 (nh aj hD 10)).cL 9 (nf (fun h=>ft hD ((aj 5 _ rfl ((aj 8 _ rfl h).1 rfl)).1 rfl)))
   have hl974:=o.iY 9 rfl
   have hr975:=lf BT hl974 b9
   refine RL.bX 8 o zr zr oz hr975 ?_
   have o:=(o.gC 8 (D 10) (nh aj hD 10) (own 23 a1 (us956.set (Int.toNat af.2.2) (rv al)))).gC 9 (D 8) (nf (fun h=>ft hD ((aj 5 _ rfl ((aj 8 _ rfl h).1 rfl)).1 rfl))) (jZ (XS 51 aG) us956 af.2.1 (some (Int.toNat af.2.2)))
   have o:=o.gC 9 (D 10) (nh aj hD 10) (jZ (XS 51 aG) (us956.set (Int.toNat af.2.2) (rv al)) (af.2.1.set (Int.toNat af.2.2) bj) none)
   exact RL.nil ⟨rfl,(a0,ax,al),hv.pu 4,ha.u,zt,o⟩
  ·rintro D U w hD au aj ⟨⟨a0,ax,al⟩,hv,ha,_,o⟩
   obtain⟨O,rfl⟩:=(ac (hv.at 4 rfl (au.1 rfl)) az).ir
   have o:=((o.cL 8 (nh aj hD 10)).cL 9 (nh aj hD 10)).cL 9 (nh aj hD 8)
   have hl976:=o.iY 9 rfl
   have hr977:=lf BT hl976 b9
   refine RL.xo 8 9 af.2.2 (Ai 51 aG) BT zr o zr (kJ 8 o hr977 0) zr zr b9 nL ?_
   have o:=(o.gC 8 (D 10) (nh aj hD 10) (own 23 a1 (us956.set (Int.toNat af.2.2) (rv al)))).gC 9 (D 8) (nh aj hD 8) (jZ (XS 51 aG) us956 af.2.1 (some (Int.toNat af.2.2)))
   have o:=o.gC 9 (D 10) (nh aj hD 10) (jZ (XS 51 aG) (us956.set (Int.toNat af.2.2) (rv al)) (af.2.1.set (Int.toNat af.2.2) bj) none)
   exact RL.nil ⟨rfl,(a0,ax,al),hv.pu 5,ha.u,zt,o⟩
  ·rintro D U w hD au aj ⟨⟨a0,ax,al⟩,hv,ha,_,o⟩
   obtain⟨O,rfl⟩:=(ac (ha.at 3 rfl) az).ir
   have o:=o.cL 0 hD
   refine RL.aV (f:=(fun x=>x)) 6 o zr Fd.self hZ fun dm o=>?_
   have o:=(o.pl 11 [0,2,3,4,5,6,7,8,9,10]).dF 0 true rfl bH
   exact RL.nil ⟨rfl,(dm,ax,al),hv.pu 6,ha.u,zt,o⟩
  ·rintro D U w hD au aj ⟨⟨a0,ax,al⟩,hv,ha,_,o⟩
   obtain⟨O,rfl⟩:=(ac (hv.at 6 rfl (au.1 rfl)) az).ir
   have o:=((o.dE 0 (au.1 rfl)).cL 1 (nh aj hD 8)).cL 1 hD
   refine RL.eX ([bb]: (List aG)) o [a0] jt oe (fun M hs g=>⟨(g.sat 0 _ zr).1,zt⟩) fun c4 w o=>?_
   have o:=(((o.pl 11 [1,0,3,4,5,6,7,8,9,10]).dF 0 (D 6) (au.1 rfl) bH).dF 1 true rfl bH).gC 1 (D 8) (nh aj hD 8) (rd c4 ([bb]: (List aG)))
   exact RL.nil ⟨rfl,(a0,c4,al),hv.pu 7,ha.u,zt,o⟩
  ·rintro D U w hD au aj ⟨⟨a0,ax,al⟩,hv,ha,_,o⟩
   obtain⟨O,rfl⟩:=(ac (hv.at 5 rfl (au.1 rfl)) (ac (hv.at 7 rfl (au.2.1 rfl)) az)).ir
   have o:=(((((((o.cL 1 hD).dE 1 (au.2.1 rfl)).cL 2 (nh aj hD 10)).cL 2 hD).cL 8 (nh aj hD 10)).cL 9 (nh aj hD 10)).cL 9 hD).A0 (j:=9) (jj:=af.2.2) (Ai 51 aG) BT rfl b9
   have o:=o.freeze 2
   refine RL.app 0 2 o yQ dk fun cp w o=>?_
   have o:=((((o.pl 11 [1,2,0,4,5,6,7,8,9,10]).dF 1 true rfl (bif D 7 then (own 51 ax ([bb]: (List aG))) else bH)).dF 2 true rfl bH).gC 2 (D 10) (nh aj hD 10) bH).gC 8 (D 10) (nh aj hD 10) (own 23 a1 (us956.set (Int.toNat af.2.2) (rv cp)))
   have o:=(o.dF 9 true rfl (jZ (XS 51 aG) us956 af.2.1 none)).gC 9 (D 10) (nh aj hD 10) (jZ (XS 51 aG) (us956.set (Int.toNat af.2.2) (rv cp)) (af.2.1.set (Int.toNat af.2.2) bj) none)
   exact RL.nil ⟨rfl,(a0,ax,cp),hv.pu 8,ha.u,zt,o⟩
  ·rintro D U w hD au aj ⟨⟨a0,ax,al⟩,hv,ha,_,o⟩
   obtain⟨O,rfl⟩:=(ac (hv.at 0 rfl (au.1 rfl)) (ac (hv.at 1 rfl (au.2.1 rfl)) az)).ir
   have o:=((o.cL 8 (nh aj hD 10)).cL 9 (nh aj hD 10)).dE 9 (au.2.2.2.2.2.2.2.2.2.2.1 rfl)
   have hl981:=o.iY 9 rfl
   have hr982:=lf BT hl981 cn
   refine RL.bX 8 o zr zr oz hr982 ?_
   have o:=((o.gC 8 (D 10) (nh aj hD 10) (own 23 a1 (us956.set (Int.toNat af.2.2) (rv al)))).dF 9 (D 8) (au.2.2.2.2.2.2.2.2.2.2.1 rfl) (jZ (XS 51 aG) us956 af.2.1 none)).gC 9 (D 10) (nh aj hD 10) (jZ (XS 51 aG) (us956.set (Int.toNat af.2.2) (rv al)) (af.2.1.set (Int.toNat af.2.2) bj) none)
   exact RL.nil ⟨rfl,(a0,ax,al),hv.pu 9,ha.u,zt,o⟩
  ·rintro D U w hD au aj ⟨⟨a0,ax,al⟩,hv,ha,_,o⟩
   obtain⟨O,rfl⟩:=(ac (hv.at 8 rfl (au.2.1 rfl)) (ac (hv.at 9 rfl (au.1 rfl)) az)).ir
   have o:=((((o.cL 2 hD).dE 2 (au.2.1 rfl)).cL 8 hD).cL 9 hD).dE 9 (au.2.1 rfl)
   have hl983:=o.iY 9 rfl
   have hr984:=lf BT hl983 cn
   refine RL.vt 8 9 2 af.2.2 (Ai 51 aG) BT o zr zr (kJ 8 o hr984 0) zr zr zr cn nL fun w o=>?_
   have o:=((o.dF 2 true rfl (bif D 8 then (own 51 al bj) else bH)).dF 8 true rfl (own 23 a1 us956)).dF 9 true rfl (bif D 8 then (jZ (XS 51 aG) us956 af.2.1 (some (Int.toNat af.2.2))) else (jZ (XS 51 aG) us956 af.2.1 none))
   exact RL.nil ⟨rfl,(a0,ax,al),hv.n1,ha,zt,o⟩
  rintro D U w bp ⟨⟨a0,ax,al⟩,hv,ha,_,o⟩
  have o:=((((o.dE 0 (nn bp 6)).dE 1 (nn bp 8)).dE 2 (nn bp 10)).dE 8 (nn bp 10)).dE 9 (nn bp 10)
  obtain⟨O,rfl⟩:=(ac (ha.at 0 rfl) (ac (ha.at 1 rfl) (ac (ha.at 2 rfl) (ac (ha.at 3 rfl) (ac (ha.at 4 rfl) (ac (ha.at 5 rfl) (ac (ha.at 6 rfl) (ac (ha.at 7 rfl) az)))))))).ir
  refine bQ (aJ (RC.region (RL.inc hk hm (mv (vi ((a5+1:Nat):Int)) (RL.nil ?_)))))
  obtain rfl:=oi hb
  exact⟨rfl,bo,a1,(us956.set (Int.toNat af.2.2) (rv al)),o.sp 10 [3,4,5,7,8,9]⟩
 rintro _ w ⟨ck,bh,us942,O,rfl,o⟩
 refine aJ (RC.sr (aP (.slice none 0 0) (RL.nq (RC.sr (mv bh (RL.tx 4 5 ak.2.2 zr o zr zr zr oN (mv (vi 0) (RL.nt ?_))))))))
 have o:=o.A1 (X:=(XS 51 aG)) (b:=5) (j:=4) rfl (fun M h u x cs=>(HZ 51) M h u x cs) rfl rfl (by decide)
 obtain⟨bm,hN,hb⟩:=bd hb
 refine RC.fold (fun(ca:Nat) (bm: (List (List aA))) U w=>∃c5:Value,SH E V [(23,c5),(174,bh),(175,vi ak.2.2.length),(176,vi ca)] [own 23 bh ak.2.2,own 38 c5 bm] U w) (fun(bm: (List (List aA))) U w=>∃bq:Value,SH E V [(23,bq)] [own 23 bh ak.2.2,own 38 bq bm] U w) hN ?_ ?_ ?_ ?_
 ·have o:=o.cX (List aA) 38
  exact⟨(.slice none 0 0),o.sp 7 [5,0]⟩
 ·rintro hm bm _ w ⟨dn,O,rfl,o⟩
  refine RC.sr (ic ((ak.2.2.length:Int)) ((ak.2.2.length:Int)) (RL.nq (RC.eZ r5 (RC.ex ?_))))
  exact⟨rfl,dn,o.sp 2 [0,1]⟩
 ·rintro hm ca bm s' _ w hk ⟨dp,O,rfl,o⟩ hb
  refine RC.sr (ic ((ca:Int)) ((ak.2.2.length:Int)) (RL.nq (RC.eY (rZ hk) (RC.ss (RC.bs ?_)))))
  obtain⟨ed,cq,hb⟩:=bd hb
  refine RL.bX 0 o zr zr oz cq (RL.ld (f:=(fun x=>x)) 0 o (kJ 0 o cq 0) (bE cq).2.1 Fd.self nL fun cr o=>?_)
  refine aP cr (RL.nt (RC.region (mv dp (mv cr ?_))))
  obtain⟨dq,dr,hb⟩:=bd hb
  refine RL.call zt zr Bc [cr] zr (aC (iF N (i0:=0) o zr dr) ?_)
  rintro ds w o
  have o:=o.freeze 0
  refine RL.eX ([dq]: (List (List aA))) o [ds] Gm IW (fun M hs g=>⟨(g.sat 0 _ zr).1,zt⟩) fun ee w o=>?_
  have o:=o.freeze 0
  obtain⟨ef,dt,hb⟩:=bd hb
  refine RL.app 4 0 o J3 dt fun c6 w o=>?_
  refine aP c6 (RL.nil (bQ (aJ (RC.region (RL.inc hk hm (mv (vi ((ca+1:Nat):Int)) (RL.nil ?_)))))))
  obtain rfl:=oi hb
  exact⟨rfl,c6,o.sp 5 [3,4]⟩
 rintro _ w ⟨bq,O,rfl,o⟩
 refine aJ (RC.sr (mv bq (aP bq (RL.nt (RC.ret ?_)))))
 obtain rfl:=oi hb
 exact bM (o.pk 2 [1])
def tP (E:World) (V:List HP) (b0:Nat) (v0_0 v0_1:Value) (v0_2 v0_3:Value) (v0_6 v0_7:Value) (v0_8 v0_9:Value) (v0_10 v0_11:Value) (res:Bool×(List (List aA))×(List aN)) (v:Value) (w:World):Prop:=∃u0_4 u0_5:Value,v= (vb res.1)/\Holds E w ([bc 102 b0 [v0_0,v0_1,v0_2,v0_3,u0_4,u0_5,v0_6,v0_7,v0_8,v0_9,v0_10,v0_11],own 38 u0_4 res.2.1,own 130 u0_5 res.2.2]++V)
theorem tj {p0_0: (List (List aG))} {p0_2: (List bJ)} {p0_4: (List (List aA))} {p0_5: (List aN)} {res:Bool×(List (List aA))×(List aN)} (j:Holds E w (bc 102 b0 [v0_0,v0_1,v0_2,v0_3,v0_4,v0_5,v0_6,v0_7,v0_8,v0_9,v0_10,v0_11]::rd v0_0 p0_0::rd v0_2 p0_2::own 38 v0_4 p0_4::own 130 v0_5 p0_5::V)) (o:jG N p0_0 p0_2 p0_4 p0_5=some res):
    Calls bD 71 [(vp b0 0)].toArray w (gm (tP E V b0 v0_0 v0_1 v0_2 v0_3 v0_6 v0_7 v0_8 v0_9 v0_10 v0_11 res)):=by
 unfold jG at o
 refine enter Tryz.func71 zr zr (RC.sr (aP (vb false) (RL.ns (aP (vb true) (RL.nq (RC.sr (mv (vp b0 0) (RL.nilCheck zr ?_))))))))
 refine RL.aX zr qC (RL.aX zr fB (RL.cA 0 v0_0 j lk (RL.bA 1 p0_0 j oN (mv (vi 0) (RL.nt ?_)))))
 obtain⟨aa,hN,o⟩:=bd o
 refine RC.fold (fun(ab:Nat) (aa: (List (List aA))×(List aN)×Bool) U w=>∃bf bg:Value,SH E V [(0,vp b0 0),(3,vb aa.2.2),(16,v0_0),(17,vi p0_0.length),(18,vi ab)] [bc 102 b0 [v0_0,v0_1,v0_2,v0_3,bf,bg,v0_6,v0_7,v0_8,v0_9,v0_10,v0_11],own 38 bf aa.1,own 130 bg aa.2.1,rd v0_0 p0_0,rd v0_2 p0_2] U w) (fun(aa: (List (List aA))×(List aN)×Bool) U w=>∃au al:Value,SH E V [(0,vp b0 0),(3,vb aa.2.2)] [bc 102 b0 [v0_0,v0_1,v0_2,v0_3,au,al,v0_6,v0_7,v0_8,v0_9,v0_10,v0_11],own 38 au aa.1,own 130 al aa.2.1,rd v0_0 p0_0,rd v0_2 p0_2] U w) hN ?_ ?_ ?_ ?_
 ·exact⟨v0_4,v0_5,j.sp 5 [0,3,4,1,2]⟩
 ·rintro hm aa _ w ⟨bq,br,O,rfl,j⟩
  refine RC.sr (ic ((p0_0.length:Int)) ((p0_0.length:Int)) (RL.nq (RC.eZ r5 (RC.ex ?_))))
  exact⟨rfl,bq,br,j.sp 5 [0,1,2,3,4]⟩
 ·rintro hm ab aa s' _ w hk ⟨af,ag,O,rfl,j⟩ o
  refine RC.sr (ic ((ab:Int)) ((p0_0.length:Int)) (RL.nq (RC.eY (rZ hk) (RC.ss (RC.bs (mv (vi ab) ?_))))))
  obtain⟨a2,bt,o⟩:=bd o
  refine RL.bP 3 j oz bt fun cp j=>(RL.bF 0 a2 j nL fun ah j=>(aP (vi ab) (aP ah (RL.ns (aP (.slice none 0 0) (RL.nq (RC.sr (mv (vp b0 0) ?_))))))))
  refine RL.nilCheck zr (RL.aX zr qC (RL.aX zr jm (RL.cA 2 v0_2 j o4 (RL.bA 6 p0_2 j tF (mv (vi 0) (RL.nt ?_))))))
  obtain⟨av,hN,o⟩:=bd o
  refine RC.fold (fun(az:Nat) (av: (List aG)) U w=>∃bh:Value,SH E V [(0,vp b0 0),(3,vb aa.2.2),(4,vi ab),(5,ah),(6,bh),(16,v0_0),(17,vi p0_0.length),(18,vi ab),(27,v0_2),(28,vi p0_2.length),(29,vi az)] [bc 102 b0 [v0_0,v0_1,v0_2,v0_3,af,ag,v0_6,v0_7,v0_8,v0_9,v0_10,v0_11],rd v0_0 p0_0,rd v0_2 p0_2,own 38 af aa.1,own 130 ag aa.2.1,rd ah a2,own 51 bh av] U w) (fun(av: (List aG)) U w=>∃a0:Value,SH E V [(0,vp b0 0),(3,vb aa.2.2),(4,vi ab),(5,ah),(6,a0),(16,v0_0),(17,vi p0_0.length),(18,vi ab)] [bc 102 b0 [v0_0,v0_1,v0_2,v0_3,af,ag,v0_6,v0_7,v0_8,v0_9,v0_10,v0_11],rd v0_0 p0_0,rd v0_2 p0_2,own 38 af aa.1,own 130 ag aa.2.1,rd ah a2,own 51 a0 av] U w) hN ?_ ?_ ?_ ?_
  ·have j:=j.cX aG 51
   exact⟨(.slice none 0 0),j.sp 8 [3,6,7,4,5,1,0]⟩
  ·rintro hm av _ w ⟨bu,O,rfl,j⟩
   refine RC.sr (ic ((p0_2.length:Int)) ((p0_2.length:Int)) (RL.nq (RC.eZ r5 (RC.ex ?_))))
   exact⟨rfl,bu,j.sp 7 [0,1,2,3,4,5,6]⟩
  ·rintro hm az av s' _ w hk ⟨bj,O,rfl,j⟩ o
   refine RC.sr (ic ((az:Int)) ((p0_2.length:Int)) (RL.nq (RC.eY (rZ hk) (RC.ss (RC.bs ?_)))))
   obtain⟨bw,bx,o⟩:=bd o
   refine RL.bP 2 j tg bx fun cq j=>(RL.bF 0 bw j mJ fun cr j=>(RL.alloc j Cx.z fun ct w j=>?_))
   refine RL.aY 0 j 1 zr mJ fun w j=>?_
   refine RL.ns (RL.aV (f:=(fun x=>x)) 0 j zr Fd.self mJ fun bz j=>(mv (vi ab) ?_))
   obtain⟨cu,b1,o⟩:=bd o
   refine RL.call zt zr IV [bz,(vi ab)] zr (aC (nZ N (p1:=(ab:Int)) (i0:=0) j zr b1) ?_)
   rintro _ w ⟨rfl,j⟩
   refine RL.nt ?_
   obtain⟨a6,hj,o⟩:=bd o
   refine RC.jn (fun(a6: (List aG)) U w=>∃a3:Value,SH E V [(0,vp b0 0),(3,vb aa.2.2),(4,vi ab),(5,ah),(6,a3),(16,v0_0),(17,vi p0_0.length),(18,vi ab),(27,v0_2),(28,vi p0_2.length),(29,vi az)] [bc 102 b0 [v0_0,v0_1,v0_2,v0_3,af,ag,v0_6,v0_7,v0_8,v0_9,v0_10,v0_11],rd v0_0 p0_0,rd v0_2 p0_2,own 38 af aa.1,own 130 ag aa.2.1,rd ah a2,own 51 a3 a6] U w) a6 ?_ ?_
   ·refine dW hj (fun hc hj=>?_) fun hc hj=>?_
    rotate_left
    ·refine RC.skip ?_
     obtain rfl:=oi hj
     exact⟨rfl,bj,j.sp 11 [4,5,6,7,8,9,10]⟩
    refine RC.region (mv bj (RL.aV (f:=(fun x=>x)) 1 j zr Fd.self mJ fun b3 j=>?_))
    obtain⟨b4,b5,hj⟩:=bd hj
    refine RL.call zt zr E9 [b3] zr (aC (iV N (i0:=0) j zr b5) ?_)
    rintro b6 w j
    refine RL.eX ([b4]: (List aG)) j [b6] jt oe (fun M hs g=>⟨(g.sat 0 _ zr).1,zt⟩) fun cv w j=>?_
    have j:=j.freeze 0
    obtain⟨cw,b7,hj⟩:=bd hj
    refine RL.app 13 0 j yQ b7 fun bk w j=>?_
    refine aP bk (RL.nil ?_)
    obtain rfl:=oi hj
    exact⟨rfl,bk,j.sp 14 [7,8,9,10,11,12,13]⟩
   rintro _ w ⟨a3,O,rfl,j⟩
   refine bQ (aJ (RC.region (RL.inc hk hm (mv (vi ((az+1:Nat):Int)) (RL.nil ?_)))))
   obtain rfl:=oi o
   exact⟨rfl,a3,j.sp 7 [0,1,2,3,4,5,6]⟩
  rintro _ w ⟨a0,O,rfl,j⟩
  refine aJ (RC.sr (mv ah ?_))
  obtain⟨cx,b8,o⟩:=bd o
  refine RL.call zt zr Bc [ah] zr (aC (iF N (i0:=5) j zr b8) ?_)
  rintro b9 w j
  refine mv a0 ?_
  have j:=j.freeze 7
  obtain⟨cy,ca,o⟩:=bd o
  refine RL.call zt zr Bc [a0] zr (aC (iF N (i0:=7) j zr ca) ?_)
  rintro cb w j
  have j:=(j.freeze 1).freeze 0
  obtain⟨cz,cc,o⟩:=bd o
  refine RL.call zt zr JY [b9,cb] zr (aC (qF N (i0:=1) (i1:=0) j zr zr cc) ?_)
  rintro a1 w j
  refine aP a1 (RL.nq ?_)
  obtain⟨an,hj,o⟩:=bd o
  refine RC.jn (fun(an:Bool×(List aA)) U w=>∃ao:Value,SH E V [(0,vp b0 0),(3,vb an.1),(4,vi ab),(9,ao),(16,v0_0),(17,vi p0_0.length),(18,vi ab)] [bc 102 b0 [v0_0,v0_1,v0_2,v0_3,af,ag,v0_6,v0_7,v0_8,v0_9,v0_10,v0_11],rd v0_0 p0_0,rd v0_2 p0_2,own 38 af aa.1,own 130 ag aa.2.1,rd ao an.2] U w) an ?_ ?_
  ·refine RC.region (mv (vb aa.2.2) (mv (vb aa.2.2) (gu hj (fun ai hj=>?_) fun ai hj=>?_)))
   rotate_left
   ·refine bN ai (bN ai (bN ai (gD ai (vb false) (aP (vb false) (RL.nil ?_)))))
    obtain rfl:=oi hj
    have j:=j.freeze 0
    exact⟨rfl,a1,j.sp 10 [3,4,5,6,7,0]⟩
   refine RL.move a1 (cg ai) ?_
   have j:=j.freeze 0
   obtain⟨a7,cd,hj⟩:=bd hj
   refine RL.call (cg ai) zr JZ [a1] zr (aC (qG N (i0:=0) j zr cd) ?_)
   rintro _ w ⟨rfl,j⟩
   refine RL.lA a7 2000 (cg ai) (gD ai (vb (decide (a7<=2000))) (aP (vb (decide (a7<=2000))) (RL.nil ?_)))
   obtain rfl:=oi hj
   exact⟨rfl,a1,j.sp 10 [3,4,5,6,7,0]⟩
  rintro _ w ⟨ao,O,rfl,j⟩
  refine aJ (RC.sr (mv (vp b0 0) (mv (vp b0 0) (RL.nilCheck zr (RL.aX zr En (RL.cA 0 af j J0 (mv ao (RL.eX ([an.2]: (List (List aA))) j [ao] Gm IW (fun M hs g=>⟨(g.sat 5 _ zr).1,zt⟩) fun c0 w j=>?_))))))))
  have j:=j.freeze 0
  obtain⟨bl,cf,o⟩:=bd o
  refine RL.app 4 0 j J3 cf fun aq w j=>?_
  refine RL.nilCheck zr (RL.aX zr En (RL.gW 1 aq j zr zr (eM 4 j) J0 fun w j=>?_))
  refine RL.ns (mv ao ?_)
  obtain⟨ar,ch,o⟩:=bd o
  refine RL.call zt zr LR [ao] zr (aC (vG N (i0:=6) j zr ch) ?_)
  rintro a8 w j
  refine RL.fY 0 ar j JU (mv (vi 0) (RL.nt ?_))
  obtain⟨aw,hN,o⟩:=bd o
  refine RC.fold (fun(a4:Nat) (aw: (List aN)) U w=>∃bm:Value,SH E V [(0,vp b0 0),(3,vb an.1),(4,vi ab),(16,v0_0),(17,vi p0_0.length),(18,vi ab),(64,a8),(65,vi ar.length),(66,vi a4)] [bc 102 b0 [v0_0,v0_1,v0_2,v0_3,aq,bm,v0_6,v0_7,v0_8,v0_9,v0_10,v0_11],own 130 bm aw,rd v0_0 p0_0,rd v0_2 p0_2,own 38 aq bl,own 38 a8 ar] U w) (fun(aw: (List aN)) U w=>∃a5:Value,SH E V [(0,vp b0 0),(3,vb an.1),(16,v0_0),(17,vi p0_0.length),(18,vi ab)] [bc 102 b0 [v0_0,v0_1,v0_2,v0_3,aq,a5,v0_6,v0_7,v0_8,v0_9,v0_10,v0_11],own 130 a5 aw,rd v0_0 p0_0,rd v0_2 p0_2,own 38 aq bl,own 38 a8 ar] U w) hN ?_ ?_ ?_ ?_
  ·exact⟨ag,j.sp 8 [2,6,3,4,5,0]⟩
  ·rintro hm aw _ w ⟨cj,O,rfl,j⟩
   refine RC.sr (ic ((ar.length:Int)) ((ar.length:Int)) (RL.nq (RC.eZ r5 (RC.ex ?_))))
   exact⟨rfl,cj,j.sp 6 [0,1,2,3,4,5]⟩
  ·rintro hm a4 aw s' _ w hk ⟨a9,O,rfl,j⟩ o
   refine RC.sr (ic ((a4:Int)) ((ar.length:Int)) (RL.nq (RC.eY (rZ hk) (RC.ss (RC.bs ?_)))))
   obtain⟨bn,ba,o⟩:=bd o
   refine RL.bX 5 j zr zr Gm ba (RL.ld (f:=(fun x=>x)) 5 j (kJ 5 j ba 0) (bE ba).2.1 Fd.self JV fun ax j=>?_)
   refine aP ax (RL.nt ?_)
   have j:=j.drew
   refine RC.Dw (fun w=>Holds E w ([bc 102 b0 [v0_0,v0_1,v0_2,v0_3,aq,a9,v0_6,v0_7,v0_8,v0_9,v0_10,v0_11]]++V)) mixed zr [1,1,1,1,1,1,1,0,2,0,2,2,0,0,2] [0,1,2,3,4,5,6,7,8,9,10,11,12,13,14] (j.pk 7 [1]) (DP.e1 (vp b0 0) zr (fun w=>RL.move (vp b0 0) zt DP.d1) (DP.e1 (vp b0 0) zr (fun w=>RL.move (vp b0 0) zt DP.d1) (DP.e1 (vp b0 0) zr (fun w=>RL.nilCheck zr DP.d1) (DP.e1 (vp b0 5) zr (fun w=>RL.aX zr uo DP.d1) (DP.He a9 zr (fun w j=>RL.cA 0 a9 j Fa DP.d1) (DP.e1 (vi ab) zr (fun w=>RL.move (vi ab) zt DP.d1) (DP.e1 ax zr (fun w=>RL.move ax zt DP.d1) (DP.e0 zr ?_))))))))
   refine mv ax (r6 zr ?_)
   obtain⟨bo,ck,o⟩:=bd o
   refine RL.call zt zr HA [ax] zr (aC (lq N (i0:=0) j zr ck) ?_)
   rintro cl w j
   refine DP.d2 (j.pk 8 [2]) (DP.e0 zr ?_)
   have j:=(j.sc Int (ab:Int)).freeze 1
   refine RL.build (⟨(ab:Int),bn,bo⟩:aN) trivial rfl j [(0,vi ab),(1,ax),(2,cl)] rfl J4 rfl (fun M hs g=>by have h:=yO M;exact dB.cons (f:=fun(x:aN) y=>{x with eU:=y}) h wk (g.sat 0 _ rfl).1 fun _ h=>dB.cons (f:=fun(x:aN) y=>{x with Set:=y}) h wm (g.sat 2 _ rfl).1 fun _ h=>dB.cons (f:=fun(x:aN) y=>{x with pj:=y}) h wo (g.sat 1 _ rfl).1 fun _ h=>dB.nil h) fun cm j=>?_
   refine r6 zr (RL.eX ([(⟨(ab:Int),bn,bo⟩:aN)]: (List aN)) j [cm] IX Gq (fun M hs g=>⟨(g.sat 0 _ zr).1,zt⟩) fun c1 w j=>(DP.d2 (j.pk 11 [5]) (DP.e2 zr ?_)))
   have j:=j.freeze 0
   obtain⟨c2,cn,o⟩:=bd o
   refine RL.app 6 0 j LS cn fun bp w j=>?_
   refine DP.d2 (j.pk 11 [5]) (DP.e0 zr (RL.nilCheck zr (bW zr (RL.aX zr uo (DP.d0 (DP.La zr zr (RL.gW 5 bp j zr zr (eM 6 j) Fa fun w j=>?_)))))))
   refine DP.d2 zt (DP.z (bQ (aJ (RC.region (RL.inc hk hm (mv (vi ((a4+1:Nat):Int)) (RL.nil ?_)))))))
   obtain rfl:=oi o
   exact⟨rfl,bp,j.sp 11 [5,6,7,8,9,10]⟩
  rintro _ w ⟨a5,O,rfl,j⟩
  refine bQ (aJ (RC.region (RL.inc hk hm (mv (vi ((ab+1:Nat):Int)) (RL.nil ?_)))))
  obtain rfl:=oi o
  exact⟨rfl,aq,a5,j.sp 6 [0,4,1,2,3]⟩
 rintro _ w ⟨au,al,O,rfl,j⟩
 refine aJ (RC.seq ?_)
 obtain⟨bb,hj,o⟩:=bd o
 refine RC.jn (fun(bb:Bool)=>SH E V [(0,vp b0 0),(2,vb bb)] [bc 102 b0 [v0_0,v0_1,v0_2,v0_3,au,al,v0_6,v0_7,v0_8,v0_9,v0_10,v0_11],rd v0_0 p0_0,rd v0_2 p0_2,own 38 au aa.1,own 130 al aa.2.1]) bb ?_ ?_
 ·refine RC.region (mv (vb aa.2.2) (mv (vb aa.2.2) (gu hj (fun ae hj=>?_) fun ae hj=>?_)))
  ·refine RL.move (vp b0 0) (cg ae) (RL.nilCheck (hg:=(cg ae)) zr (RL.aX (hg:=(cg ae)) zr uo (RL.cA (hg:=(cg ae)) 0 al j Fa (RL.fY (hg:=(cg ae)) 2 aa.2.1 j HC (RL.lA (aa.2.1.length:Int) 2000 (cg ae) (gD ae (vb (decide ((aa.2.1.length:Int)<=2000))) (aP (vb (decide ((aa.2.1.length:Int)<=2000))) (RL.nil ?_))))))))
   obtain rfl:=oi hj
   exact⟨rfl,j.sp 5 [0,3,4,1,2]⟩
  refine bN ae (bN ae (bN ae (bN ae (bN ae (bN ae (gD ae (vb false) (aP (vb false) (RL.nil ?_))))))))
  obtain rfl:=oi hj
  exact⟨rfl,j.sp 5 [0,3,4,1,2]⟩
 rintro _ w ⟨O,rfl,j⟩
 refine aJ (RC.ret ?_)
 obtain rfl:=oi o
 exact bM ⟨au,al,zr,j.pk 5 [0,3,4]⟩
end Go.Gk
namespace Go.Gk
open Go Go.Proofs
variable (N:Nat) {E w:World} {b0 i0 i1:Nat} {p0 p1 p2 res:Int} {v0 v0_0 v0_1 v0_10 v0_11 v0_2 v0_3 v0_4 v0_5 v0_6 v0_7 v0_8 v0_9 v1:Value} {V:List HP}
theorem xA {p0 p1:aG} {res:Bool} (j:Holds E w V) (h0:V[i0]? =some (rd v0 p0)) (h1:V[i1]? =some (rd v1 p1)) (hb:qN N p0 p1=some res):
    Calls bD 101 [v0,v1].toArray w (gm (aS E V res)):=by
 unfold qN at hb
 refine enter Tryz.func101 zr zr ?_
 have j:=(j.dup (i0+0) h0).dup (i1+1) h1
 refine RC.sr (RL.dA 1 v0 j zr fun o w j=>?_)
 refine RL.dA 1 v1 j zr fun aa w j=>?_
 refine aP (vb false) (RL.ns (RL.aX zr iD (RL.aL 1 j zr dM cF (RL.aX zr jl (RL.aL 0 j zr eG cF (ic p0.X0 p1.X1 (mv (vb (decide (p0.X0<p1.X1))) (RL.gs true (decide (p0.X0<p1.X1)) (vp aa 0) zr zr zr (dP iD) ?_))))))))
 refine RL.gs true (decide (p0.X0<p1.X1)) (vi p1.X0) rfl rfl rfl (bT 0 rfl j (fun h=>by exact(cG h:cv (true&&((decide (p0.X0<p1.X1))==true)) (vp aa 0)= (vp aa 0))) rfl dM cF) (RL.gs true (decide (p0.X0<p1.X1)) (vp o 2) rfl rfl rfl (dP jl) (RL.gs true (decide (p0.X0<p1.X1)) (vi p0.X1) rfl rfl rfl (bT 1 rfl j (fun h=>by exact(cG h:cv (true&&((decide (p0.X0<p1.X1))==true)) (vp o 2)= (vp o 2))) rfl eG cF) (RL.gs true (decide (p0.X0<p1.X1)) (vb (decide (p1.X0<p0.X1))) rfl rfl rfl (dK .lss .i64 p1.X0 p0.X1 rfl (fun h=>by exact(cG h:cv (true&&((decide (p0.X0<p1.X1))==true)) (vi p1.X0)= (vi p1.X0))) (fun h=>by exact(cG h:cv (true&&((decide (p0.X0<p1.X1))==true)) (vi p0.X1)= (vi p0.X1))) rfl) (RL.pick (decide (p0.X0<p1.X1)) (vb ((decide (p0.X0<p1.X1))&&(decide (p1.X0<p0.X1)))) (gr true) (aP (vb ((decide (p0.X0<p1.X1))&&(decide (p1.X0<p0.X1)))) (RL.ns (RL.aX rfl il (RL.aL 1 j rfl dG cF ?_))))))))
 refine RL.aX rfl kT (RL.aL 0 j rfl fV cF (ic p0.Y0 p1.Y1 (mv (vb (decide (p0.Y0<p1.Y1))) (RL.gs true (decide (p0.Y0<p1.Y1)) (vp aa 1) rfl rfl rfl (dP il) (RL.gs true (decide (p0.Y0<p1.Y1)) (vi p1.Y0) rfl rfl rfl (bT 0 rfl j (fun h=>by exact(cG h:cv (true&&((decide (p0.Y0<p1.Y1))==true)) (vp aa 1)= (vp aa 1))) rfl dG cF) (RL.gs true (decide (p0.Y0<p1.Y1)) (vp o 3) rfl rfl rfl (dP kT) (RL.gs true (decide (p0.Y0<p1.Y1)) (vi p0.Y1) rfl rfl rfl (bT 1 rfl j (fun h=>by exact(cG h:cv (true&&((decide (p0.Y0<p1.Y1))==true)) (vp o 3)= (vp o 3))) rfl fV cF) (RL.gs true (decide (p0.Y0<p1.Y1)) (vb (decide (p1.Y0<p0.Y1))) rfl rfl rfl (dK .lss .i64 p1.Y0 p0.Y1 rfl (fun h=>by exact(cG h:cv (true&&((decide (p0.Y0<p1.Y1))==true)) (vi p1.Y0)= (vi p1.Y0))) (fun h=>by exact(cG h:cv (true&&((decide (p0.Y0<p1.Y1))==true)) (vi p0.Y1)= (vi p0.Y1))) rfl) ?_))))))))
 refine RL.pick (decide (p0.Y0<p1.Y1)) (vb ((decide (p0.Y0<p1.Y1))&&(decide (p1.Y0<p0.Y1)))) (gr true) (aP (vb ((decide (p0.Y0<p1.Y1))&&(decide (p1.Y0<p0.Y1)))) (RL.ns (mv (vb ((decide (p0.X0<p1.X1))&&(decide (p1.X0<p0.X1)))) (mv (vb ((decide (p0.X0<p1.X1))&&(decide (p1.X0<p0.X1)))) (RL.gs true ((decide (p0.X0<p1.X1))&&(decide (p1.X0<p0.X1))) (vp o 3) rfl rfl rfl (dP kT) (RL.gs true ((decide (p0.X0<p1.X1))&&(decide (p1.X0<p0.X1))) (vi p0.Y1) rfl rfl rfl (bT 1 rfl j (fun h=>by exact(cG h:cv (true&&(((decide (p0.X0<p1.X1))&&(decide (p1.X0<p0.X1)))==true)) (vp o 3)= (vp o 3))) rfl fV cF) (RL.gs true ((decide (p0.X0<p1.X1))&&(decide (p1.X0<p0.X1))) (vp aa 1) rfl rfl rfl (dP il) (RL.gs true ((decide (p0.X0<p1.X1))&&(decide (p1.X0<p0.X1))) (vi p1.Y0) rfl rfl rfl (bT 0 rfl j (fun h=>by exact(cG h:cv (true&&(((decide (p0.X0<p1.X1))&&(decide (p1.X0<p0.X1)))==true)) (vp aa 1)= (vp aa 1))) rfl dG cF) ?_))))))))
 refine RL.gs true ((decide (p0.X0<p1.X1))&&(decide (p1.X0<p0.X1))) (vb (p0.Y1==p1.Y0)) rfl rfl rfl (dK .eql .i64 p0.Y1 p1.Y0 rfl (fun h=>by exact(cG h:cv (true&&(((decide (p0.X0<p1.X1))&&(decide (p1.X0<p0.X1)))==true)) (vi p0.Y1)= (vi p0.Y1))) (fun h=>by exact(cG h:cv (true&&(((decide (p0.X0<p1.X1))&&(decide (p1.X0<p0.X1)))==true)) (vi p1.Y0)= (vi p1.Y0))) rfl) (RL.gs true ((decide (p0.X0<p1.X1))&&(decide (p1.X0<p0.X1))) (vb (p0.Y1==p1.Y0)) rfl rfl rfl (cE (hx:=fun h=>by exact(cG h:cv (true&&(((decide (p0.X0<p1.X1))&&(decide (p1.X0<p0.X1)))==true)) (vb (p0.Y1==p1.Y0))= (vb (p0.Y1==p1.Y0))))) (RL.gs (true&&(((decide (p0.X0<p1.X1))&&(decide (p1.X0<p0.X1)))==true)) (p0.Y1==p1.Y0) (vp aa 3) rfl rfl rfl (dP kT) (RL.gs (true&&(((decide (p0.X0<p1.X1))&&(decide (p1.X0<p0.X1)))==true)) (p0.Y1==p1.Y0) (vi p1.Y1) rfl rfl rfl (bT 0 rfl j (fun h=>by exact(cG h:cv ((true&&(((decide (p0.X0<p1.X1))&&(decide (p1.X0<p0.X1)))==true))&&((p0.Y1==p1.Y0)==false)) (vp aa 3)= (vp aa 3))) rfl fV cF) (RL.gs (true&&(((decide (p0.X0<p1.X1))&&(decide (p1.X0<p0.X1)))==true)) (p0.Y1==p1.Y0) (vp o 1) rfl rfl rfl (dP il) (RL.gs (true&&(((decide (p0.X0<p1.X1))&&(decide (p1.X0<p0.X1)))==true)) (p0.Y1==p1.Y0) (vi p0.Y0) rfl rfl rfl (bT 1 rfl j (fun h=>by exact(cG h:cv ((true&&(((decide (p0.X0<p1.X1))&&(decide (p1.X0<p0.X1)))==true))&&((p0.Y1==p1.Y0)==false)) (vp o 1)= (vp o 1))) rfl dG cF) (RL.gs (true&&(((decide (p0.X0<p1.X1))&&(decide (p1.X0<p0.X1)))==true)) (p0.Y1==p1.Y0) (vb (p1.Y1==p0.Y0)) rfl rfl rfl (dK .eql .i64 p1.Y1 p0.Y0 rfl (fun h=>by exact(cG h:cv ((true&&(((decide (p0.X0<p1.X1))&&(decide (p1.X0<p0.X1)))==true))&&((p0.Y1==p1.Y0)==false)) (vi p1.Y1)= (vi p1.Y1))) (fun h=>by exact(cG h:cv ((true&&(((decide (p0.X0<p1.X1))&&(decide (p1.X0<p0.X1)))==true))&&((p0.Y1==p1.Y0)==false)) (vi p0.Y0)= (vi p0.Y0))) rfl) (RL.gs true ((decide (p0.X0<p1.X1))&&(decide (p1.X0<p0.X1))) (vb ((p0.Y1==p1.Y0)||(p1.Y1==p0.Y0))) rfl rfl rfl (kF (p0.Y1==p1.Y0) rfl (fun h=>by exact(cG h:cv (true&&(((decide (p0.X0<p1.X1))&&(decide (p1.X0<p0.X1)))==true)) (vb (p0.Y1==p1.Y0))= (vb (p0.Y1==p1.Y0)))) (fun h=>by exact nz (h:=h) (true&&(((decide (p0.X0<p1.X1))&&(decide (p1.X0<p0.X1)))==true)))) (RL.pick ((decide (p0.X0<p1.X1))&&(decide (p1.X0<p0.X1))) (vb (((decide (p0.X0<p1.X1))&&(decide (p1.X0<p0.X1)))&&((p0.Y1==p1.Y0)||(p1.Y1==p0.Y0)))) (gr true) ?_))))))))
 refine mv (vb (((decide (p0.X0<p1.X1))&&(decide (p1.X0<p0.X1)))&&((p0.Y1==p1.Y0)||(p1.Y1==p0.Y0)))) (RL.gs true (((decide (p0.X0<p1.X1))&&(decide (p1.X0<p0.X1)))&&((p0.Y1==p1.Y0)||(p1.Y1==p0.Y0))) (vb ((decide (p0.Y0<p1.Y1))&&(decide (p1.Y0<p0.Y1)))) rfl rfl rfl cE (RL.gs true (((decide (p0.X0<p1.X1))&&(decide (p1.X0<p0.X1)))&&((p0.Y1==p1.Y0)||(p1.Y1==p0.Y0))) (vb ((decide (p0.Y0<p1.Y1))&&(decide (p1.Y0<p0.Y1)))) rfl rfl rfl (cE (hx:=fun h=>by exact(cG h:cv (true&&((((decide (p0.X0<p1.X1))&&(decide (p1.X0<p0.X1)))&&((p0.Y1==p1.Y0)||(p1.Y1==p0.Y0)))==false)) (vb ((decide (p0.Y0<p1.Y1))&&(decide (p1.Y0<p0.Y1))))= (vb ((decide (p0.Y0<p1.Y1))&&(decide (p1.Y0<p0.Y1))))))) (RL.gs (true&&((((decide (p0.X0<p1.X1))&&(decide (p1.X0<p0.X1)))&&((p0.Y1==p1.Y0)||(p1.Y1==p0.Y0)))==false)) ((decide (p0.Y0<p1.Y1))&&(decide (p1.Y0<p0.Y1))) (vp o 2) rfl rfl rfl (dP jl) (RL.gs (true&&((((decide (p0.X0<p1.X1))&&(decide (p1.X0<p0.X1)))&&((p0.Y1==p1.Y0)||(p1.Y1==p0.Y0)))==false)) ((decide (p0.Y0<p1.Y1))&&(decide (p1.Y0<p0.Y1))) (vi p0.X1) rfl rfl rfl (bT 1 rfl j (fun h=>by exact(cG h:cv ((true&&((((decide (p0.X0<p1.X1))&&(decide (p1.X0<p0.X1)))&&((p0.Y1==p1.Y0)||(p1.Y1==p0.Y0)))==false))&&(((decide (p0.Y0<p1.Y1))&&(decide (p1.Y0<p0.Y1)))==true)) (vp o 2)= (vp o 2))) rfl eG cF) (RL.gs (true&&((((decide (p0.X0<p1.X1))&&(decide (p1.X0<p0.X1)))&&((p0.Y1==p1.Y0)||(p1.Y1==p0.Y0)))==false)) ((decide (p0.Y0<p1.Y1))&&(decide (p1.Y0<p0.Y1))) (vp aa 0) rfl rfl rfl (dP iD) (RL.gs (true&&((((decide (p0.X0<p1.X1))&&(decide (p1.X0<p0.X1)))&&((p0.Y1==p1.Y0)||(p1.Y1==p0.Y0)))==false)) ((decide (p0.Y0<p1.Y1))&&(decide (p1.Y0<p0.Y1))) (vi p1.X0) rfl rfl rfl (bT 0 rfl j (fun h=>by exact(cG h:cv ((true&&((((decide (p0.X0<p1.X1))&&(decide (p1.X0<p0.X1)))&&((p0.Y1==p1.Y0)||(p1.Y1==p0.Y0)))==false))&&(((decide (p0.Y0<p1.Y1))&&(decide (p1.Y0<p0.Y1)))==true)) (vp aa 0)= (vp aa 0))) rfl dM cF) (RL.gs (true&&((((decide (p0.X0<p1.X1))&&(decide (p1.X0<p0.X1)))&&((p0.Y1==p1.Y0)||(p1.Y1==p0.Y0)))==false)) ((decide (p0.Y0<p1.Y1))&&(decide (p1.Y0<p0.Y1))) (vb (p0.X1==p1.X0)) rfl rfl rfl (dK .eql .i64 p0.X1 p1.X0 rfl (fun h=>by exact(cG h:cv ((true&&((((decide (p0.X0<p1.X1))&&(decide (p1.X0<p0.X1)))&&((p0.Y1==p1.Y0)||(p1.Y1==p0.Y0)))==false))&&(((decide (p0.Y0<p1.Y1))&&(decide (p1.Y0<p0.Y1)))==true)) (vi p0.X1)= (vi p0.X1))) (fun h=>by exact(cG h:cv ((true&&((((decide (p0.X0<p1.X1))&&(decide (p1.X0<p0.X1)))&&((p0.Y1==p1.Y0)||(p1.Y1==p0.Y0)))==false))&&(((decide (p0.Y0<p1.Y1))&&(decide (p1.Y0<p0.Y1)))==true)) (vi p1.X0)= (vi p1.X0))) rfl) (RL.gs (true&&((((decide (p0.X0<p1.X1))&&(decide (p1.X0<p0.X1)))&&((p0.Y1==p1.Y0)||(p1.Y1==p0.Y0)))==false)) ((decide (p0.Y0<p1.Y1))&&(decide (p1.Y0<p0.Y1))) (vb (p0.X1==p1.X0)) rfl rfl rfl (cE (hx:=fun h=>by exact(cG h:cv ((true&&((((decide (p0.X0<p1.X1))&&(decide (p1.X0<p0.X1)))&&((p0.Y1==p1.Y0)||(p1.Y1==p0.Y0)))==false))&&(((decide (p0.Y0<p1.Y1))&&(decide (p1.Y0<p0.Y1)))==true)) (vb (p0.X1==p1.X0))= (vb (p0.X1==p1.X0))))) ?_))))))))
 refine RL.gs ((true&&((((decide (p0.X0<p1.X1))&&(decide (p1.X0<p0.X1)))&&((p0.Y1==p1.Y0)||(p1.Y1==p0.Y0)))==false))&&(((decide (p0.Y0<p1.Y1))&&(decide (p1.Y0<p0.Y1)))==true)) (p0.X1==p1.X0) (vp aa 2) rfl rfl rfl (dP jl) (RL.gs ((true&&((((decide (p0.X0<p1.X1))&&(decide (p1.X0<p0.X1)))&&((p0.Y1==p1.Y0)||(p1.Y1==p0.Y0)))==false))&&(((decide (p0.Y0<p1.Y1))&&(decide (p1.Y0<p0.Y1)))==true)) (p0.X1==p1.X0) (vi p1.X1) rfl rfl rfl (bT 0 rfl j (fun h=>by exact(cG h:cv (((true&&((((decide (p0.X0<p1.X1))&&(decide (p1.X0<p0.X1)))&&((p0.Y1==p1.Y0)||(p1.Y1==p0.Y0)))==false))&&(((decide (p0.Y0<p1.Y1))&&(decide (p1.Y0<p0.Y1)))==true))&&((p0.X1==p1.X0)==false)) (vp aa 2)= (vp aa 2))) rfl eG cF) (RL.gs ((true&&((((decide (p0.X0<p1.X1))&&(decide (p1.X0<p0.X1)))&&((p0.Y1==p1.Y0)||(p1.Y1==p0.Y0)))==false))&&(((decide (p0.Y0<p1.Y1))&&(decide (p1.Y0<p0.Y1)))==true)) (p0.X1==p1.X0) (vp o 0) rfl rfl rfl (dP iD) (RL.gs ((true&&((((decide (p0.X0<p1.X1))&&(decide (p1.X0<p0.X1)))&&((p0.Y1==p1.Y0)||(p1.Y1==p0.Y0)))==false))&&(((decide (p0.Y0<p1.Y1))&&(decide (p1.Y0<p0.Y1)))==true)) (p0.X1==p1.X0) (vi p0.X0) rfl rfl rfl (bT 1 rfl j (fun h=>by exact(cG h:cv (((true&&((((decide (p0.X0<p1.X1))&&(decide (p1.X0<p0.X1)))&&((p0.Y1==p1.Y0)||(p1.Y1==p0.Y0)))==false))&&(((decide (p0.Y0<p1.Y1))&&(decide (p1.Y0<p0.Y1)))==true))&&((p0.X1==p1.X0)==false)) (vp o 0)= (vp o 0))) rfl dM cF) (RL.gs ((true&&((((decide (p0.X0<p1.X1))&&(decide (p1.X0<p0.X1)))&&((p0.Y1==p1.Y0)||(p1.Y1==p0.Y0)))==false))&&(((decide (p0.Y0<p1.Y1))&&(decide (p1.Y0<p0.Y1)))==true)) (p0.X1==p1.X0) (vb (p1.X1==p0.X0)) rfl rfl rfl (dK .eql .i64 p1.X1 p0.X0 rfl (fun h=>by exact(cG h:cv (((true&&((((decide (p0.X0<p1.X1))&&(decide (p1.X0<p0.X1)))&&((p0.Y1==p1.Y0)||(p1.Y1==p0.Y0)))==false))&&(((decide (p0.Y0<p1.Y1))&&(decide (p1.Y0<p0.Y1)))==true))&&((p0.X1==p1.X0)==false)) (vi p1.X1)= (vi p1.X1))) (fun h=>by exact(cG h:cv (((true&&((((decide (p0.X0<p1.X1))&&(decide (p1.X0<p0.X1)))&&((p0.Y1==p1.Y0)||(p1.Y1==p0.Y0)))==false))&&(((decide (p0.Y0<p1.Y1))&&(decide (p1.Y0<p0.Y1)))==true))&&((p0.X1==p1.X0)==false)) (vi p0.X0)= (vi p0.X0))) rfl) (RL.gs (true&&((((decide (p0.X0<p1.X1))&&(decide (p1.X0<p0.X1)))&&((p0.Y1==p1.Y0)||(p1.Y1==p0.Y0)))==false)) ((decide (p0.Y0<p1.Y1))&&(decide (p1.Y0<p0.Y1))) (vb ((p0.X1==p1.X0)||(p1.X1==p0.X0))) rfl rfl rfl (kF (p0.X1==p1.X0) rfl (fun h=>by exact(cG h:cv ((true&&((((decide (p0.X0<p1.X1))&&(decide (p1.X0<p0.X1)))&&((p0.Y1==p1.Y0)||(p1.Y1==p0.Y0)))==false))&&(((decide (p0.Y0<p1.Y1))&&(decide (p1.Y0<p0.Y1)))==true)) (vb (p0.X1==p1.X0))= (vb (p0.X1==p1.X0)))) (fun h=>by exact nz (h:=h) ((true&&((((decide (p0.X0<p1.X1))&&(decide (p1.X0<p0.X1)))&&((p0.Y1==p1.Y0)||(p1.Y1==p0.Y0)))==false))&&(((decide (p0.Y0<p1.Y1))&&(decide (p1.Y0<p0.Y1)))==true)))) (RL.gs true (((decide (p0.X0<p1.X1))&&(decide (p1.X0<p0.X1)))&&((p0.Y1==p1.Y0)||(p1.Y1==p0.Y0))) (vb (((decide (p0.Y0<p1.Y1))&&(decide (p1.Y0<p0.Y1)))&&((p0.X1==p1.X0)||(p1.X1==p0.X0)))) rfl rfl rfl (kF ((decide (p0.Y0<p1.Y1))&&(decide (p1.Y0<p0.Y1))) rfl (fun h=>by exact(cG h:cv (true&&((((decide (p0.X0<p1.X1))&&(decide (p1.X0<p0.X1)))&&((p0.Y1==p1.Y0)||(p1.Y1==p0.Y0)))==false)) (vb ((decide (p0.Y0<p1.Y1))&&(decide (p1.Y0<p0.Y1))))= (vb ((decide (p0.Y0<p1.Y1))&&(decide (p1.Y0<p0.Y1)))))) (fun h=>by exact gr (h:=h) (true&&((((decide (p0.X0<p1.X1))&&(decide (p1.X0<p0.X1)))&&((p0.Y1==p1.Y0)||(p1.Y1==p0.Y0)))==false)))) (RL.pick (((decide (p0.X0<p1.X1))&&(decide (p1.X0<p0.X1)))&&((p0.Y1==p1.Y0)||(p1.Y1==p0.Y0))) (vb ((((decide (p0.X0<p1.X1))&&(decide (p1.X0<p0.X1)))&&((p0.Y1==p1.Y0)||(p1.Y1==p0.Y0)))||(((decide (p0.Y0<p1.Y1))&&(decide (p1.Y0<p0.Y1)))&&((p0.X1==p1.X0)||(p1.X1==p0.X0))))) (nz true) (aP (vb ((((decide (p0.X0<p1.X1))&&(decide (p1.X0<p0.X1)))&&((p0.Y1==p1.Y0)||(p1.Y1==p0.Y0)))||(((decide (p0.Y0<p1.Y1))&&(decide (p1.Y0<p0.Y1)))&&((p0.X1==p1.X0)||(p1.X1==p0.X0))))) ?_))))))))
 refine RL.nt (RC.ret ?_)
 obtain rfl:=oi hb
 exact bM ⟨rfl,j.drop 4⟩
theorem qU {p0:aG} {p1:bJ} {res:Bool} (j:Holds E w V) (h0:V[i0]? =some (rd v0 p0)) (h1:V[i1]? =some (pt v1 p1)) (o:jV N p0 p1=some res):
    Calls bD 100 [v0,v1].toArray w (gm (aS E V res)):=by
 unfold jV at o
 refine enter Tryz.func100 zr zr ?_
 have j:=(j.dup (i0+0) h0).AX (i:=i1+1) h1
 refine RC.sr (RL.dA 1 v0 j zr fun ah w j=>?_)
 have j:=j.mC (i:=0) rfl
 refine aP (vb false) (RL.nq (RC.xq mixed [1,0,2,2,0] [0,1,2,3,4] ?_))
 have j:=j.drew
 refine DP.yN p0 0 zr zt j hZ fun aa a33 ai j=>(DP.e0 zr (RL.bF 3 p1 j mJ fun ab j=>(r6 zr ?_)))
 obtain⟨aj,ad,o⟩:=bd o
 refine RL.call zt zr E9 [ab] zr (aC (iV N (i0:=0) j zr ad) ?_)
 rintro ae w j
 refine DP.d2 (⟨zt,j.iu 2⟩) (DP.e2 zr ?_)
 obtain⟨af,ag,o⟩:=bd o
 refine RL.call zt zr J5 [aa,ae] zr (aC (xA N (i0:=3) (i1:=0) j zr zr ag) ?_)
 rintro _ w ⟨rfl,j⟩
 refine DP.d2 (⟨zt,j.iu 2⟩) (DP.e0 zr (aP (vb af) (DP.d0 ?_)))
 have j:=j.pl 7 [0,1,3,4,5,6]
 refine DP.z (aJ (RC.ret ?_))
 obtain rfl:=oi o
 exact bM ⟨rfl,j.drop 6⟩
theorem lZ {p0: (List aG)} {p1:aG->Option Bool} {res:Bool} (j:Holds E w V) (h0:V[i0]? =some (rd v0 p0)) (h1:Ha bD E V v1 p1 (fun(r:Bool)=>Value.bool r)) (o:gH N p0 p1=some res):
    Calls bD 99 [v0,v1].toArray w (gm (aS E V res)):=by
 unfold gH at o
 refine enter Tryz.func99 zr zr ?_
 have j:=j.dup (i0+0) h0
 refine RC.sr (aP (vb false) (RL.ns (mv v0 (mv v1 ?_))))
 obtain⟨aa,ab,o⟩:=bd o
 refine RL.call zt zr JD [v0,v1] zr (aC (qS N (i0:=0) j zr (h1.lift 1 zr) ab) ?_)
 rintro _ w ⟨rfl,j⟩
 refine ic aa 0 (aP (vb (decide (aa>=0))) (RL.nt (RC.ret ?_)))
 obtain rfl:=oi o
 exact bM ⟨rfl,j.drop 1⟩
def tQ (E:World) (V:List HP) (b0:Nat) (v0_0 v0_1:Value) (v0_2 v0_3:Value) (v0_4 v0_5:Value) (v0_7 v0_8:Value) (v0_9 v0_10 v0_11:Value) (res: (List (List Int))) (v:Value) (w:World):Prop:=∃u0_6:Value,v = .tuple #[]/\Holds E w ([bc 102 b0 [v0_0,v0_1,v0_2,v0_3,v0_4,v0_5,u0_6,v0_7,v0_8,v0_9,v0_10,v0_11],own 73 u0_6 res]++V)
theorem tk {p0_2: (List bJ)} {p0_5: (List aN)} {p0_6: (List (List Int))} {res: (List (List Int))} (j:Holds E w (bc 102 b0 [v0_0,v0_1,v0_2,v0_3,v0_4,v0_5,v0_6,v0_7,v0_8,v0_9,v0_10,v0_11]::rd v0_2 p0_2::rd v0_5 p0_5::own 73 v0_6 p0_6::V)) (hb:jH N p0_2 p0_5 p0_6=some res):
    Calls bD 72 [(vp b0 0)].toArray w (gm (tQ E V b0 v0_0 v0_1 v0_2 v0_3 v0_4 v0_5 v0_7 v0_8 v0_9 v0_10 v0_11 res)):=by
 unfold jH at hb
 refine enter Tryz.func72 zr zr (RC.sr (mv (vp b0 0) (RL.nilCheck zr (RL.aX zr qC (RL.aX zr jm (RL.cA 0 v0_2 j o4 (RL.bA 1 p0_2 j tF (mv (vi 0) ?_))))))))
 refine RL.nt ?_
 obtain⟨af,hN,hb⟩:=bd hb
 refine RC.fold (fun(ai:Nat) (af: (List (List Int))) U w=>∃az:Value,SH E V [(0,vp b0 0),(11,v0_2),(12,vi p0_2.length),(13,vi ai)] [bc 102 b0 [v0_0,v0_1,v0_2,v0_3,v0_4,v0_5,az,v0_7,v0_8,v0_9,v0_10,v0_11],own 73 az af,rd v0_2 p0_2,rd v0_5 p0_5] U w) (fun(af: (List (List Int))) U w=>∃aq:Value,SH E V [(0,vp b0 0)] [bc 102 b0 [v0_0,v0_1,v0_2,v0_3,v0_4,v0_5,aq,v0_7,v0_8,v0_9,v0_10,v0_11],own 73 aq af,rd v0_2 p0_2,rd v0_5 p0_5] U w) hN ?_ ?_ ?_ ?_
 ·exact⟨v0_6,j.sp 4 [0,3,1,2]⟩
 ·rintro hm af _ w ⟨a4,O,rfl,j⟩
  refine RC.sr (ic ((p0_2.length:Int)) ((p0_2.length:Int)) (RL.nq (RC.eZ r5 (RC.ex ?_))))
  exact⟨rfl,a4,j.sp 4 [0,1,2,3]⟩
 ·rintro hm ai af s' _ w hk ⟨ah,O,rfl,j⟩ hb
  refine RC.sr (ic ((ai:Int)) ((p0_2.length:Int)) (RL.nq (RC.eY (rZ hk) (RC.ss (RC.bs ?_)))))
  obtain⟨aj,a5,hb⟩:=bd hb
  refine RL.bP 2 j tg a5 fun bk j=>(RL.bF 0 aj j mJ fun bl j=>(RL.alloc j Cx.z fun ag w j=>?_))
  refine RL.aY 0 j 1 zr mJ fun w j=>?_
  refine RL.ns (aP (.slice none 0 0) (RL.nq (RC.sr (mv (vp b0 0) (RL.nilCheck zr (RL.aX zr uo (RL.cA 3 v0_5 j Fa (RL.bA 6 p0_5 j HC ?_))))))))
  refine mv (vi 0) (RL.nt ?_)
  have j:=j.mC (i:=0) rfl
  obtain⟨ak,hN,hb⟩:=bd hb
  refine RC.fold (fun(ab:Nat) (ak: (List Int)) U w=>∃a0:Value,SH E V [(0,vp b0 0),(3,vp ag 0),(4,a0),(11,v0_2),(12,vi p0_2.length),(13,vi ai),(20,v0_5),(21,vi p0_5.length),(22,vi ab)] [bc 102 b0 [v0_0,v0_1,v0_2,v0_3,v0_4,v0_5,ah,v0_7,v0_8,v0_9,v0_10,v0_11],rd v0_2 p0_2,rd v0_5 p0_5,own 73 ah af,pt (vp ag 0) aj,own 3 a0 ak] U w) (fun(ak: (List Int)) U w=>∃ao:Value,SH E V [(0,vp b0 0),(4,ao),(11,v0_2),(12,vi p0_2.length),(13,vi ai)] [bc 102 b0 [v0_0,v0_1,v0_2,v0_3,v0_4,v0_5,ah,v0_7,v0_8,v0_9,v0_10,v0_11],rd v0_2 p0_2,rd v0_5 p0_5,own 73 ah af,pt (vp ag 0) aj,own 3 ao ak] U w) hN ?_ ?_ ?_ ?_
  ·have j:=j.cX Int 3
   exact⟨(.slice none 0 0),j.sp 8 [4,6,7,5,1,0]⟩
  ·rintro hm ak _ w ⟨a6,O,rfl,j⟩
   refine RC.sr (ic ((p0_5.length:Int)) ((p0_5.length:Int)) (RL.nq (RC.eZ r5 (RC.ex ?_))))
   exact⟨rfl,a6,j.sp 6 [0,1,2,3,4,5]⟩
  ·rintro hm ab ak s' _ w hk ⟨ar,O,rfl,j⟩ hb
   refine RC.sr (ic ((ab:Int)) ((p0_5.length:Int)) (RL.nq (RC.eY (rZ hk) (RC.ss (RC.bs (mv (vi ab) ?_))))))
   obtain⟨aw,a7,hb⟩:=bd hb
   refine RL.bP 2 j IX a7 fun bm j=>(RL.bF 0 aw j Eo fun bn j=>(RL.alloc j Gq.z fun bo w j=>?_))
   refine aP (vi ab) (RL.aY 0 j 1 zr Eo fun w j=>?_)
   refine RL.nq ?_
   obtain⟨ax,o,hb⟩:=bd hb
   refine RC.jn (fun(ax:Bool)=>SH E V [(0,vp b0 0),(3,vp ag 0),(4,ar),(5,vi ab),(11,v0_2),(12,vi p0_2.length),(13,vi ai),(20,v0_5),(21,vi p0_5.length),(22,vi ab),(40,vb ax)] [bc 102 b0 [v0_0,v0_1,v0_2,v0_3,v0_4,v0_5,ah,v0_7,v0_8,v0_9,v0_10,v0_11],rd v0_2 p0_2,rd v0_5 p0_5,own 73 ah af,pt (vp ag 0) aj,own 3 ar ak]) ax ?_ ?_
   ·refine RC.region (RL.eT 7 j zr DA xt fun bp j=>(RL.bG aj.kx 0 j Hg (mv (vb aj.kx) (gu o (fun ad o=>?_) fun ad o=>?_))))
    rotate_left
    ·refine bN ad (bN ad (bN ad (bN ad (gD ad (vb false) (mv (vb false) (jX (jX (jX ?_))))))))
     refine jX (RL.pick false (vb false) zr (RL.nil ?_))
     obtain rfl:=oi o
     exact⟨rfl,j.sp 10 [4,5,6,7,8,9]⟩
    refine RL.bF (hg:=(cg ad)) 8 aj j mJ fun a8 j=>(RL.aX (hg:=(cg ad)) zr Ep (RL.aL (hg:=(cg ad)) 2 j zr qA cF ?_))
    obtain⟨a1,a9,o⟩:=bd o
    refine RL.call (cg ad) zr IV [a8,(vi aw.eU)] zr (aC (nZ N (p1:=aw.eU) (i0:=0) j zr a9) ?_)
    rintro _ w ⟨rfl,j⟩
    refine gD ad (vb a1) (mv (vb a1) (gu o (fun ae o=>?_) fun ae o=>?_))
    rotate_left
    ·refine bN ae (bN ae (bN ae (bN ae (gD ae (vb false) (RL.nil ?_)))))
     obtain rfl:=oi o
     exact⟨rfl,j.sp 11 [5,6,7,8,9,10]⟩
    refine RL.aX (hg:=(cg ae)) zr Er (RL.aV (hg:=(cg ae)) 2 j zr qB nL fun ba j=>(RL.makeFunc (cg ae) zr [(vp ag 0)] zr ?_))
    obtain⟨bb,bf,o⟩:=bd o
    refine RL.call (cg ae) rfl J7 [ba,(.func (.func 100) #[] #[(vp ag 0)])] rfl (aC (lZ N (i0:=0) j rfl ⟨100,[(vp ag 0)],rfl,J6,fun w Γl v y0 r i j hi hr=>by exact aC (qU N (i0:=i) (i1:=Γl.length+10) j hi (AV rfl) hr) fun _ _ h=>h⟩ bf) ?_)
    rintro _ w ⟨rfl,j⟩
    refine gD ae (vb bb) (RL.nil ?_)
    obtain rfl:=oi o
    exact⟨rfl,j.sp 12 [6,7,8,9,10,11]⟩
   rintro _ w ⟨O,rfl,j⟩
   refine aJ ?_
   obtain⟨ay,o,hb⟩:=bd hb
   refine RC.jn (fun(ay: (List Int)) U w=>∃au:Value,SH E V [(0,vp b0 0),(3,vp ag 0),(4,au),(11,v0_2),(12,vi p0_2.length),(13,vi ai),(20,v0_5),(21,vi p0_5.length),(22,vi ab)] [bc 102 b0 [v0_0,v0_1,v0_2,v0_3,v0_4,v0_5,ah,v0_7,v0_8,v0_9,v0_10,v0_11],rd v0_2 p0_2,rd v0_5 p0_5,own 73 ah af,pt (vp ag 0) aj,own 3 au ay] U w) ay ?_ ?_
   ·refine dW o (fun hc o=>?_) fun hc o=>?_
    rotate_left
    ·refine RC.skip ?_
     obtain rfl:=oi o
     exact⟨rfl,ar,j.sp 6 [0,1,2,3,4,5]⟩
    refine RC.region (mv ar (mv (vi ab) ?_))
    have j:=j.sc Int (ab:Int)
    refine RL.eX ([(ab:Int)]: (List Int)) j [(vi ab)] fG Gh (fun M hs g=>⟨(g.sat 0 _ zr).1,zt⟩) fun bq w j=>?_
    have j:=j.freeze 0
    obtain⟨br,bh,o⟩:=bd o
    refine RL.app 7 0 j uM bh fun a2 w j=>?_
    refine aP a2 (RL.nil ?_)
    obtain rfl:=oi o
    exact⟨rfl,a2,j.sp 8 [2,3,4,5,6,7]⟩
   rintro _ w ⟨au,O,rfl,j⟩
   refine bQ (aJ (RC.region (RL.inc hk hm (mv (vi ((ab+1:Nat):Int)) (RL.nil ?_)))))
   obtain rfl:=oi hb
   exact⟨rfl,au,j.sp 6 [0,1,2,3,4,5]⟩
  rintro _ w ⟨ao,O,rfl,j⟩
  refine aJ (RC.region (mv (vp b0 0) (mv (vp b0 0) (RL.nilCheck zr (RL.aX zr Bh (RL.cA 0 ah j IY (mv ao ?_)))))))
  have j:=j.freeze 5
  refine RL.eX ([ak]: (List (List Int))) j [ao] Fb J8 (fun M hs g=>⟨(g.sat 5 _ zr).1,zt⟩) fun bt w j=>?_
  have j:=j.freeze 0
  obtain⟨bu,bj,hb⟩:=bd hb
  refine RL.app 4 0 j J9 bj fun a3 w j=>?_
  refine RL.nilCheck zr (RL.aX zr Bh (RL.gW 1 a3 j zr zr (eM 4 j) IY fun w j=>?_))
  refine RL.nil (bQ (aJ (RC.region (RL.inc hk hm (mv (vi ((ai+1:Nat):Int)) (RL.nil ?_))))))
  obtain rfl:=oi hb
  exact⟨rfl,a3,j.sp 7 [1,4,2,3]⟩
 rintro _ w ⟨aq,O,rfl,j⟩
 obtain rfl:=oi hb
 refine D6 ?_
 exact Iw zr ⟨aq,zr,j.pk 4 [0,1]⟩
def vH (E:World) (V:List HP) (res: ((List Int))) (v:Value) (w:World):Prop:=∃(ub0:Nat) (u0_0:Value),v=vp ub0 0/\Holds E w ([bc 176 ub0 [u0_0],own 3 u0_0 res]++V)
theorem uX {res: ((List Int))} (j:Holds E w V) (hb:kO N p0=some res):
    Calls bD 102 [(vi p0)].toArray w (gm (vH E V res)):=by
 unfold kO at hb
 refine enter Tryz.func102 zr zr (RC.sr (aP (.pointer none) (RL.ns (mv (vi p0) ?_))))
 obtain⟨af,aj,hb⟩:=bd hb
 refine RL.mk p0 j uM JC aj fun o w j=>?_
 refine RL.mQ (h1:=⟨(eM 0 j),zt⟩) [(.slice none 0 0)] [o] [(0,o)] Ka (RL.Ef (cs:=[o]) zt zr j zr (v8.all (⟨(eM 0 j),zt⟩:v8 [o])) fun ab w j=>?_)
 refine aP (vp ab 0) (RL.nq (RC.sr (mv (vp ab 0) (RL.nilCheck zr (RL.aX zr pA (RL.cA 0 o j iq (RL.fY 1 af j nr (mv (vi 0) ?_))))))))
 refine RL.nt ?_
 obtain⟨ae,hN,hb⟩:=bd hb
 refine RC.fold (fun(ad:Nat) (ae: (List Int))=>SH E V [(3,vp ab 0),(13,vi af.length),(14,vi ad)] [bc 176 ab [o],own 3 o ae]) (fun(ae: (List Int))=>SH E V [(3,vp ab 0)] [bc 176 ab [o],own 3 o ae]) hN ?_ ?_ ?_ ?_
 ·exact j.sp 2 [0,1]
 ·rintro hm ae _ w ⟨O,rfl,j⟩
  refine RC.sr (ic ((af.length:Int)) ((af.length:Int)) (RL.nq (RC.eZ r5 (RC.ex ?_))))
  exact⟨rfl,j.sp 2 [0,1]⟩
 ·rintro hm ad ae s' _ w hk ⟨O,rfl,j⟩ hb
  refine RC.sr (ic ((ad:Int)) ((af.length:Int)) (RL.nq (RC.eY (rZ hk) (RC.ss (RC.bs (mv (vi ad) (aP (vi ad) (RL.nt ?_))))))))
  refine RC.region (mv (vp ab 0) (RL.nilCheck zr (RL.aX zr pA (RL.cA 0 o j iq (mv (vi ad) (mv (vi ad) ?_))))))
  obtain⟨al,ag,hb⟩:=bd hb
  refine RL.bX 1 j zr zr fG ag ?_
  have j:=j.sc Int (ad:Int)
  refine RL.gp (f:=(fun _ y=>y)) 2 0 j (kJ 2 j ag 0) (bE ag).2.1 zr Fs.self cF fun w j=>?_
  refine RL.nil (bQ (aJ (RC.region (RL.inc hk hm (mv (vi ((ad+1:Nat):Int)) (RL.nil ?_))))))
  obtain rfl:=oi hb
  exact⟨rfl,j.sp 3 [1,2]⟩
 rintro _ w ⟨O,rfl,j⟩
 refine aJ (RC.sr (mv (vp ab 0) (aP (vp ab 0) (RL.nt (RC.ret ?_)))))
 obtain rfl:=oi hb
 exact bM ⟨ab,o,zr,j.pk 2 [0,1]⟩
def uY (E:World) (V:List HP) (b0:Nat) (res:Int×(List Int)) (v:Value) (w:World):Prop:=∃u0_0:Value,v= (vi res.1)/\Holds E w ([bc 176 b0 [u0_0],own 3 u0_0 res.2]++V)
theorem mh {p0_0: (List Int)} {res:Int×(List Int)} (j:Holds E w (bc 176 b0 [v0_0]::own 3 v0_0 p0_0::V)) (o:gA N p0_0 p1=some res):
    Calls bD 140 [(vp b0 0),(vi p1)].toArray w (gm (uY E V b0 res)):=by
 unfold gA at o
 refine enter Tryz.func140 zr zr (RC.sr (aP (vi 0) (RL.nq ?_)))
 obtain⟨an,hN,o⟩:=bd o
 refine RC.iter (fun(aa: (List Int)×Int)=>SH E V [(0,vp b0 0),(1,vi aa.2)] [bc 176 b0 [v0_0],own 3 v0_0 aa.1]) (fun(aa: (List Int)×Int)=>SH E V [(0,vp b0 0),(1,vi aa.2)] [bc 176 b0 [v0_0],own 3 v0_0 aa.1]) (fun(r:Empty) _ _=>r.elim) hN ?_ ?_ ?_ ?_
 ·exact j.sp 2 [0,1]
 ·rintro aa fl _ w ⟨O,rfl,j⟩ o
  refine RC.seq (RC.sr (mv (vp b0 0) (RL.nilCheck zr (RL.aX zr pA (RL.cA 0 v0_0 j iq (mv (vi aa.2) ?_))))))
  obtain⟨ai,ab,o⟩:=bd o
  refine RL.bX 1 j zr zr fG ab (RL.eH (f:=(fun x=>x)) 1 j (kJ 1 j ab 0) (bE ab).2.1 Fd.self cF (mv (vi aa.2) (ic ai aa.2 (RL.nt (dW o (fun hc o=>?_) fun hc o=>?_)))))
  rotate_left
  ·refine RC.ex ?_
   obtain rfl:=oi o
   exact⟨rfl,j.sp 2 [0,1]⟩
  refine RC.sn (RC.block (RC.seq (RC.xq mixed [0,0,0,0,0,0,0,0,0,0,0,0,0,0,0,0,0,0,0,2] [0,1,2,3,4,5,6,7,8,9,10,11,12,13,14,15,16,17,18,19] ?_)))
  have j:=j.drew
  refine DP.e0 zr (mv (vp b0 0) (bW zr (RL.nilCheck zr (bW zr (RL.aX zr pA (bW zr (RL.cA 0 v0_0 j iq (bW zr ?_))))))))
  refine mv (vi aa.2) (bW zr (mv (vp b0 0) (bW zr (RL.nilCheck zr (bW zr (RL.aX zr pA (bW zr (RL.cA 0 v0_0 j iq ?_))))))))
  refine bW zr (mv (vp b0 0) (bW zr (RL.nilCheck zr (bW zr (RL.aX zr pA (bW zr (RL.cA 0 v0_0 j iq (bW zr ?_))))))))
  refine mv (vi aa.2) (bW zr ?_)
  obtain⟨aq,ad,o⟩:=bd o
  refine RL.bX 1 j zr zr fG ad (bW zr (RL.eH (f:=(fun x=>x)) 1 j (kJ 1 j ad 0) (bE ad).2.1 Fd.self cF (bW zr ?_)))
  obtain⟨ak,ae,o⟩:=bd o
  refine RL.bX 1 j zr zr fG ae (bW zr (RL.eH (f:=(fun x=>x)) 1 j (kJ 1 j ae 0) (bE ae).2.1 Fd.self cF (bW zr ?_)))
  obtain⟨ar,af,o⟩:=bd o
  refine RL.bX 1 j zr zr fG af (r6 zr ?_)
  have j:=j.sc Int ak
  refine RL.gp (f:=(fun _ y=>y)) 2 0 j (kJ 2 j af 0) (bE af).2.1 zr Fs.self cF fun w j=>?_
  refine DP.d2 zt (DP.z (aJ (RC.region (mv (vp b0 0) (RL.nilCheck zr (RL.aX zr pA (RL.cA 1 v0_0 j iq (mv (vi aa.2) ?_))))))))
  obtain⟨al,ag,o⟩:=bd o
  refine RL.bX 2 j zr zr fG ag (RL.eH (f:=(fun x=>x)) 2 j (kJ 2 j ag 0) (bE ag).2.1 Fd.self cF (aP (vi al) (RL.nil (bQ ?_))))
  obtain rfl:=oi o
  exact⟨rfl,j.sp 3 [1,2]⟩
 ·intro r _ _ _ _
  exact r.elim
 rintro aa _ w rfl ⟨O,rfl,j⟩
 rw [Fo.dQ] at o
 refine aJ (RC.sr (mv (vi aa.2) (aP (vi aa.2) (RL.nt (RC.ret ?_)))))
 obtain rfl:=oi o
 exact bM ⟨v0_0,zr,j.pk 2 [0,1]⟩
def tR (E:World) (V:List HP) (b0:Nat) (res: (List Int)) (v:Value) (w:World):Prop:=∃u0_0:Value,v = .tuple #[]/\Holds E w ([bc 176 b0 [u0_0],own 3 u0_0 res]++V)
theorem tm {p0_0: (List Int)} {res: (List Int)} (j:Holds E w (bc 176 b0 [v0_0]::own 3 v0_0 p0_0::V)) (o:gU N p0_0 p1 p2=some res):
    Calls bD 103 [(vp b0 0),(vi p1),(vi p2)].toArray w (gm (tR E V b0 res)):=by
 unfold gU at o
 refine enter Tryz.func103 zr zr (RC.sr (mv (vp b0 0) (mv (vi p1) ?_)))
 have j:=(j.pull 1).pull 1
 obtain⟨aa,af,o⟩:=bd o
 refine RL.call zt zr Gr [(vp b0 0),(vi p1)] zr (aC (mh N (p1:=p1) j af) ?_)
 rintro _ w ⟨ah,rfl,j⟩
 refine mv (vp b0 0) (mv (vi p2) ?_)
 have j:=(j.pull 1).pull 1
 obtain⟨ab,ag,o⟩:=bd o
 refine RL.call zt zr Gr [(vp b0 0),(vi p2)] zr (aC (mh N (p1:=p2) j ag) ?_)
 rintro _ w ⟨ae,rfl,j⟩
 refine aP (vi aa.1) (aP (vi ab.1) (RL.nt (RC.region (mv (vp b0 0) (RL.nilCheck zr (RL.aX zr pA (RL.cA 0 ae j iq (mv (vi aa.1) ?_))))))))
 refine mv (vi ab.1) (RL.max aa.1 ab.1 (mv (vi aa.1) (mv (vi ab.1) (RL.min aa.1 ab.1 ?_))))
 obtain⟨ai,ad,o⟩:=bd o
 refine RL.bX 1 j zr zr fG ad ?_
 have j:=j.sc Int (if ab.1<aa.1 then ab.1 else aa.1)
 refine RL.gp (f:=(fun _ y=>y)) 2 0 j (kJ 2 j ad 0) (bE ad).2.1 zr Fs.self cF fun w j=>?_
 refine RL.nil ?_
 obtain rfl:=oi o
 refine D6 ?_
 exact Iw zr ⟨ae,zr,j.pk 7 [1,2]⟩
def tS (E:World) (V:List HP) (b0:Nat) (res: (List (List Int))×(List Int)) (v:Value) (w:World):Prop:=∃u0 u0_0:Value,v=u0/\Holds E w ([own 73 u0 res.1,bc 176 b0 [u0_0],own 3 u0_0 res.2]++V)
theorem tn {p0_0: (List Int)} {res: (List (List Int))×(List Int)} (o:Holds E w (bc 176 b0 [v0_0]::own 3 v0_0 p0_0::V)) (hb:jI N p0_0=some res):
    Calls bD 104 [(vp b0 0)].toArray w (gm (tS E V b0 res)):=by
 unfold jI at hb
 refine enter Tryz.func104 zr zr (RC.sr (aP (.slice none 0 0) (RL.ns (aP (.slice none 0 0) (RL.ns (RL.makeMap (κ:=Int) (ν:=Int) zt zr o fun aq w o=>(aP aq (RL.nq ?_))))))))
 refine RC.sr (mv (vp b0 0) (RL.nilCheck zr (RL.aX zr pA (RL.cA 1 v0_0 o iq (RL.fY 2 p0_0 o nr (mv (vi 0) (RL.nt ?_)))))))
 obtain⟨ao,hN,hb⟩:=bd hb
 refine RC.fold (fun(ai:Nat) (ao: (List Int)×(List (List Int))×(List (Int×Int))) U w=>∃(a4 a5:Value) (us110:List RV),SH E V [(0,vp b0 0),(3,a5),(4,aq),(12,vi p0_0.length),(13,vi ai)] [bc 176 b0 [a4],own 3 a4 ao.1,mp aq ao.2.2,own 73 a5 us110,jZ (XS 3 Int) us110 ao.2.1 none] U w) (fun(ao: (List Int)×(List (List Int))×(List (Int×Int))) U w=>∃(ax av:Value) (us113:List RV),SH E V [(0,vp b0 0),(3,av)] [bc 176 b0 [ax],own 3 ax ao.1,mp aq ao.2.2,own 73 av us113,jZ (XS 3 Int) us113 ao.2.1 none] U w) hN ?_ ?_ ?_ ?_
 ·have o:=(o.AZ (XS 3 Int)).cX RV 73
  exact⟨v0_0,(.slice none 0 0),([]:List RV),o.sp 5 [3,4,2,0,1]⟩
 ·rintro hm ao _ w ⟨bb,bf,us153,O,rfl,o⟩
  refine RC.sr (ic ((p0_0.length:Int)) ((p0_0.length:Int)) (RL.nq (RC.eZ r5 (RC.ex ?_))))
  exact⟨rfl,bb,bf,us153,o.sp 5 [0,1,2,3,4]⟩
 ·rintro hm ai ao s' _ w hk ⟨bl,a1,us116,O,rfl,o⟩ hb
  refine RC.sr (ic ((ai:Int)) ((p0_0.length:Int)) (RL.nq (RC.eY (rZ hk) (RC.ss (RC.bs (mv (vi ai) (aP (vi ai) (RL.ns ?_))))))))
  refine mv (vp b0 0) (mv (vi ai) ?_)
  have o:=(o.pull 1).pull 1
  obtain⟨ab,bg,hb⟩:=bd hb
  refine RL.call zt zr Gr [(vp b0 0),(vi ai)] zr (aC (mh N (p1:=(ai:Int)) o bg) ?_)
  rintro _ w ⟨aw,rfl,o⟩
  refine aP (vi ab.1) (RL.nq (RC.sr (mv (vi ab.1) (mv (vi ai) (ic ab.1 ((ai:Int)) (RL.nt ?_))))))
  obtain⟨aa,hj,hb⟩:=bd hb
  refine RC.jn (fun(aa: (List (List Int))×(List (Int×Int))) U w=>∃(an:Value) (us124:List RV),SH E V [(0,vp b0 0),(3,an),(4,aq),(5,vi ai),(6,vi ab.1),(12,vi p0_0.length),(13,vi ai)] [bc 176 b0 [aw],own 3 aw ab.2,mp aq aa.2,own 73 an us124,jZ (XS 3 Int) us124 aa.1 none] U w) aa ?_ ?_
  ·refine dW hj (fun hc hj=>?_) fun hc hj=>?_
   rotate_left
   ·refine RC.skip ?_
    obtain rfl:=oi hj
    exact⟨rfl,a1,us116,o.sp 7 [0,1,4,5,6]⟩
   refine RC.sr (mv aq (mv (vi ai) (mv a1 (RL.tx 5 6 ao.2.1 zr o zr zr zr IZ ?_))))
   have o:=o.sc Int (ao.2.1.length:Int)
   refine RL.mapUpdate 5 0 (ai:Int) zt o zr zr zr zr zr CA fun w o=>(RL.nt (RC.region (mv a1 ?_)))
   have o:=(o.cX Int 3).Ed (i:=0) rfl
   refine RL.eX ([rv (.slice none 0 0)]:List RV) o [(.slice none 0 0)] Fb J8 (fun M hs g=>⟨(g.sat 0 _ zr).1,zt⟩) fun bm w o=>?_
   obtain⟨bn,bj,hj⟩:=bd hj
   have o:=o.freeze 0
   refine RL.Ce 9 0 10 2 zt zr o zr zr zr zr zr zr J9 bj fun a8 w o=>?_
   refine aP a8 (RL.nil ?_)
   obtain rfl:=oi hj
   exact⟨rfl,a8,(us116++[rv (.slice none 0 0)]),o.sp 11 [4,5,8,9,10]⟩
  rintro _ w ⟨an,us124,O,rfl,o⟩
  refine aJ ?_
  obtain⟨bo,ay,hb⟩:=bd hb
  obtain⟨au,bk,hb⟩:=bd hb
  obtain⟨bp,a2,hb⟩:=bd hb
  refine RC.Hd E V mixed [1,1,1,0,1,1,1,0,0,0,1,0,0,0,0] [11,12,14] (fun(x:Value×Value)=>(fun ak ag=>[(0,29,an),(1,30,aq),(2,31,(vi ab.1)),(3,32,(vi (i5 aa.2 ab.1 (0:Int)))),(4,33,an),(5,34,aq),(6,35,(vi ab.1)),(7,36,(vi (i5 aa.2 ab.1 (0:Int)))),(8,37,(BS an (Int.toNat (i5 aa.2 ab.1 (0:Int))) 1 0)),(9,38,(us124.getD (Int.toNat (i5 aa.2 ab.1 (0:Int))) BT).v),(10,39,(vi ai)),(11,40,ak),(12,41,ag),(13,42,(BS an (Int.toNat (i5 aa.2 ab.1 (0:Int))) 1 0))]) x.1 x.2) [(0,vp b0 0),(3,an),(4,aq),(5,vi ai),(6,vi ab.1),(12,vi p0_0.length),(13,vi ai)] [] (fun(D:Nat->Bool) (x:Value×Value)=>(fun ak ag=>[bif D 1 then (rd ak ([(ai:Int)]: (List Int))) else (bif D 0 then (own 3 ak ([(ai:Int)]: (List Int))) else bH),bif D 2 then bH else (bif D 1 then (own 3 ag au) else bH),bc 176 b0 [aw],own 3 aw ab.2,mp aq aa.2,bif D 2 then (own 73 an (us124.set (Int.toNat (i5 aa.2 ab.1 (0:Int))) (rv ag))) else (own 73 an us124),bif D 2 then (jZ (XS 3 Int) (us124.set (Int.toNat (i5 aa.2 ab.1 (0:Int))) (rv ag)) (aa.1.set (Int.toNat (i5 aa.2 ab.1 (0:Int))) au) none) else (bif D 1 then (jZ (XS 3 Int) us124 aa.1 (some (Int.toNat (i5 aa.2 ab.1 (0:Int))))) else (jZ (XS 3 Int) us124 aa.1 none))]) x.1 x.2) (fun x=>by kernel_rfl) ?_ ⟨fun _=>lP gn,fun _=>lP gn,fun _=>lP gn,?_,fun _=>lP gn,fun _=>lP gn,fun _=>lP gn,?_,?_,?_,fun _=>lP gn,?_,?_,?_,?_,trivial⟩ ?_
  ·have o:=((o.drew).bH).bH
   exact⟨(undef,undef),fU.none,(FQ zr),zt,o⟩
  ·rintro D U w hD ah ae ⟨⟨ak,ag⟩,hv,ha,_,o⟩
   obtain⟨O,rfl⟩:=(ac (hv.at 1 rfl (ah.1 rfl)) (ac (hv.at 2 rfl (ah.2.1 rfl)) az)).ir
   refine RL.B7 4 ab.1 zt zr o zr zr zr CA ?_
   exact RL.nil ⟨rfl,(ak,ag),hv.pu 3,ha.u,zt,o⟩
  ·rintro D U w hD ah ae ⟨⟨ak,ag⟩,hv,ha,_,o⟩
   obtain⟨O,rfl⟩:=(ac (hv.at 5 rfl (ah.1 rfl)) (ac (hv.at 6 rfl (ah.2.1 rfl)) az)).ir
   refine RL.B7 4 ab.1 zt zr o zr zr zr CA ?_
   exact RL.nil ⟨rfl,(ak,ag),hv.pu 7,ha.u,zt,o⟩
  ·rintro D U w hD ah ae ⟨⟨ak,ag⟩,hv,ha,_,o⟩
   obtain⟨O,rfl⟩:=(ac (hv.at 4 rfl (ah.1 rfl)) (ac (hv.at 7 rfl (ah.2.1 rfl)) az)).ir
   have o:=((o.cL 5 (nh ae hD 14)).cL 6 (nh ae hD 14)).cL 6 (nf (fun h=>ft hD ((ae 9 _ rfl ((ae 12 _ rfl h).1 rfl)).1 rfl)))
   have hl141:=o.iY 6 rfl
   have hr142:=lf BT hl141 ay
   refine RL.bX 5 o zr zr Fb hr142 ?_
   have o:=(o.gC 5 (D 14) (nh ae hD 14) (own 73 an (us124.set (Int.toNat (i5 aa.2 ab.1 (0:Int))) (rv ag)))).gC 6 (D 12) (nf (fun h=>ft hD ((ae 9 _ rfl ((ae 12 _ rfl h).1 rfl)).1 rfl))) (jZ (XS 3 Int) us124 aa.1 (some (Int.toNat (i5 aa.2 ab.1 (0:Int)))))
   have o:=o.gC 6 (D 14) (nh ae hD 14) (jZ (XS 3 Int) (us124.set (Int.toNat (i5 aa.2 ab.1 (0:Int))) (rv ag)) (aa.1.set (Int.toNat (i5 aa.2 ab.1 (0:Int))) au) none)
   exact RL.nil ⟨rfl,(ak,ag),hv.pu 8,ha.u,zt,o⟩
  ·rintro D U w hD ah ae ⟨⟨ak,ag⟩,hv,ha,_,o⟩
   obtain⟨O,rfl⟩:=(ac (hv.at 8 rfl (ah.1 rfl)) az).ir
   have o:=((o.cL 5 (nh ae hD 14)).cL 6 (nh ae hD 14)).cL 6 (nh ae hD 12)
   have hl143:=o.iY 6 rfl
   have hr144:=lf BT hl143 ay
   refine RL.xo 5 6 (i5 aa.2 ab.1 (0:Int)) (Ai 3 Int) BT zr o zr (kJ 5 o hr144 0) zr zr ay iq ?_
   have o:=(o.gC 5 (D 14) (nh ae hD 14) (own 73 an (us124.set (Int.toNat (i5 aa.2 ab.1 (0:Int))) (rv ag)))).gC 6 (D 12) (nh ae hD 12) (jZ (XS 3 Int) us124 aa.1 (some (Int.toNat (i5 aa.2 ab.1 (0:Int)))))
   have o:=o.gC 6 (D 14) (nh ae hD 14) (jZ (XS 3 Int) (us124.set (Int.toNat (i5 aa.2 ab.1 (0:Int))) (rv ag)) (aa.1.set (Int.toNat (i5 aa.2 ab.1 (0:Int))) au) none)
   exact RL.nil ⟨rfl,(ak,ag),hv.pu 9,ha.u,zt,o⟩
  ·rintro D U w hD ah ae ⟨⟨ak,ag⟩,hv,ha,_,o⟩
   obtain⟨O,rfl⟩:=(ac (hv.at 10 rfl (ah.1 rfl)) az).ir
   have o:=((o.cL 0 (nh ae hD 12)).cL 0 hD).sc Int (ai:Int)
   refine RL.eX ([(ai:Int)]: (List Int)) o [(vi ai)] fG Gh (fun M hs g=>⟨(g.sat 0 _ zr).1,zt⟩) fun a9 w o=>?_
   have o:=((o.pl 9 [0,3,4,5,6,7,8]).dF 0 true rfl bH).gC 0 (D 12) (nh ae hD 12) (rd a9 ([(ai:Int)]: (List Int)))
   exact RL.nil ⟨rfl,(a9,ag),hv.pu 11,ha.u,zt,o⟩
  ·rintro D U w hD ah ae ⟨⟨ak,ag⟩,hv,ha,_,o⟩
   obtain⟨O,rfl⟩:=(ac (hv.at 9 rfl (ah.1 rfl)) (ac (hv.at 11 rfl (ah.2.1 rfl)) az)).ir
   have o:=(((((((o.cL 0 hD).dE 0 (ah.2.1 rfl)).cL 1 (nh ae hD 14)).cL 1 hD).cL 5 (nh ae hD 14)).cL 6 (nh ae hD 14)).cL 6 hD).A0 (j:=6) (jj:=(i5 aa.2 ab.1 (0:Int))) (Ai 3 Int) BT rfl ay
   have o:=o.freeze 1
   refine RL.app 0 1 o uM bk fun a3 w o=>?_
   have o:=((((o.pl 8 [1,0,3,4,5,6,7]).dF 0 true rfl (bif D 11 then (own 3 ak ([(ai:Int)]: (List Int))) else bH)).dF 1 true rfl bH).gC 1 (D 14) (nh ae hD 14) bH).gC 5 (D 14) (nh ae hD 14) (own 73 an (us124.set (Int.toNat (i5 aa.2 ab.1 (0:Int))) (rv a3)))
   have o:=(o.dF 6 true rfl (jZ (XS 3 Int) us124 aa.1 none)).gC 6 (D 14) (nh ae hD 14) (jZ (XS 3 Int) (us124.set (Int.toNat (i5 aa.2 ab.1 (0:Int))) (rv a3)) (aa.1.set (Int.toNat (i5 aa.2 ab.1 (0:Int))) au) none)
   exact RL.nil ⟨rfl,(ak,a3),hv.pu 12,ha.u,zt,o⟩
  ·rintro D U w hD ah ae ⟨⟨ak,ag⟩,hv,ha,_,o⟩
   obtain⟨O,rfl⟩:=(ac (hv.at 0 rfl (ah.1 rfl)) (ac (hv.at 3 rfl (ah.2.1 rfl)) az)).ir
   have o:=((o.cL 5 (nh ae hD 14)).cL 6 (nh ae hD 14)).dE 6 (ah.2.2.2.2.2.2.2.2.2.2.2.2.2.2.1 rfl)
   have hl147:=o.iY 6 rfl
   have hr148:=lf BT hl147 a2
   refine RL.bX 5 o zr zr Fb hr148 ?_
   have o:=(o.gC 5 (D 14) (nh ae hD 14) (own 73 an (us124.set (Int.toNat (i5 aa.2 ab.1 (0:Int))) (rv ag)))).dF 6 (D 12) (ah.2.2.2.2.2.2.2.2.2.2.2.2.2.2.1 rfl) (jZ (XS 3 Int) us124 aa.1 none)
   have o:=o.gC 6 (D 14) (nh ae hD 14) (jZ (XS 3 Int) (us124.set (Int.toNat (i5 aa.2 ab.1 (0:Int))) (rv ag)) (aa.1.set (Int.toNat (i5 aa.2 ab.1 (0:Int))) au) none)
   exact RL.nil ⟨rfl,(ak,ag),hv.pu 13,ha.u,zt,o⟩
  ·rintro D U w hD ah ae ⟨⟨ak,ag⟩,hv,ha,_,o⟩
   obtain⟨O,rfl⟩:=(ac (hv.at 12 rfl (ah.2.1 rfl)) (ac (hv.at 13 rfl (ah.1 rfl)) az)).ir
   have o:=((((o.cL 1 hD).dE 1 (ah.2.1 rfl)).cL 5 hD).cL 6 hD).dE 6 (ah.2.1 rfl)
   have hl149:=o.iY 6 rfl
   have hr150:=lf BT hl149 a2
   refine RL.vt 5 6 1 (i5 aa.2 ab.1 (0:Int)) (Ai 3 Int) BT o zr zr (kJ 5 o hr150 0) zr zr zr a2 iq fun w o=>?_
   have o:=((o.dF 1 true rfl (bif D 12 then (own 3 ag au) else bH)).dF 5 true rfl (own 73 an us124)).dF 6 true rfl (bif D 12 then (jZ (XS 3 Int) us124 aa.1 (some (Int.toNat (i5 aa.2 ab.1 (0:Int))))) else (jZ (XS 3 Int) us124 aa.1 none))
   exact RL.nil ⟨rfl,(ak,ag),hv.n1,ha,zt,o⟩
  rintro D U w a0 ⟨⟨ak,ag⟩,hv,ha,_,o⟩
  have o:=(((o.dE 0 (nn a0 12)).dE 1 (nn a0 14)).dE 5 (nn a0 14)).dE 6 (nn a0 14)
  obtain⟨O,rfl⟩:=(ac (ha.at 0 rfl) (ac (ha.at 1 rfl) (ac (ha.at 2 rfl) (ac (ha.at 3 rfl) (ac (ha.at 4 rfl) (ac (ha.at 5 rfl) (ac (ha.at 6 rfl) az))))))).ir
  refine bQ (aJ (RC.region (RL.inc hk hm (mv (vi ((ai+1:Nat):Int)) (RL.nil ?_)))))
  obtain rfl:=oi hb
  exact⟨rfl,aw,an,(us124.set (Int.toNat (i5 aa.2 ab.1 (0:Int))) (rv ag)),o.sp 7 [2,3,4,5,6]⟩
 rintro _ w ⟨ax,av,us113,O,rfl,o⟩
 refine aJ (RC.sr (mv av (aP av (RL.nt (RC.ret ?_)))))
 obtain rfl:=oi hb
 have o:=o.A1 (X:=(XS 3 Int)) (b:=4) (j:=3) rfl (fun M h u x cs=>(HZ 3) M h u x cs) rfl rfl (by decide)
 exact bM ⟨av,ax,zr,o.pk 5 [3,0,1]⟩
theorem tp {p0:aG} {p1:jy} {res:Bool} (j:Holds E w V) (h0:V[i0]? =some (rd v0 p0)) (h1:V[i1]? =some (pt v1 p1)) (hb:lj N p0 p1=some res):
    Calls bD 155 [v0,v1].toArray w (gm (aS E V res)):=by
 unfold lj at hb
 refine enter Tryz.func155 zr zr ?_
 have j:=(j.dup (i0+0) h0).AX (i:=i1+1) h1
 refine RC.sr (RL.dA 1 v0 j zr fun ag w j=>?_)
 refine aP (vb false) (RL.nq ?_)
 obtain⟨af,o,hb⟩:=bd hb
 refine RC.jn (fun(af:Bool)=>SH E V [(3,vb af)] []) af ?_ ?_
 ·refine RC.region (RL.eT 1 j zr xv ov fun ah j=>(RL.bG p1.X 0 j cF (RL.aX zr iD (RL.aL 1 j zr dM cF (ic p1.X p0.X0 (mv (vb (decide (p1.X>=p0.X0))) (gu o (fun aa o=>?_) fun aa o=>?_)))))))
  rotate_left
  ·refine bN aa (bN aa (bN aa (bN aa (bN aa (gD aa (vb false) (mv (vb false) (jX (jX ?_))))))))
   refine jX (jX (jX (RL.pick false (vb false) zr (mv (vb false) (jX (jX (jX (jX ?_))))))))
   refine jX (RL.pick false (vb false) zr (aP (vb false) (RL.nil ?_)))
   obtain rfl:=oi o
   exact⟨rfl,j.sp 4 []⟩
  refine RL.eT (hg:=(cg aa)) 2 j zr xv ov fun ai j=>(RL.bG (hg:=(cg aa)) p1.X 0 j cF (RL.aX (hg:=(cg aa)) zr jl (RL.aL (hg:=(cg aa)) 2 j zr eG cF (RL.lA p1.X p0.X1 (cg aa) (gD aa (vb (decide (p1.X<p0.X1))) (mv (vb (decide (p1.X<p0.X1))) (gu o (fun ab o=>?_) fun ab o=>?_)))))))
  rotate_left
  ·refine bN ab (bN ab (bN ab (bN ab (bN ab (gD ab (vb false) (mv (vb false) (jX (jX ?_))))))))
   refine jX (jX (jX (RL.pick false (vb false) zr (aP (vb false) (RL.nil ?_)))))
   obtain rfl:=oi o
   exact⟨rfl,j.sp 5 []⟩
  refine RL.eT (hg:=(cg ab)) 3 j zr xw ox fun aj j=>(RL.bG (hg:=(cg ab)) p1.Y 0 j cF (RL.aX (hg:=(cg ab)) zr il (RL.aL (hg:=(cg ab)) 3 j zr dG cF (RL.lA p1.Y p0.Y0 (cg ab) (gD ab (vb (decide (p1.Y>=p0.Y0))) (mv (vb (decide (p1.Y>=p0.Y0))) (gu o (fun ad o=>?_) fun ad o=>?_)))))))
  ·refine RL.eT (hg:=(cg ad)) 4 j zr xw ox fun ak j=>(RL.bG (hg:=(cg ad)) p1.Y 0 j cF (RL.aX (hg:=(cg ad)) zr kT (RL.aL (hg:=(cg ad)) 4 j zr fV cF (RL.lA p1.Y p0.Y1 (cg ad) (gD ad (vb (decide (p1.Y<p0.Y1))) (aP (vb (decide (p1.Y<p0.Y1))) (RL.nil ?_)))))))
   obtain rfl:=oi o
   exact⟨rfl,j.sp 7 []⟩
  refine bN ad (bN ad (bN ad (bN ad (bN ad (gD ad (vb false) (aP (vb false) (RL.nil ?_)))))))
  obtain rfl:=oi o
  exact⟨rfl,j.sp 6 []⟩
 rintro _ w ⟨O,rfl,j⟩
 refine aJ (RC.ret ?_)
 obtain rfl:=oi hb
 exact bM ⟨rfl,j.drop 0⟩
theorem pX {p0: (List aG)} {p1:jy} {res:Bool} (j:Holds E w V) (h0:V[i0]? =some (rd v0 p0)) (h1:V[i1]? =some (rd v1 p1)) (o:j7 N p0 p1=some res):
    Calls bD 141 [v0,v1].toArray w (gm (aS E V res)):=by
 unfold j7 at o
 refine enter Tryz.func141 zr zr ?_
 have j:=(j.dup (i0+0) h0).dup (i1+1) h1
 refine RC.sr (RL.dA 0 v1 j zr fun aa w j=>?_)
 have j:=j.mC (i:=0) rfl
 refine aP (vb false) (RL.ns (mv v0 (RL.makeFunc zt zr [(vp aa 0)] zr ?_)))
 obtain⟨ab,ad,o⟩:=bd o
 refine RL.call trivial rfl J7 [v0,(.func (.func 155) #[] #[(vp aa 0)])] rfl (aC (lZ N (i0:=2) j rfl ⟨155,[(vp aa 0)],rfl,Ki,fun w Γl v y0 r i j hi hr=>by exact aC (tp N (i0:=i) (i1:=Γl.length+0) j hi (AV rfl) hr) fun _ _ h=>h⟩ ad) ?_)
 rintro _ w ⟨rfl,j⟩
 refine aP (vb ab) (RL.nt (RC.ret ?_))
 obtain rfl:=oi o
 exact bM ⟨rfl,j.drop 3⟩
def oR (E:World) (V:List HP) (b0:Nat) (v0_0 v0_1:Value) (v0_2 v0_3:Value) (v0_4 v0_5:Value) (v0_6 v0_7:Value) (v0_8 v0_9:Value) (v0_10 v0_11:Value) (res:lT×Bool) (v:Value) (w:World):Prop:=∃u0:Value,v = .tuple #[u0,(vb res.2)]/\Holds E w ([rd u0 res.1,bc 102 b0 [v0_0,v0_1,v0_2,v0_3,v0_4,v0_5,v0_6,v0_7,v0_8,v0_9,v0_10,v0_11]]++V)
def oS (E:World) (V:List HP) (b0:Nat) (v0_0 v0_1:Value) (v0_2 v0_3:Value) (v0_4 v0_5:Value) (v0_6 v0_7:Value) (v0_8 v0_9:Value) (v0_10 v0_11:Value) (r:lT×Bool) (U:Nat->Value) (w:World):Prop:=l6 bD 66 Tryz.f105 (oR E V b0 v0_0 v0_1 v0_2 v0_3 v0_4 v0_5 v0_6 v0_7 v0_8 v0_9 v0_10 v0_11 r) .ret U w
theorem tq {p0_2: (List bJ)} {p0_5: (List aN)} {p1:cU} {res:lT×Bool} (j:Holds E w (bc 102 b0 [v0_0,v0_1,v0_2,v0_3,v0_4,v0_5,v0_6,v0_7,v0_8,v0_9,v0_10,v0_11]::rd v0_2 p0_2::rd v0_5 p0_5::V)) (h1:V[i1]? =some (rd v1 p1)) (o:jJ N p0_2 p0_5 p1=some res):
    Calls bD 105 [(vp b0 0),v1].toArray w (gm (oR E V b0 v0_0 v0_1 v0_2 v0_3 v0_4 v0_5 v0_6 v0_7 v0_8 v0_9 v0_10 v0_11 res)):=by
 unfold jJ at o
 refine enter Tryz.func105 zr zr ?_
 have j:=j.dup (i1+3) h1
 refine RC.sr (RL.dA 0 v1 j zr fun ah w j=>?_)
 have j:=j.mC (i:=0) rfl
 refine RL.alloc j Gs.z fun ae w j=>?_
 refine aP (vb false) (RL.nq (RC.sr (mv (vp b0 0) (RL.nilCheck zr (RL.aX zr qC (RL.aX zr jm (RL.cA 3 v0_2 j o4 (RL.bA 4 p0_2 j tF ?_))))))))
 refine mv (vi 0) (RL.nt ?_)
 obtain⟨bn,hN,o⟩:=bd o
 refine RC.range (fun(af:Nat) (al:Unit)=>SH E V [(0,vp b0 0),(3,vp ah 0),(4,vp ae 0),(14,v0_2),(15,vi p0_2.length),(16,vi af)] [bc 102 b0 [v0_0,v0_1,v0_2,v0_3,v0_4,v0_5,v0_6,v0_7,v0_8,v0_9,v0_10,v0_11],rd v0_2 p0_2,rd v0_5 p0_5,pt (vp ah 0) p1,raw 140 ae 2]) (fun(al:Unit)=>SH E V [(0,vp b0 0),(3,vp ah 0),(4,vp ae 0)] [bc 102 b0 [v0_0,v0_1,v0_2,v0_3,v0_4,v0_5,v0_6,v0_7,v0_8,v0_9,v0_10,v0_11],rd v0_2 p0_2,rd v0_5 p0_5,pt (vp ah 0) p1,raw 140 ae 2]) (oS E V b0 v0_0 v0_1 v0_2 v0_3 v0_4 v0_5 v0_6 v0_7 v0_8 v0_9 v0_10 v0_11) hN ?_ ?_ ?_ ?_ ?_
 ·exact j.sp 6 [3,4,5,1,0]
 ·rintro hm al _ w ⟨O,rfl,j⟩
  refine RC.sr (ic ((p0_2.length:Int)) ((p0_2.length:Int)) (RL.nq (RC.eZ r5 (RC.ex ?_))))
  exact⟨rfl,j.sp 5 [0,1,2,3,4]⟩
 ·rintro hm af al fl _ w hk ⟨O,rfl,j⟩ o
  refine RC.sr (ic ((af:Int)) ((p0_2.length:Int)) (RL.nq (RC.eY (rZ hk) (RC.ss (RC.bs (mv (vi af) ?_))))))
  obtain⟨ax,a0,o⟩:=bd o
  refine RL.bP 1 j tg a0 fun bo j=>(RL.bF 0 ax j mJ fun bp j=>(RL.alloc j Cx.z fun bq w j=>?_))
  refine aP (vi af) (RL.aY 0 j 1 zr mJ fun w j=>?_)
  refine RL.nq ?_
  obtain⟨aq,hj,o⟩:=bd o
  refine RC.jn (fun(aq:Bool)=>SH E V [(0,vp b0 0),(3,vp ah 0),(4,vp ae 0),(6,vi af),(14,v0_2),(15,vi p0_2.length),(16,vi af),(36,vb aq)] [bc 102 b0 [v0_0,v0_1,v0_2,v0_3,v0_4,v0_5,v0_6,v0_7,v0_8,v0_9,v0_10,v0_11],rd v0_2 p0_2,rd v0_5 p0_5,pt (vp ah 0) p1,raw 140 ae 2]) aq ?_ ?_
  ·refine RC.xq mixed [0,0,0,0,0,0,2,0,0,0,2,2,1,1,2,0] [0,1,2,3,4,5,6,7,8,9,12,13,10,11,14,15] ?_
   have j:=j.drew
   refine DP.e0 zr (RL.aX zr DA (bW zr (RL.aL 0 j zr xt Hg (bW zr (mv (vb ax.kx) (DP.d0 (gu hj (fun ai hj=>?_) fun ai hj=>?_)))))))
   rotate_left
   ·refine DP.e0 zr (bN ai (bW zr (bN ai (bW zr (bN ai (r6 zr (bN ai (yv zr ?_))))))))
    refine gD ai (vb false) (bW zr (mv (vb false) (bW zr (jX (DP.d0 (DP.e1 undef zr (fun w=>jX DP.d1) (DP.e1 undef zr (fun w=>jX DP.d1) (DP.e2 zr ?_))))))))
    refine jX (Hf zr (jX (Hf zr (jX (yv zr (RL.pick false (vb false) zr (DP.d0 (DP.z ?_))))))))
    obtain rfl:=oi hj
    exact⟨rfl,j.sp 8 [3,4,5,6,7]⟩
   refine DP.e0 zr (RL.aV (hg:=(cg ai)) (f:=(fun x=>x)) 0 j zr Fd.self mJ fun a1 j=>(bW zr (RL.eT (hg:=(cg ai)) 7 j zr Bf uk fun br j=>(bW zr (RL.bG (hg:=(cg ai)) p1.eU 0 j cF (r6 zr ?_))))))
   obtain⟨ay,a2,hj⟩:=bd hj
   refine RL.call (cg ai) zr IV [a1,(vi p1.eU)] zr (aC (nZ N (p1:=p1.eU) (i0:=1) j zr a2) ?_)
   rintro _ w ⟨rfl,j⟩
   refine yv zr (gD ai (vb ay) (bW zr (mv (vb ay) (DP.d0 (gu hj (fun ab hj=>?_) fun ab hj=>?_)))))
   rotate_left
   ·refine DP.e0 zr (bN ab (DP.d0 (DP.e1 undef zr (fun w=>bN ab DP.d1) (DP.e1 undef zr (fun w=>bN ab DP.d1) (DP.e2 zr (bN ab (Hf zr (bN ab ?_))))))))
    refine Hf zr (bN ab (yv zr (gD ab (vb false) (DP.d0 (DP.z ?_)))))
    obtain rfl:=oi hj
    exact⟨rfl,j.sp 10 [5,6,7,8,9]⟩
   refine DP.e0 zr (RL.aV (hg:=(cg ab)) (f:=(fun x=>x)) 2 j zr Fd.self mJ fun a3 j=>(DP.d0 (DP.Cr 9 zr (cg ab) j zr Bg um fun bt j=>(DP.yN p1.At 0 zr (cg ab) j zZ fun a4 a105 bu j=>(DP.e2 zr ?_)))))
   obtain⟨a5,a6,hj⟩:=bd hj
   refine RL.call (cg ab) zr E9 [a3] zr (aC (iV N (i0:=3) j zr a6) ?_)
   rintro a7 w j
   refine DP.d2 (⟨zt,j.iu 1⟩) (DP.e2 zr (RL.eX (hg:=(cg ab)) ([a5]: (List aG)) j [a7] jt oe (fun M hs g=>⟨(g.sat 0 _ zr).1,zt⟩) fun a8 w j=>(DP.d2 (⟨zt,j.iu 2⟩) (DP.e2 zr ?_))))
   have j:=j.freeze 0
   obtain⟨a9,ba,hj⟩:=bd hj
   refine RL.call (cg ab) zr Ia [a8,a4] zr (aC (pX N (i0:=0) (i1:=3) j zr zr ba) ?_)
   rintro _ w ⟨rfl,j⟩
   refine DP.d2 (⟨zt,j.iu 2⟩) (DP.e0 zr (gD ab (vb a9) (DP.d0 ?_)))
   have j:=j.pl 16 [0,1,3,4,5,6,7,8,9,10,11,12,13,14,15]
   refine DP.z ?_
   obtain rfl:=oi hj
   exact⟨rfl,j.sp 15 [10,11,12,13,14]⟩
  rintro _ w ⟨O,rfl,j⟩
  refine aJ (dW o (fun hc o=>?_) fun hc o=>?_)
  rotate_left
  ·refine RC.skip (bQ (aJ (RC.region (RL.inc hk hm (mv (vi ((af+1:Nat):Int)) (RL.nil ?_))))))
   obtain rfl:=oi o
   exact⟨rfl,j.sp 5 [0,1,2,3,4]⟩
  refine RC.sr (mv (vi af) ?_)
  have j:=(j.sc Bool true).sc Int (af:Int)
  refine RL.build (⟨true,(af:Int)⟩:lT) trivial rfl j [(0,vb true),(1,vi af)] rfl Gt rfl (fun M hs g=>by have h:=Gg M;exact dB.cons (f:=fun(x:lT) y=>{x with bJ:=y}) h Gf (g.sat 1 _ rfl).1 fun _ h=>dB.cons (f:=fun(x:lT) y=>{x with Number:=y}) h Cv (g.sat 0 _ rfl).1 fun _ h=>dB.nil h) fun bw j=>?_
  refine RL.aY 7 j 0 zr wx fun w j=>?_
  refine aP (vb true) (RL.nt (RC.rb (bL ?_)))
  obtain rfl:=oi o
  exact⟨rfl,kB 7 j wx fun bb j=>⟨bb,zr,j.pk 9 [0,4]⟩⟩
 ·intro r U w e hK
  subst e
  refine bL ?_
  obtain rfl:=oi o
  exact hK
 rintro al _ w rfl ⟨O,rfl,j⟩
 rw [Fo.dQ] at o
 refine aJ (RC.seq (RC.sr (mv (vp b0 0) (RL.nilCheck zr (RL.aX zr uo (RL.cA 0 v0_5 j Fa (RL.bA 2 p0_5 j HC (mv (vi 0) ?_))))))))
 refine RL.nt ?_
 obtain⟨bx,hN,o⟩:=bd o
 refine RC.range (fun(ag:Nat) (an:Unit)=>SH E V [(0,vp b0 0),(3,vp ah 0),(4,vp ae 0),(43,v0_5),(44,vi p0_5.length),(45,vi ag)] [bc 102 b0 [v0_0,v0_1,v0_2,v0_3,v0_4,v0_5,v0_6,v0_7,v0_8,v0_9,v0_10,v0_11],rd v0_2 p0_2,rd v0_5 p0_5,pt (vp ah 0) p1,raw 140 ae 2]) (fun(an:Unit)=>SH E V [(0,vp b0 0),(4,vp ae 0)] [bc 102 b0 [v0_0,v0_1,v0_2,v0_3,v0_4,v0_5,v0_6,v0_7,v0_8,v0_9,v0_10,v0_11],rd v0_2 p0_2,rd v0_5 p0_5,pt (vp ah 0) p1,raw 140 ae 2]) (oS E V b0 v0_0 v0_1 v0_2 v0_3 v0_4 v0_5 v0_6 v0_7 v0_8 v0_9 v0_10 v0_11) hN ?_ ?_ ?_ ?_ ?_
 ·exact j.sp 5 [0,1,2,3,4]
 ·rintro hm an _ w ⟨O,rfl,j⟩
  refine RC.sr (ic ((p0_5.length:Int)) ((p0_5.length:Int)) (RL.nq (RC.eZ r5 (RC.ex ?_))))
  exact⟨rfl,j.sp 5 [0,1,2,3,4]⟩
 ·rintro hm ag an fl _ w hk ⟨O,rfl,j⟩ o
  refine RC.sr (ic ((ag:Int)) ((p0_5.length:Int)) (RL.nq (RC.eY (rZ hk) (RC.ss (RC.bs (mv (vi ag) ?_))))))
  obtain⟨av,bf,o⟩:=bd o
  refine RL.bP 2 j IX bf fun bz j=>(RL.bF 0 av j Eo fun b1 j=>(RL.alloc j Gq.z fun b2 w j=>?_))
  refine aP (vi ag) (RL.aY 0 j 1 zr Eo fun w j=>?_)
  refine RL.nq ?_
  obtain⟨aw,hj,o⟩:=bd o
  refine RC.jn (fun(aw:Bool)=>SH E V [(0,vp b0 0),(3,vp ah 0),(4,vp ae 0),(8,vi ag),(43,v0_5),(44,vi p0_5.length),(45,vi ag),(61,vb aw)] [bc 102 b0 [v0_0,v0_1,v0_2,v0_3,v0_4,v0_5,v0_6,v0_7,v0_8,v0_9,v0_10,v0_11],rd v0_2 p0_2,rd v0_5 p0_5,pt (vp ah 0) p1,raw 140 ae 2]) aw ?_ ?_
  ·refine RC.region (RL.aX zr Ep (RL.aL 0 j zr qA cF (RL.eT 6 j zr Bf uk fun b3 j=>(RL.bG p1.eU 0 j cF (ic av.eU p1.eU (mv (vb (av.eU==p1.eU)) (gu hj (fun ad hj=>?_) fun ad hj=>?_)))))))
   rotate_left
   ·refine bN ad (bN ad (bN ad (bN ad (bN ad (gD ad (vb false) (RL.nil ?_))))))
    obtain rfl:=oi hj
    exact⟨rfl,j.sp 9 [4,5,6,7,8]⟩
   refine RL.aX (hg:=(cg ad)) zr Er (RL.aV (hg:=(cg ad)) 1 j zr qB nL fun bg j=>(RL.eT (hg:=(cg ad)) 8 j zr Bg um fun b4 j=>(RL.bF (hg:=(cg ad)) 0 p1.At j zZ fun bh j=>?_)))
   obtain⟨bj,bk,hj⟩:=bd hj
   refine RL.call (cg ad) zr Ia [bg,bh] zr (aC (pX N (i0:=2) (i1:=0) j zr zr bk) ?_)
   rintro _ w ⟨rfl,j⟩
   refine gD ad (vb bj) (RL.nil ?_)
   obtain rfl:=oi hj
   exact⟨rfl,j.sp 12 [7,8,9,10,11]⟩
  rintro _ w ⟨O,rfl,j⟩
  refine aJ (dW o (fun hc o=>?_) fun hc o=>?_)
  rotate_left
  ·refine RC.skip (bQ (aJ (RC.region (RL.inc hk hm (mv (vi ((ag+1:Nat):Int)) (RL.nil ?_))))))
   obtain rfl:=oi o
   exact⟨rfl,j.sp 5 [0,1,2,3,4]⟩
  refine RC.sr (mv (vi ag) ?_)
  have j:=j.sc Int (ag:Int)
  refine RL.build (⟨false,(ag:Int)⟩:lT) trivial rfl j [(1,vi ag)] rfl Gt rfl (fun M hs g=>by have h:=Gg M;exact dB.cons (f:=fun(x:lT) y=>{x with Number:=y}) h Cv (g.sat 0 _ rfl).1 fun _ h=>dB.nil h) fun b5 j=>?_
  refine RL.aY 6 j 0 zr wx fun w j=>?_
  refine aP (vb true) (RL.nt (RC.rb (bL ?_)))
  obtain rfl:=oi o
  exact⟨rfl,kB 6 j wx fun bl j=>⟨bl,zr,j.pk 8 [0,3]⟩⟩
 ·intro r U w e hK
  subst e
  refine bL ?_
  obtain rfl:=oi o
  exact hK
 rintro an _ w rfl ⟨O,rfl,j⟩
 rw [Fo.dQ] at o
 refine aJ (RC.sr (RL.build (⟨false,0⟩:lT) trivial rfl j [] rfl Gt rfl (fun M hs g=>by have h:=Gg M;exact dB.nil h) fun b6 j=>?_))
 refine RL.aY 5 j 0 zr wx fun w j=>?_
 refine aP (vb false) (RL.nt (RC.ret ?_))
 obtain rfl:=oi o
 exact kB 5 j wx fun bm j=>⟨bm,zr,j.pk 7 [0,2]⟩
def qq (E:World) (V:List HP) (b0:Nat) (v0_0 v0_1:Value) (v0_2 v0_3:Value) (v0_4 v0_5:Value) (v0_6 v0_7:Value) (v0_8 v0_9:Value) (v0_10 v0_11:Value) (res:Int) (v:Value) (w:World):Prop:=v= (vi res)/\Holds E w ([bc 102 b0 [v0_0,v0_1,v0_2,v0_3,v0_4,v0_5,v0_6,v0_7,v0_8,v0_9,v0_10,v0_11]]++V)
theorem pY {p0_8: (List Int)} {p0_9: (List Int)} {p1:lT} (j:Holds E w (bc 102 b0 [v0_0,v0_1,v0_2,v0_3,v0_4,v0_5,v0_6,v0_7,v0_8,v0_9,v0_10,v0_11]::rd v0_8 p0_8::rd v0_9 p0_9::V)) (h1:V[i1]? =some (rd v1 p1)) (o:gX N p0_8 p0_9 p1=some res):
    Calls bD 106 [(vp b0 0),v1].toArray w (gm (qq E V b0 v0_0 v0_1 v0_2 v0_3 v0_4 v0_5 v0_6 v0_7 v0_8 v0_9 v0_10 v0_11 res)):=by
 unfold gX at o
 refine enter Tryz.func106 zr zr ?_
 have j:=j.dup (i1+3) h1
 refine RC.sr (RL.dA 0 v1 j zr fun ag w j=>?_)
 refine aP (vi 0) (RL.nq (RC.sr (RL.aX zr HD (RL.aL 0 j zr Ge Hg (RL.nt (dW o (fun hc o=>?_) fun hc o=>?_))))))
 ·refine RC.seq (RC.yk mixed ?_)
  have j:=j.drew
  refine RO.go (mv (vp b0 0) (RO.nx (RL.nilCheck zr (RO.nx (RL.aX zr yx (RO.nx (RL.cA 2 v0_9 j iq (RO.nx ?_))))))))
  refine RL.aX zr Es (RO.nx (RL.aL 0 j zr Cu cF (RO.nx ?_)))
  obtain⟨aa,ae,o⟩:=bd o
  refine RL.bP 4 j fG ae fun ah j=>(RO.nx (RL.bG aa 0 j cF (RO.nx (aP (vi aa) (RO.last (aJ (RC.rt ?_)))))))
  obtain rfl:=oi o
  exact bM ⟨rfl,j.pk 6 [3]⟩
 refine RC.ss (RC.yk mixed ?_)
 have j:=j.drew
 refine RO.go (mv (vp b0 0) (RO.nx (RL.nilCheck zr (RO.nx (RL.aX zr Bi (RO.nx (RL.cA 2 v0_8 j iq (RO.nx ?_))))))))
 refine RL.aX zr Es (RO.nx (RL.aL 0 j zr Cu cF (RO.nx ?_)))
 obtain⟨ab,af,o⟩:=bd o
 refine RL.bP 3 j fG af fun ai j=>(RO.nx (RL.bG ab 0 j cF (RO.nx (aP (vi ab) (RO.last (aJ (RC.ret ?_)))))))
 obtain rfl:=oi o
 exact bM ⟨rfl,j.pk 6 [3]⟩
end Go.Gk
