/-
  Printed texts: Go functions as plain functions, and that they are. No statement of the seed is proved here.
-/
import Derived.Test.YtjocleflknekmaaGreatDoorG1
import Derived.Test.YtjocleflknekmaaGreatDoorG2
import Derived.Test.YtjocleflknekmaaGreatDoorA2
set_option linter.unusedVariables false
set_option linter.unusedSimpArgs false
set_option linter.unusedSectionVars false
set_option maxRecDepth 100000
set_option maxHeartbeats 40000000
namespace Go.Gk
open Go Go.Proofs
variable (N:Nat) {E w:World} {b0 b1 i0 i1:Nat} {p0 p1 p2 res:Int} {v0 v0_0 v0_1 v0_10 v0_11 v0_2 v0_3 v0_4 v0_5 v0_6 v0_7 v0_8 v0_9 v1 v1_0 v2:Value} {V:List HP}
theorem l6 {p0:bW} {res:Bool} (j:Holds E w V) (h0:V[i0]? =some (rd v0 p0)) (hb:je N p0 p1=some res):
    Calls bH 50 [v0,(vi p1)].toArray w (gI (bB E V res)):=by
 unfold je at hb
 refine enter Tryz.func50 zr zr ?_
 have j:=j.dup (i0+0) h0
 refine RC.sr (RL.cR 0 v0 j zr fun o w j=>?_)
 refine aM (vb false) (RL.ns (RL.bF zr sG (RL.aO 0 j zr mo cP (mv (vi p1) (ic p0.cZ p1 (mv (vb (decide (p0.cZ<=p1))) (RL.gs true (decide (p0.cZ<=p1)) (vi p1) zr zr zr dE (RL.gs true (decide (p0.cZ<=p1)) (vp o 4) zr zr zr (dZ uM) ?_))))))))
 refine RL.gs true (decide (p0.cZ<=p1)) (vi p0.To) rfl rfl rfl (cD 0 rfl j (fun h=>by exact(cY h:cv (true&&((decide (p0.cZ<=p1))==true)) (vp o 4)= (vp o 4))) rfl nG cP) (RL.gs true (decide (p0.cZ<=p1)) (vb (decide (p1<=p0.To))) rfl rfl rfl (eG .leq .i64 p1 p0.To rfl (fun h=>by exact(cY h:cv (true&&((decide (p0.cZ<=p1))==true)) (vi p1)= (vi p1))) (fun h=>by exact(cY h:cv (true&&((decide (p0.cZ<=p1))==true)) (vi p0.To)= (vi p0.To))) rfl) (RL.pick (decide (p0.cZ<=p1)) (vb ((decide (p0.cZ<=p1))&&(decide (p1<=p0.To)))) (iX true) (aM (vb ((decide (p0.cZ<=p1))&&(decide (p1<=p0.To)))) (RL.nt (RC.ret ?_)))))
 obtain rfl:=oi hb
 exact cH ⟨rfl,j.drop 2⟩
def wB (E:World) (V:List HP) (res: (List Int)×Int) (v:Value) (w:World):Prop:=∃u0:Value,v = .tuple #[u0,(vi res.2)]/\Holds E w ([rd u0 res.1]++V)
theorem qc {p0: (List aA)} {res: (List Int)×Int} (j:Holds E w V) (h0:V[i0]? =some (rd v0 p0)) (o:kF N p0 p1 p2=some res):
    Calls bH 97 [v0,(vi p1),(vi p2)].toArray w (gI (wB E V res)):=by
 unfold kF at o
 refine enter Tryz.func97 zr zr ?_
 have j:=j.dup (i0+0) h0
 refine RC.sr (aM (.slice none 0 0) (aM (vi 0) (RL.nq (RC.bs (mv v0 (RL.bK 0 p0 j m7 (ic ((p0.length:Int)) 0 (aM (vb ((p0.length:Int)==0)) ?_))))))))
 refine RL.nt (fy o (fun hc o=>?_) fun hc o=>?_)
 ·refine RC.sr (mv (vi p2) (aM (.slice none 0 0) (aM (vi p2) (RL.nt (RC.rb (cF ?_))))))
  obtain rfl:=oi o
  have j:=j.A2 Int
  exact lM ⟨(.slice none 0 0),zr,j.pk 2 [0]⟩
 refine RC.sr (mv (vi p1) (mv v0 ?_))
 obtain⟨ae,ag,o⟩:=bd o
 refine RL.cG 0 j jK ag fun al j=>(RL.i7 0 j zr nu fL fun an j=>(RL.bJ ae.Y0 0 j cP (ic p1 ae.Y0 (aM (vb (decide (p1<ae.Y0))) (RL.nt (fy o (fun hc o=>?_) fun hc o=>?_))))))
 ·refine RC.seq (RC.vQ mixed ?_)
  have j:=j.drew
  refine RO.go (mv (vi p2) (RO.nx (mv v0 (RO.nx ?_))))
  obtain⟨aa,ah,o⟩:=bd o
  refine RL.cG 2 j jK ah fun ao j=>(RO.nx (RL.i7 0 j zr nu fL fun aq j=>(RO.nx (RL.bJ aa.Y0 0 j cP (RO.nx (RL.min p2 aa.Y0 (RO.nx (aM (.slice none 0 0) ?_))))))))
  refine RO.nx (aM (vi (if aa.Y0<p2 then aa.Y0 else p2)) (RO.last (aG (RC.rb (cF ?_)))))
  obtain rfl:=oi o
  have j:=j.A2 Int
  exact lM ⟨(.slice none 0 0),zr,j.pk 6 [0]⟩
 refine RC.skip (bQ (aG (RC.seq (RC.vQ mixed ?_))))
 have j:=j.drew
 refine RO.go (mv v0 (RO.nx ?_))
 obtain⟨ai,aj,o⟩:=bd o
 refine RL.cG 2 j jK aj fun ar j=>(RO.nx (RL.i7 0 j zr j7 dB fun au j=>(RO.nx (RL.bU 0 ai.Xs j fx fun af j=>(RO.nx (mv (vi p2) (RO.nx (mv v0 ?_))))))))
 refine RO.nx ?_
 obtain⟨ab,ak,o⟩:=bd o
 refine RL.cG 5 j jK ak fun av j=>(RO.nx (RL.i7 0 j zr ln eE fun aw j=>(RO.nx (RL.bJ ab.Y1 0 j cP (RO.nx (RL.min p2 ab.Y1 (RO.nx (aM af ?_))))))))
 refine RO.nx (aM (vi (if ab.Y1<p2 then ab.Y1 else p2)) (RO.last (aG (RC.ret ?_))))
 obtain rfl:=oi o
 exact lM ⟨af,zr,j.pk 8 [2]⟩
theorem xz {p0: (List Int)} {p1: (List Int)} {p2:Bool->Bool->Option Bool} {res: (List Int)} (j:Holds E w V) (h0:V[i0]? =some (rd v0 p0)) (h1:V[i1]? =some (rd v1 p1)) (h2:Gx bH E V v2 p2 (fun(r:Bool)=>Value.bool r)) (hb:nN N p0 p1 p2=some res):
    Calls bH 98 [v0,v1,v2].toArray w (gI (ki E V res)):=by
 unfold nN at hb
 refine enter Tryz.func98 zr zr ?_
 have j:=(j.dup (i0+0) h0).dup (i1+1) h1
 refine RC.sr (aM (.slice none 0 0) (RL.ns (aM (.slice none 0 0) (RL.ns (aM (vb false) (aM (vb false) (aM (vb false) (RL.nq ?_))))))))
 obtain⟨bu,hN,hb⟩:=bd hb
 refine RC.iter (fun(o: (List Int)×(List Int)×(List Int)×Bool×Bool×Bool) U w=>∃a7 a8 a9:Value,SH E V [(0,a7),(1,a8),(2,v2),(7,a9),(8,vb o.2.2.2.1),(9,vb o.2.2.2.2.1),(10,vb o.2.2.2.2.2)] [rd a7 o.1,rd a8 o.2.1,own 3 a9 o.2.2.1] U w) (fun(o: (List Int)×(List Int)×(List Int)×Bool×Bool×Bool) U w=>∃av:Value,SH E V [(7,av)] [own 3 av o.2.2.1] U w) (fun(r:Empty) _ _=>r.elim) hN ?_ ?_ ?_ ?_
 ·have j:=j.cV Int 3
  exact⟨v0,v1,(.slice none 0 0),j.sp 3 [2,1,0]⟩
 ·rintro o fl _ w ⟨ah,ad,ae,O,rfl,j⟩ hb
  refine RC.seq (RC.seq ?_)
  obtain⟨a1,hj,hb⟩:=bd hb
  refine RC.jn (fun(a1:Bool)=>SH E V [(0,ah),(1,ad),(2,v2),(7,ae),(8,vb o.2.2.2.1),(9,vb o.2.2.2.2.1),(10,vb o.2.2.2.2.2),(20,vb a1)] [rd ah o.1,rd ad o.2.1,own 3 ae o.2.2.1]) a1 ?_ ?_
  ·refine RC.region (mv ah (RL.bK 0 o.1 j lZ (ic ((o.1.length:Int)) 0 (mv (vb (decide ((o.1.length:Int)>0))) (gv hj (fun ao hj=>?_) fun ao hj=>?_)))))
   ·refine cA ao (cA ao (cA ao (gw ao (vb true) (RL.nil ?_))))
    obtain rfl:=oi hj
    exact⟨rfl,j.sp 3 [0,1,2]⟩
   refine RL.move ad (cg ao) (RL.bK (hg:=(cg ao)) 1 o.2.1 j lZ (RL.kz (o.2.1.length:Int) 0 (cg ao) (gw ao (vb (decide ((o.2.1.length:Int)>0))) (RL.nil ?_))))
   obtain rfl:=oi hj
   exact⟨rfl,j.sp 3 [0,1,2]⟩
  rintro _ w ⟨O,rfl,j⟩
  refine aG (fy hb (fun hc hb=>?_) fun hc hb=>?_)
  rotate_left
  ·refine RC.ex ?_
   obtain rfl:=oi hb
   exact⟨rfl,ae,j.sp 3 [2]⟩
  refine RC.sn (RC.bs (aM (vi 0) (RL.nq (RC.seq ?_))))
  obtain⟨a2,hj,hb⟩:=bd hb
  refine RC.jn (fun(a2:Bool)=>SH E V [(0,ah),(1,ad),(2,v2),(7,ae),(8,vb o.2.2.2.1),(9,vb o.2.2.2.2.1),(10,vb o.2.2.2.2.2),(37,vb a2)] [rd ah o.1,rd ad o.2.1,own 3 ae o.2.2.1]) a2 ?_ ?_
  ·refine RC.vQ mixed ?_
   have j:=j.drew
   refine RO.go (mv ad (RO.nx (RL.bK 1 o.2.1 j lZ (RO.nx (ic ((o.2.1.length:Int)) 0 (RO.nx (mv (vb ((o.2.1.length:Int)==0)) (gv hj (fun ai hj=>?_) fun ai hj=>?_))))))))
   ·refine RO.nx (cA ai (RO.nx (cA ai (RO.nx (cA ai (RO.nx (cA ai (RO.nx ?_))))))))
    refine sg (RO.nx (sg (RO.nx (sg (RO.nx (sg (RO.nx (sg ?_))))))))
    refine RO.nx (sg (RO.nx (sg (RO.nx (cA ai (RO.nx (gw ai (vb true) (RO.last ?_))))))))
    obtain rfl:=oi hj
    exact⟨rfl,j.sp 3 [0,1,2]⟩
   refine RO.nx (RL.move ah (cg ai) (RO.nx (RL.bK (hg:=(cg ai)) 0 o.1 j lZ (RO.nx (RL.kz (o.1.length:Int) 0 (cg ai) (RO.nx (RL.move (vb (decide ((o.1.length:Int)>0))) (cg ai) (gv hj (fun af hj=>?_) fun af hj=>?_))))))))
   rotate_left
   ·refine RO.nx (cA af (RO.nx (cA af (RO.nx (cA af (RO.nx (cA af (RO.nx ?_))))))))
    refine cA af (RO.nx (cA af (RO.nx (cA af (RO.nx (gw af (vb false) (hg:=(cg ai)) (RO.nx (gw ai (vb false) ?_))))))))
    refine RO.last ?_
    obtain rfl:=oi hj
    exact⟨rfl,j.sp 3 [0,1,2]⟩
   refine RO.nx (RL.move ah (cg af) (RO.nx ?_))
   obtain⟨ax,bj,hj⟩:=bd hj
   refine RL.cG (hg:=(cg af)) 0 j eI bj fun bx j=>(RO.nx (RL.bJ (hg:=(cg af)) ax 0 j cP (RO.nx (RL.move ad (cg af) (RO.nx ?_)))))
   obtain⟨ay,bk,hj⟩:=bd hj
   refine RL.cG (hg:=(cg af)) 2 j eI bk fun bz j=>(RO.nx (RL.bJ (hg:=(cg af)) ay 0 j cP (RO.nx (RL.kz ax ay (cg af) (RO.nx (gw af (vb (decide (ax<=ay))) (hg:=(cg ai)) (RO.nx (gw ai (vb (decide (ax<=ay))) ?_))))))))
   refine RO.last ?_
   obtain rfl:=oi hj
   exact⟨rfl,j.sp 5 [2,3,4]⟩
  rintro _ w ⟨O,rfl,j⟩
  refine aG ?_
  obtain⟨ag,hj,hb⟩:=bd hb
  refine RC.jn (fun(ag:Int)=>SH E V [(0,ah),(1,ad),(2,v2),(7,ae),(8,vb o.2.2.2.1),(9,vb o.2.2.2.2.1),(10,vb o.2.2.2.2.2),(11,vi ag)] [rd ah o.1,rd ad o.2.1,own 3 ae o.2.2.1]) ag ?_ ?_
  ·refine fy hj (fun hc hj=>?_) fun hc hj=>?_
   ·refine RC.region (mv ah ?_)
    obtain⟨ba,bl,hj⟩:=bd hj
    refine RL.cG 0 j eI bl fun b0 j=>(RL.bJ ba 0 j cP (aM (vi ba) (RL.nil ?_)))
    obtain rfl:=oi hj
    exact⟨rfl,j.sp 4 [1,2,3]⟩
   refine RC.region (mv ad ?_)
   obtain⟨bb,bm,hj⟩:=bd hj
   refine RL.cG 1 j eI bm fun b1 j=>(RL.bJ bb 0 j cP (aM (vi bb) (RL.nil ?_)))
   obtain rfl:=oi hj
   exact⟨rfl,j.sp 4 [1,2,3]⟩
  rintro _ w ⟨O,rfl,j⟩
  refine aG (RC.seq (RC.seq ?_))
  obtain⟨a3,hj,hb⟩:=bd hb
  refine RC.jn (fun(a3:Bool)=>SH E V [(0,ah),(1,ad),(2,v2),(7,ae),(8,vb o.2.2.2.1),(9,vb o.2.2.2.2.1),(10,vb o.2.2.2.2.2),(11,vi ag),(53,vb a3)] [rd ah o.1,rd ad o.2.1,own 3 ae o.2.2.1]) a3 ?_ ?_
  ·refine RC.region (mv ah (RL.bK 0 o.1 j lZ (ic ((o.1.length:Int)) 0 (mv (vb (decide ((o.1.length:Int)>0))) (gv hj (fun aj hj=>?_) fun aj hj=>?_)))))
   rotate_left
   ·refine cA aj (cA aj (cA aj (cA aj (cA aj (gw aj (vb false) (RL.nil ?_))))))
    obtain rfl:=oi hj
    exact⟨rfl,j.sp 3 [0,1,2]⟩
   refine RL.move ah (cg aj) ?_
   obtain⟨a4,bn,hj⟩:=bd hj
   refine RL.cG (hg:=(cg aj)) 0 j eI bn fun b2 j=>(RL.bJ (hg:=(cg aj)) a4 0 j cP (RL.move (vi ag) (cg aj) (RL.kz a4 ag (cg aj) (gw aj (vb (a4==ag)) (RL.nil ?_)))))
   obtain rfl:=oi hj
   exact⟨rfl,j.sp 4 [1,2,3]⟩
  rintro _ w ⟨O,rfl,j⟩
  refine aG ?_
  obtain⟨al,hj,hb⟩:=bd hb
  refine RC.jn (fun(al: (List Int)×Bool) U w=>∃an:Value,SH E V [(0,an),(1,ad),(2,v2),(7,ae),(8,vb al.2),(9,vb o.2.2.2.2.1),(10,vb o.2.2.2.2.2),(11,vi ag)] [rd ad o.2.1,own 3 ae o.2.2.1,rd an al.1] U w) al ?_ ?_
  ·refine fy hj (fun hc hj=>?_) fun hc hj=>?_
   rotate_left
   ·refine RC.skip ?_
    obtain rfl:=oi hj
    exact⟨rfl,ah,j.sp 3 [1,2,0]⟩
   refine RC.region (mv ah ?_)
   obtain⟨b3,bo,hj⟩:=bd hj
   refine RL.cut 0 j eI (.inr ⟨rfl,zr⟩) bo fun bc j=>(mv (vb o.2.2.2.1) (RL.not o.2.2.2.1 (aM bc (aM (vb (!o.2.2.2.1)) (RL.nil ?_)))))
   obtain rfl:=oi hj
   exact⟨rfl,bc,j.sp 4 [2,3,0]⟩
  rintro _ w ⟨an,O,rfl,j⟩
  refine aG (RC.seq (RC.seq ?_))
  obtain⟨a5,hj,hb⟩:=bd hb
  refine RC.jn (fun(a5:Bool)=>SH E V [(0,an),(1,ad),(2,v2),(7,ae),(8,vb al.2),(9,vb o.2.2.2.2.1),(10,vb o.2.2.2.2.2),(11,vi ag),(67,vb a5)] [rd an al.1,rd ad o.2.1,own 3 ae o.2.2.1]) a5 ?_ ?_
  ·refine RC.region (mv ad (RL.bK 0 o.2.1 j lZ (ic ((o.2.1.length:Int)) 0 (mv (vb (decide ((o.2.1.length:Int)>0))) (gv hj (fun ak hj=>?_) fun ak hj=>?_)))))
   rotate_left
   ·refine cA ak (cA ak (cA ak (cA ak (cA ak (gw ak (vb false) (RL.nil ?_))))))
    obtain rfl:=oi hj
    exact⟨rfl,j.sp 3 [2,0,1]⟩
   refine RL.move ad (cg ak) ?_
   obtain⟨a6,bp,hj⟩:=bd hj
   refine RL.cG (hg:=(cg ak)) 0 j eI bp fun b4 j=>(RL.bJ (hg:=(cg ak)) a6 0 j cP (RL.move (vi ag) (cg ak) (RL.kz a6 ag (cg ak) (gw ak (vb (a6==ag)) (RL.nil ?_)))))
   obtain rfl:=oi hj
   exact⟨rfl,j.sp 4 [3,1,2]⟩
  rintro _ w ⟨O,rfl,j⟩
  refine aG ?_
  obtain⟨ar,hj,hb⟩:=bd hb
  refine RC.jn (fun(ar: (List Int)×Bool) U w=>∃au:Value,SH E V [(0,an),(1,au),(2,v2),(7,ae),(8,vb al.2),(9,vb ar.2),(10,vb o.2.2.2.2.2),(11,vi ag)] [rd an al.1,own 3 ae o.2.2.1,rd au ar.1] U w) ar ?_ ?_
  ·refine fy hj (fun hc hj=>?_) fun hc hj=>?_
   rotate_left
   ·refine RC.skip ?_
    obtain rfl:=oi hj
    exact⟨rfl,ad,j.sp 3 [0,2,1]⟩
   refine RC.region (mv ad ?_)
   obtain⟨b5,bq,hj⟩:=bd hj
   refine RL.cut 1 j eI (.inr ⟨rfl,zr⟩) bq fun bf j=>(mv (vb o.2.2.2.2.1) (RL.not o.2.2.2.2.1 (aM bf (aM (vb (!o.2.2.2.2.1)) (RL.nil ?_)))))
   obtain rfl:=oi hj
   exact⟨rfl,bf,j.sp 4 [1,3,0]⟩
  rintro _ w ⟨au,O,rfl,j⟩
  refine aG (RC.sr (mv v2 (mv (vb al.2) (mv (vb ar.2) ?_))))
  have j:=(j.sc Bool al.2).sc Bool ar.2
  obtain⟨aw,br,hb⟩:=bd hb
  refine RL.A4 1 0 zt zr j zr h2 5 zr zr zr zr zr br fun w j=>(aM (vb aw) (RL.ns (mv (vb aw) (mv (vb o.2.2.2.2.2) (RL.Ft (a:=aw) (b:=o.2.2.2.2.2) zt zr zr zr Hh (RL.nt ?_))))))
  obtain⟨az,hj,hb⟩:=bd hb
  refine RC.jn (fun(az: (List Int)×Bool) U w=>∃a0:Value,SH E V [(0,an),(1,au),(2,v2),(7,a0),(8,vb al.2),(9,vb ar.2),(10,vb az.2)] [rd an al.1,rd au ar.1,own 3 a0 az.1] U w) az ?_ ?_
  ·refine fy hj (fun hc hj=>?_) fun hc hj=>?_
   rotate_left
   ·refine RC.skip ?_
    obtain rfl:=oi hj
    exact⟨rfl,ae,j.sp 5 [2,4,3]⟩
   refine RC.region (mv ae (mv (vi ag) ?_))
   have j:=j.sc Int ag
   refine RL.eH ([ag]: (List Int)) j [(vi ag)] eI D1 (fun M hs g=>⟨(g.sat 0 _ zr).1,zt⟩) fun b6 w j=>?_
   have j:=j.freeze 0
   obtain⟨b7,bt,hj⟩:=bd hj
   refine RL.app 5 0 j tE bt fun bg w j=>?_
   refine mv (vb aw) (aM bg (aM (vb aw) (RL.nil ?_)))
   obtain rfl:=oi hj
   exact⟨rfl,bg,j.sp 7 [4,6,5]⟩
  rintro _ w ⟨a0,O,rfl,j⟩
  refine bQ ?_
  obtain rfl:=oi hb
  exact⟨rfl,an,au,a0,j.sp 3 [0,1,2]⟩
 ·intro r _ _ _ _
  exact r.elim
 rintro o _ w rfl ⟨av,O,rfl,j⟩
 rw [Fo.fW] at hb
 refine aG (RC.sr (mv av (aM av (RL.nt (RC.ret ?_)))))
 obtain rfl:=oi hb
 exact cH (j.pk 1 [0])
theorem wC {p0: (List aA)} {p1: (List aA)} {p2:Bool->Bool->Option Bool} {res: (List aA)} (j:Holds E w V) (h0:V[i0]? =some (rd v0 p0)) (h1:V[i1]? =some (rd v1 p1)) (h2:Gx bH E V v2 p2 (fun(r:Bool)=>Value.bool r)) (o:mJ N p0 p1 p2=some res):
    Calls bH 79 [v0,v1,v2].toArray w (gI (kI E V res)):=by
 unfold mJ at o
 refine enter Tryz.func79 zr zr ?_
 have j:=(j.dup (i0+0) h0).dup (i1+1) h1
 refine RC.sr (aM (.slice none 0 0) (RL.ns (aM (.slice none 0 0) (RL.nq (RC.sr (mv v0 (RL.bK 1 p0 j m7 (mv v1 ?_))))))))
 refine RL.bK 0 p1 j m7 (RL.jo (p0.length:Int) (p1.length:Int) (ic ((IntKind.wrap .i64 ((p0.length:Int)+ (p1.length:Int)))) 0 (RL.nt (fy o (fun hc o=>?_) fun hc o=>?_))))
 ·refine RC.sr (aM (.slice none 0 0) (RL.nt (RC.rt ?_)))
  obtain rfl:=oi o
  have j:=j.cV aA 137
  exact cH (j.pk 3 [0])
 refine RC.sx (aM (vi 0) (aM (vi 0) (RL.nq (RC.sr (mv v0 (mv v1 (RL.eH ([p0,p1]: (List (List aA))) j [v0,v1] Ea Eb (fun M hs g=>⟨(g.sat 1 _ zr).1,⟨(g.sat 0 _ zr).1,zt⟩⟩) fun ar w j=>(RL.eK 0 ([p0,p1]: (List (List aA))) j HU ?_))))))))
 refine mv (vi 0) (RL.nt ?_)
 obtain⟨ad,hN,o⟩:=bd o
 refine RC.fold (fun(aj:Nat) (ad:Int×Int)=>SH E V [(0,v0),(1,v1),(2,v2),(7,(.slice none 0 0)),(8,vi ad.1),(9,vi ad.2),(25,ar),(26,(vi ((([p0,p1]: (List (List aA))).length:Nat):Int))),(27,vi aj)] [rd v0 p0,rd v1 p1,own 100 ar ([p0,p1]: (List (List aA)))]) (fun(ad:Int×Int)=>SH E V [(0,v0),(1,v1),(2,v2),(7,(.slice none 0 0)),(8,vi ad.1),(9,vi ad.2)] [rd v0 p0,rd v1 p1,own 100 ar ([p0,p1]: (List (List aA)))]) hN ?_ ?_ ?_ ?_
 ·exact j.sp 3 [2,1,0]
 ·rintro hm ad _ w ⟨O,rfl,j⟩
  refine RC.sr (ic (((([p0,p1]: (List (List aA))).length:Nat):Int)) (((([p0,p1]: (List (List aA))).length:Nat):Int)) (RL.nq (RC.cX mT (RC.ex ?_))))
  exact⟨rfl,j.sp 3 [0,1,2]⟩
 ·rintro hm aj ad s' _ w hk ⟨O,rfl,j⟩ o
  refine RC.sr (ic ((aj:Int)) (((([p0,p1]: (List (List aA))).length:Nat):Int)) (RL.nq (RC.cW (mS hk) (RC.ss (RC.bs (mv (vi aj) ?_))))))
  obtain⟨aw,a8,o⟩:=bd o
  refine RL.bL 2 j zr zr Ea a8 (RL.gJ (f:=(fun x=>x)) 2 j (jr 2 j a8 0) (aZ a8).2.1 Fd.self Gg fun ak j=>?_)
  refine aM (vi aj) (aM ak (RL.ns (mv ak (RL.bK 0 aw j m7 (ic ((aw.length:Int)) 0 (RL.nt ?_))))))
  obtain⟨a5,hj,o⟩:=bd o
  refine RC.jn (fun(a5:Int×Int)=>SH E V [(0,v0),(1,v1),(2,v2),(7,(.slice none 0 0)),(8,vi a5.1),(9,vi a5.2),(25,ar),(26,(vi ((([p0,p1]: (List (List aA))).length:Nat):Int))),(27,vi aj)] [rd v0 p0,rd v1 p1,own 100 ar ([p0,p1]: (List (List aA)))]) a5 ?_ ?_
  ·refine fy hj (fun hc hj=>?_) fun hc hj=>?_
   rotate_left
   ·refine RC.skip ?_
    obtain rfl:=oi hj
    exact⟨rfl,j.sp 4 [1,2,3]⟩
   refine RC.seq (RC.seq ?_)
   obtain⟨a9,hjj,hj⟩:=bd hj
   refine RC.jn (fun(a9:Bool)=>SH E V [(0,v0),(1,v1),(2,v2),(7,(.slice none 0 0)),(8,vi ad.1),(9,vi ad.2),(11,ak),(25,ar),(26,(vi ((([p0,p1]: (List (List aA))).length:Nat):Int))),(27,vi aj),(41,vb a9)] [rd v0 p0,rd v1 p1,rd ak aw,own 100 ar ([p0,p1]: (List (List aA)))]) a9 ?_ ?_
   ·refine RC.region (mv (vi aj) (ic ((aj:Int)) 0 (mv (vb ((aj:Int)==0)) (gv hjj (fun au hjj=>?_) fun au hjj=>?_))))
    ·refine cA au (cA au (cA au (gw au (vb true) (RL.nil ?_))))
     obtain rfl:=oi hjj
     exact⟨rfl,j.sp 4 [1,2,0,3]⟩
    refine RL.move v0 (cg au) (RL.bK (hg:=(cg au)) 1 p0 j m7 (RL.kz (p0.length:Int) 0 (cg au) (gw au (vb ((p0.length:Int)==0)) (RL.nil ?_))))
    obtain rfl:=oi hjj
    exact⟨rfl,j.sp 4 [1,2,0,3]⟩
   rintro _ w ⟨O,rfl,j⟩
   refine aG ?_
   obtain⟨al,hjj,hj⟩:=bd hj
   refine RC.jn (fun(al:Int×Int)=>SH E V [(0,v0),(1,v1),(2,v2),(7,(.slice none 0 0)),(8,vi al.1),(9,vi al.2),(11,ak),(25,ar),(26,(vi ((([p0,p1]: (List (List aA))).length:Nat):Int))),(27,vi aj)] [rd v0 p0,rd v1 p1,rd ak aw,own 100 ar ([p0,p1]: (List (List aA)))]) al ?_ ?_
   ·refine fy hjj (fun hc hjj=>?_) fun hc hjj=>?_
    rotate_left
    ·refine RC.skip ?_
     obtain rfl:=oi hjj
     exact⟨rfl,j.sp 4 [0,1,2,3]⟩
    refine RC.vQ mixed ?_
    have j:=j.drew
    refine RO.go (mv ak (RO.nx ?_))
    obtain⟨bj,bw,hjj⟩:=bd hjj
    refine RL.cG 2 j jK bw fun cd j=>(RO.nx (RL.i7 0 j zr nu fL fun cf j=>(RO.nx (RL.bJ bj.Y0 0 j cP (RO.nx (mv ak (RO.nx (mv ak ?_))))))))
    refine RO.nx (RL.bK 4 aw j m7 (RO.nx (RL.jo (aw.length:Int) 1 (RO.nx ?_))))
    obtain⟨bk,bx,hjj⟩:=bd hjj
    refine RL.cG 4 j jK bx fun ch j=>(RO.nx (RL.i7 0 j zr ln eE fun cj j=>(RO.nx (RL.bJ bk.Y1 0 j cP (RO.nx (aM (vi bj.Y0) (RO.nx (aM (vi bk.Y1) ?_))))))))
    refine RO.last ?_
    obtain rfl:=oi hjj
    exact⟨rfl,j.sp 8 [4,5,6,7]⟩
   rintro _ w ⟨O,rfl,j⟩
   refine aG (RC.vQ mixed ?_)
   have j:=j.drew
   refine RO.go (mv (vi al.1) (RO.nx (mv ak (RO.nx ?_))))
   obtain⟨a6,bz,hj⟩:=bd hj
   refine RL.cG 2 j jK bz fun ck j=>(RO.nx (RL.i7 0 j zr nu fL fun cl j=>(RO.nx (RL.bJ a6.Y0 0 j cP (RO.nx (RL.min al.1 a6.Y0 (RO.nx (mv (vi al.2) ?_))))))))
   refine RO.nx (mv ak (RO.nx (mv ak (RO.nx (RL.bK 4 aw j m7 (RO.nx (RL.jo (aw.length:Int) 1 (RO.nx ?_))))))))
   obtain⟨a7,b0,hj⟩:=bd hj
   refine RL.cG 4 j jK b0 fun cm j=>(RO.nx (RL.i7 0 j zr ln eE fun cn j=>(RO.nx (RL.bJ a7.Y1 0 j cP (RO.nx (RL.max al.2 a7.Y1 (RO.nx (aM (vi (if a6.Y0<al.1 then a6.Y0 else al.1)) ?_))))))))
   refine RO.nx (aM (vi (if al.2<a7.Y1 then a7.Y1 else al.2)) (RO.last ?_))
   obtain rfl:=oi hj
   exact⟨rfl,j.sp 8 [4,5,7]⟩
  rintro _ w ⟨O,rfl,j⟩
  refine bQ (aG (RC.region (RL.inc hk hm (mv (vi ((aj+1:Nat):Int)) (RL.nil ?_)))))
  obtain rfl:=oi o
  exact⟨rfl,j.sp 3 [0,1,2]⟩
 rintro _ w ⟨O,rfl,j⟩
 refine aG (RC.seq ?_)
 obtain⟨cp,hN,o⟩:=bd o
 refine RC.iter (fun(aa: (List aA)×(List aA)×(List aA)×Int) U w=>∃bl bm bn:Value,SH E V [(0,bl),(1,bm),(2,v2),(7,bn),(8,vi aa.2.2.2),(9,vi ad.2)] [rd bl aa.1,rd bm aa.2.1,own 137 bn aa.2.2.1] U w) (fun(aa: (List aA)×(List aA)×(List aA)×Int) U w=>∃a2:Value,SH E V [(7,a2)] [own 137 a2 aa.2.2.1] U w) (fun(r:Empty) _ _=>r.elim) hN ?_ ?_ ?_ ?_
 ·have j:=j.cV aA 137
  exact⟨v0,v1,(.slice none 0 0),j.sp 4 [1,2,0]⟩
 ·rintro aa fl _ w ⟨b1,ay,ag,O,rfl,j⟩ o
  refine RC.seq (RC.sr (mv (vi aa.2.2.2) (mv (vi ad.2) (ic aa.2.2.2 ad.2 (RL.nt (fy o (fun hc o=>?_) fun hc o=>?_))))))
  rotate_left
  ·refine RC.ex ?_
   obtain rfl:=oi o
   exact⟨rfl,ag,j.sp 3 [2]⟩
  refine RC.sn (RC.block (RC.seq ?_))
  obtain⟨cq,hN,o⟩:=bd o
  refine RC.iter (fun(an: (List aA)) U w=>∃bp:Value,SH E V [(0,bp),(1,ay),(2,v2),(7,ag),(8,vi aa.2.2.2),(9,vi ad.2)] [rd ay aa.2.1,own 137 ag aa.2.2.1,rd bp an] U w) (fun(an: (List aA)) U w=>∃ao:Value,SH E V [(0,ao),(1,ay),(2,v2),(7,ag),(8,vi aa.2.2.2),(9,vi ad.2)] [rd ay aa.2.1,own 137 ag aa.2.2.1,rd ao an] U w) (fun(r:Empty) _ _=>r.elim) hN ?_ ?_ ?_ ?_
  ·exact⟨b1,j.sp 3 [1,2,0]⟩
  ·rintro an fl _ w ⟨az,O,rfl,j⟩ o
   refine RC.seq (RC.seq ?_)
   obtain⟨ba,hj,o⟩:=bd o
   refine RC.jn (fun(ba:Bool)=>SH E V [(0,az),(1,ay),(2,v2),(7,ag),(8,vi aa.2.2.2),(9,vi ad.2),(82,vb ba)] [rd az an,rd ay aa.2.1,own 137 ag aa.2.2.1]) ba ?_ ?_
   ·refine RC.region (mv az (RL.bK 2 an j m7 (ic ((an.length:Int)) 0 (mv (vb (decide ((an.length:Int)>0))) (gv hj (fun ah hj=>?_) fun ah hj=>?_)))))
    rotate_left
    ·refine cA ah (cA ah (cA ah (cA ah (cA ah (cA ah (gw ah (vb false) (RL.nil ?_)))))))
     obtain rfl:=oi hj
     exact⟨rfl,j.sp 3 [2,0,1]⟩
    refine RL.move az (cg ah) ?_
    obtain⟨bb,b2,hj⟩:=bd hj
    refine RL.cG (hg:=(cg ah)) 2 j jK b2 fun cr j=>(RL.i7 (hg:=(cg ah)) 0 j zr ln eE fun ct j=>(RL.bJ (hg:=(cg ah)) bb.Y1 0 j cP (RL.move (vi aa.2.2.2) (cg ah) (RL.kz bb.Y1 aa.2.2.2 (cg ah) (gw ah (vb (decide (bb.Y1<=aa.2.2.2))) (RL.nil ?_))))))
    obtain rfl:=oi hj
    exact⟨rfl,j.sp 5 [4,2,3]⟩
   rintro _ w ⟨O,rfl,j⟩
   refine aG (fy o (fun hc o=>?_) fun hc o=>?_)
   rotate_left
   ·refine RC.ex ?_
    obtain rfl:=oi o
    exact⟨rfl,az,j.sp 3 [1,2,0]⟩
   refine RC.sn (RC.block (RC.region (mv az ?_)))
   obtain⟨cu,b3,o⟩:=bd o
   refine RL.cut 0 j jK (.inr ⟨rfl,zr⟩) b3 fun bq j=>(aM bq (RL.nil (bQ ?_)))
   obtain rfl:=oi o
   exact⟨rfl,bq,j.sp 4 [2,3,0]⟩
  ·intro r _ _ _ _
   exact r.elim
  rintro an _ w rfl ⟨ao,O,rfl,j⟩
  rw [Fo.fW] at o
  refine aG (RC.seq ?_)
  obtain⟨cv,hN,o⟩:=bd o
  refine RC.iter (fun(av: (List aA)) U w=>∃br:Value,SH E V [(0,ao),(1,br),(2,v2),(7,ag),(8,vi aa.2.2.2),(9,vi ad.2)] [rd ao an,own 137 ag aa.2.2.1,rd br av] U w) (fun(av: (List aA)) U w=>∃a0:Value,SH E V [(0,ao),(1,a0),(2,v2),(7,ag),(8,vi aa.2.2.2),(9,vi ad.2)] [rd ao an,own 137 ag aa.2.2.1,rd a0 av] U w) (fun(r:Empty) _ _=>r.elim) hN ?_ ?_ ?_ ?_
  ·exact⟨ay,j.sp 3 [2,1,0]⟩
  ·rintro av fl _ w ⟨a1,O,rfl,j⟩ o
   refine RC.seq (RC.seq ?_)
   obtain⟨bc,hj,o⟩:=bd o
   refine RC.jn (fun(bc:Bool)=>SH E V [(0,ao),(1,a1),(2,v2),(7,ag),(8,vi aa.2.2.2),(9,vi ad.2),(95,vb bc)] [rd ao an,rd a1 av,own 137 ag aa.2.2.1]) bc ?_ ?_
   ·refine RC.region (mv a1 (RL.bK 2 av j m7 (ic ((av.length:Int)) 0 (mv (vb (decide ((av.length:Int)>0))) (gv hj (fun ai hj=>?_) fun ai hj=>?_)))))
    rotate_left
    ·refine cA ai (cA ai (cA ai (cA ai (cA ai (cA ai (gw ai (vb false) (RL.nil ?_)))))))
     obtain rfl:=oi hj
     exact⟨rfl,j.sp 3 [0,2,1]⟩
    refine RL.move a1 (cg ai) ?_
    obtain⟨bf,b4,hj⟩:=bd hj
    refine RL.cG (hg:=(cg ai)) 2 j jK b4 fun cw j=>(RL.i7 (hg:=(cg ai)) 0 j zr ln eE fun cx j=>(RL.bJ (hg:=(cg ai)) bf.Y1 0 j cP (RL.move (vi aa.2.2.2) (cg ai) (RL.kz bf.Y1 aa.2.2.2 (cg ai) (gw ai (vb (decide (bf.Y1<=aa.2.2.2))) (RL.nil ?_))))))
    obtain rfl:=oi hj
    exact⟨rfl,j.sp 5 [2,4,3]⟩
   rintro _ w ⟨O,rfl,j⟩
   refine aG (fy o (fun hc o=>?_) fun hc o=>?_)
   rotate_left
   ·refine RC.ex ?_
    obtain rfl:=oi o
    exact⟨rfl,a1,j.sp 3 [0,2,1]⟩
   refine RC.sn (RC.block (RC.region (mv a1 ?_)))
   obtain⟨cy,b5,o⟩:=bd o
   refine RL.cut 1 j jK (.inr ⟨rfl,zr⟩) b5 fun bt j=>(aM bt (RL.nil (bQ ?_)))
   obtain rfl:=oi o
   exact⟨rfl,bt,j.sp 4 [1,3,0]⟩
  ·intro r _ _ _ _
   exact r.elim
  rintro av _ w rfl ⟨a0,O,rfl,j⟩
  rw [Fo.fW] at o
  refine aG (RC.sr (mv ao (mv (vi aa.2.2.2) (mv (vi ad.2) ?_))))
  obtain⟨ae,b6,o⟩:=bd o
  refine RL.call zt zr HV [ao,(vi aa.2.2.2),(vi ad.2)] zr (aF (qc N (p1:=aa.2.2.2) (p2:=ad.2) (i0:=0) j zr b6) ?_)
  rintro _ w ⟨a3,rfl,j⟩
  refine mv (.tuple #[a3,(vi ae.2)]) (RL.extract a3 (RL.extract (vi ae.2) (aM a3 (aM (vi ae.2) (RL.ns (mv a0 (mv (vi aa.2.2.2) (mv (vi ad.2) ?_))))))))
  obtain⟨af,b7,o⟩:=bd o
  refine RL.call zt zr HV [a0,(vi aa.2.2.2),(vi ad.2)] zr (aF (qc N (p1:=aa.2.2.2) (p2:=ad.2) (i0:=3) j zr b7) ?_)
  rintro _ w ⟨a4,rfl,j⟩
  refine mv (.tuple #[a4,(vi af.2)]) (RL.extract a4 (RL.extract (vi af.2) (aM a4 (aM (vi af.2) (RL.ns (mv (vi ae.2) (mv (vi af.2) (RL.min ae.2 af.2 ?_))))))))
  refine aM (vi (if af.2<ae.2 then af.2 else ae.2)) (RL.ns (mv ag (mv (vi aa.2.2.2) (mv (vi (if af.2<ae.2 then af.2 else ae.2)) (mv a3 (mv a4 (mv v2 ?_)))))))
  obtain⟨b8,b9,o⟩:=bd o
  refine RL.call zt zr JB [a3,a4,v2] zr (aF (xz N (i0:=1) (i1:=0) j zr zr (h2.lift 5 zr) b9) ?_)
  rintro ca w j
  have j:=((j.sc Int aa.2.2.2).sc Int (if af.2<ae.2 then af.2 else ae.2)).freeze 2
  refine RL.build (⟨aa.2.2.2,(if af.2<ae.2 then af.2 else ae.2),b8⟩:aA) trivial rfl j [(0,vi aa.2.2.2),(1,(vi (if af.2<ae.2 then af.2 else ae.2))),(2,ca)] rfl Ge rfl (fun M hs g=>by have h:=tC M;exact dO.cons (f:=fun(x:aA) y=>{x with Y0:=y}) h p7 (g.sat 1 _ rfl).1 fun _ h=>dO.cons (f:=fun(x:aA) y=>{x with Y1:=y}) h mY (g.sat 0 _ rfl).1 fun _ h=>dO.cons (f:=fun(x:aA) y=>{x with Xs:=y}) h p8 (g.sat 2 _ rfl).1 fun _ h=>dO.nil h) fun cb j=>?_
  have j:=j.pull 7
  obtain⟨cz,cc,o⟩:=bd o
  refine RL.call zt zr HF [ag,cb] zr (aF (oE N (i1:=0) j zr cc) ?_)
  rintro bu w j
  refine aM bu (RL.nt (RC.region (mv (vi (if af.2<ae.2 then af.2 else ae.2)) (aM (vi (if af.2<ae.2 then af.2 else ae.2)) (RL.nil (bQ ?_))))))
  obtain rfl:=oi o
  exact⟨rfl,ao,a0,bu,j.sp 10 [7,9,0]⟩
 ·intro r _ _ _ _
  exact r.elim
 rintro aa _ w rfl ⟨a2,O,rfl,j⟩
 rw [Fo.fW] at o
 refine aG (RC.sr (mv a2 (aM a2 (RL.nt (RC.ret ?_)))))
 obtain rfl:=oi o
 exact cH (j.pk 1 [0])
theorem qR {p0 p1 res:Bool} (o:Holds E w V) (j:lR N p0 p1=some res):
    Calls bH 80 [(vb p0),(vb p1)].toArray w (gI (bB E V res)):=by
 unfold lR at j
 refine enter Tryz.func80 rfl rfl (RC.sr (aM (vb false) (RL.ns (mv (vb p0) (mv (vb p0) (RL.gs true p0 (vb p1) rfl rfl rfl dE (RL.gs true p0 (vb (!p1)) rfl rfl rfl (yn p1 rfl (fun h=>by exact(cY h:cv (true&&(p0==true)) (vb p1)= (vb p1)))) (RL.pick p0 (vb (p0&&(!p1))) (iX true) ?_))))))))
 refine aM (vb (p0&&(!p1))) (RL.nt (RC.ret ?_))
 obtain rfl:=oi j
 exact cH ⟨rfl,o.drop 0⟩
theorem tO {p0: (List aA)} {p1: (List aA)} {res: (List aA)} (o:Holds E w V) (h0:V[i0]? =some (rd v0 p0)) (h1:V[i1]? =some (rd v1 p1)) (hb:jf N p0 p1=some res):
    Calls bH 51 [v0,v1].toArray w (gI (kI E V res)):=by
 unfold jf at hb
 refine enter Tryz.func51 zr zr ?_
 have o:=(o.dup (i0+0) h0).dup (i1+1) h1
 refine RC.sr (aM (.slice none 0 0) (RL.ns (mv v0 (mv v1 ?_))))
 obtain⟨af,ab,hb⟩:=bd hb
 refine RL.call trivial rfl JD [v0,v1,(.func (.func 80) #[] #[])] rfl (aF (wC N (i0:=1) (i1:=0) o rfl rfl ⟨80,[],rfl,JC,fun w Γl v v' y0 y1 r i j o hi hj hr=>by obtain rfl:=o.zq (γ:=Bool) hi;obtain rfl:=o.zq (γ:=Bool) hj;exact aF (qR N (p0:=y0) (p1:=y1) o hr) fun _ _ h=>h⟩ ab) ?_)
 rintro ae w o
 refine aM ae (RL.nt (RC.ret ?_))
 obtain rfl:=oi hb
 exact cH (o.pk 3 [0])
theorem tP {p0: (List aA)} (j:Holds E w V) (h0:V[i0]? =some (rd v0 p0)) (hb:kh N p0=some res):
    Calls bH 52 [v0].toArray w (gI (aT E V res)):=by
 unfold kh at hb
 refine enter Tryz.func52 zr zr ?_
 have j:=j.dup (i0+0) h0
 refine RC.sr (aM (vi 0) (RL.ns (aM (vi 0) (RL.nq (RC.sr (mv v0 (RL.bK 0 p0 j m7 (mv (vi 0) ?_))))))))
 refine RL.nt ?_
 obtain⟨o,hN,hb⟩:=bd hb
 refine RC.fold (fun(ad:Nat) (o:Int)=>SH E V [(3,vi o),(6,v0),(7,vi p0.length),(8,vi ad)] [rd v0 p0]) (fun(o:Int)=>SH E V [(3,vi o)] [rd v0 p0]) hN ?_ ?_ ?_ ?_
 ·exact j.sp 1 [0]
 ·rintro hm o _ w ⟨O,rfl,j⟩
  refine RC.sr (ic ((p0.length:Int)) ((p0.length:Int)) (RL.nq (RC.cX mT (RC.ex ?_))))
  exact⟨rfl,j.sp 1 [0]⟩
 ·rintro hm ad o s' _ w hk ⟨O,rfl,j⟩ hb
  refine RC.sr (ic ((ad:Int)) ((p0.length:Int)) (RL.nq (RC.cW (mS hk) (RC.ss (RC.bs ?_)))))
  obtain⟨ab,ah,hb⟩:=bd hb
  refine RL.cG 0 j jK ah fun ai j=>(RL.bU 0 ab j tF fun aj j=>(RL.alloc j Aa.z fun ak w j=>?_))
  refine RL.bC 0 j 1 zr tF fun w j=>?_
  refine RL.nt (RC.region (mv (vi o) (RL.bF zr j7 (RL.aR 0 j zr dB fx fun al j=>(RL.bK 0 ab.Xs j lZ (RL.quo (ab.Xs.length:Int) 2 zr zr zr zr (RL.jo o (IntKind.wrap .i64 (Int.tdiv (ab.Xs.length:Int) 2)) (aM (vi (IntKind.wrap .i64 (o+ (IntKind.wrap .i64 (Int.tdiv (ab.Xs.length:Int) 2))))) ?_))))))))
  refine RL.nil (bQ (aG (RC.region (RL.inc hk hm (mv (vi ((ad+1:Nat):Int)) (RL.nil ?_))))))
  obtain rfl:=oi hb
  exact⟨rfl,j.sp 5 [4]⟩
 rintro _ w ⟨O,rfl,j⟩
 refine aG (RC.sr (mv (vi o) (aM (vi o) (RL.nt (RC.ret ?_)))))
 obtain rfl:=oi hb
 exact cH ⟨rfl,j.drop 1⟩
def qS (E:World) (V:List HP) (b1:Nat) (res:Int×(List Int)) (v:Value) (w:World):Prop:=∃u1_0:Value,v= (vi res.1)/\Holds E w ([bc 63 b1 [u1_0],own 3 u1_0 res.2]++V)
theorem jX {p1_0: (List Int)} {res:Int×(List Int)} (j:Holds E w (bc 63 b1 [v1_0]::own 3 v1_0 p1_0::V)) (o:eB N p0 p1_0=some res):
    Calls bH 81 [(vi p0),(vp b1 0)].toArray w (gI (qS E V b1 res)):=by
 unfold eB at o
 refine enter Tryz.func81 zr zr (RC.sr (aM (vi 0) (RL.nq ?_)))
 obtain⟨an,hN,o⟩:=bd o
 refine RC.iter (fun(aa:Int×(List Int))=>SH E V [(0,vi aa.1),(1,vp b1 0)] [bc 63 b1 [v1_0],own 3 v1_0 aa.2]) (fun(aa:Int×(List Int))=>SH E V [(0,vi aa.1),(1,vp b1 0)] [bc 63 b1 [v1_0],own 3 v1_0 aa.2]) (fun(r:Empty) _ _=>r.elim) hN ?_ ?_ ?_ ?_
 ·exact j.sp 2 [0,1]
 ·rintro aa fl _ w ⟨O,rfl,j⟩ o
  refine RC.seq (RC.sr (RL.bA 0 v1_0 j fx (mv (vi aa.1) ?_)))
  obtain⟨ai,ab,o⟩:=bd o
  refine RL.bL 1 j zr zr eI ab (RL.dS (f:=(fun x=>x)) 1 j (jr 1 j ab 0) (aZ ab).2.1 Fd.self cP (mv (vi aa.1) (ic ai aa.1 (RL.nt (fy o (fun hc o=>?_) fun hc o=>?_)))))
  rotate_left
  ·refine RC.ex ?_
   obtain rfl:=oi o
   exact⟨rfl,j.sp 2 [0,1]⟩
  refine RC.sn (RC.block (RC.seq (RC.yF mixed [0,0,0,0,0,0,0,0,0,0,2] [0,1,2,3,4,5,6,7,8,9,10] ?_)))
  have j:=j.drew
  refine DP.e0 zr (RL.bA 0 v1_0 j fx (cT zr (mv (vi aa.1) (cT zr (RL.bA 0 v1_0 j fx (cT zr (RL.bA 0 v1_0 j fx (cT zr ?_))))))))
  refine mv (vi aa.1) (cT zr ?_)
  obtain⟨aq,ad,o⟩:=bd o
  refine RL.bL 1 j zr zr eI ad (cT zr (RL.dS (f:=(fun x=>x)) 1 j (jr 1 j ad 0) (aZ ad).2.1 Fd.self cP (cT zr ?_)))
  obtain⟨ak,ae,o⟩:=bd o
  refine RL.bL 1 j zr zr eI ae (cT zr (RL.dS (f:=(fun x=>x)) 1 j (jr 1 j ae 0) (aZ ae).2.1 Fd.self cP (cT zr ?_)))
  obtain⟨ar,af,o⟩:=bd o
  refine RL.bL 1 j zr zr eI af (vF zr ?_)
  have j:=j.sc Int ak
  refine RL.gx (f:=(fun _ y=>y)) 2 0 j (jr 2 j af 0) (aZ af).2.1 zr Fs.self cP fun w j=>?_
  refine DP.d2 zt (DP.z (aG (RC.region (RL.bA 1 v1_0 j fx (mv (vi aa.1) ?_)))))
  obtain⟨al,ag,o⟩:=bd o
  refine RL.bL 2 j zr zr eI ag (RL.dS (f:=(fun x=>x)) 2 j (jr 2 j ag 0) (aZ ag).2.1 Fd.self cP (aM (vi al) (RL.nil (bQ ?_))))
  obtain rfl:=oi o
  exact⟨rfl,j.sp 3 [1,2]⟩
 ·intro r _ _ _ _
  exact r.elim
 rintro aa _ w rfl ⟨O,rfl,j⟩
 rw [Fo.fW] at o
 refine aG (RC.sr (mv (vi aa.1) (aM (vi aa.1) (RL.nt (RC.ret ?_)))))
 obtain rfl:=oi o
 exact cH ⟨v1_0,zr,j.pk 2 [0,1]⟩
def tQ (E:World) (V:List HP) (res: (List (List aA))) (v:Value) (w:World):Prop:=Holds E w ([own 100 v res]++V)
theorem sO {p0: (List aA)} {res: (List (List aA))} (o:Holds E w V) (h0:V[i0]? =some (rd v0 p0)) (hb:jJ N p0=some res):
    Calls bH 53 [v0].toArray w (gI (tQ E V res)):=by
 unfold jJ at hb
 refine enter Tryz.func53 zr zr ?_
 have o:=o.dup (i0+0) h0
 refine RC.sr (aM (.slice none 0 0) (RL.ns (mv v0 ?_)))
 obtain⟨aq,c7,hb⟩:=bd hb
 refine RL.call zt zr GP [v0] zr (aF (ly N (i0:=0) o zr c7) ?_)
 rintro ah w o
 refine aM ah (RL.ns (mv ah (RL.eK 0 aq o qg ?_)))
 obtain⟨bn,c8,hb⟩:=bd hb
 refine RL.mk (aq.length:Int) o tE Hg c8 fun ba w o=>?_
 refine RL.nM o HC fun ag w o=>?_
 refine RL.ir 0 ba o zr zr (jw 1 o) fx fun w o=>?_
 refine RL.nq (RC.sr (RL.bA 0 ba o fx (RL.eK 1 bn o lZ (mv (vi 0) (RL.nt ?_)))))
 obtain⟨bk,hN,hb⟩:=bd hb
 refine RC.fold (fun(a8:Nat) (bk: (List Int))=>SH E V [(0,v0),(3,ah),(4,vp ag 0),(32,vi bn.length),(33,vi a8)] [rd v0 p0,own 56 ah aq,bc 63 ag [ba],own 3 ba bk]) (fun(bk: (List Int))=>SH E V [(0,v0),(3,ah),(4,vp ag 0)] [rd v0 p0,own 56 ah aq,bc 63 ag [ba],own 3 ba bk]) hN ?_ ?_ ?_ ?_
 ·exact o.sp 4 [3,2,0,1]
 ·rintro hm bk _ w ⟨O,rfl,o⟩
  refine RC.sr (ic ((bn.length:Int)) ((bn.length:Int)) (RL.nq (RC.cX mT (RC.ex ?_))))
  exact⟨rfl,o.sp 4 [0,1,2,3]⟩
 ·rintro hm a8 bk s' _ w hk ⟨O,rfl,o⟩ hb
  refine RC.sr (ic ((a8:Int)) ((bn.length:Int)) (RL.nq (RC.cW (mS hk) (RC.ss (RC.bs (mv (vi a8) (aM (vi a8) (RL.nt ?_))))))))
  refine RC.region (RL.bA 2 ba o fx (mv (vi a8) (mv (vi a8) ?_)))
  obtain⟨du,cb,hb⟩:=bd hb
  refine RL.bL 3 o zr zr eI cb ?_
  have o:=o.sc Int (a8:Int)
  refine RL.gx (f:=(fun _ y=>y)) 4 0 o (jr 4 o cb 0) (aZ cb).2.1 zr Fs.self cP fun w o=>?_
  refine RL.nil (bQ (aG (RC.region (RL.inc hk hm (mv (vi ((a8+1:Nat):Int)) (RL.nil ?_))))))
  obtain rfl:=oi hb
  exact⟨rfl,o.sp 5 [1,2,3,4]⟩
 rintro _ w ⟨O,rfl,o⟩
 refine aG (RC.sr (RL.makeFunc [(vp ag 0)] (aM (.func (.func 81) #[] #[(vp ag 0)]) (RL.ns (aM (vi 0) (aM (vi 0) (RL.nq (RC.sr ?_))))))))
 refine mv v0 (RL.bK 0 p0 o m7 (mv (vi 0) (RL.nt ?_)))
 obtain⟨ad,hN,hb⟩:=bd hb
 refine RC.fold (fun(ay:Nat) (ad: (List Int)×Int×Int) U w=>∃ct:Value,SH E V [(0,v0),(3,ah),(4,vp ag 0),(6,(.func (.func 81) #[] #[(vp ag 0)])),(7,vi ad.2.1),(8,vi ad.2.2),(42,v0),(43,vi p0.length),(44,vi ay)] [rd v0 p0,own 56 ah aq,bc 63 ag [ct],own 3 ct ad.1] U w) (fun(ad: (List Int)×Int×Int) U w=>∃br:Value,SH E V [(3,ah),(6,(.func (.func 81) #[] #[(vp ag 0)]))] [rd v0 p0,own 56 ah aq,bc 63 ag [br],own 3 br ad.1] U w) hN ?_ ?_ ?_ ?_
 ·exact⟨ba,o.sp 4 [0,1,2,3]⟩
 ·rintro hm ad _ w ⟨c9,O,rfl,o⟩
  refine RC.sr (ic ((p0.length:Int)) ((p0.length:Int)) (RL.nq (RC.cX mT (RC.ex ?_))))
  exact⟨rfl,c9,o.sp 4 [0,1,2,3]⟩
 ·rintro hm ay ad s' _ w hk ⟨bt,O,rfl,o⟩ hb
  refine RC.sr (ic ((ay:Int)) ((p0.length:Int)) (RL.nq (RC.cW (mS hk) (RC.ss (RC.bs (mv (vi ay) ?_))))))
  obtain⟨an,da,hb⟩:=bd hb
  refine RL.cG 0 o jK da fun dv o=>(RL.bU 0 an o tF fun dw o=>(RL.alloc o Aa.z fun dx w o=>?_))
  refine aM (vi ay) (RL.bC 0 o 1 zr tF fun w o=>?_)
  refine RL.ns (RL.bF zr j7 (RL.aR 0 o zr dB fx fun dy o=>(RL.bK 0 an.Xs o lZ (RL.quo (an.Xs.length:Int) 2 zr zr zr zr (aM (vi (IntKind.wrap .i64 (Int.tdiv (an.Xs.length:Int) 2))) (RL.nq (RC.seq ?_)))))))
  obtain⟨cc,hj,hb⟩:=bd hb
  refine RC.jn (fun(cc:Bool)=>SH E V [(0,v0),(3,ah),(4,vp ag 0),(6,(.func (.func 81) #[] #[(vp ag 0)])),(7,vi ad.2.1),(8,vi ad.2.2),(11,(vi (IntKind.wrap .i64 (Int.tdiv (an.Xs.length:Int) 2)))),(42,v0),(43,vi p0.length),(44,vi ay),(65,vb cc)] [rd v0 p0,own 56 ah aq,bc 63 ag [bt],own 3 bt ad.1]) cc ?_ ?_
  ·refine RC.vQ mixed ?_
   have o:=o.drew
   refine RO.go (mv (vi ay) (RO.nx (ic ((ay:Int)) 0 (RO.nx (mv (vb (decide ((ay:Int)>0))) (gv hj (fun aw hj=>?_) fun aw hj=>?_))))))
   rotate_left
   ·refine RO.nx (cA aw (RO.nx (cA aw (RO.nx (cA aw (RO.nx (cA aw (RO.nx ?_))))))))
    refine cA aw (RO.nx (cA aw (RO.nx (cA aw (RO.nx (cA aw (RO.nx (cA aw ?_))))))))
    refine RO.nx (gw aw (vb false) (RO.last ?_))
    obtain rfl:=oi hj
    exact⟨rfl,o.sp 8 [4,5,6,7]⟩
   refine RO.nx (RL.move v0 (cg aw) (RO.nx (RL.move (vi ay) (cg aw) (RO.nx (RL.jo (hg:=(cg aw)) (ay:Int) 1 (RO.nx ?_))))))
   obtain⟨cd,db,hj⟩:=bd hj
   refine RL.cG (hg:=(cg aw)) 4 o jK db fun dz o=>(RO.nx (RL.i7 (hg:=(cg aw)) 0 o zr ln eE fun d0 o=>(RO.nx (RL.bJ (hg:=(cg aw)) cd.Y1 0 o cP (RO.nx (RL.bF (hg:=(cg aw)) zr nu (RO.nx (RL.aO (hg:=(cg aw)) 3 o zr fL cP ?_))))))))
   refine RO.nx (RL.kz cd.Y1 an.Y0 (cg aw) (RO.nx (gw aw (vb (cd.Y1==an.Y0)) (RO.last ?_))))
   obtain rfl:=oi hj
   exact⟨rfl,o.sp 10 [6,7,8,9]⟩
  rintro _ w ⟨O,rfl,o⟩
  refine aG ?_
  obtain⟨cf,hj,hb⟩:=bd hb
  refine RC.jn (fun(cf: (List Int)) U w=>∃bu:Value,SH E V [(0,v0),(3,ah),(4,vp ag 0),(6,(.func (.func 81) #[] #[(vp ag 0)])),(7,vi ad.2.1),(11,(vi (IntKind.wrap .i64 (Int.tdiv (an.Xs.length:Int) 2)))),(42,v0),(43,vi p0.length),(44,vi ay)] [rd v0 p0,own 56 ah aq,bc 63 ag [bu],own 3 bu cf] U w) cf ?_ ?_
  ·refine fy hj (fun hc hj=>?_) fun hc hj=>?_
   rotate_left
   ·refine RC.skip ?_
    obtain rfl:=oi hj
    exact⟨rfl,bt,o.sp 4 [0,1,2,3]⟩
   refine RC.sr (mv (vi ad.2.2) (mv (vi ad.2.1) (aM (vi ad.2.2) (aM (vi ad.2.1) (RL.nt ?_)))))
   obtain⟨d3,hN,hj⟩:=bd hj
   refine RC.iter (fun(ae: (List Int)×Int×Int) U w=>∃cu:Value,SH E V [(0,v0),(3,ah),(4,vp ag 0),(6,(.func (.func 81) #[] #[(vp ag 0)])),(7,vi ad.2.1),(11,(vi (IntKind.wrap .i64 (Int.tdiv (an.Xs.length:Int) 2)))),(12,vi ae.2.1),(13,vi ae.2.2),(42,v0),(43,vi p0.length),(44,vi ay)] [rd v0 p0,own 56 ah aq,bc 63 ag [cu],own 3 cu ae.1] U w) (fun(ae: (List Int)×Int×Int) U w=>∃bw:Value,SH E V [(0,v0),(3,ah),(4,vp ag 0),(6,(.func (.func 81) #[] #[(vp ag 0)])),(7,vi ad.2.1),(11,(vi (IntKind.wrap .i64 (Int.tdiv (an.Xs.length:Int) 2)))),(42,v0),(43,vi p0.length),(44,vi ay)] [rd v0 p0,own 56 ah aq,bc 63 ag [bw],own 3 bw ae.1] U w) (fun(r:Empty) _ _=>r.elim) hN ?_ ?_ ?_ ?_
   ·exact⟨bt,o.sp 4 [0,1,2,3]⟩
   ·rintro ae fl _ w ⟨bz,O,rfl,o⟩ hb
    refine RC.seq (RC.sr (mv (vi ae.2.1) (mv (vi ad.2.1) (ic ae.2.1 ad.2.1 (mv (vb (decide (ae.2.1<ad.2.1))) (RL.gs true (decide (ae.2.1<ad.2.1)) (vi ae.2.2) zr zr zr dE (RL.gs true (decide (ae.2.1<ad.2.1)) (vi ad.2.1) zr zr zr dE (RL.gs true (decide (ae.2.1<ad.2.1)) (vi (IntKind.wrap .i64 (Int.tdiv (an.Xs.length:Int) 2))) zr zr zr dE ?_))))))))
    refine RL.gs true (decide (ae.2.1<ad.2.1)) (vi (IntKind.wrap .i64 (ad.2.1+ (IntKind.wrap .i64 (Int.tdiv (an.Xs.length:Int) 2))))) rfl rfl rfl (Gv (bop:= .add) (K:= .i64) (a:=ad.2.1) (b:=(IntKind.wrap .i64 (Int.tdiv (an.Xs.length:Int) 2))) rfl (fun h=>by exact(cY h:cv (true&&((decide (ae.2.1<ad.2.1))==true)) (vi ad.2.1)= (vi ad.2.1))) (fun h=>by exact(cY h:cv (true&&((decide (ae.2.1<ad.2.1))==true)) (vi (IntKind.wrap .i64 (Int.tdiv (an.Xs.length:Int) 2)))= (vi (IntKind.wrap .i64 (Int.tdiv (an.Xs.length:Int) 2))))) rfl) (RL.gs true (decide (ae.2.1<ad.2.1)) (vb (decide (ae.2.2< (IntKind.wrap .i64 (ad.2.1+ (IntKind.wrap .i64 (Int.tdiv (an.Xs.length:Int) 2))))))) rfl rfl rfl (eG .lss .i64 ae.2.2 (IntKind.wrap .i64 (ad.2.1+ (IntKind.wrap .i64 (Int.tdiv (an.Xs.length:Int) 2)))) rfl (fun h=>by exact(cY h:cv (true&&((decide (ae.2.1<ad.2.1))==true)) (vi ae.2.2)= (vi ae.2.2))) (fun h=>by exact(cY h:cv (true&&((decide (ae.2.1<ad.2.1))==true)) (vi (IntKind.wrap .i64 (ad.2.1+ (IntKind.wrap .i64 (Int.tdiv (an.Xs.length:Int) 2)))))= (vi (IntKind.wrap .i64 (ad.2.1+ (IntKind.wrap .i64 (Int.tdiv (an.Xs.length:Int) 2))))))) rfl) (RL.pick (decide (ae.2.1<ad.2.1)) (vb ((decide (ae.2.1<ad.2.1))&&(decide (ae.2.2< (IntKind.wrap .i64 (ad.2.1+ (IntKind.wrap .i64 (Int.tdiv (an.Xs.length:Int) 2)))))))) (iX true) (RL.nt (fy hb (fun hc hb=>?_) fun hc hb=>?_))))
    rotate_left
    ·refine RC.ex ?_
     obtain rfl:=oi hb
     exact⟨rfl,bz,o.sp 4 [0,1,2,3]⟩
    refine RC.sn (RC.block (RC.seq (RC.seq ?_)))
    obtain⟨ch,hj,hb⟩:=bd hb
    refine RC.jn (fun(ch:Bool)=>SH E V [(0,v0),(3,ah),(4,vp ag 0),(6,(.func (.func 81) #[] #[(vp ag 0)])),(7,vi ad.2.1),(11,(vi (IntKind.wrap .i64 (Int.tdiv (an.Xs.length:Int) 2)))),(12,vi ae.2.1),(13,vi ae.2.2),(42,v0),(43,vi p0.length),(44,vi ay),(101,vb ch)] [rd v0 p0,own 56 ah aq,bc 63 ag [bz],own 3 bz ae.1]) ch ?_ ?_
    ·refine RC.vQ mixed ?_
     have o:=o.drew
     refine RO.go (mv ah (RO.nx (mv (vi ae.2.1) (RO.nx ?_))))
     obtain⟨cw,b0,hj⟩:=bd hj
     refine RL.bL 1 o zr zr lx b0 (RO.nx (RL.mU (α:=aI) (jr 1 o b0 0) ji (RO.nx (RL.dS 1 o (jr 1 o b0 0) (aZ b0).2.1 fu cP (RO.nx (mv ah (RO.nx (mv (vi ae.2.2) ?_))))))))
     refine RO.nx ?_
     obtain⟨cx,b1,hj⟩:=bd hj
     refine RL.bL 1 o zr zr lx b1 (RO.nx (RL.mU (α:=aI) (jr 1 o b1 0) jW (RO.nx (RL.dS 1 o (jr 1 o b1 2) (aZ b1).2.1 fU cP (RO.nx (ic cw.X0 cx.X1 (RO.nx (mv (vb (decide (cw.X0<cx.X1))) ?_))))))))
     refine gv hj (fun ao hj=>?_) fun ao hj=>?_
     rotate_left
     ·refine RO.nx (cA ao (RO.nx (cA ao (RO.nx (cA ao (RO.nx (cA ao (RO.nx ?_))))))))
      refine cA ao (RO.nx (cA ao (RO.nx (cA ao (RO.nx (cA ao (RO.nx (cA ao ?_))))))))
      refine RO.nx (cA ao (RO.nx (cA ao (RO.nx (gw ao (vb false) (RO.last ?_))))))
      obtain rfl:=oi hj
      exact⟨rfl,o.sp 4 [0,1,2,3]⟩
     refine RO.nx (RL.move ah (cg ao) (RO.nx (RL.move (vi ae.2.2) (cg ao) (RO.nx ?_))))
     obtain⟨cy,b2,hj⟩:=bd hj
     refine RL.bL (hg:=(cg ao)) 1 o zr zr lx b2 (RO.nx (RL.mU (hg:=(cg ao)) (α:=aI) (jr 1 o b2 0) ji (RO.nx (RL.dS (hg:=(cg ao)) 1 o (jr 1 o b2 0) (aZ b2).2.1 fu cP (RO.nx (RL.move ah (cg ao) (RO.nx (RL.move (vi ae.2.1) (cg ao) ?_))))))))
     refine RO.nx ?_
     obtain⟨cz,b3,hj⟩:=bd hj
     refine RL.bL (hg:=(cg ao)) 1 o zr zr lx b3 (RO.nx (RL.mU (hg:=(cg ao)) (α:=aI) (jr 1 o b3 0) jW (RO.nx (RL.dS (hg:=(cg ao)) 1 o (jr 1 o b3 2) (aZ b3).2.1 fU cP (RO.nx (RL.kz cy.X0 cz.X1 (cg ao) (RO.nx (gw ao (vb (decide (cy.X0<cz.X1))) ?_))))))))
     refine RO.last ?_
     obtain rfl:=oi hj
     exact⟨rfl,o.sp 4 [0,1,2,3]⟩
    rintro _ w ⟨O,rfl,o⟩
    refine aG ?_
    obtain⟨b4,hj,hb⟩:=bd hb
    refine RC.jn (fun(b4: (List Int)) U w=>∃bl:Value,SH E V [(0,v0),(3,ah),(4,vp ag 0),(6,(.func (.func 81) #[] #[(vp ag 0)])),(7,vi ad.2.1),(11,(vi (IntKind.wrap .i64 (Int.tdiv (an.Xs.length:Int) 2)))),(12,vi ae.2.1),(13,vi ae.2.2),(42,v0),(43,vi p0.length),(44,vi ay)] [rd v0 p0,own 56 ah aq,bc 63 ag [bl],own 3 bl b4] U w) b4 ?_ ?_
    ·refine fy hj (fun hc hj=>?_) fun hc hj=>?_
     rotate_left
     ·refine RC.skip ?_
      obtain rfl:=oi hj
      exact⟨rfl,bz,o.sp 4 [0,1,2,3]⟩
     refine RC.sr (mv (.func (.func 81) #[] #[(vp ag 0)]) (mv (vi ae.2.1) ?_))
     have o:=(o.pull 3).pull 3
     obtain⟨bf,dc,hj⟩:=bd hj
     refine RL.p5 [(vp ag 0)] GS [(vi ae.2.1)] (aF (jX N (p0:=ae.2.1) o dc) ?_)
     rintro _ w ⟨d5,rfl,o⟩
     refine mv (.func (.func 81) #[] #[(vp ag 0)]) (mv (vi ae.2.2) ?_)
     have o:=(o.pull 1).pull 1
     obtain⟨bg,dd,hj⟩:=bd hj
     refine RL.p5 [(vp ag 0)] GS [(vi ae.2.2)] (aF (jX N (p0:=ae.2.2) o dd) ?_)
     rintro _ w ⟨c0,rfl,o⟩
     refine aM (vi bf.1) (aM (vi bg.1) (RL.nt (RC.region (RL.bA 0 c0 o fx (mv (vi bf.1) (mv (vi bg.1) (RL.max bf.1 bg.1 (mv (vi bf.1) ?_))))))))
     refine mv (vi bg.1) (RL.min bf.1 bg.1 ?_)
     obtain⟨d6,cj,hj⟩:=bd hj
     refine RL.bL 1 o zr zr eI cj ?_
     have o:=o.sc Int (if bg.1<bf.1 then bg.1 else bf.1)
     refine RL.gx (f:=(fun _ y=>y)) 2 0 o (jr 2 o cj 0) (aZ cj).2.1 zr Fs.self cP fun w o=>?_
     refine RL.nil ?_
     obtain rfl:=oi hj
     exact⟨rfl,c0,o.sp 9 [5,6,1,2]⟩
    rintro _ w ⟨bl,O,rfl,o⟩
    refine aG (RC.seq (RC.vQ mixed ?_))
    have o:=o.drew
    refine RO.go (mv ah (RO.nx (mv (vi ae.2.1) (RO.nx ?_))))
    obtain⟨de,b5,hb⟩:=bd hb
    refine RL.bL 1 o zr zr lx b5 (RO.nx (RL.mU (α:=aI) (jr 1 o b5 0) jW (RO.nx (RL.dS 1 o (jr 1 o b5 2) (aZ b5).2.1 fU cP (RO.nx (mv ah (RO.nx (mv (vi ae.2.2) ?_))))))))
    refine RO.nx ?_
    obtain⟨df,b6,hb⟩:=bd hb
    refine RL.bL 1 o zr zr lx b6 (RO.nx (RL.mU (α:=aI) (jr 1 o b6 0) jW (RO.nx (RL.dS 1 o (jr 1 o b6 2) (aZ b6).2.1 fU cP (RO.nx (ic de.X1 df.X1 (RO.last (aG ?_))))))))
    obtain⟨b7,hj,hb⟩:=bd hb
    refine RC.jn (fun(b7:Int×Int)=>SH E V [(0,v0),(3,ah),(4,vp ag 0),(6,(.func (.func 81) #[] #[(vp ag 0)])),(7,vi ad.2.1),(11,(vi (IntKind.wrap .i64 (Int.tdiv (an.Xs.length:Int) 2)))),(12,vi b7.1),(13,vi b7.2),(42,v0),(43,vi p0.length),(44,vi ay)] [rd v0 p0,own 56 ah aq,bc 63 ag [bl],own 3 bl b4]) b7 ?_ ?_
    ·refine fy hj (fun hc hj=>?_) fun hc hj=>?_
     ·refine RC.region (mv (vi ae.2.1) (RL.jo ae.2.1 1 (aM (vi (IntKind.wrap .i64 (ae.2.1+1))) (RL.nil ?_))))
      obtain rfl:=oi hj
      exact⟨rfl,o.sp 4 [0,1,2,3]⟩
     refine RC.region (mv (vi ae.2.2) (RL.jo ae.2.2 1 (aM (vi (IntKind.wrap .i64 (ae.2.2+1))) (RL.nil ?_))))
     obtain rfl:=oi hj
     exact⟨rfl,o.sp 4 [0,1,2,3]⟩
    rintro _ w ⟨O,rfl,o⟩
    refine bQ ?_
    obtain rfl:=oi hb
    exact⟨rfl,bl,o.sp 4 [0,1,2,3]⟩
   ·intro r _ _ _ _
    exact r.elim
   rintro ae _ w rfl ⟨bw,O,rfl,o⟩
   rw [Fo.fW] at hj
   obtain rfl:=oi hj
   exact⟨rfl,bw,o.sp 4 [0,1,2,3]⟩
  rintro _ w ⟨bu,O,rfl,o⟩
  refine aG (RC.region (mv (vi ad.2.1) (mv (vi ad.2.1) (mv (vi (IntKind.wrap .i64 (Int.tdiv (an.Xs.length:Int) 2))) (RL.jo ad.2.1 (IntKind.wrap .i64 (Int.tdiv (an.Xs.length:Int) 2)) (aM (vi ad.2.1) (aM (vi (IntKind.wrap .i64 (ad.2.1+ (IntKind.wrap .i64 (Int.tdiv (an.Xs.length:Int) 2))))) (RL.nil ?_))))))))
  refine bQ (aG (RC.region (RL.inc hk hm (mv (vi ((ay+1:Nat):Int)) (RL.nil ?_)))))
  obtain rfl:=oi hb
  exact⟨rfl,bu,o.sp 4 [0,1,2,3]⟩
 rintro _ w ⟨br,O,rfl,o⟩
 refine aG (RC.sr (RL.makeMap (κ:=Int) (ν:=Int) o fun a6 w o=>(aM a6 (RL.ns (aM (.slice none 0 0) (RL.nq (RC.sr (mv ah ?_))))))))
 refine RL.eK 2 aq o qg (mv (vi 0) (RL.nt ?_))
 obtain⟨ak,hN,hb⟩:=bd hb
 refine RC.fold (fun(a5:Nat) (ak: (List Int)×(List (Int×Int))×(List (List aI))) U w=>∃(c1 c2:Value) (us939:List RV),SH E V [(6,(.func (.func 81) #[] #[(vp ag 0)])),(16,a6),(17,c2),(137,ah),(138,vi aq.length),(139,vi a5)] [bc 63 ag [c1],own 3 c1 ak.1,mp a6 ak.2.1,own 56 ah aq,own 23 c2 us939,iH (XS 56 aI) us939 ak.2.2 none] U w) (fun(ak: (List Int)×(List (Int×Int))×(List (List aI))) U w=>∃(ck bh:Value) (us942:List RV),SH E V [(17,bh)] [bc 63 ag [ck],own 3 ck ak.1,mp a6 ak.2.1,own 56 ah aq,own 23 bh us942,iH (XS 56 aI) us942 ak.2.2 none] U w) hN ?_ ?_ ?_ ?_
 ·have o:=(o.yu (XS 56 aI)).cV RV 23
  exact⟨br,(.slice none 0 0),([]:List RV),o.sp 7 [5,6,2,4,0,1]⟩
 ·rintro hm ak _ w ⟨dg,dh,us987,O,rfl,o⟩
  refine RC.sr (ic ((aq.length:Int)) ((aq.length:Int)) (RL.nq (RC.cX mT (RC.ex ?_))))
  exact⟨rfl,dg,dh,us987,o.sp 6 [0,1,2,3,4,5]⟩
 ·rintro hm a5 ak s' _ w hk ⟨d7,cl,us945,O,rfl,o⟩ hb
  refine RC.sr (ic ((a5:Int)) ((aq.length:Int)) (RL.nq (RC.cW (mS hk) (RC.ss (RC.bs (mv (vi a5) ?_))))))
  obtain⟨bb,cm,hb⟩:=bd hb
  refine RL.bL 3 o zr zr lx cm (RL.gJ (f:=(fun x=>x)) 3 o (jr 3 o cm 0) (aZ cm).2.1 Fd.self iC fun d8 o=>?_)
  refine RL.alloc o oq.z fun b8 w o=>?_
  refine aM (vi a5) (RL.bC 0 o 1 zr iC fun w o=>?_)
  refine RL.ns (mv (.func (.func 81) #[] #[(vp ag 0)]) (mv (vi a5) ?_))
  have o:=(o.pull 3).pull 3
  obtain⟨a2,di,hb⟩:=bd hb
  refine RL.p5 [(vp ag 0)] GS [(vi a5)] (aF (jX N (p0:=(a5:Int)) o di) ?_)
  rintro _ w ⟨bo,rfl,o⟩
  refine aM (vi a2.1) (RL.ns (mv a6 (mv (vi a2.1) (RL.nL 6 a2.1 o zr Ac (mv (.tuple #[(vi (cL ak.2.1 a2.1 (0:Int))),(vb (dM ak.2.1 a2.1))]) (RL.extract (vi (cL ak.2.1 a2.1 (0:Int))) (RL.extract (vb (dM ak.2.1 a2.1)) (aM (vi (cL ak.2.1 a2.1 (0:Int))) ?_))))))))
  refine aM (vb (dM ak.2.1 a2.1)) (RL.nq (RC.sr (mv (vb (dM ak.2.1 a2.1)) (RL.not (dM ak.2.1 a2.1) (RL.nt ?_)))))
  obtain⟨af,hj,hb⟩:=bd hb
  refine RC.jn (fun(af: (List (Int×Int))×(List (List aI))×Int) U w=>∃(a1:Value) (us956:List RV),SH E V [(6,(.func (.func 81) #[] #[(vp ag 0)])),(16,a6),(17,a1),(19,vp b8 0),(21,vi af.2.2),(137,ah),(138,vi aq.length),(139,vi a5)] [bc 63 ag [bo],own 3 bo a2.2,mp a6 af.1,bx 56 b8 bb,own 56 ah aq,own 23 a1 us956,iH (XS 56 aI) us956 af.2.1 none] U w) af ?_ ?_
  ·refine fy hj (fun hc hj=>?_) fun hc hj=>?_
   rotate_left
   ·refine RC.skip ?_
    obtain rfl:=oi hj
    exact⟨rfl,cl,us945,o.sp 10 [0,1,6,2,7,8,9]⟩
   refine RC.sr (mv cl (RL.qx 8 9 ak.2.2 zr o zr zr zr z9 (aM (vi ak.2.2.length) (RL.ns (mv a6 (mv (vi a2.1) (mv (vi ak.2.2.length) ?_)))))))
   have o:=o.sc Int (ak.2.2.length:Int)
   refine RL.mapUpdate 7 0 a2.1 o zr zr zr zr zr Ac fun w o=>(RL.nt (RC.region (mv cl ?_)))
   have o:=(o.cV aI 56).B0 (i:=0) rfl
   refine RL.eH ([rv (.slice none 0 0)]:List RV) o [(.slice none 0 0)] CU JG (fun M hs g=>⟨(g.sat 0 _ zr).1,zt⟩) fun d9 w o=>?_
   obtain⟨ea,dj,hj⟩:=bd hj
   have o:=o.freeze 0
   refine RL.zL 12 0 13 2 zt zr o zr zr zr zr zr zr JH dj fun c3 w o=>?_
   refine aM c3 (RL.nil ?_)
   obtain rfl:=oi hj
   exact⟨rfl,c3,(us945++[rv (.slice none 0 0)]),o.sp 14 [4,5,10,6,11,12,13]⟩
  rintro _ w ⟨a1,us956,O,rfl,o⟩
  refine aG ?_
  obtain⟨eb,b9,hb⟩:=bd hb
  obtain⟨bj,dk,hb⟩:=bd hb
  obtain⟨ec,cn,hb⟩:=bd hb
  refine RC.Ba E V mixed [1,1,1,1,0,0,0,0,0,0,0] [6,7,8,10] (fun(x:Value×Value×Value)=>(fun a0 ax al=>[(0,163,a1),(1,164,(vi af.2.2)),(2,165,a1),(3,166,(vi af.2.2)),(4,167,(zg a1 (Int.toNat af.2.2) 1 0)),(5,168,(us956.getD (Int.toNat af.2.2) zh).v),(6,169,a0),(7,170,ax),(8,171,al),(9,172,(zg a1 (Int.toNat af.2.2) 1 0))]) x.1 x.2.1 x.2.2) [(6,(.func (.func 81) #[] #[(vp ag 0)])),(16,a6),(17,a1),(19,vp b8 0),(21,vi af.2.2),(137,ah),(138,vi aq.length),(139,vi a5)] [] (fun(D:Nat->Bool) (x:Value×Value×Value)=>(fun a0 ax al=>[bif D 0 then (rd a0 bb) else aU,bif D 2 then (rd ax ([bb]: (List aI))) else (bif D 1 then (own 56 ax ([bb]: (List aI))) else aU),bif D 3 then aU else (bif D 2 then (own 56 al bj) else aU),bc 63 ag [bo],own 3 bo a2.2,mp a6 af.1,bx 56 b8 bb,own 56 ah aq,bif D 3 then (own 23 a1 (us956.set (Int.toNat af.2.2) (rv al))) else (own 23 a1 us956),bif D 3 then (iH (XS 56 aI) (us956.set (Int.toNat af.2.2) (rv al)) (af.2.1.set (Int.toNat af.2.2) bj) none) else (bif D 2 then (iH (XS 56 aI) us956 af.2.1 (some (Int.toNat af.2.2))) else (iH (XS 56 aI) us956 af.2.1 none))]) x.1 x.2.1 x.2.2) (fun x=>by kernel_rfl) ?_ ⟨fun _=>gA gn,fun _=>gA gn,fun _=>gA gn,fun _=>gA gn,?_,?_,?_,?_,?_,?_,?_,trivial⟩ ?_
  ·have o:=(((o.drew).aU).aU).aU
   exact⟨(undef,undef,undef),dX.none,(zZ zr),zt,o⟩
  ·rintro D U w hD au aj ⟨⟨a0,ax,al⟩,hv,ha,_,o⟩
   obtain⟨O,rfl⟩:=(ac (hv.at 2 rfl (au.1 rfl)) (ac (hv.at 3 rfl (au.2.1 rfl)) az)).dT
   have o:=((o.bM 8 (nh aj hD 10)).bM 9 (nh aj hD 10)).bM 9 (nf (fun h=>ft hD ((aj 5 _ rfl ((aj 8 _ rfl h).1 rfl)).1 rfl)))
   have hl974:=o.gK 9 rfl
   have hr975:=jy zh hl974 b9
   refine RL.bL 8 o zr zr CU hr975 ?_
   have o:=(o.fw 8 (D 10) (nh aj hD 10) (own 23 a1 (us956.set (Int.toNat af.2.2) (rv al)))).fw 9 (D 8) (nf (fun h=>ft hD ((aj 5 _ rfl ((aj 8 _ rfl h).1 rfl)).1 rfl))) (iH (XS 56 aI) us956 af.2.1 (some (Int.toNat af.2.2)))
   have o:=o.fw 9 (D 10) (nh aj hD 10) (iH (XS 56 aI) (us956.set (Int.toNat af.2.2) (rv al)) (af.2.1.set (Int.toNat af.2.2) bj) none)
   exact RL.nil ⟨rfl,(a0,ax,al),hv.pu 4,ha.u,zt,o⟩
  ·rintro D U w hD au aj ⟨⟨a0,ax,al⟩,hv,ha,_,o⟩
   obtain⟨O,rfl⟩:=(ac (hv.at 4 rfl (au.1 rfl)) az).dT
   have o:=((o.bM 8 (nh aj hD 10)).bM 9 (nh aj hD 10)).bM 9 (nh aj hD 8)
   have hl976:=o.gK 9 rfl
   have hr977:=jy zh hl976 b9
   refine RL.uC 8 9 af.2.2 (xV 56 aI) zh zr o zr (jr 8 o hr977 0) zr zr b9 yH ?_
   have o:=(o.fw 8 (D 10) (nh aj hD 10) (own 23 a1 (us956.set (Int.toNat af.2.2) (rv al)))).fw 9 (D 8) (nh aj hD 8) (iH (XS 56 aI) us956 af.2.1 (some (Int.toNat af.2.2)))
   have o:=o.fw 9 (D 10) (nh aj hD 10) (iH (XS 56 aI) (us956.set (Int.toNat af.2.2) (rv al)) (af.2.1.set (Int.toNat af.2.2) bj) none)
   exact RL.nil ⟨rfl,(a0,ax,al),hv.pu 5,ha.u,zt,o⟩
  ·rintro D U w hD au aj ⟨⟨a0,ax,al⟩,hv,ha,_,o⟩
   obtain⟨O,rfl⟩:=(ac (ha.at 3 rfl) az).dT
   have o:=o.bM 0 hD
   refine RL.aR (f:=(fun x=>x)) 6 o zr Fd.self iC fun dm o=>?_
   have o:=(o.pl 11 [0,2,3,4,5,6,7,8,9,10]).bS 0 true rfl aU
   exact RL.nil ⟨rfl,(dm,ax,al),hv.pu 6,ha.u,zt,o⟩
  ·rintro D U w hD au aj ⟨⟨a0,ax,al⟩,hv,ha,_,o⟩
   obtain⟨O,rfl⟩:=(ac (hv.at 6 rfl (au.1 rfl)) az).dT
   have o:=((o.bR 0 (au.1 rfl)).bM 1 (nh aj hD 8)).bM 1 hD
   refine RL.eH ([bb]: (List aI)) o [a0] lx oq (fun M hs g=>⟨(g.sat 0 _ zr).1,zt⟩) fun c4 w o=>?_
   have o:=(((o.pl 11 [1,0,3,4,5,6,7,8,9,10]).bS 0 (D 6) (au.1 rfl) aU).bS 1 true rfl aU).fw 1 (D 8) (nh aj hD 8) (rd c4 ([bb]: (List aI)))
   exact RL.nil ⟨rfl,(a0,c4,al),hv.pu 7,ha.u,zt,o⟩
  ·rintro D U w hD au aj ⟨⟨a0,ax,al⟩,hv,ha,_,o⟩
   obtain⟨O,rfl⟩:=(ac (hv.at 5 rfl (au.1 rfl)) (ac (hv.at 7 rfl (au.2.1 rfl)) az)).dT
   have o:=(((((((o.bM 1 hD).bR 1 (au.2.1 rfl)).bM 2 (nh aj hD 10)).bM 2 hD).bM 8 (nh aj hD 10)).bM 9 (nh aj hD 10)).bM 9 hD).yv (j:=9) (jj:=af.2.2) (xV 56 aI) zh rfl b9
   have o:=o.freeze 2
   refine RL.app 0 2 o CW dk fun cp w o=>?_
   have o:=((((o.pl 11 [1,2,0,4,5,6,7,8,9,10]).bS 1 true rfl (bif D 7 then (own 56 ax ([bb]: (List aI))) else aU)).bS 2 true rfl aU).fw 2 (D 10) (nh aj hD 10) aU).fw 8 (D 10) (nh aj hD 10) (own 23 a1 (us956.set (Int.toNat af.2.2) (rv cp)))
   have o:=(o.bS 9 true rfl (iH (XS 56 aI) us956 af.2.1 none)).fw 9 (D 10) (nh aj hD 10) (iH (XS 56 aI) (us956.set (Int.toNat af.2.2) (rv cp)) (af.2.1.set (Int.toNat af.2.2) bj) none)
   exact RL.nil ⟨rfl,(a0,ax,cp),hv.pu 8,ha.u,zt,o⟩
  ·rintro D U w hD au aj ⟨⟨a0,ax,al⟩,hv,ha,_,o⟩
   obtain⟨O,rfl⟩:=(ac (hv.at 0 rfl (au.1 rfl)) (ac (hv.at 1 rfl (au.2.1 rfl)) az)).dT
   have o:=((o.bM 8 (nh aj hD 10)).bM 9 (nh aj hD 10)).bR 9 (au.2.2.2.2.2.2.2.2.2.2.1 rfl)
   have hl981:=o.gK 9 rfl
   have hr982:=jy zh hl981 cn
   refine RL.bL 8 o zr zr CU hr982 ?_
   have o:=((o.fw 8 (D 10) (nh aj hD 10) (own 23 a1 (us956.set (Int.toNat af.2.2) (rv al)))).bS 9 (D 8) (au.2.2.2.2.2.2.2.2.2.2.1 rfl) (iH (XS 56 aI) us956 af.2.1 none)).fw 9 (D 10) (nh aj hD 10) (iH (XS 56 aI) (us956.set (Int.toNat af.2.2) (rv al)) (af.2.1.set (Int.toNat af.2.2) bj) none)
   exact RL.nil ⟨rfl,(a0,ax,al),hv.pu 9,ha.u,zt,o⟩
  ·rintro D U w hD au aj ⟨⟨a0,ax,al⟩,hv,ha,_,o⟩
   obtain⟨O,rfl⟩:=(ac (hv.at 8 rfl (au.2.1 rfl)) (ac (hv.at 9 rfl (au.1 rfl)) az)).dT
   have o:=((((o.bM 2 hD).bR 2 (au.2.1 rfl)).bM 8 hD).bM 9 hD).bR 9 (au.2.1 rfl)
   have hl983:=o.gK 9 rfl
   have hr984:=jy zh hl983 cn
   refine RL.sD 8 9 2 af.2.2 (xV 56 aI) zh o zr zr (jr 8 o hr984 0) zr zr zr cn yH fun w o=>?_
   have o:=((o.bS 2 true rfl (bif D 8 then (own 56 al bj) else aU)).bS 8 true rfl (own 23 a1 us956)).bS 9 true rfl (bif D 8 then (iH (XS 56 aI) us956 af.2.1 (some (Int.toNat af.2.2))) else (iH (XS 56 aI) us956 af.2.1 none))
   exact RL.nil ⟨rfl,(a0,ax,al),hv.n1,ha,zt,o⟩
  rintro D U w bp ⟨⟨a0,ax,al⟩,hv,ha,_,o⟩
  have o:=((((o.bR 0 (gR bp 6)).bR 1 (gR bp 8)).bR 2 (gR bp 10)).bR 8 (gR bp 10)).bR 9 (gR bp 10)
  obtain⟨O,rfl⟩:=(ac (ha.at 0 rfl) (ac (ha.at 1 rfl) (ac (ha.at 2 rfl) (ac (ha.at 3 rfl) (ac (ha.at 4 rfl) (ac (ha.at 5 rfl) (ac (ha.at 6 rfl) (ac (ha.at 7 rfl) az)))))))).dT
  refine bQ (aG (RC.region (RL.inc hk hm (mv (vi ((a5+1:Nat):Int)) (RL.nil ?_)))))
  obtain rfl:=oi hb
  exact⟨rfl,bo,a1,(us956.set (Int.toNat af.2.2) (rv al)),o.sp 10 [3,4,5,7,8,9]⟩
 rintro _ w ⟨ck,bh,us942,O,rfl,o⟩
 refine aG (RC.sr (aM (.slice none 0 0) (RL.nq (RC.sr (mv bh (RL.qx 4 5 ak.2.2 zr o zr zr zr z9 (mv (vi 0) (RL.nt ?_))))))))
 have o:=o.yw (X:=(XS 56 aI)) (b:=5) (j:=4) rfl (fun M h u x cs=>(Ga 56) M h u x cs) rfl rfl (by decide)
 obtain⟨bm,hN,hb⟩:=bd hb
 refine RC.fold (fun(ca:Nat) (bm: (List (List aA))) U w=>∃c5:Value,SH E V [(23,c5),(174,bh),(175,vi ak.2.2.length),(176,vi ca)] [own 23 bh ak.2.2,own 100 c5 bm] U w) (fun(bm: (List (List aA))) U w=>∃bq:Value,SH E V [(23,bq)] [own 23 bh ak.2.2,own 100 bq bm] U w) hN ?_ ?_ ?_ ?_
 ·have o:=o.cV (List aA) 100
  exact⟨(.slice none 0 0),o.sp 7 [5,0]⟩
 ·rintro hm bm _ w ⟨dn,O,rfl,o⟩
  refine RC.sr (ic ((ak.2.2.length:Int)) ((ak.2.2.length:Int)) (RL.nq (RC.cX mT (RC.ex ?_))))
  exact⟨rfl,dn,o.sp 2 [0,1]⟩
 ·rintro hm ca bm s' _ w hk ⟨dp,O,rfl,o⟩ hb
  refine RC.sr (ic ((ca:Int)) ((ak.2.2.length:Int)) (RL.nq (RC.cW (mS hk) (RC.ss (RC.bs ?_)))))
  obtain⟨ed,cq,hb⟩:=bd hb
  refine RL.bL 0 o zr zr CU cq (RL.gJ (f:=(fun x=>x)) 0 o (jr 0 o cq 0) (aZ cq).2.1 Fd.self yH fun cr o=>?_)
  refine aM cr (RL.nt (RC.region (mv dp (mv cr ?_))))
  obtain⟨dq,dr,hb⟩:=bd hb
  refine RL.call zt zr D2 [cr] zr (aF (kl N (i0:=0) o zr dr) ?_)
  rintro ds w o
  have o:=o.freeze 0
  refine RL.eH ([dq]: (List (List aA))) o [ds] Ea Eb (fun M hs g=>⟨(g.sat 0 _ zr).1,zt⟩) fun ee w o=>?_
  have o:=o.freeze 0
  obtain⟨ef,dt,hb⟩:=bd hb
  refine RL.app 4 0 o HX dt fun c6 w o=>?_
  refine aM c6 (RL.nil (bQ (aG (RC.region (RL.inc hk hm (mv (vi ((ca+1:Nat):Int)) (RL.nil ?_)))))))
  obtain rfl:=oi hb
  exact⟨rfl,c6,o.sp 5 [3,4]⟩
 rintro _ w ⟨bq,O,rfl,o⟩
 refine aG (RC.sr (mv bq (aM bq (RL.nt (RC.ret ?_)))))
 obtain rfl:=oi hb
 exact cH (o.pk 2 [1])
def qT (E:World) (V:List HP) (b0:Nat) (v0_0 v0_1:Value) (v0_2 v0_3:Value) (v0_6 v0_7:Value) (v0_8 v0_9:Value) (v0_10 v0_11:Value) (res:Bool×(List (List aA))×(List aH)) (v:Value) (w:World):Prop:=∃u0_4 u0_5:Value,v= (vb res.1)/\Holds E w ([bc 79 b0 [v0_0,v0_1,v0_2,v0_3,u0_4,u0_5,v0_6,v0_7,v0_8,v0_9,v0_10,v0_11],own 100 u0_4 res.2.1,own 113 u0_5 res.2.2]++V)
theorem ql {p0_0: (List (List aI))} {p0_2: (List bW)} {p0_4: (List (List aA))} {p0_5: (List aH)} {res:Bool×(List (List aA))×(List aH)} (j:Holds E w (bc 79 b0 [v0_0,v0_1,v0_2,v0_3,v0_4,v0_5,v0_6,v0_7,v0_8,v0_9,v0_10,v0_11]::rd v0_0 p0_0::rd v0_2 p0_2::own 100 v0_4 p0_4::own 113 v0_5 p0_5::V)) (o:iv N p0_0 p0_2 p0_4 p0_5=some res):
    Calls bH 23 [(vp b0 0)].toArray w (gI (qT E V b0 v0_0 v0_1 v0_2 v0_3 v0_6 v0_7 v0_8 v0_9 v0_10 v0_11 res)):=by
 unfold iv at o
 refine enter Tryz.func23 zr zr (RC.sr (aM (vb false) (RL.ns (aM (vb true) (RL.nq (RC.sr (mv (vp b0 0) (RL.nilCheck zr ?_))))))))
 refine RL.bF zr l3 (RL.bF zr uK (RL.bA 0 v0_0 j CT (RL.bK 1 p0_0 j z9 (mv (vi 0) (RL.nt ?_)))))
 obtain⟨aa,hN,o⟩:=bd o
 refine RC.fold (fun(ab:Nat) (aa: (List (List aA))×(List aH)×Bool) U w=>∃bf bg:Value,SH E V [(0,vp b0 0),(3,vb aa.2.2),(16,v0_0),(17,vi p0_0.length),(18,vi ab)] [bc 79 b0 [v0_0,v0_1,v0_2,v0_3,bf,bg,v0_6,v0_7,v0_8,v0_9,v0_10,v0_11],own 100 bf aa.1,own 113 bg aa.2.1,rd v0_0 p0_0,rd v0_2 p0_2] U w) (fun(aa: (List (List aA))×(List aH)×Bool) U w=>∃au al:Value,SH E V [(0,vp b0 0),(3,vb aa.2.2)] [bc 79 b0 [v0_0,v0_1,v0_2,v0_3,au,al,v0_6,v0_7,v0_8,v0_9,v0_10,v0_11],own 100 au aa.1,own 113 al aa.2.1,rd v0_0 p0_0,rd v0_2 p0_2] U w) hN ?_ ?_ ?_ ?_
 ·exact⟨v0_4,v0_5,j.sp 5 [0,3,4,1,2]⟩
 ·rintro hm aa _ w ⟨bq,br,O,rfl,j⟩
  refine RC.sr (ic ((p0_0.length:Int)) ((p0_0.length:Int)) (RL.nq (RC.cX mT (RC.ex ?_))))
  exact⟨rfl,bq,br,j.sp 5 [0,1,2,3,4]⟩
 ·rintro hm ab aa s' _ w hk ⟨af,ag,O,rfl,j⟩ o
  refine RC.sr (ic ((ab:Int)) ((p0_0.length:Int)) (RL.nq (RC.cW (mS hk) (RC.ss (RC.bs (mv (vi ab) ?_))))))
  obtain⟨a2,bt,o⟩:=bd o
  refine RL.cG 3 j CU bt fun cp j=>(RL.bU 0 a2 j yH fun ah j=>(aM (vi ab) (aM ah (RL.ns (aM (.slice none 0 0) (RL.nq (RC.sr (mv (vp b0 0) ?_))))))))
  refine RL.nilCheck zr (RL.bF zr l3 (RL.bF zr mu (RL.bA 2 v0_2 j uL (RL.bK 6 p0_2 j wq (mv (vi 0) (RL.nt ?_))))))
  obtain⟨av,hN,o⟩:=bd o
  refine RC.fold (fun(az:Nat) (av: (List aI)) U w=>∃bh:Value,SH E V [(0,vp b0 0),(3,vb aa.2.2),(4,vi ab),(5,ah),(6,bh),(16,v0_0),(17,vi p0_0.length),(18,vi ab),(27,v0_2),(28,vi p0_2.length),(29,vi az)] [bc 79 b0 [v0_0,v0_1,v0_2,v0_3,af,ag,v0_6,v0_7,v0_8,v0_9,v0_10,v0_11],rd v0_0 p0_0,rd v0_2 p0_2,own 100 af aa.1,own 113 ag aa.2.1,rd ah a2,own 56 bh av] U w) (fun(av: (List aI)) U w=>∃a0:Value,SH E V [(0,vp b0 0),(3,vb aa.2.2),(4,vi ab),(5,ah),(6,a0),(16,v0_0),(17,vi p0_0.length),(18,vi ab)] [bc 79 b0 [v0_0,v0_1,v0_2,v0_3,af,ag,v0_6,v0_7,v0_8,v0_9,v0_10,v0_11],rd v0_0 p0_0,rd v0_2 p0_2,own 100 af aa.1,own 113 ag aa.2.1,rd ah a2,own 56 a0 av] U w) hN ?_ ?_ ?_ ?_
  ·have j:=j.cV aI 56
   exact⟨(.slice none 0 0),j.sp 8 [3,6,7,4,5,1,0]⟩
  ·rintro hm av _ w ⟨bu,O,rfl,j⟩
   refine RC.sr (ic ((p0_2.length:Int)) ((p0_2.length:Int)) (RL.nq (RC.cX mT (RC.ex ?_))))
   exact⟨rfl,bu,j.sp 7 [0,1,2,3,4,5,6]⟩
  ·rintro hm az av s' _ w hk ⟨bj,O,rfl,j⟩ o
   refine RC.sr (ic ((az:Int)) ((p0_2.length:Int)) (RL.nq (RC.cW (mS hk) (RC.ss (RC.bs ?_)))))
   obtain⟨bw,bx,o⟩:=bd o
   refine RL.cG 2 j yI bx fun cq j=>(RL.bU 0 bw j ot fun cr j=>(RL.alloc j CY.z fun ct w j=>?_))
   refine RL.bC 0 j 1 zr ot fun w j=>?_
   refine RL.ns (RL.aR (f:=(fun x=>x)) 0 j zr Fd.self ot fun bz j=>(mv (vi ab) ?_))
   obtain⟨cu,b1,o⟩:=bd o
   refine RL.call zt zr GR [bz,(vi ab)] zr (aF (l6 N (p1:=(ab:Int)) (i0:=0) j zr b1) ?_)
   rintro _ w ⟨rfl,j⟩
   refine RL.nt ?_
   obtain⟨a6,hj,o⟩:=bd o
   refine RC.jn (fun(a6: (List aI)) U w=>∃a3:Value,SH E V [(0,vp b0 0),(3,vb aa.2.2),(4,vi ab),(5,ah),(6,a3),(16,v0_0),(17,vi p0_0.length),(18,vi ab),(27,v0_2),(28,vi p0_2.length),(29,vi az)] [bc 79 b0 [v0_0,v0_1,v0_2,v0_3,af,ag,v0_6,v0_7,v0_8,v0_9,v0_10,v0_11],rd v0_0 p0_0,rd v0_2 p0_2,own 100 af aa.1,own 113 ag aa.2.1,rd ah a2,own 56 a3 a6] U w) a6 ?_ ?_
   ·refine fy hj (fun hc hj=>?_) fun hc hj=>?_
    rotate_left
    ·refine RC.skip ?_
     obtain rfl:=oi hj
     exact⟨rfl,bj,j.sp 11 [4,5,6,7,8,9,10]⟩
    refine RC.region (mv bj (RL.aR (f:=(fun x=>x)) 1 j zr Fd.self ot fun b3 j=>?_))
    obtain⟨b4,b5,hj⟩:=bd hj
    refine RL.call zt zr CZ [b3] zr (aF (gH N (i0:=0) j zr b5) ?_)
    rintro b6 w j
    refine RL.eH ([b4]: (List aI)) j [b6] lx oq (fun M hs g=>⟨(g.sat 0 _ zr).1,zt⟩) fun cv w j=>?_
    have j:=j.freeze 0
    obtain⟨cw,b7,hj⟩:=bd hj
    refine RL.app 13 0 j CW b7 fun bk w j=>?_
    refine aM bk (RL.nil ?_)
    obtain rfl:=oi hj
    exact⟨rfl,bk,j.sp 14 [7,8,9,10,11,12,13]⟩
   rintro _ w ⟨a3,O,rfl,j⟩
   refine bQ (aG (RC.region (RL.inc hk hm (mv (vi ((az+1:Nat):Int)) (RL.nil ?_)))))
   obtain rfl:=oi o
   exact⟨rfl,a3,j.sp 7 [0,1,2,3,4,5,6]⟩
  rintro _ w ⟨a0,O,rfl,j⟩
  refine aG (RC.sr (mv ah ?_))
  obtain⟨cx,b8,o⟩:=bd o
  refine RL.call zt zr D2 [ah] zr (aF (kl N (i0:=5) j zr b8) ?_)
  rintro b9 w j
  refine mv a0 ?_
  have j:=j.freeze 7
  obtain⟨cy,ca,o⟩:=bd o
  refine RL.call zt zr D2 [a0] zr (aF (kl N (i0:=7) j zr ca) ?_)
  rintro cb w j
  have j:=(j.freeze 1).freeze 0
  obtain⟨cz,cc,o⟩:=bd o
  refine RL.call zt zr JE [b9,cb] zr (aF (tO N (i0:=1) (i1:=0) j zr zr cc) ?_)
  rintro a1 w j
  refine aM a1 (RL.nq ?_)
  obtain⟨an,hj,o⟩:=bd o
  refine RC.jn (fun(an:Bool×(List aA)) U w=>∃ao:Value,SH E V [(0,vp b0 0),(3,vb an.1),(4,vi ab),(9,ao),(16,v0_0),(17,vi p0_0.length),(18,vi ab)] [bc 79 b0 [v0_0,v0_1,v0_2,v0_3,af,ag,v0_6,v0_7,v0_8,v0_9,v0_10,v0_11],rd v0_0 p0_0,rd v0_2 p0_2,own 100 af aa.1,own 113 ag aa.2.1,rd ao an.2] U w) an ?_ ?_
  ·refine RC.region (mv (vb aa.2.2) (mv (vb aa.2.2) (gv hj (fun ai hj=>?_) fun ai hj=>?_)))
   rotate_left
   ·refine cA ai (cA ai (cA ai (gw ai (vb false) (aM (vb false) (RL.nil ?_)))))
    obtain rfl:=oi hj
    have j:=j.freeze 0
    exact⟨rfl,a1,j.sp 10 [3,4,5,6,7,0]⟩
   refine RL.move a1 (cg ai) ?_
   have j:=j.freeze 0
   obtain⟨a7,cd,hj⟩:=bd hj
   refine RL.call (cg ai) zr JF [a1] zr (aF (tP N (i0:=0) j zr cd) ?_)
   rintro _ w ⟨rfl,j⟩
   refine RL.kz a7 2000 (cg ai) (gw ai (vb (decide (a7<=2000))) (aM (vb (decide (a7<=2000))) (RL.nil ?_)))
   obtain rfl:=oi hj
   exact⟨rfl,a1,j.sp 10 [3,4,5,6,7,0]⟩
  rintro _ w ⟨ao,O,rfl,j⟩
  refine aG (RC.sr (mv (vp b0 0) (mv (vp b0 0) (RL.nilCheck zr (RL.bF zr Ec (RL.bA 0 af j HW (mv ao (RL.eH ([an.2]: (List (List aA))) j [ao] Ea Eb (fun M hs g=>⟨(g.sat 5 _ zr).1,zt⟩) fun c0 w j=>?_))))))))
  have j:=j.freeze 0
  obtain⟨bl,cf,o⟩:=bd o
  refine RL.app 4 0 j HX cf fun aq w j=>?_
  refine RL.nilCheck zr (RL.bF zr Ec (RL.ir 1 aq j zr zr (jw 4 j) HW fun w j=>?_))
  refine RL.ns (mv ao ?_)
  obtain⟨ar,ch,o⟩:=bd o
  refine RL.call zt zr JI [ao] zr (aF (sO N (i0:=6) j zr ch) ?_)
  rintro a8 w j
  refine RL.eK 0 ar j HU (mv (vi 0) (RL.nt ?_))
  obtain⟨aw,hN,o⟩:=bd o
  refine RC.fold (fun(a4:Nat) (aw: (List aH)) U w=>∃bm:Value,SH E V [(0,vp b0 0),(3,vb an.1),(4,vi ab),(16,v0_0),(17,vi p0_0.length),(18,vi ab),(64,a8),(65,vi ar.length),(66,vi a4)] [bc 79 b0 [v0_0,v0_1,v0_2,v0_3,aq,bm,v0_6,v0_7,v0_8,v0_9,v0_10,v0_11],own 113 bm aw,rd v0_0 p0_0,rd v0_2 p0_2,own 100 aq bl,own 100 a8 ar] U w) (fun(aw: (List aH)) U w=>∃a5:Value,SH E V [(0,vp b0 0),(3,vb an.1),(16,v0_0),(17,vi p0_0.length),(18,vi ab)] [bc 79 b0 [v0_0,v0_1,v0_2,v0_3,aq,a5,v0_6,v0_7,v0_8,v0_9,v0_10,v0_11],own 113 a5 aw,rd v0_0 p0_0,rd v0_2 p0_2,own 100 aq bl,own 100 a8 ar] U w) hN ?_ ?_ ?_ ?_
  ·exact⟨ag,j.sp 8 [2,6,3,4,5,0]⟩
  ·rintro hm aw _ w ⟨cj,O,rfl,j⟩
   refine RC.sr (ic ((ar.length:Int)) ((ar.length:Int)) (RL.nq (RC.cX mT (RC.ex ?_))))
   exact⟨rfl,cj,j.sp 6 [0,1,2,3,4,5]⟩
  ·rintro hm a4 aw s' _ w hk ⟨a9,O,rfl,j⟩ o
   refine RC.sr (ic ((a4:Int)) ((ar.length:Int)) (RL.nq (RC.cW (mS hk) (RC.ss (RC.bs ?_)))))
   obtain⟨bn,ba,o⟩:=bd o
   refine RL.bL 5 j zr zr Ea ba (RL.gJ (f:=(fun x=>x)) 5 j (jr 5 j ba 0) (aZ ba).2.1 Fd.self Gg fun ax j=>?_)
   refine aM ax (RL.nt ?_)
   have j:=j.drew
   refine RC.CN (fun w=>Holds E w ([bc 79 b0 [v0_0,v0_1,v0_2,v0_3,aq,a9,v0_6,v0_7,v0_8,v0_9,v0_10,v0_11]]++V)) mixed zr [1,1,1,1,1,1,1,0,2,0,2,2,0,0,2] [0,1,2,3,4,5,6,7,8,9,10,11,12,13,14] (j.pk 7 [1]) (DP.e1 (vp b0 0) zr (fun w=>RL.move (vp b0 0) zt DP.d1) (DP.e1 (vp b0 0) zr (fun w=>RL.move (vp b0 0) zt DP.d1) (DP.e1 (vp b0 0) zr (fun w=>RL.nilCheck zr DP.d1) (DP.e1 (vp b0 5) zr (fun w=>RL.bF zr qG DP.d1) (DP.Gc a9 zr (fun w j=>RL.bA 0 a9 j Ad DP.d1) (DP.e1 (vi ab) zr (fun w=>RL.move (vi ab) zt DP.d1) (DP.e1 ax zr (fun w=>RL.move ax zt DP.d1) (DP.e0 zr ?_))))))))
   refine mv ax (vF zr ?_)
   obtain⟨bo,ck,o⟩:=bd o
   refine RL.call zt zr GP [ax] zr (aF (ly N (i0:=0) j zr ck) ?_)
   rintro cl w j
   refine DP.d2 (j.pk 8 [2]) (DP.e0 zr ?_)
   have j:=(j.sc Int (ab:Int)).freeze 1
   refine RL.build (⟨(ab:Int),bn,bo⟩:aH) trivial rfl j [(0,vi ab),(1,ax),(2,cl)] rfl HY rfl (fun M hs g=>by have h:=wo M;exact dO.cons (f:=fun(x:aH) y=>{x with eQ:=y}) h tw (g.sat 0 _ rfl).1 fun _ h=>dO.cons (f:=fun(x:aH) y=>{x with Set:=y}) h tx (g.sat 2 _ rfl).1 fun _ h=>dO.cons (f:=fun(x:aH) y=>{x with m6:=y}) h tz (g.sat 1 _ rfl).1 fun _ h=>dO.nil h) fun cm j=>?_
   refine vF zr (RL.eH ([(⟨(ab:Int),bn,bo⟩:aH)]: (List aH)) j [cm] GU Ed (fun M hs g=>⟨(g.sat 0 _ zr).1,zt⟩) fun c1 w j=>(DP.d2 (j.pk 11 [5]) (DP.e2 zr ?_)))
   have j:=j.freeze 0
   obtain⟨c2,cn,o⟩:=bd o
   refine RL.app 6 0 j JJ cn fun bp w j=>?_
   refine DP.d2 (j.pk 11 [5]) (DP.e0 zr (RL.nilCheck zr (cT zr (RL.bF zr qG (DP.d0 (DP.Ko zr zr (RL.ir 5 bp j zr zr (jw 6 j) Ad fun w j=>?_)))))))
   refine DP.d2 zt (DP.z (bQ (aG (RC.region (RL.inc hk hm (mv (vi ((a4+1:Nat):Int)) (RL.nil ?_)))))))
   obtain rfl:=oi o
   exact⟨rfl,bp,j.sp 11 [5,6,7,8,9,10]⟩
  rintro _ w ⟨a5,O,rfl,j⟩
  refine bQ (aG (RC.region (RL.inc hk hm (mv (vi ((ab+1:Nat):Int)) (RL.nil ?_)))))
  obtain rfl:=oi o
  exact⟨rfl,aq,a5,j.sp 6 [0,4,1,2,3]⟩
 rintro _ w ⟨au,al,O,rfl,j⟩
 refine aG (RC.seq ?_)
 obtain⟨bb,hj,o⟩:=bd o
 refine RC.jn (fun(bb:Bool)=>SH E V [(0,vp b0 0),(2,vb bb)] [bc 79 b0 [v0_0,v0_1,v0_2,v0_3,au,al,v0_6,v0_7,v0_8,v0_9,v0_10,v0_11],rd v0_0 p0_0,rd v0_2 p0_2,own 100 au aa.1,own 113 al aa.2.1]) bb ?_ ?_
 ·refine RC.region (mv (vb aa.2.2) (mv (vb aa.2.2) (gv hj (fun ae hj=>?_) fun ae hj=>?_)))
  ·refine RL.move (vp b0 0) (cg ae) (RL.nilCheck (hg:=(cg ae)) zr (RL.bF (hg:=(cg ae)) zr qG (RL.bA (hg:=(cg ae)) 0 al j Ad (RL.eK (hg:=(cg ae)) 2 aa.2.1 j C1 (RL.kz (aa.2.1.length:Int) 2000 (cg ae) (gw ae (vb (decide ((aa.2.1.length:Int)<=2000))) (aM (vb (decide ((aa.2.1.length:Int)<=2000))) (RL.nil ?_))))))))
   obtain rfl:=oi hj
   exact⟨rfl,j.sp 5 [0,3,4,1,2]⟩
  refine cA ae (cA ae (cA ae (cA ae (cA ae (cA ae (gw ae (vb false) (aM (vb false) (RL.nil ?_))))))))
  obtain rfl:=oi hj
  exact⟨rfl,j.sp 5 [0,3,4,1,2]⟩
 rintro _ w ⟨O,rfl,j⟩
 refine aG (RC.ret ?_)
 obtain rfl:=oi o
 exact cH ⟨au,al,zr,j.pk 5 [0,3,4]⟩
end Go.Gk
namespace Go.Gk
open Go Go.Proofs
variable (N:Nat) {E w:World} {b0 i0 i1:Nat} {p0 p1 p2 res:Int} {v0 v0_0 v0_1 v0_10 v0_11 v0_2 v0_3 v0_4 v0_5 v0_6 v0_7 v0_8 v0_9 v1:Value} {V:List HP}
theorem uX {p0 p1:aI} {res:Bool} (j:Holds E w V) (h0:V[i0]? =some (rd v0 p0)) (h1:V[i1]? =some (rd v1 p1)) (hb:oK N p0 p1=some res):
    Calls bH 56 [v0,v1].toArray w (gI (bB E V res)):=by
 unfold oK at hb
 refine enter Tryz.func56 zr zr ?_
 have j:=(j.dup (i0+0) h0).dup (i1+1) h1
 refine RC.sr (RL.cR 1 v0 j zr fun o w j=>?_)
 refine RL.cR 1 v1 j zr fun aa w j=>?_
 refine aM (vb false) (RL.ns (RL.bF zr ji (RL.aO 1 j zr fu cP (RL.bF zr jW (RL.aO 0 j zr fU cP (ic p0.X0 p1.X1 (mv (vb (decide (p0.X0<p1.X1))) (RL.gs true (decide (p0.X0<p1.X1)) (vp aa 0) zr zr zr (dZ ji) ?_))))))))
 refine RL.gs true (decide (p0.X0<p1.X1)) (vi p1.X0) rfl rfl rfl (cD 0 rfl j (fun h=>by exact(cY h:cv (true&&((decide (p0.X0<p1.X1))==true)) (vp aa 0)= (vp aa 0))) rfl fu cP) (RL.gs true (decide (p0.X0<p1.X1)) (vp o 2) rfl rfl rfl (dZ jW) (RL.gs true (decide (p0.X0<p1.X1)) (vi p0.X1) rfl rfl rfl (cD 1 rfl j (fun h=>by exact(cY h:cv (true&&((decide (p0.X0<p1.X1))==true)) (vp o 2)= (vp o 2))) rfl fU cP) (RL.gs true (decide (p0.X0<p1.X1)) (vb (decide (p1.X0<p0.X1))) rfl rfl rfl (eG .lss .i64 p1.X0 p0.X1 rfl (fun h=>by exact(cY h:cv (true&&((decide (p0.X0<p1.X1))==true)) (vi p1.X0)= (vi p1.X0))) (fun h=>by exact(cY h:cv (true&&((decide (p0.X0<p1.X1))==true)) (vi p0.X1)= (vi p0.X1))) rfl) (RL.pick (decide (p0.X0<p1.X1)) (vb ((decide (p0.X0<p1.X1))&&(decide (p1.X0<p0.X1)))) (iX true) (aM (vb ((decide (p0.X0<p1.X1))&&(decide (p1.X0<p0.X1)))) (RL.ns (RL.bF rfl jV (RL.aO 1 j rfl fG cP ?_))))))))
 refine RL.bF rfl mZ (RL.aO 0 j rfl iM cP (ic p0.Y0 p1.Y1 (mv (vb (decide (p0.Y0<p1.Y1))) (RL.gs true (decide (p0.Y0<p1.Y1)) (vp aa 1) rfl rfl rfl (dZ jV) (RL.gs true (decide (p0.Y0<p1.Y1)) (vi p1.Y0) rfl rfl rfl (cD 0 rfl j (fun h=>by exact(cY h:cv (true&&((decide (p0.Y0<p1.Y1))==true)) (vp aa 1)= (vp aa 1))) rfl fG cP) (RL.gs true (decide (p0.Y0<p1.Y1)) (vp o 3) rfl rfl rfl (dZ mZ) (RL.gs true (decide (p0.Y0<p1.Y1)) (vi p0.Y1) rfl rfl rfl (cD 1 rfl j (fun h=>by exact(cY h:cv (true&&((decide (p0.Y0<p1.Y1))==true)) (vp o 3)= (vp o 3))) rfl iM cP) (RL.gs true (decide (p0.Y0<p1.Y1)) (vb (decide (p1.Y0<p0.Y1))) rfl rfl rfl (eG .lss .i64 p1.Y0 p0.Y1 rfl (fun h=>by exact(cY h:cv (true&&((decide (p0.Y0<p1.Y1))==true)) (vi p1.Y0)= (vi p1.Y0))) (fun h=>by exact(cY h:cv (true&&((decide (p0.Y0<p1.Y1))==true)) (vi p0.Y1)= (vi p0.Y1))) rfl) ?_))))))))
 refine RL.pick (decide (p0.Y0<p1.Y1)) (vb ((decide (p0.Y0<p1.Y1))&&(decide (p1.Y0<p0.Y1)))) (iX true) (aM (vb ((decide (p0.Y0<p1.Y1))&&(decide (p1.Y0<p0.Y1)))) (RL.ns (mv (vb ((decide (p0.X0<p1.X1))&&(decide (p1.X0<p0.X1)))) (mv (vb ((decide (p0.X0<p1.X1))&&(decide (p1.X0<p0.X1)))) (RL.gs true ((decide (p0.X0<p1.X1))&&(decide (p1.X0<p0.X1))) (vp o 3) rfl rfl rfl (dZ mZ) (RL.gs true ((decide (p0.X0<p1.X1))&&(decide (p1.X0<p0.X1))) (vi p0.Y1) rfl rfl rfl (cD 1 rfl j (fun h=>by exact(cY h:cv (true&&(((decide (p0.X0<p1.X1))&&(decide (p1.X0<p0.X1)))==true)) (vp o 3)= (vp o 3))) rfl iM cP) (RL.gs true ((decide (p0.X0<p1.X1))&&(decide (p1.X0<p0.X1))) (vp aa 1) rfl rfl rfl (dZ jV) (RL.gs true ((decide (p0.X0<p1.X1))&&(decide (p1.X0<p0.X1))) (vi p1.Y0) rfl rfl rfl (cD 0 rfl j (fun h=>by exact(cY h:cv (true&&(((decide (p0.X0<p1.X1))&&(decide (p1.X0<p0.X1)))==true)) (vp aa 1)= (vp aa 1))) rfl fG cP) ?_))))))))
 refine RL.gs true ((decide (p0.X0<p1.X1))&&(decide (p1.X0<p0.X1))) (vb (p0.Y1==p1.Y0)) rfl rfl rfl (eG .eql .i64 p0.Y1 p1.Y0 rfl (fun h=>by exact(cY h:cv (true&&(((decide (p0.X0<p1.X1))&&(decide (p1.X0<p0.X1)))==true)) (vi p0.Y1)= (vi p0.Y1))) (fun h=>by exact(cY h:cv (true&&(((decide (p0.X0<p1.X1))&&(decide (p1.X0<p0.X1)))==true)) (vi p1.Y0)= (vi p1.Y0))) rfl) (RL.gs true ((decide (p0.X0<p1.X1))&&(decide (p1.X0<p0.X1))) (vb (p0.Y1==p1.Y0)) rfl rfl rfl (dE (hx:=fun h=>by exact(cY h:cv (true&&(((decide (p0.X0<p1.X1))&&(decide (p1.X0<p0.X1)))==true)) (vb (p0.Y1==p1.Y0))= (vb (p0.Y1==p1.Y0))))) (RL.gs (true&&(((decide (p0.X0<p1.X1))&&(decide (p1.X0<p0.X1)))==true)) (p0.Y1==p1.Y0) (vp aa 3) rfl rfl rfl (dZ mZ) (RL.gs (true&&(((decide (p0.X0<p1.X1))&&(decide (p1.X0<p0.X1)))==true)) (p0.Y1==p1.Y0) (vi p1.Y1) rfl rfl rfl (cD 0 rfl j (fun h=>by exact(cY h:cv ((true&&(((decide (p0.X0<p1.X1))&&(decide (p1.X0<p0.X1)))==true))&&((p0.Y1==p1.Y0)==false)) (vp aa 3)= (vp aa 3))) rfl iM cP) (RL.gs (true&&(((decide (p0.X0<p1.X1))&&(decide (p1.X0<p0.X1)))==true)) (p0.Y1==p1.Y0) (vp o 1) rfl rfl rfl (dZ jV) (RL.gs (true&&(((decide (p0.X0<p1.X1))&&(decide (p1.X0<p0.X1)))==true)) (p0.Y1==p1.Y0) (vi p0.Y0) rfl rfl rfl (cD 1 rfl j (fun h=>by exact(cY h:cv ((true&&(((decide (p0.X0<p1.X1))&&(decide (p1.X0<p0.X1)))==true))&&((p0.Y1==p1.Y0)==false)) (vp o 1)= (vp o 1))) rfl fG cP) (RL.gs (true&&(((decide (p0.X0<p1.X1))&&(decide (p1.X0<p0.X1)))==true)) (p0.Y1==p1.Y0) (vb (p1.Y1==p0.Y0)) rfl rfl rfl (eG .eql .i64 p1.Y1 p0.Y0 rfl (fun h=>by exact(cY h:cv ((true&&(((decide (p0.X0<p1.X1))&&(decide (p1.X0<p0.X1)))==true))&&((p0.Y1==p1.Y0)==false)) (vi p1.Y1)= (vi p1.Y1))) (fun h=>by exact(cY h:cv ((true&&(((decide (p0.X0<p1.X1))&&(decide (p1.X0<p0.X1)))==true))&&((p0.Y1==p1.Y0)==false)) (vi p0.Y0)= (vi p0.Y0))) rfl) (RL.gs true ((decide (p0.X0<p1.X1))&&(decide (p1.X0<p0.X1))) (vb ((p0.Y1==p1.Y0)||(p1.Y1==p0.Y0))) rfl rfl rfl (pE (p0.Y1==p1.Y0) rfl (fun h=>by exact(cY h:cv (true&&(((decide (p0.X0<p1.X1))&&(decide (p1.X0<p0.X1)))==true)) (vb (p0.Y1==p1.Y0))= (vb (p0.Y1==p1.Y0)))) (fun h=>by exact mH (true&&(((decide (p0.X0<p1.X1))&&(decide (p1.X0<p0.X1)))==true)) h)) (RL.pick ((decide (p0.X0<p1.X1))&&(decide (p1.X0<p0.X1))) (vb (((decide (p0.X0<p1.X1))&&(decide (p1.X0<p0.X1)))&&((p0.Y1==p1.Y0)||(p1.Y1==p0.Y0)))) (iX true) ?_))))))))
 refine mv (vb (((decide (p0.X0<p1.X1))&&(decide (p1.X0<p0.X1)))&&((p0.Y1==p1.Y0)||(p1.Y1==p0.Y0)))) (RL.gs true (((decide (p0.X0<p1.X1))&&(decide (p1.X0<p0.X1)))&&((p0.Y1==p1.Y0)||(p1.Y1==p0.Y0))) (vb ((decide (p0.Y0<p1.Y1))&&(decide (p1.Y0<p0.Y1)))) rfl rfl rfl dE (RL.gs true (((decide (p0.X0<p1.X1))&&(decide (p1.X0<p0.X1)))&&((p0.Y1==p1.Y0)||(p1.Y1==p0.Y0))) (vb ((decide (p0.Y0<p1.Y1))&&(decide (p1.Y0<p0.Y1)))) rfl rfl rfl (dE (hx:=fun h=>by exact(cY h:cv (true&&((((decide (p0.X0<p1.X1))&&(decide (p1.X0<p0.X1)))&&((p0.Y1==p1.Y0)||(p1.Y1==p0.Y0)))==false)) (vb ((decide (p0.Y0<p1.Y1))&&(decide (p1.Y0<p0.Y1))))= (vb ((decide (p0.Y0<p1.Y1))&&(decide (p1.Y0<p0.Y1))))))) (RL.gs (true&&((((decide (p0.X0<p1.X1))&&(decide (p1.X0<p0.X1)))&&((p0.Y1==p1.Y0)||(p1.Y1==p0.Y0)))==false)) ((decide (p0.Y0<p1.Y1))&&(decide (p1.Y0<p0.Y1))) (vp o 2) rfl rfl rfl (dZ jW) (RL.gs (true&&((((decide (p0.X0<p1.X1))&&(decide (p1.X0<p0.X1)))&&((p0.Y1==p1.Y0)||(p1.Y1==p0.Y0)))==false)) ((decide (p0.Y0<p1.Y1))&&(decide (p1.Y0<p0.Y1))) (vi p0.X1) rfl rfl rfl (cD 1 rfl j (fun h=>by exact(cY h:cv ((true&&((((decide (p0.X0<p1.X1))&&(decide (p1.X0<p0.X1)))&&((p0.Y1==p1.Y0)||(p1.Y1==p0.Y0)))==false))&&(((decide (p0.Y0<p1.Y1))&&(decide (p1.Y0<p0.Y1)))==true)) (vp o 2)= (vp o 2))) rfl fU cP) (RL.gs (true&&((((decide (p0.X0<p1.X1))&&(decide (p1.X0<p0.X1)))&&((p0.Y1==p1.Y0)||(p1.Y1==p0.Y0)))==false)) ((decide (p0.Y0<p1.Y1))&&(decide (p1.Y0<p0.Y1))) (vp aa 0) rfl rfl rfl (dZ ji) (RL.gs (true&&((((decide (p0.X0<p1.X1))&&(decide (p1.X0<p0.X1)))&&((p0.Y1==p1.Y0)||(p1.Y1==p0.Y0)))==false)) ((decide (p0.Y0<p1.Y1))&&(decide (p1.Y0<p0.Y1))) (vi p1.X0) rfl rfl rfl (cD 0 rfl j (fun h=>by exact(cY h:cv ((true&&((((decide (p0.X0<p1.X1))&&(decide (p1.X0<p0.X1)))&&((p0.Y1==p1.Y0)||(p1.Y1==p0.Y0)))==false))&&(((decide (p0.Y0<p1.Y1))&&(decide (p1.Y0<p0.Y1)))==true)) (vp aa 0)= (vp aa 0))) rfl fu cP) (RL.gs (true&&((((decide (p0.X0<p1.X1))&&(decide (p1.X0<p0.X1)))&&((p0.Y1==p1.Y0)||(p1.Y1==p0.Y0)))==false)) ((decide (p0.Y0<p1.Y1))&&(decide (p1.Y0<p0.Y1))) (vb (p0.X1==p1.X0)) rfl rfl rfl (eG .eql .i64 p0.X1 p1.X0 rfl (fun h=>by exact(cY h:cv ((true&&((((decide (p0.X0<p1.X1))&&(decide (p1.X0<p0.X1)))&&((p0.Y1==p1.Y0)||(p1.Y1==p0.Y0)))==false))&&(((decide (p0.Y0<p1.Y1))&&(decide (p1.Y0<p0.Y1)))==true)) (vi p0.X1)= (vi p0.X1))) (fun h=>by exact(cY h:cv ((true&&((((decide (p0.X0<p1.X1))&&(decide (p1.X0<p0.X1)))&&((p0.Y1==p1.Y0)||(p1.Y1==p0.Y0)))==false))&&(((decide (p0.Y0<p1.Y1))&&(decide (p1.Y0<p0.Y1)))==true)) (vi p1.X0)= (vi p1.X0))) rfl) (RL.gs (true&&((((decide (p0.X0<p1.X1))&&(decide (p1.X0<p0.X1)))&&((p0.Y1==p1.Y0)||(p1.Y1==p0.Y0)))==false)) ((decide (p0.Y0<p1.Y1))&&(decide (p1.Y0<p0.Y1))) (vb (p0.X1==p1.X0)) rfl rfl rfl (dE (hx:=fun h=>by exact(cY h:cv ((true&&((((decide (p0.X0<p1.X1))&&(decide (p1.X0<p0.X1)))&&((p0.Y1==p1.Y0)||(p1.Y1==p0.Y0)))==false))&&(((decide (p0.Y0<p1.Y1))&&(decide (p1.Y0<p0.Y1)))==true)) (vb (p0.X1==p1.X0))= (vb (p0.X1==p1.X0))))) ?_))))))))
 refine RL.gs ((true&&((((decide (p0.X0<p1.X1))&&(decide (p1.X0<p0.X1)))&&((p0.Y1==p1.Y0)||(p1.Y1==p0.Y0)))==false))&&(((decide (p0.Y0<p1.Y1))&&(decide (p1.Y0<p0.Y1)))==true)) (p0.X1==p1.X0) (vp aa 2) rfl rfl rfl (dZ jW) (RL.gs ((true&&((((decide (p0.X0<p1.X1))&&(decide (p1.X0<p0.X1)))&&((p0.Y1==p1.Y0)||(p1.Y1==p0.Y0)))==false))&&(((decide (p0.Y0<p1.Y1))&&(decide (p1.Y0<p0.Y1)))==true)) (p0.X1==p1.X0) (vi p1.X1) rfl rfl rfl (cD 0 rfl j (fun h=>by exact(cY h:cv (((true&&((((decide (p0.X0<p1.X1))&&(decide (p1.X0<p0.X1)))&&((p0.Y1==p1.Y0)||(p1.Y1==p0.Y0)))==false))&&(((decide (p0.Y0<p1.Y1))&&(decide (p1.Y0<p0.Y1)))==true))&&((p0.X1==p1.X0)==false)) (vp aa 2)= (vp aa 2))) rfl fU cP) (RL.gs ((true&&((((decide (p0.X0<p1.X1))&&(decide (p1.X0<p0.X1)))&&((p0.Y1==p1.Y0)||(p1.Y1==p0.Y0)))==false))&&(((decide (p0.Y0<p1.Y1))&&(decide (p1.Y0<p0.Y1)))==true)) (p0.X1==p1.X0) (vp o 0) rfl rfl rfl (dZ ji) (RL.gs ((true&&((((decide (p0.X0<p1.X1))&&(decide (p1.X0<p0.X1)))&&((p0.Y1==p1.Y0)||(p1.Y1==p0.Y0)))==false))&&(((decide (p0.Y0<p1.Y1))&&(decide (p1.Y0<p0.Y1)))==true)) (p0.X1==p1.X0) (vi p0.X0) rfl rfl rfl (cD 1 rfl j (fun h=>by exact(cY h:cv (((true&&((((decide (p0.X0<p1.X1))&&(decide (p1.X0<p0.X1)))&&((p0.Y1==p1.Y0)||(p1.Y1==p0.Y0)))==false))&&(((decide (p0.Y0<p1.Y1))&&(decide (p1.Y0<p0.Y1)))==true))&&((p0.X1==p1.X0)==false)) (vp o 0)= (vp o 0))) rfl fu cP) (RL.gs ((true&&((((decide (p0.X0<p1.X1))&&(decide (p1.X0<p0.X1)))&&((p0.Y1==p1.Y0)||(p1.Y1==p0.Y0)))==false))&&(((decide (p0.Y0<p1.Y1))&&(decide (p1.Y0<p0.Y1)))==true)) (p0.X1==p1.X0) (vb (p1.X1==p0.X0)) rfl rfl rfl (eG .eql .i64 p1.X1 p0.X0 rfl (fun h=>by exact(cY h:cv (((true&&((((decide (p0.X0<p1.X1))&&(decide (p1.X0<p0.X1)))&&((p0.Y1==p1.Y0)||(p1.Y1==p0.Y0)))==false))&&(((decide (p0.Y0<p1.Y1))&&(decide (p1.Y0<p0.Y1)))==true))&&((p0.X1==p1.X0)==false)) (vi p1.X1)= (vi p1.X1))) (fun h=>by exact(cY h:cv (((true&&((((decide (p0.X0<p1.X1))&&(decide (p1.X0<p0.X1)))&&((p0.Y1==p1.Y0)||(p1.Y1==p0.Y0)))==false))&&(((decide (p0.Y0<p1.Y1))&&(decide (p1.Y0<p0.Y1)))==true))&&((p0.X1==p1.X0)==false)) (vi p0.X0)= (vi p0.X0))) rfl) (RL.gs (true&&((((decide (p0.X0<p1.X1))&&(decide (p1.X0<p0.X1)))&&((p0.Y1==p1.Y0)||(p1.Y1==p0.Y0)))==false)) ((decide (p0.Y0<p1.Y1))&&(decide (p1.Y0<p0.Y1))) (vb ((p0.X1==p1.X0)||(p1.X1==p0.X0))) rfl rfl rfl (pE (p0.X1==p1.X0) rfl (fun h=>by exact(cY h:cv ((true&&((((decide (p0.X0<p1.X1))&&(decide (p1.X0<p0.X1)))&&((p0.Y1==p1.Y0)||(p1.Y1==p0.Y0)))==false))&&(((decide (p0.Y0<p1.Y1))&&(decide (p1.Y0<p0.Y1)))==true)) (vb (p0.X1==p1.X0))= (vb (p0.X1==p1.X0)))) (fun h=>by exact mH ((true&&((((decide (p0.X0<p1.X1))&&(decide (p1.X0<p0.X1)))&&((p0.Y1==p1.Y0)||(p1.Y1==p0.Y0)))==false))&&(((decide (p0.Y0<p1.Y1))&&(decide (p1.Y0<p0.Y1)))==true)) h)) (RL.gs true (((decide (p0.X0<p1.X1))&&(decide (p1.X0<p0.X1)))&&((p0.Y1==p1.Y0)||(p1.Y1==p0.Y0))) (vb (((decide (p0.Y0<p1.Y1))&&(decide (p1.Y0<p0.Y1)))&&((p0.X1==p1.X0)||(p1.X1==p0.X0)))) rfl rfl rfl (pE ((decide (p0.Y0<p1.Y1))&&(decide (p1.Y0<p0.Y1))) rfl (fun h=>by exact(cY h:cv (true&&((((decide (p0.X0<p1.X1))&&(decide (p1.X0<p0.X1)))&&((p0.Y1==p1.Y0)||(p1.Y1==p0.Y0)))==false)) (vb ((decide (p0.Y0<p1.Y1))&&(decide (p1.Y0<p0.Y1))))= (vb ((decide (p0.Y0<p1.Y1))&&(decide (p1.Y0<p0.Y1)))))) (fun h=>by exact iX (h:=h) (true&&((((decide (p0.X0<p1.X1))&&(decide (p1.X0<p0.X1)))&&((p0.Y1==p1.Y0)||(p1.Y1==p0.Y0)))==false)))) (RL.pick (((decide (p0.X0<p1.X1))&&(decide (p1.X0<p0.X1)))&&((p0.Y1==p1.Y0)||(p1.Y1==p0.Y0))) (vb ((((decide (p0.X0<p1.X1))&&(decide (p1.X0<p0.X1)))&&((p0.Y1==p1.Y0)||(p1.Y1==p0.Y0)))||(((decide (p0.Y0<p1.Y1))&&(decide (p1.Y0<p0.Y1)))&&((p0.X1==p1.X0)||(p1.X1==p0.X0))))) (mH true rfl) (aM (vb ((((decide (p0.X0<p1.X1))&&(decide (p1.X0<p0.X1)))&&((p0.Y1==p1.Y0)||(p1.Y1==p0.Y0)))||(((decide (p0.Y0<p1.Y1))&&(decide (p1.Y0<p0.Y1)))&&((p0.X1==p1.X0)||(p1.X1==p0.X0))))) ?_))))))))
 refine RL.nt (RC.ret ?_)
 obtain rfl:=oi hb
 exact cH ⟨rfl,j.drop 4⟩
theorem oQ {p0:aI} {p1:bW} {res:Bool} (j:Holds E w V) (h0:V[i0]? =some (rd v0 p0)) (h1:V[i1]? =some (pt v1 p1)) (o:iG N p0 p1=some res):
    Calls bH 55 [v0,v1].toArray w (gI (bB E V res)):=by
 unfold iG at o
 refine enter Tryz.func55 zr zr ?_
 have j:=(j.dup (i0+0) h0).uA (i:=i1+1) h1
 refine RC.sr (RL.cR 1 v0 j zr fun ah w j=>?_)
 have j:=j.gm (i:=0) rfl
 refine aM (vb false) (RL.nq (RC.yF mixed [1,0,2,2,0] [0,1,2,3,4] ?_))
 have j:=j.drew
 refine DP.wj p0 0 zr j iC fun aa a33 ai j=>(DP.e0 zr (RL.bU 3 p1 j ot fun ab j=>(vF zr ?_)))
 obtain⟨aj,ad,o⟩:=bd o
 refine RL.call zt zr CZ [ab] zr (aF (gH N (i0:=0) j zr ad) ?_)
 rintro ae w j
 refine DP.d2 (⟨zt,j.kV 2⟩) (DP.e2 zr ?_)
 obtain⟨af,ag,o⟩:=bd o
 refine RL.call zt zr JL [aa,ae] zr (aF (uX N (i0:=3) (i1:=0) j zr zr ag) ?_)
 rintro _ w ⟨rfl,j⟩
 refine DP.d2 (⟨zt,j.kV 2⟩) (DP.e0 zr (aM (vb af) (DP.d0 ?_)))
 have j:=j.pl 7 [0,1,3,4,5,6]
 refine DP.z (aG (RC.ret ?_))
 obtain rfl:=oi o
 exact cH ⟨rfl,j.drop 6⟩
theorem j8 {p0: (List aI)} {p1:aI->Option Bool} {res:Bool} (j:Holds E w V) (h0:V[i0]? =some (rd v0 p0)) (h1:E7 bH E V v1 p1 (fun(r:Bool)=>Value.bool r)) (o:fJ N p0 p1=some res):
    Calls bH 54 [v0,v1].toArray w (gI (bB E V res)):=by
 unfold fJ at o
 refine enter Tryz.func54 zr zr ?_
 have j:=j.dup (i0+0) h0
 refine RC.sr (aM (vb false) (RL.ns (mv v0 (mv v1 ?_))))
 obtain⟨aa,ab,o⟩:=bd o
 refine RL.call zt zr HD [v0,v1] zr (aF (oN N (i0:=0) j zr (h1.lift 1 zr) ab) ?_)
 rintro _ w ⟨rfl,j⟩
 refine ic aa 0 (aM (vb (decide (aa>=0))) (RL.nt (RC.ret ?_)))
 obtain rfl:=oi o
 exact cH ⟨rfl,j.drop 1⟩
def qU (E:World) (V:List HP) (b0:Nat) (v0_0 v0_1:Value) (v0_2 v0_3:Value) (v0_4 v0_5:Value) (v0_7 v0_8:Value) (v0_9 v0_10 v0_11:Value) (res: (List (List Int))) (v:Value) (w:World):Prop:=∃u0_6:Value,v = .tuple #[]/\Holds E w ([bc 79 b0 [v0_0,v0_1,v0_2,v0_3,v0_4,v0_5,u0_6,v0_7,v0_8,v0_9,v0_10,v0_11],own 63 u0_6 res]++V)
theorem qm {p0_2: (List bW)} {p0_5: (List aH)} {p0_6: (List (List Int))} {res: (List (List Int))} (j:Holds E w (bc 79 b0 [v0_0,v0_1,v0_2,v0_3,v0_4,v0_5,v0_6,v0_7,v0_8,v0_9,v0_10,v0_11]::rd v0_2 p0_2::rd v0_5 p0_5::own 63 v0_6 p0_6::V)) (hb:iw N p0_2 p0_5 p0_6=some res):
    Calls bH 24 [(vp b0 0)].toArray w (gI (qU E V b0 v0_0 v0_1 v0_2 v0_3 v0_4 v0_5 v0_7 v0_8 v0_9 v0_10 v0_11 res)):=by
 unfold iw at hb
 refine enter Tryz.func24 zr zr (RC.sr (mv (vp b0 0) (RL.nilCheck zr (RL.bF zr l3 (RL.bF zr mu (RL.bA 0 v0_2 j uL (RL.bK 1 p0_2 j wq (mv (vi 0) ?_))))))))
 refine RL.nt ?_
 obtain⟨af,hN,hb⟩:=bd hb
 refine RC.fold (fun(ai:Nat) (af: (List (List Int))) U w=>∃az:Value,SH E V [(0,vp b0 0),(11,v0_2),(12,vi p0_2.length),(13,vi ai)] [bc 79 b0 [v0_0,v0_1,v0_2,v0_3,v0_4,v0_5,az,v0_7,v0_8,v0_9,v0_10,v0_11],own 63 az af,rd v0_2 p0_2,rd v0_5 p0_5] U w) (fun(af: (List (List Int))) U w=>∃aq:Value,SH E V [(0,vp b0 0)] [bc 79 b0 [v0_0,v0_1,v0_2,v0_3,v0_4,v0_5,aq,v0_7,v0_8,v0_9,v0_10,v0_11],own 63 aq af,rd v0_2 p0_2,rd v0_5 p0_5] U w) hN ?_ ?_ ?_ ?_
 ·exact⟨v0_6,j.sp 4 [0,3,1,2]⟩
 ·rintro hm af _ w ⟨a4,O,rfl,j⟩
  refine RC.sr (ic ((p0_2.length:Int)) ((p0_2.length:Int)) (RL.nq (RC.cX mT (RC.ex ?_))))
  exact⟨rfl,a4,j.sp 4 [0,1,2,3]⟩
 ·rintro hm ai af s' _ w hk ⟨ah,O,rfl,j⟩ hb
  refine RC.sr (ic ((ai:Int)) ((p0_2.length:Int)) (RL.nq (RC.cW (mS hk) (RC.ss (RC.bs ?_)))))
  obtain⟨aj,a5,hb⟩:=bd hb
  refine RL.cG 2 j yI a5 fun bk j=>(RL.bU 0 aj j ot fun bl j=>(RL.alloc j CY.z fun ag w j=>?_))
  refine RL.bC 0 j 1 zr ot fun w j=>?_
  refine RL.ns (aM (.slice none 0 0) (RL.nq (RC.sr (mv (vp b0 0) (RL.nilCheck zr (RL.bF zr qG (RL.bA 3 v0_5 j Ad (RL.bK 6 p0_5 j C1 ?_))))))))
  refine mv (vi 0) (RL.nt ?_)
  have j:=j.gm (i:=0) rfl
  obtain⟨ak,hN,hb⟩:=bd hb
  refine RC.fold (fun(ab:Nat) (ak: (List Int)) U w=>∃a0:Value,SH E V [(0,vp b0 0),(3,vp ag 0),(4,a0),(11,v0_2),(12,vi p0_2.length),(13,vi ai),(20,v0_5),(21,vi p0_5.length),(22,vi ab)] [bc 79 b0 [v0_0,v0_1,v0_2,v0_3,v0_4,v0_5,ah,v0_7,v0_8,v0_9,v0_10,v0_11],rd v0_2 p0_2,rd v0_5 p0_5,own 63 ah af,pt (vp ag 0) aj,own 3 a0 ak] U w) (fun(ak: (List Int)) U w=>∃ao:Value,SH E V [(0,vp b0 0),(4,ao),(11,v0_2),(12,vi p0_2.length),(13,vi ai)] [bc 79 b0 [v0_0,v0_1,v0_2,v0_3,v0_4,v0_5,ah,v0_7,v0_8,v0_9,v0_10,v0_11],rd v0_2 p0_2,rd v0_5 p0_5,own 63 ah af,pt (vp ag 0) aj,own 3 ao ak] U w) hN ?_ ?_ ?_ ?_
  ·have j:=j.cV Int 3
   exact⟨(.slice none 0 0),j.sp 8 [4,6,7,5,1,0]⟩
  ·rintro hm ak _ w ⟨a6,O,rfl,j⟩
   refine RC.sr (ic ((p0_5.length:Int)) ((p0_5.length:Int)) (RL.nq (RC.cX mT (RC.ex ?_))))
   exact⟨rfl,a6,j.sp 6 [0,1,2,3,4,5]⟩
  ·rintro hm ab ak s' _ w hk ⟨ar,O,rfl,j⟩ hb
   refine RC.sr (ic ((ab:Int)) ((p0_5.length:Int)) (RL.nq (RC.cW (mS hk) (RC.ss (RC.bs (mv (vi ab) ?_))))))
   obtain⟨aw,a7,hb⟩:=bd hb
   refine RL.cG 2 j GU a7 fun bm j=>(RL.bU 0 aw j Cc fun bn j=>(RL.alloc j Ed.z fun bo w j=>?_))
   refine aM (vi ab) (RL.bC 0 j 1 zr Cc fun w j=>?_)
   refine RL.nq ?_
   obtain⟨ax,o,hb⟩:=bd hb
   refine RC.jn (fun(ax:Bool)=>SH E V [(0,vp b0 0),(3,vp ag 0),(4,ar),(5,vi ab),(11,v0_2),(12,vi p0_2.length),(13,vi ai),(20,v0_5),(21,vi p0_5.length),(22,vi ab),(40,vb ax)] [bc 79 b0 [v0_0,v0_1,v0_2,v0_3,v0_4,v0_5,ah,v0_7,v0_8,v0_9,v0_10,v0_11],rd v0_2 p0_2,rd v0_5 p0_5,own 63 ah af,pt (vp ag 0) aj,own 3 ar ak]) ax ?_ ?_
   ·refine RC.region (RL.i7 7 j zr yL ry fun bp j=>(RL.bJ aj.gD 0 j xo (mv (vb aj.gD) (gv o (fun ad o=>?_) fun ad o=>?_))))
    rotate_left
    ·refine cA ad (cA ad (cA ad (cA ad (gw ad (vb false) (mv (vb false) (nr (nr (nr ?_))))))))
     refine nr (RL.pick false (vb false) zr (RL.nil ?_))
     obtain rfl:=oi o
     exact⟨rfl,j.sp 10 [4,5,6,7,8,9]⟩
    refine RL.bU (hg:=(cg ad)) 8 aj j ot fun a8 j=>(RL.bF (hg:=(cg ad)) zr Cd (RL.aO (hg:=(cg ad)) 2 j zr oA cP ?_))
    obtain⟨a1,a9,o⟩:=bd o
    refine RL.call (cg ad) zr GR [a8,(vi aw.eQ)] zr (aF (l6 N (p1:=aw.eQ) (i0:=0) j zr a9) ?_)
    rintro _ w ⟨rfl,j⟩
    refine gw ad (vb a1) (mv (vb a1) (gv o (fun ae o=>?_) fun ae o=>?_))
    rotate_left
    ·refine cA ae (cA ae (cA ae (cA ae (gw ae (vb false) (RL.nil ?_)))))
     obtain rfl:=oi o
     exact⟨rfl,j.sp 11 [5,6,7,8,9,10]⟩
    refine RL.bF (hg:=(cg ae)) zr Ce (RL.aR (hg:=(cg ae)) 2 j zr oC yH fun ba j=>(RL.makeFunc (hg:=(cg ae)) [(vp ag 0)] ?_))
    obtain⟨bb,bf,o⟩:=bd o
    refine RL.call (cg ae) rfl HZ [ba,(.func (.func 55) #[] #[(vp ag 0)])] rfl (aF (j8 N (i0:=0) j rfl ⟨55,[(vp ag 0)],rfl,JM,fun w Γl v y0 r i j hi hr=>by exact aF (oQ N (i0:=i) (i1:=Γl.length+10) j hi (yp rfl) hr) fun _ _ h=>h⟩ bf) ?_)
    rintro _ w ⟨rfl,j⟩
    refine gw ae (vb bb) (RL.nil ?_)
    obtain rfl:=oi o
    exact⟨rfl,j.sp 12 [6,7,8,9,10,11]⟩
   rintro _ w ⟨O,rfl,j⟩
   refine aG ?_
   obtain⟨ay,o,hb⟩:=bd hb
   refine RC.jn (fun(ay: (List Int)) U w=>∃au:Value,SH E V [(0,vp b0 0),(3,vp ag 0),(4,au),(11,v0_2),(12,vi p0_2.length),(13,vi ai),(20,v0_5),(21,vi p0_5.length),(22,vi ab)] [bc 79 b0 [v0_0,v0_1,v0_2,v0_3,v0_4,v0_5,ah,v0_7,v0_8,v0_9,v0_10,v0_11],rd v0_2 p0_2,rd v0_5 p0_5,own 63 ah af,pt (vp ag 0) aj,own 3 au ay] U w) ay ?_ ?_
   ·refine fy o (fun hc o=>?_) fun hc o=>?_
    rotate_left
    ·refine RC.skip ?_
     obtain rfl:=oi o
     exact⟨rfl,ar,j.sp 6 [0,1,2,3,4,5]⟩
    refine RC.region (mv ar (mv (vi ab) ?_))
    have j:=j.sc Int (ab:Int)
    refine RL.eH ([(ab:Int)]: (List Int)) j [(vi ab)] eI D1 (fun M hs g=>⟨(g.sat 0 _ zr).1,zt⟩) fun bq w j=>?_
    have j:=j.freeze 0
    obtain⟨br,bh,o⟩:=bd o
    refine RL.app 7 0 j tE bh fun a2 w j=>?_
    refine aM a2 (RL.nil ?_)
    obtain rfl:=oi o
    exact⟨rfl,a2,j.sp 8 [2,3,4,5,6,7]⟩
   rintro _ w ⟨au,O,rfl,j⟩
   refine bQ (aG (RC.region (RL.inc hk hm (mv (vi ((ab+1:Nat):Int)) (RL.nil ?_)))))
   obtain rfl:=oi hb
   exact⟨rfl,au,j.sp 6 [0,1,2,3,4,5]⟩
  rintro _ w ⟨ao,O,rfl,j⟩
  refine aG (RC.region (mv (vp b0 0) (mv (vp b0 0) (RL.nilCheck zr (RL.bF zr uO (RL.bA 0 ah j C2 (mv ao ?_)))))))
  have j:=j.freeze 5
  refine RL.eH ([ak]: (List (List Int))) j [ao] yM H0 (fun M hs g=>⟨(g.sat 5 _ zr).1,zt⟩) fun bt w j=>?_
  have j:=j.freeze 0
  obtain⟨bu,bj,hb⟩:=bd hb
  refine RL.app 4 0 j H2 bj fun a3 w j=>?_
  refine RL.nilCheck zr (RL.bF zr uO (RL.ir 1 a3 j zr zr (jw 4 j) C2 fun w j=>?_))
  refine RL.nil (bQ (aG (RC.region (RL.inc hk hm (mv (vi ((ai+1:Nat):Int)) (RL.nil ?_))))))
  obtain rfl:=oi hb
  exact⟨rfl,a3,j.sp 7 [1,4,2,3]⟩
 rintro _ w ⟨aq,O,rfl,j⟩
 obtain rfl:=oi hb
 refine zn ?_
 exact Fi zr ⟨aq,zr,j.pk 4 [0,1]⟩
def sP (E:World) (V:List HP) (res: ((List Int))) (v:Value) (w:World):Prop:=∃(ub0:Nat) (u0_0:Value),v=vp ub0 0/\Holds E w ([bc 128 ub0 [u0_0],own 3 u0_0 res]++V)
theorem m8 {res: ((List Int))} (j:Holds E w V) (hb:ij N p0=some res):
    Calls bH 36 [(vi p0)].toArray w (gI (sP E V res)):=by
 unfold ij at hb
 refine enter Tryz.func36 zr zr (RC.sr (aM (.pointer none) (RL.ns (mv (vi p0) ?_))))
 obtain⟨af,aj,hb⟩:=bd hb
 refine RL.mk p0 j tE Hg aj fun o w j=>?_
 refine RL.GD (zs:=[(.slice none 0 0)]) (cs:=[o]) zt zr [(0,o)] zr H3 ⟨(jw 0 j),zt⟩ zr (RL.B2 (cs:=[o]) zt zr j zr (zG.all (⟨(jw 0 j),zt⟩:zG [o])) fun ab w j=>?_)
 refine aM (vp ab 0) (RL.nq (RC.sr (mv (vp ab 0) (RL.nilCheck zr (RL.bF zr nv (RL.bA 0 o j fx (RL.eK 1 af j lZ (mv (vi 0) ?_))))))))
 refine RL.nt ?_
 obtain⟨ae,hN,hb⟩:=bd hb
 refine RC.fold (fun(ad:Nat) (ae: (List Int))=>SH E V [(3,vp ab 0),(13,vi af.length),(14,vi ad)] [bc 128 ab [o],own 3 o ae]) (fun(ae: (List Int))=>SH E V [(3,vp ab 0)] [bc 128 ab [o],own 3 o ae]) hN ?_ ?_ ?_ ?_
 ·exact j.sp 2 [0,1]
 ·rintro hm ae _ w ⟨O,rfl,j⟩
  refine RC.sr (ic ((af.length:Int)) ((af.length:Int)) (RL.nq (RC.cX mT (RC.ex ?_))))
  exact⟨rfl,j.sp 2 [0,1]⟩
 ·rintro hm ad ae s' _ w hk ⟨O,rfl,j⟩ hb
  refine RC.sr (ic ((ad:Int)) ((af.length:Int)) (RL.nq (RC.cW (mS hk) (RC.ss (RC.bs (mv (vi ad) (aM (vi ad) (RL.nt ?_))))))))
  refine RC.region (mv (vp ab 0) (RL.nilCheck zr (RL.bF zr nv (RL.bA 0 o j fx (mv (vi ad) (mv (vi ad) ?_))))))
  obtain⟨al,ag,hb⟩:=bd hb
  refine RL.bL 1 j zr zr eI ag ?_
  have j:=j.sc Int (ad:Int)
  refine RL.gx (f:=(fun _ y=>y)) 2 0 j (jr 2 j ag 0) (aZ ag).2.1 zr Fs.self cP fun w j=>?_
  refine RL.nil (bQ (aG (RC.region (RL.inc hk hm (mv (vi ((ad+1:Nat):Int)) (RL.nil ?_))))))
  obtain rfl:=oi hb
  exact⟨rfl,j.sp 3 [1,2]⟩
 rintro _ w ⟨O,rfl,j⟩
 refine aG (RC.sr (mv (vp ab 0) (aM (vp ab 0) (RL.nt (RC.ret ?_)))))
 obtain rfl:=oi hb
 exact cH ⟨ab,o,zr,j.pk 2 [0,1]⟩
def rW (E:World) (V:List HP) (b0:Nat) (res:Int×(List Int)) (v:Value) (w:World):Prop:=∃u0_0:Value,v= (vi res.1)/\Holds E w ([bc 128 b0 [u0_0],own 3 u0_0 res.2]++V)
theorem fV {p0_0: (List Int)} {res:Int×(List Int)} (j:Holds E w (bc 128 b0 [v0_0]::own 3 v0_0 p0_0::V)) (o:dI N p0_0 p1=some res):
    Calls bH 39 [(vp b0 0),(vi p1)].toArray w (gI (rW E V b0 res)):=by
 unfold dI at o
 refine enter Tryz.func39 zr zr (RC.sr (aM (vi 0) (RL.nq ?_)))
 obtain⟨an,hN,o⟩:=bd o
 refine RC.iter (fun(aa: (List Int)×Int)=>SH E V [(0,vp b0 0),(1,vi aa.2)] [bc 128 b0 [v0_0],own 3 v0_0 aa.1]) (fun(aa: (List Int)×Int)=>SH E V [(0,vp b0 0),(1,vi aa.2)] [bc 128 b0 [v0_0],own 3 v0_0 aa.1]) (fun(r:Empty) _ _=>r.elim) hN ?_ ?_ ?_ ?_
 ·exact j.sp 2 [0,1]
 ·rintro aa fl _ w ⟨O,rfl,j⟩ o
  refine RC.seq (RC.sr (mv (vp b0 0) (RL.nilCheck zr (RL.bF zr nv (RL.bA 0 v0_0 j fx (mv (vi aa.2) ?_))))))
  obtain⟨ai,ab,o⟩:=bd o
  refine RL.bL 1 j zr zr eI ab (RL.dS (f:=(fun x=>x)) 1 j (jr 1 j ab 0) (aZ ab).2.1 Fd.self cP (mv (vi aa.2) (ic ai aa.2 (RL.nt (fy o (fun hc o=>?_) fun hc o=>?_)))))
  rotate_left
  ·refine RC.ex ?_
   obtain rfl:=oi o
   exact⟨rfl,j.sp 2 [0,1]⟩
  refine RC.sn (RC.block (RC.seq (RC.yF mixed [0,0,0,0,0,0,0,0,0,0,0,0,0,0,0,0,0,0,0,2] [0,1,2,3,4,5,6,7,8,9,10,11,12,13,14,15,16,17,18,19] ?_)))
  have j:=j.drew
  refine DP.e0 zr (mv (vp b0 0) (cT zr (RL.nilCheck zr (cT zr (RL.bF zr nv (cT zr (RL.bA 0 v0_0 j fx (cT zr ?_))))))))
  refine mv (vi aa.2) (cT zr (mv (vp b0 0) (cT zr (RL.nilCheck zr (cT zr (RL.bF zr nv (cT zr (RL.bA 0 v0_0 j fx ?_))))))))
  refine cT zr (mv (vp b0 0) (cT zr (RL.nilCheck zr (cT zr (RL.bF zr nv (cT zr (RL.bA 0 v0_0 j fx (cT zr ?_))))))))
  refine mv (vi aa.2) (cT zr ?_)
  obtain⟨aq,ad,o⟩:=bd o
  refine RL.bL 1 j zr zr eI ad (cT zr (RL.dS (f:=(fun x=>x)) 1 j (jr 1 j ad 0) (aZ ad).2.1 Fd.self cP (cT zr ?_)))
  obtain⟨ak,ae,o⟩:=bd o
  refine RL.bL 1 j zr zr eI ae (cT zr (RL.dS (f:=(fun x=>x)) 1 j (jr 1 j ae 0) (aZ ae).2.1 Fd.self cP (cT zr ?_)))
  obtain⟨ar,af,o⟩:=bd o
  refine RL.bL 1 j zr zr eI af (vF zr ?_)
  have j:=j.sc Int ak
  refine RL.gx (f:=(fun _ y=>y)) 2 0 j (jr 2 j af 0) (aZ af).2.1 zr Fs.self cP fun w j=>?_
  refine DP.d2 zt (DP.z (aG (RC.region (mv (vp b0 0) (RL.nilCheck zr (RL.bF zr nv (RL.bA 1 v0_0 j fx (mv (vi aa.2) ?_))))))))
  obtain⟨al,ag,o⟩:=bd o
  refine RL.bL 2 j zr zr eI ag (RL.dS (f:=(fun x=>x)) 2 j (jr 2 j ag 0) (aZ ag).2.1 Fd.self cP (aM (vi al) (RL.nil (bQ ?_))))
  obtain rfl:=oi o
  exact⟨rfl,j.sp 3 [1,2]⟩
 ·intro r _ _ _ _
  exact r.elim
 rintro aa _ w rfl ⟨O,rfl,j⟩
 rw [Fo.fW] at o
 refine aG (RC.sr (mv (vi aa.2) (aM (vi aa.2) (RL.nt (RC.ret ?_)))))
 obtain rfl:=oi o
 exact cH ⟨v0_0,zr,j.pk 2 [0,1]⟩
def qV (E:World) (V:List HP) (b0:Nat) (res: (List Int)) (v:Value) (w:World):Prop:=∃u0_0:Value,v = .tuple #[]/\Holds E w ([bc 128 b0 [u0_0],own 3 u0_0 res]++V)
theorem mh {p0_0: (List Int)} {res: (List Int)} (j:Holds E w (bc 128 b0 [v0_0]::own 3 v0_0 p0_0::V)) (o:eR N p0_0 p1 p2=some res):
    Calls bH 38 [(vp b0 0),(vi p1),(vi p2)].toArray w (gI (qV E V b0 res)):=by
 unfold eR at o
 refine enter Tryz.func38 zr zr (RC.sr (mv (vp b0 0) (mv (vi p1) ?_)))
 have j:=(j.pull 1).pull 1
 obtain⟨aa,af,o⟩:=bd o
 refine RL.call zt zr C3 [(vp b0 0),(vi p1)] zr (aF (fV N (p1:=p1) j af) ?_)
 rintro _ w ⟨ah,rfl,j⟩
 refine mv (vp b0 0) (mv (vi p2) ?_)
 have j:=(j.pull 1).pull 1
 obtain⟨ab,ag,o⟩:=bd o
 refine RL.call zt zr C3 [(vp b0 0),(vi p2)] zr (aF (fV N (p1:=p2) j ag) ?_)
 rintro _ w ⟨ae,rfl,j⟩
 refine aM (vi aa.1) (aM (vi ab.1) (RL.nt (RC.region (mv (vp b0 0) (RL.nilCheck zr (RL.bF zr nv (RL.bA 0 ae j fx (mv (vi aa.1) ?_))))))))
 refine mv (vi ab.1) (RL.max aa.1 ab.1 (mv (vi aa.1) (mv (vi ab.1) (RL.min aa.1 ab.1 ?_))))
 obtain⟨ai,ad,o⟩:=bd o
 refine RL.bL 1 j zr zr eI ad ?_
 have j:=j.sc Int (if ab.1<aa.1 then ab.1 else aa.1)
 refine RL.gx (f:=(fun _ y=>y)) 2 0 j (jr 2 j ad 0) (aZ ad).2.1 zr Fs.self cP fun w j=>?_
 refine RL.nil ?_
 obtain rfl:=oi o
 refine zn ?_
 exact Fi zr ⟨ae,zr,j.pk 7 [1,2]⟩
def qW (E:World) (V:List HP) (b0:Nat) (res: (List (List Int))×(List Int)) (v:Value) (w:World):Prop:=∃u0 u0_0:Value,v=u0/\Holds E w ([own 63 u0 res.1,bc 128 b0 [u0_0],own 3 u0_0 res.2]++V)
theorem qo {p0_0: (List Int)} {res: (List (List Int))×(List Int)} (o:Holds E w (bc 128 b0 [v0_0]::own 3 v0_0 p0_0::V)) (hb:iz N p0_0=some res):
    Calls bH 57 [(vp b0 0)].toArray w (gI (qW E V b0 res)):=by
 unfold iz at hb
 refine enter Tryz.func57 zr zr (RC.sr (aM (.slice none 0 0) (RL.ns (aM (.slice none 0 0) (RL.ns (RL.makeMap (κ:=Int) (ν:=Int) o fun aq w o=>(aM aq (RL.nq ?_))))))))
 refine RC.sr (mv (vp b0 0) (RL.nilCheck zr (RL.bF zr nv (RL.bA 1 v0_0 o fx (RL.eK 2 p0_0 o lZ (mv (vi 0) (RL.nt ?_)))))))
 obtain⟨ao,hN,hb⟩:=bd hb
 refine RC.fold (fun(ai:Nat) (ao: (List Int)×(List (List Int))×(List (Int×Int))) U w=>∃(a3 a4:Value) (us110:List RV),SH E V [(0,vp b0 0),(3,a4),(4,aq),(12,vi p0_0.length),(13,vi ai)] [bc 128 b0 [a3],own 3 a3 ao.1,mp aq ao.2.2,own 63 a4 us110,iH (XS 3 Int) us110 ao.2.1 none] U w) (fun(ao: (List Int)×(List (List Int))×(List (Int×Int))) U w=>∃(aw au:Value) (us113:List RV),SH E V [(0,vp b0 0),(3,au)] [bc 128 b0 [aw],own 3 aw ao.1,mp aq ao.2.2,own 63 au us113,iH (XS 3 Int) us113 ao.2.1 none] U w) hN ?_ ?_ ?_ ?_
 ·have o:=(o.yu (XS 3 Int)).cV RV 63
  exact⟨v0_0,(.slice none 0 0),([]:List RV),o.sp 5 [3,4,2,0,1]⟩
 ·rintro hm ao _ w ⟨ba,bb,us153,O,rfl,o⟩
  refine RC.sr (ic ((p0_0.length:Int)) ((p0_0.length:Int)) (RL.nq (RC.cX mT (RC.ex ?_))))
  exact⟨rfl,ba,bb,us153,o.sp 5 [0,1,2,3,4]⟩
 ·rintro hm ai ao s' _ w hk ⟨bk,a0,us116,O,rfl,o⟩ hb
  refine RC.sr (ic ((ai:Int)) ((p0_0.length:Int)) (RL.nq (RC.cW (mS hk) (RC.ss (RC.bs (mv (vi ai) (aM (vi ai) (RL.ns ?_))))))))
  refine mv (vp b0 0) (mv (vi ai) ?_)
  have o:=(o.pull 1).pull 1
  obtain⟨ab,bf,hb⟩:=bd hb
  refine RL.call zt zr C3 [(vp b0 0),(vi ai)] zr (aF (fV N (p1:=(ai:Int)) o bf) ?_)
  rintro _ w ⟨av,rfl,o⟩
  refine aM (vi ab.1) (RL.nq (RC.sr (mv (vi ab.1) (mv (vi ai) (ic ab.1 ((ai:Int)) (RL.nt ?_))))))
  obtain⟨aa,hj,hb⟩:=bd hb
  refine RC.jn (fun(aa: (List (List Int))×(List (Int×Int))) U w=>∃(an:Value) (us124:List RV),SH E V [(0,vp b0 0),(3,an),(4,aq),(5,vi ai),(6,vi ab.1),(12,vi p0_0.length),(13,vi ai)] [bc 128 b0 [av],own 3 av ab.2,mp aq aa.2,own 63 an us124,iH (XS 3 Int) us124 aa.1 none] U w) aa ?_ ?_
  ·refine fy hj (fun hc hj=>?_) fun hc hj=>?_
   rotate_left
   ·refine RC.skip ?_
    obtain rfl:=oi hj
    exact⟨rfl,a0,us116,o.sp 7 [0,1,4,5,6]⟩
   refine RC.sr (mv aq (mv (vi ai) (mv a0 (RL.qx 5 6 ao.2.1 zr o zr zr zr Ee ?_))))
   have o:=o.sc Int (ao.2.1.length:Int)
   refine RL.mapUpdate 5 0 (ai:Int) o zr zr zr zr zr Ac fun w o=>(RL.nt (RC.region (mv a0 ?_)))
   have o:=(o.cV Int 3).B0 (i:=0) rfl
   refine RL.eH ([rv (.slice none 0 0)]:List RV) o [(.slice none 0 0)] yM H0 (fun M hs g=>⟨(g.sat 0 _ zr).1,zt⟩) fun bl w o=>?_
   obtain⟨bm,bh,hj⟩:=bd hj
   have o:=o.freeze 0
   refine RL.zL 9 0 10 2 zt zr o zr zr zr zr zr zr H2 bh fun a7 w o=>?_
   refine aM a7 (RL.nil ?_)
   obtain rfl:=oi hj
   exact⟨rfl,a7,(us116++[rv (.slice none 0 0)]),o.sp 11 [4,5,8,9,10]⟩
  rintro _ w ⟨an,us124,O,rfl,o⟩
  refine aG ?_
  obtain⟨bn,ax,hb⟩:=bd hb
  obtain⟨uD,bj,hb⟩:=bd hb
  obtain⟨bo,a1,hb⟩:=bd hb
  refine RC.Ba E V mixed [1,1,1,0,1,1,1,0,0,0,1,0,0,0,0] [11,12,14] (fun(x:Value×Value)=>(fun ak ag=>[(0,29,an),(1,30,aq),(2,31,(vi ab.1)),(3,32,(vi (cL aa.2 ab.1 (0:Int)))),(4,33,an),(5,34,aq),(6,35,(vi ab.1)),(7,36,(vi (cL aa.2 ab.1 (0:Int)))),(8,37,(zg an (Int.toNat (cL aa.2 ab.1 (0:Int))) 1 0)),(9,38,(us124.getD (Int.toNat (cL aa.2 ab.1 (0:Int))) zh).v),(10,39,(vi ai)),(11,40,ak),(12,41,ag),(13,42,(zg an (Int.toNat (cL aa.2 ab.1 (0:Int))) 1 0))]) x.1 x.2) [(0,vp b0 0),(3,an),(4,aq),(5,vi ai),(6,vi ab.1),(12,vi p0_0.length),(13,vi ai)] [] (fun(D:Nat->Bool) (x:Value×Value)=>(fun ak ag=>[bif D 1 then (rd ak ([(ai:Int)]: (List Int))) else (bif D 0 then (own 3 ak ([(ai:Int)]: (List Int))) else aU),bif D 2 then aU else (bif D 1 then (own 3 ag uD) else aU),bc 128 b0 [av],own 3 av ab.2,mp aq aa.2,bif D 2 then (own 63 an (us124.set (Int.toNat (cL aa.2 ab.1 (0:Int))) (rv ag))) else (own 63 an us124),bif D 2 then (iH (XS 3 Int) (us124.set (Int.toNat (cL aa.2 ab.1 (0:Int))) (rv ag)) (aa.1.set (Int.toNat (cL aa.2 ab.1 (0:Int))) uD) none) else (bif D 1 then (iH (XS 3 Int) us124 aa.1 (some (Int.toNat (cL aa.2 ab.1 (0:Int))))) else (iH (XS 3 Int) us124 aa.1 none))]) x.1 x.2) (fun x=>by kernel_rfl) ?_ ⟨fun _=>gA gn,fun _=>gA gn,fun _=>gA gn,?_,fun _=>gA gn,fun _=>gA gn,fun _=>gA gn,?_,?_,?_,fun _=>gA gn,?_,?_,?_,?_,trivial⟩ ?_
  ·have o:=((o.drew).aU).aU
   exact⟨(undef,undef),dX.none,(zZ zr),zt,o⟩
  ·rintro D U w hD ah ae ⟨⟨ak,ag⟩,hv,ha,_,o⟩
   obtain⟨O,rfl⟩:=(ac (hv.at 1 rfl (ah.1 rfl)) (ac (hv.at 2 rfl (ah.2.1 rfl)) az)).dT
   refine RL.lP 4 ab.1 o zr Ac ?_
   exact RL.nil ⟨rfl,(ak,ag),hv.pu 3,ha.u,zt,o⟩
  ·rintro D U w hD ah ae ⟨⟨ak,ag⟩,hv,ha,_,o⟩
   obtain⟨O,rfl⟩:=(ac (hv.at 5 rfl (ah.1 rfl)) (ac (hv.at 6 rfl (ah.2.1 rfl)) az)).dT
   refine RL.lP 4 ab.1 o zr Ac ?_
   exact RL.nil ⟨rfl,(ak,ag),hv.pu 7,ha.u,zt,o⟩
  ·rintro D U w hD ah ae ⟨⟨ak,ag⟩,hv,ha,_,o⟩
   obtain⟨O,rfl⟩:=(ac (hv.at 4 rfl (ah.1 rfl)) (ac (hv.at 7 rfl (ah.2.1 rfl)) az)).dT
   have o:=((o.bM 5 (nh ae hD 14)).bM 6 (nh ae hD 14)).bM 6 (nf (fun h=>ft hD ((ae 9 _ rfl ((ae 12 _ rfl h).1 rfl)).1 rfl)))
   have hl141:=o.gK 6 rfl
   have hr142:=jy zh hl141 ax
   refine RL.bL 5 o zr zr yM hr142 ?_
   have o:=(o.fw 5 (D 14) (nh ae hD 14) (own 63 an (us124.set (Int.toNat (cL aa.2 ab.1 (0:Int))) (rv ag)))).fw 6 (D 12) (nf (fun h=>ft hD ((ae 9 _ rfl ((ae 12 _ rfl h).1 rfl)).1 rfl))) (iH (XS 3 Int) us124 aa.1 (some (Int.toNat (cL aa.2 ab.1 (0:Int)))))
   have o:=o.fw 6 (D 14) (nh ae hD 14) (iH (XS 3 Int) (us124.set (Int.toNat (cL aa.2 ab.1 (0:Int))) (rv ag)) (aa.1.set (Int.toNat (cL aa.2 ab.1 (0:Int))) uD) none)
   exact RL.nil ⟨rfl,(ak,ag),hv.pu 8,ha.u,zt,o⟩
  ·rintro D U w hD ah ae ⟨⟨ak,ag⟩,hv,ha,_,o⟩
   obtain⟨O,rfl⟩:=(ac (hv.at 8 rfl (ah.1 rfl)) az).dT
   have o:=((o.bM 5 (nh ae hD 14)).bM 6 (nh ae hD 14)).bM 6 (nh ae hD 12)
   have hl143:=o.gK 6 rfl
   have hr144:=jy zh hl143 ax
   refine RL.uC 5 6 (cL aa.2 ab.1 (0:Int)) (xV 3 Int) zh zr o zr (jr 5 o hr144 0) zr zr ax fx ?_
   have o:=(o.fw 5 (D 14) (nh ae hD 14) (own 63 an (us124.set (Int.toNat (cL aa.2 ab.1 (0:Int))) (rv ag)))).fw 6 (D 12) (nh ae hD 12) (iH (XS 3 Int) us124 aa.1 (some (Int.toNat (cL aa.2 ab.1 (0:Int)))))
   have o:=o.fw 6 (D 14) (nh ae hD 14) (iH (XS 3 Int) (us124.set (Int.toNat (cL aa.2 ab.1 (0:Int))) (rv ag)) (aa.1.set (Int.toNat (cL aa.2 ab.1 (0:Int))) uD) none)
   exact RL.nil ⟨rfl,(ak,ag),hv.pu 9,ha.u,zt,o⟩
  ·rintro D U w hD ah ae ⟨⟨ak,ag⟩,hv,ha,_,o⟩
   obtain⟨O,rfl⟩:=(ac (hv.at 10 rfl (ah.1 rfl)) az).dT
   have o:=((o.bM 0 (nh ae hD 12)).bM 0 hD).sc Int (ai:Int)
   refine RL.eH ([(ai:Int)]: (List Int)) o [(vi ai)] eI D1 (fun M hs g=>⟨(g.sat 0 _ zr).1,zt⟩) fun a8 w o=>?_
   have o:=((o.pl 9 [0,3,4,5,6,7,8]).bS 0 true rfl aU).fw 0 (D 12) (nh ae hD 12) (rd a8 ([(ai:Int)]: (List Int)))
   exact RL.nil ⟨rfl,(a8,ag),hv.pu 11,ha.u,zt,o⟩
  ·rintro D U w hD ah ae ⟨⟨ak,ag⟩,hv,ha,_,o⟩
   obtain⟨O,rfl⟩:=(ac (hv.at 9 rfl (ah.1 rfl)) (ac (hv.at 11 rfl (ah.2.1 rfl)) az)).dT
   have o:=(((((((o.bM 0 hD).bR 0 (ah.2.1 rfl)).bM 1 (nh ae hD 14)).bM 1 hD).bM 5 (nh ae hD 14)).bM 6 (nh ae hD 14)).bM 6 hD).yv (j:=6) (jj:=(cL aa.2 ab.1 (0:Int))) (xV 3 Int) zh rfl ax
   have o:=o.freeze 1
   refine RL.app 0 1 o tE bj fun a2 w o=>?_
   have o:=((((o.pl 8 [1,0,3,4,5,6,7]).bS 0 true rfl (bif D 11 then (own 3 ak ([(ai:Int)]: (List Int))) else aU)).bS 1 true rfl aU).fw 1 (D 14) (nh ae hD 14) aU).fw 5 (D 14) (nh ae hD 14) (own 63 an (us124.set (Int.toNat (cL aa.2 ab.1 (0:Int))) (rv a2)))
   have o:=(o.bS 6 true rfl (iH (XS 3 Int) us124 aa.1 none)).fw 6 (D 14) (nh ae hD 14) (iH (XS 3 Int) (us124.set (Int.toNat (cL aa.2 ab.1 (0:Int))) (rv a2)) (aa.1.set (Int.toNat (cL aa.2 ab.1 (0:Int))) uD) none)
   exact RL.nil ⟨rfl,(ak,a2),hv.pu 12,ha.u,zt,o⟩
  ·rintro D U w hD ah ae ⟨⟨ak,ag⟩,hv,ha,_,o⟩
   obtain⟨O,rfl⟩:=(ac (hv.at 0 rfl (ah.1 rfl)) (ac (hv.at 3 rfl (ah.2.1 rfl)) az)).dT
   have o:=((o.bM 5 (nh ae hD 14)).bM 6 (nh ae hD 14)).bR 6 (ah.2.2.2.2.2.2.2.2.2.2.2.2.2.2.1 rfl)
   have hl147:=o.gK 6 rfl
   have hr148:=jy zh hl147 a1
   refine RL.bL 5 o zr zr yM hr148 ?_
   have o:=(o.fw 5 (D 14) (nh ae hD 14) (own 63 an (us124.set (Int.toNat (cL aa.2 ab.1 (0:Int))) (rv ag)))).bS 6 (D 12) (ah.2.2.2.2.2.2.2.2.2.2.2.2.2.2.1 rfl) (iH (XS 3 Int) us124 aa.1 none)
   have o:=o.fw 6 (D 14) (nh ae hD 14) (iH (XS 3 Int) (us124.set (Int.toNat (cL aa.2 ab.1 (0:Int))) (rv ag)) (aa.1.set (Int.toNat (cL aa.2 ab.1 (0:Int))) uD) none)
   exact RL.nil ⟨rfl,(ak,ag),hv.pu 13,ha.u,zt,o⟩
  ·rintro D U w hD ah ae ⟨⟨ak,ag⟩,hv,ha,_,o⟩
   obtain⟨O,rfl⟩:=(ac (hv.at 12 rfl (ah.2.1 rfl)) (ac (hv.at 13 rfl (ah.1 rfl)) az)).dT
   have o:=((((o.bM 1 hD).bR 1 (ah.2.1 rfl)).bM 5 hD).bM 6 hD).bR 6 (ah.2.1 rfl)
   have hl149:=o.gK 6 rfl
   have hr150:=jy zh hl149 a1
   refine RL.sD 5 6 1 (cL aa.2 ab.1 (0:Int)) (xV 3 Int) zh o zr zr (jr 5 o hr150 0) zr zr zr a1 fx fun w o=>?_
   have o:=((o.bS 1 true rfl (bif D 12 then (own 3 ag uD) else aU)).bS 5 true rfl (own 63 an us124)).bS 6 true rfl (bif D 12 then (iH (XS 3 Int) us124 aa.1 (some (Int.toNat (cL aa.2 ab.1 (0:Int))))) else (iH (XS 3 Int) us124 aa.1 none))
   exact RL.nil ⟨rfl,(ak,ag),hv.n1,ha,zt,o⟩
  rintro D U w ay ⟨⟨ak,ag⟩,hv,ha,_,o⟩
  have o:=(((o.bR 0 (gR ay 12)).bR 1 (gR ay 14)).bR 5 (gR ay 14)).bR 6 (gR ay 14)
  obtain⟨O,rfl⟩:=(ac (ha.at 0 rfl) (ac (ha.at 1 rfl) (ac (ha.at 2 rfl) (ac (ha.at 3 rfl) (ac (ha.at 4 rfl) (ac (ha.at 5 rfl) (ac (ha.at 6 rfl) az))))))).dT
  refine bQ (aG (RC.region (RL.inc hk hm (mv (vi ((ai+1:Nat):Int)) (RL.nil ?_)))))
  obtain rfl:=oi hb
  exact⟨rfl,av,an,(us124.set (Int.toNat (cL aa.2 ab.1 (0:Int))) (rv ag)),o.sp 7 [2,3,4,5,6]⟩
 rintro _ w ⟨aw,au,us113,O,rfl,o⟩
 refine aG (RC.sr (mv au (aM au (RL.nt (RC.ret ?_)))))
 obtain rfl:=oi hb
 have o:=o.yw (X:=(XS 3 Int)) (b:=4) (j:=3) rfl (fun M h u x cs=>(Ga 3) M h u x cs) rfl rfl (by decide)
 exact cH ⟨au,aw,zr,o.pk 5 [3,0,1]⟩
theorem qp {p0:aI} {p1:j6} {res:Bool} (j:Holds E w V) (h0:V[i0]? =some (rd v0 p0)) (h1:V[i1]? =some (pt v1 p1)) (hb:jB N p0 p1=some res):
    Calls bH 99 [v0,v1].toArray w (gI (bB E V res)):=by
 unfold jB at hb
 refine enter Tryz.func99 zr zr ?_
 have j:=(j.dup (i0+0) h0).uA (i:=i1+1) h1
 refine RC.sr (RL.cR 1 v0 j zr fun ag w j=>?_)
 refine aM (vb false) (RL.nq ?_)
 obtain⟨af,o,hb⟩:=bd hb
 refine RC.jn (fun(af:Bool)=>SH E V [(3,vb af)] []) af ?_ ?_
 ·refine RC.region (RL.i7 1 j zr yJ pL fun ah j=>(RL.bJ p1.X 0 j cP (RL.bF zr ji (RL.aO 1 j zr fu cP (ic p1.X p0.X0 (mv (vb (decide (p1.X>=p0.X0))) (gv o (fun aa o=>?_) fun aa o=>?_)))))))
  rotate_left
  ·refine cA aa (cA aa (cA aa (cA aa (cA aa (gw aa (vb false) (mv (vb false) (nr (nr ?_))))))))
   refine nr (nr (nr (RL.pick false (vb false) zr (mv (vb false) (nr (nr (nr (nr ?_))))))))
   refine nr (RL.pick false (vb false) zr (aM (vb false) (RL.nil ?_)))
   obtain rfl:=oi o
   exact⟨rfl,j.sp 4 []⟩
  refine RL.i7 (hg:=(cg aa)) 2 j zr yJ pL fun ai j=>(RL.bJ (hg:=(cg aa)) p1.X 0 j cP (RL.bF (hg:=(cg aa)) zr jW (RL.aO (hg:=(cg aa)) 2 j zr fU cP (RL.kz p1.X p0.X1 (cg aa) (gw aa (vb (decide (p1.X<p0.X1))) (mv (vb (decide (p1.X<p0.X1))) (gv o (fun ab o=>?_) fun ab o=>?_)))))))
  rotate_left
  ·refine cA ab (cA ab (cA ab (cA ab (cA ab (gw ab (vb false) (mv (vb false) (nr (nr ?_))))))))
   refine nr (nr (nr (RL.pick false (vb false) zr (aM (vb false) (RL.nil ?_)))))
   obtain rfl:=oi o
   exact⟨rfl,j.sp 5 []⟩
  refine RL.i7 (hg:=(cg ab)) 3 j zr yK pM fun aj j=>(RL.bJ (hg:=(cg ab)) p1.Y 0 j cP (RL.bF (hg:=(cg ab)) zr jV (RL.aO (hg:=(cg ab)) 3 j zr fG cP (RL.kz p1.Y p0.Y0 (cg ab) (gw ab (vb (decide (p1.Y>=p0.Y0))) (mv (vb (decide (p1.Y>=p0.Y0))) (gv o (fun ad o=>?_) fun ad o=>?_)))))))
  ·refine RL.i7 (hg:=(cg ad)) 4 j zr yK pM fun ak j=>(RL.bJ (hg:=(cg ad)) p1.Y 0 j cP (RL.bF (hg:=(cg ad)) zr mZ (RL.aO (hg:=(cg ad)) 4 j zr iM cP (RL.kz p1.Y p0.Y1 (cg ad) (gw ad (vb (decide (p1.Y<p0.Y1))) (aM (vb (decide (p1.Y<p0.Y1))) (RL.nil ?_)))))))
   obtain rfl:=oi o
   exact⟨rfl,j.sp 7 []⟩
  refine cA ad (cA ad (cA ad (cA ad (cA ad (gw ad (vb false) (aM (vb false) (RL.nil ?_)))))))
  obtain rfl:=oi o
  exact⟨rfl,j.sp 6 []⟩
 rintro _ w ⟨O,rfl,j⟩
 refine aG (RC.ret ?_)
 obtain rfl:=oi hb
 exact cH ⟨rfl,j.drop 0⟩
theorem nV {p0: (List aI)} {p1:j6} {res:Bool} (j:Holds E w V) (h0:V[i0]? =some (rd v0 p0)) (h1:V[i1]? =some (rd v1 p1)) (o:iL N p0 p1=some res):
    Calls bH 83 [v0,v1].toArray w (gI (bB E V res)):=by
 unfold iL at o
 refine enter Tryz.func83 zr zr ?_
 have j:=(j.dup (i0+0) h0).dup (i1+1) h1
 refine RC.sr (RL.cR 0 v1 j zr fun aa w j=>?_)
 have j:=j.gm (i:=0) rfl
 refine aM (vb false) (RL.ns (mv v0 (RL.makeFunc [(vp aa 0)] ?_)))
 obtain⟨ab,ad,o⟩:=bd o
 refine RL.call trivial rfl HZ [v0,(.func (.func 99) #[] #[(vp aa 0)])] rfl (aF (j8 N (i0:=2) j rfl ⟨99,[(vp aa 0)],rfl,JQ,fun w Γl v y0 r i j hi hr=>by exact aF (qp N (i0:=i) (i1:=Γl.length+0) j hi (yp rfl) hr) fun _ _ h=>h⟩ ad) ?_)
 rintro _ w ⟨rfl,j⟩
 refine aM (vb ab) (RL.nt (RC.ret ?_))
 obtain rfl:=oi o
 exact cH ⟨rfl,j.drop 3⟩
def mM (E:World) (V:List HP) (b0:Nat) (v0_0 v0_1:Value) (v0_2 v0_3:Value) (v0_4 v0_5:Value) (v0_6 v0_7:Value) (v0_8 v0_9:Value) (v0_10 v0_11:Value) (res:bE×Bool) (v:Value) (w:World):Prop:=∃u0:Value,v = .tuple #[u0,(vb res.2)]/\Holds E w ([rd u0 res.1,bc 79 b0 [v0_0,v0_1,v0_2,v0_3,v0_4,v0_5,v0_6,v0_7,v0_8,v0_9,v0_10,v0_11]]++V)
def mN (E:World) (V:List HP) (b0:Nat) (v0_0 v0_1:Value) (v0_2 v0_3:Value) (v0_4 v0_5:Value) (v0_6 v0_7:Value) (v0_8 v0_9:Value) (v0_10 v0_11:Value) (r:bE×Bool) (U:Nat->Value) (w:World):Prop:=mc bH 66 Tryz.f58 (mM E V b0 v0_0 v0_1 v0_2 v0_3 v0_4 v0_5 v0_6 v0_7 v0_8 v0_9 v0_10 v0_11 r) .ret U w
theorem qq {p0_2: (List bW)} {p0_5: (List aH)} {p1:dL} {res:bE×Bool} (j:Holds E w (bc 79 b0 [v0_0,v0_1,v0_2,v0_3,v0_4,v0_5,v0_6,v0_7,v0_8,v0_9,v0_10,v0_11]::rd v0_2 p0_2::rd v0_5 p0_5::V)) (h1:V[i1]? =some (rd v1 p1)) (o:iA N p0_2 p0_5 p1=some res):
    Calls bH 58 [(vp b0 0),v1].toArray w (gI (mM E V b0 v0_0 v0_1 v0_2 v0_3 v0_4 v0_5 v0_6 v0_7 v0_8 v0_9 v0_10 v0_11 res)):=by
 unfold iA at o
 refine enter Tryz.func58 zr zr ?_
 have j:=j.dup (i1+3) h1
 refine RC.sr (RL.cR 0 v1 j zr fun ah w j=>?_)
 have j:=j.gm (i:=0) rfl
 refine RL.alloc j nz.z fun ae w j=>?_
 refine aM (vb false) (RL.nq (RC.sr (mv (vp b0 0) (RL.nilCheck zr (RL.bF zr l3 (RL.bF zr mu (RL.bA 3 v0_2 j uL (RL.bK 4 p0_2 j wq ?_))))))))
 refine mv (vi 0) (RL.nt ?_)
 obtain⟨bn,hN,o⟩:=bd o
 refine RC.range (fun(af:Nat) (al:Unit)=>SH E V [(0,vp b0 0),(3,vp ah 0),(4,vp ae 0),(14,v0_2),(15,vi p0_2.length),(16,vi af)] [bc 79 b0 [v0_0,v0_1,v0_2,v0_3,v0_4,v0_5,v0_6,v0_7,v0_8,v0_9,v0_10,v0_11],rd v0_2 p0_2,rd v0_5 p0_5,pt (vp ah 0) p1,raw 38 ae 2]) (fun(al:Unit)=>SH E V [(0,vp b0 0),(3,vp ah 0),(4,vp ae 0)] [bc 79 b0 [v0_0,v0_1,v0_2,v0_3,v0_4,v0_5,v0_6,v0_7,v0_8,v0_9,v0_10,v0_11],rd v0_2 p0_2,rd v0_5 p0_5,pt (vp ah 0) p1,raw 38 ae 2]) (mN E V b0 v0_0 v0_1 v0_2 v0_3 v0_4 v0_5 v0_6 v0_7 v0_8 v0_9 v0_10 v0_11) hN ?_ ?_ ?_ ?_ ?_
 ·exact j.sp 6 [3,4,5,1,0]
 ·rintro hm al _ w ⟨O,rfl,j⟩
  refine RC.sr (ic ((p0_2.length:Int)) ((p0_2.length:Int)) (RL.nq (RC.cX mT (RC.ex ?_))))
  exact⟨rfl,j.sp 5 [0,1,2,3,4]⟩
 ·rintro hm af al fl _ w hk ⟨O,rfl,j⟩ o
  refine RC.sr (ic ((af:Int)) ((p0_2.length:Int)) (RL.nq (RC.cW (mS hk) (RC.ss (RC.bs (mv (vi af) ?_))))))
  obtain⟨ax,a0,o⟩:=bd o
  refine RL.cG 1 j yI a0 fun bo j=>(RL.bU 0 ax j ot fun bp j=>(RL.alloc j CY.z fun bq w j=>?_))
  refine aM (vi af) (RL.bC 0 j 1 zr ot fun w j=>?_)
  refine RL.nq ?_
  obtain⟨aq,hj,o⟩:=bd o
  refine RC.jn (fun(aq:Bool)=>SH E V [(0,vp b0 0),(3,vp ah 0),(4,vp ae 0),(6,vi af),(14,v0_2),(15,vi p0_2.length),(16,vi af),(36,vb aq)] [bc 79 b0 [v0_0,v0_1,v0_2,v0_3,v0_4,v0_5,v0_6,v0_7,v0_8,v0_9,v0_10,v0_11],rd v0_2 p0_2,rd v0_5 p0_5,pt (vp ah 0) p1,raw 38 ae 2]) aq ?_ ?_
  ·refine RC.yF mixed [0,0,0,0,0,0,2,0,0,0,2,2,1,1,2,0] [0,1,2,3,4,5,6,7,8,9,12,13,10,11,14,15] ?_
   have j:=j.drew
   refine DP.e0 zr (RL.bF zr yL (cT zr (RL.aO 0 j zr ry xo (cT zr (mv (vb ax.gD) (DP.d0 (gv hj (fun ai hj=>?_) fun ai hj=>?_)))))))
   rotate_left
   ·refine DP.e0 zr (cA ai (cT zr (cA ai (cT zr (cA ai (vF zr (cA ai (B8 zr ?_))))))))
    refine gw ai (vb false) (cT zr (mv (vb false) (cT zr (nr (DP.d0 (DP.e1 undef zr (fun w=>nr DP.d1) (DP.e1 undef zr (fun w=>nr DP.d1) (DP.e2 zr ?_))))))))
    refine nr (GL zr (nr (GL zr (nr (B8 zr (RL.pick false (vb false) zr (DP.d0 (DP.z ?_))))))))
    obtain rfl:=oi hj
    exact⟨rfl,j.sp 8 [3,4,5,6,7]⟩
   refine DP.e0 zr (RL.aR (hg:=(cg ai)) (f:=(fun x=>x)) 0 j zr Fd.self ot fun a1 j=>(cT zr (RL.i7 (hg:=(cg ai)) 7 j zr Bg uI fun br j=>(cT zr (RL.bJ (hg:=(cg ai)) p1.eQ 0 j cP (vF zr ?_))))))
   obtain⟨ay,a2,hj⟩:=bd hj
   refine RL.call (cg ai) zr GR [a1,(vi p1.eQ)] zr (aF (l6 N (p1:=p1.eQ) (i0:=1) j zr a2) ?_)
   rintro _ w ⟨rfl,j⟩
   refine B8 zr (gw ai (vb ay) (cT zr (mv (vb ay) (DP.d0 (gv hj (fun ab hj=>?_) fun ab hj=>?_)))))
   rotate_left
   ·refine DP.e0 zr (cA ab (DP.d0 (DP.e1 undef zr (fun w=>cA ab DP.d1) (DP.e1 undef zr (fun w=>cA ab DP.d1) (DP.e2 zr (cA ab (GL zr (cA ab ?_))))))))
    refine GL zr (cA ab (B8 zr (gw ab (vb false) (DP.d0 (DP.z ?_)))))
    obtain rfl:=oi hj
    exact⟨rfl,j.sp 10 [5,6,7,8,9]⟩
   refine DP.e0 zr (RL.aR (hg:=(cg ab)) (f:=(fun x=>x)) 2 j zr Fd.self ot fun a3 j=>(DP.d0 (DP.Hy 9 zr zr (cg ab) zr j zr zr Bh uJ fun bt j=>(DP.wj (hg:=(cg ab)) p1.At 0 zr j FC fun a4 a105 bu j=>(DP.e2 zr ?_)))))
   obtain⟨a5,a6,hj⟩:=bd hj
   refine RL.call (cg ab) zr CZ [a3] zr (aF (gH N (i0:=3) j zr a6) ?_)
   rintro a7 w j
   refine DP.d2 (⟨zt,j.kV 1⟩) (DP.e2 zr (RL.eH (hg:=(cg ab)) ([a5]: (List aI)) j [a7] lx oq (fun M hs g=>⟨(g.sat 0 _ zr).1,zt⟩) fun a8 w j=>(DP.d2 (⟨zt,j.kV 2⟩) (DP.e2 zr ?_))))
   have j:=j.freeze 0
   obtain⟨a9,ba,hj⟩:=bd hj
   refine RL.call (cg ab) zr Ia [a8,a4] zr (aF (nV N (i0:=0) (i1:=3) j zr zr ba) ?_)
   rintro _ w ⟨rfl,j⟩
   refine DP.d2 (⟨zt,j.kV 2⟩) (DP.e0 zr (gw ab (vb a9) (DP.d0 ?_)))
   have j:=j.pl 16 [0,1,3,4,5,6,7,8,9,10,11,12,13,14,15]
   refine DP.z ?_
   obtain rfl:=oi hj
   exact⟨rfl,j.sp 15 [10,11,12,13,14]⟩
  rintro _ w ⟨O,rfl,j⟩
  refine aG (fy o (fun hc o=>?_) fun hc o=>?_)
  rotate_left
  ·refine RC.skip (bQ (aG (RC.region (RL.inc hk hm (mv (vi ((af+1:Nat):Int)) (RL.nil ?_))))))
   obtain rfl:=oi o
   exact⟨rfl,j.sp 5 [0,1,2,3,4]⟩
  refine RC.sr (mv (vi af) ?_)
  have j:=(j.sc Bool true).sc Int (af:Int)
  refine RL.build (⟨true,(af:Int)⟩:bE) trivial rfl j [(0,vb true),(1,vi af)] rfl C5 rfl (fun M hs g=>by have h:=wm M;exact dO.cons (f:=fun(x:bE) y=>{x with bW:=y}) h z8 (g.sat 1 _ rfl).1 fun _ h=>dO.cons (f:=fun(x:bE) y=>{x with Number:=y}) h tB (g.sat 0 _ rfl).1 fun _ h=>dO.nil h) fun bw j=>?_
  refine RL.bC 7 j 0 zr dD fun w j=>?_
  refine aM (vb true) (RL.nt (RC.rb (cF ?_)))
  obtain rfl:=oi o
  exact⟨rfl,xQ 7 j dD fun bb j=>⟨bb,zr,j.pk 9 [0,4]⟩⟩
 ·intro r U w e hK
  subst e
  refine cF ?_
  obtain rfl:=oi o
  exact hK
 rintro al _ w rfl ⟨O,rfl,j⟩
 rw [Fo.fW] at o
 refine aG (RC.seq (RC.sr (mv (vp b0 0) (RL.nilCheck zr (RL.bF zr qG (RL.bA 0 v0_5 j Ad (RL.bK 2 p0_5 j C1 (mv (vi 0) ?_))))))))
 refine RL.nt ?_
 obtain⟨bx,hN,o⟩:=bd o
 refine RC.range (fun(ag:Nat) (an:Unit)=>SH E V [(0,vp b0 0),(3,vp ah 0),(4,vp ae 0),(43,v0_5),(44,vi p0_5.length),(45,vi ag)] [bc 79 b0 [v0_0,v0_1,v0_2,v0_3,v0_4,v0_5,v0_6,v0_7,v0_8,v0_9,v0_10,v0_11],rd v0_2 p0_2,rd v0_5 p0_5,pt (vp ah 0) p1,raw 38 ae 2]) (fun(an:Unit)=>SH E V [(0,vp b0 0),(4,vp ae 0)] [bc 79 b0 [v0_0,v0_1,v0_2,v0_3,v0_4,v0_5,v0_6,v0_7,v0_8,v0_9,v0_10,v0_11],rd v0_2 p0_2,rd v0_5 p0_5,pt (vp ah 0) p1,raw 38 ae 2]) (mN E V b0 v0_0 v0_1 v0_2 v0_3 v0_4 v0_5 v0_6 v0_7 v0_8 v0_9 v0_10 v0_11) hN ?_ ?_ ?_ ?_ ?_
 ·exact j.sp 5 [0,1,2,3,4]
 ·rintro hm an _ w ⟨O,rfl,j⟩
  refine RC.sr (ic ((p0_5.length:Int)) ((p0_5.length:Int)) (RL.nq (RC.cX mT (RC.ex ?_))))
  exact⟨rfl,j.sp 5 [0,1,2,3,4]⟩
 ·rintro hm ag an fl _ w hk ⟨O,rfl,j⟩ o
  refine RC.sr (ic ((ag:Int)) ((p0_5.length:Int)) (RL.nq (RC.cW (mS hk) (RC.ss (RC.bs (mv (vi ag) ?_))))))
  obtain⟨av,bf,o⟩:=bd o
  refine RL.cG 2 j GU bf fun bz j=>(RL.bU 0 av j Cc fun b1 j=>(RL.alloc j Ed.z fun b2 w j=>?_))
  refine aM (vi ag) (RL.bC 0 j 1 zr Cc fun w j=>?_)
  refine RL.nq ?_
  obtain⟨aw,hj,o⟩:=bd o
  refine RC.jn (fun(aw:Bool)=>SH E V [(0,vp b0 0),(3,vp ah 0),(4,vp ae 0),(8,vi ag),(43,v0_5),(44,vi p0_5.length),(45,vi ag),(61,vb aw)] [bc 79 b0 [v0_0,v0_1,v0_2,v0_3,v0_4,v0_5,v0_6,v0_7,v0_8,v0_9,v0_10,v0_11],rd v0_2 p0_2,rd v0_5 p0_5,pt (vp ah 0) p1,raw 38 ae 2]) aw ?_ ?_
  ·refine RC.region (RL.bF zr Cd (RL.aO 0 j zr oA cP (RL.i7 6 j zr Bg uI fun b3 j=>(RL.bJ p1.eQ 0 j cP (ic av.eQ p1.eQ (mv (vb (av.eQ==p1.eQ)) (gv hj (fun ad hj=>?_) fun ad hj=>?_)))))))
   rotate_left
   ·refine cA ad (cA ad (cA ad (cA ad (cA ad (gw ad (vb false) (RL.nil ?_))))))
    obtain rfl:=oi hj
    exact⟨rfl,j.sp 9 [4,5,6,7,8]⟩
   refine RL.bF (hg:=(cg ad)) zr Ce (RL.aR (hg:=(cg ad)) 1 j zr oC yH fun bg j=>(RL.i7 (hg:=(cg ad)) 8 j zr Bh uJ fun b4 j=>(RL.bU (hg:=(cg ad)) 0 p1.At j FC fun bh j=>?_)))
   obtain⟨bj,bk,hj⟩:=bd hj
   refine RL.call (cg ad) zr Ia [bg,bh] zr (aF (nV N (i0:=2) (i1:=0) j zr zr bk) ?_)
   rintro _ w ⟨rfl,j⟩
   refine gw ad (vb bj) (RL.nil ?_)
   obtain rfl:=oi hj
   exact⟨rfl,j.sp 12 [7,8,9,10,11]⟩
  rintro _ w ⟨O,rfl,j⟩
  refine aG (fy o (fun hc o=>?_) fun hc o=>?_)
  rotate_left
  ·refine RC.skip (bQ (aG (RC.region (RL.inc hk hm (mv (vi ((ag+1:Nat):Int)) (RL.nil ?_))))))
   obtain rfl:=oi o
   exact⟨rfl,j.sp 5 [0,1,2,3,4]⟩
  refine RC.sr (mv (vi ag) ?_)
  have j:=j.sc Int (ag:Int)
  refine RL.build (⟨false,(ag:Int)⟩:bE) trivial rfl j [(1,vi ag)] rfl C5 rfl (fun M hs g=>by have h:=wm M;exact dO.cons (f:=fun(x:bE) y=>{x with Number:=y}) h tB (g.sat 0 _ rfl).1 fun _ h=>dO.nil h) fun b5 j=>?_
  refine RL.bC 6 j 0 zr dD fun w j=>?_
  refine aM (vb true) (RL.nt (RC.rb (cF ?_)))
  obtain rfl:=oi o
  exact⟨rfl,xQ 6 j dD fun bl j=>⟨bl,zr,j.pk 8 [0,3]⟩⟩
 ·intro r U w e hK
  subst e
  refine cF ?_
  obtain rfl:=oi o
  exact hK
 rintro an _ w rfl ⟨O,rfl,j⟩
 rw [Fo.fW] at o
 refine aG (RC.sr (RL.build (⟨false,0⟩:bE) trivial rfl j [] rfl C5 rfl (fun M hs g=>by have h:=wm M;exact dO.nil h) fun b6 j=>?_))
 refine RL.bC 5 j 0 zr dD fun w j=>?_
 refine aM (vb false) (RL.nt (RC.ret ?_))
 obtain rfl:=oi o
 exact xQ 5 j dD fun bm j=>⟨bm,zr,j.pk 7 [0,2]⟩
theorem nW {p0_8: (List Int)} {p0_9: (List Int)} {p1:bE} (j:Holds E w (bc 79 b0 [v0_0,v0_1,v0_2,v0_3,v0_4,v0_5,v0_6,v0_7,v0_8,v0_9,v0_10,v0_11]::rd v0_8 p0_8::rd v0_9 p0_9::V)) (h1:V[i1]? =some (rd v1 p1)) (o:fR N p0_8 p0_9 p1=some res):
    Calls bH 59 [(vp b0 0),v1].toArray w (gI (iJ E V b0 v0_0 v0_1 v0_2 v0_3 v0_4 v0_5 v0_6 v0_7 v0_8 v0_9 v0_10 v0_11 res)):=by
 unfold fR at o
 refine enter Tryz.func59 zr zr ?_
 have j:=j.dup (i1+3) h1
 refine RC.sr (RL.cR 0 v1 j zr fun ag w j=>?_)
 refine aM (vi 0) (RL.nq (RC.sr (RL.bF zr yQ (RL.aO 0 j zr tA xo (RL.nt (fy o (fun hc o=>?_) fun hc o=>?_))))))
 ·refine RC.seq (RC.vQ mixed ?_)
  have j:=j.drew
  refine RO.go (mv (vp b0 0) (RO.nx (RL.nilCheck zr (RO.nx (RL.bF zr yN (RO.nx (RL.bA 2 v0_9 j fx (RO.nx ?_))))))))
  refine RL.bF zr pP (RO.nx (RL.aO 0 j zr lY cP (RO.nx ?_)))
  obtain⟨aa,ae,o⟩:=bd o
  refine RL.cG 4 j eI ae fun ah j=>(RO.nx (RL.bJ aa 0 j cP (RO.nx (aM (vi aa) (RO.last (aG (RC.rt ?_)))))))
  obtain rfl:=oi o
  exact cH ⟨rfl,j.pk 6 [3]⟩
 refine RC.ss (RC.vQ mixed ?_)
 have j:=j.drew
 refine RO.go (mv (vp b0 0) (RO.nx (RL.nilCheck zr (RO.nx (RL.bF zr Bi (RO.nx (RL.bA 2 v0_8 j fx (RO.nx ?_))))))))
 refine RL.bF zr pP (RO.nx (RL.aO 0 j zr lY cP (RO.nx ?_)))
 obtain⟨ab,af,o⟩:=bd o
 refine RL.cG 3 j eI af fun ai j=>(RO.nx (RL.bJ ab 0 j cP (RO.nx (aM (vi ab) (RO.last (aG (RC.ret ?_)))))))
 obtain rfl:=oi o
 exact cH ⟨rfl,j.pk 6 [3]⟩
end Go.Gk
