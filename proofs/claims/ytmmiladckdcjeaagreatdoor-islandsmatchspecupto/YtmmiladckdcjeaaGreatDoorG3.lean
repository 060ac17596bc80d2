/-
  Printed texts: Go functions as plain functions, and that they are. No statement of the seed is proved here.
-/
import Derived.Test.YtmmiladckdcjeaaGreatDoorG1
import Derived.Test.YtmmiladckdcjeaaGreatDoorG2
import Derived.Test.YtmmiladckdcjeaaGreatDoorA2
set_option linter.unusedVariables false
set_option linter.unusedSimpArgs false
set_option linter.unusedSectionVars false
set_option maxRecDepth 100000
set_option maxHeartbeats 4000000
namespace Go.Gk
open Go Go.Proofs
variable (N:Nat) {E w:World} {b0 b1 i0 i1:Nat} {p0 p1 p2 res:Int} {v0 v0_0 v0_1 v0_10 v0_11 v0_2 v0_3 v0_4 v0_5 v0_6 v0_7 v0_8 v0_9 v1 v1_0 v2:Value} {V:List HP}
theorem oG {p0:cE} {res:Bool} (j:Holds E w V) (h0:V[i0]? =some (rd v0 p0)) (hb:ld N p0 p1=some res):
    Calls bO 44 [v0,(vi p1)].toArray w (gW (aV E V res)):=by
 unfold ld at hb
 refine enter Tryz.func44 zr zr ?_
 have j:=j.dup (i0+0) h0
 refine RC.sr (RL.dJ 0 v0 j zr fun o w j=>?_)
 refine aQ (vb false) (RL.ns (RL.aX zr pF (RL.aN 0 j zr kz cJ (mv (vi p1) (ic p0.cM p1 (mv (vb (decide (p0.cM<=p1))) (RL.gs true (decide (p0.cM<=p1)) (vi p1) zr zr zr cH (RL.gs true (decide (p0.cM<=p1)) (vp o 4) zr zr zr (eA rA) ?_))))))))
 refine RL.gs true (decide (p0.cM<=p1)) (vi p0.To) rfl rfl rfl (bZ 0 rfl j (fun h=>by exact(cK h:cv (true&&((decide (p0.cM<=p1))==true)) (vp o 4)= (vp o 4))) rfl lW cJ) (RL.gs true (decide (p0.cM<=p1)) (vb (decide (p1<=p0.To))) rfl rfl rfl (dI .leq .i64 p1 p0.To rfl (fun h=>by exact(cK h:cv (true&&((decide (p0.cM<=p1))==true)) (vi p1)= (vi p1))) (fun h=>by exact(cK h:cv (true&&((decide (p0.cM<=p1))==true)) (vi p0.To)= (vi p0.To))) rfl) (RL.pick (decide (p0.cM<=p1)) (vb ((decide (p0.cM<=p1))&&(decide (p1<=p0.To)))) (gr true rfl) (aQ (vb ((decide (p0.cM<=p1))&&(decide (p1<=p0.To)))) (RL.nt (RC.ret ?_)))))
 obtain rfl:=oi hb
 exact bX ⟨rfl,j.drop 2⟩
theorem tK {p0: (List aA)} {res: (List Int)×Int} (j:Holds E w V) (h0:V[i0]? =some (rd v0 p0)) (o:mY N p0 p1 p2=some res):
    Calls bO 113 [v0,(vi p1),(vi p2)].toArray w (gW (uw E V res)):=by
 unfold mY at o
 refine enter Tryz.func113 zr zr ?_
 have j:=j.dup (i0+0) h0
 refine RC.sr (aQ (.slice none 0 0) (aQ (vi 0) (RL.nq (RC.bs (mv v0 (RL.bA 0 p0 j vr (ic ((p0.length:Int)) 0 (aQ (vb ((p0.length:Int)==0)) ?_))))))))
 refine RL.nt (dU o (fun hc o=>?_) fun hc o=>?_)
 ·refine RC.sr (mv (vi p2) (aQ (.slice none 0 0) (aQ (vi p2) (RL.nt (RC.rb (bT ?_))))))
  obtain rfl:=oi o
  have j:=j.t8 Int
  exact qq ⟨(.slice none 0 0),zr,j.pk 2 [0]⟩
 refine RC.sr (mv (vi p1) (mv v0 ?_))
 obtain⟨ae,ag,o⟩:=bd o
 refine RL.bP 0 j pD ag fun al j=>(RL.dX 0 j zr pV ig fun an j=>(RL.bD ae.Y0 0 j cJ (ic p1 ae.Y0 (aQ (vb (decide (p1<ae.Y0))) (RL.nt (dU o (fun hc o=>?_) fun hc o=>?_))))))
 ·refine RC.seq (RC.zf mixed ?_)
  have j:=j.drew
  refine RO.go (mv (vi p2) (RO.nx (mv v0 (RO.nx ?_))))
  obtain⟨aa,ah,o⟩:=bd o
  refine RL.bP 2 j pD ah fun ao j=>(RO.nx (RL.dX 0 j zr pV ig fun aq j=>(RO.nx (RL.bD aa.Y0 0 j cJ (RO.nx (RL.min p2 aa.Y0 (RO.nx (aQ (.slice none 0 0) ?_))))))))
  refine RO.nx (aQ (vi (if aa.Y0<p2 then aa.Y0 else p2)) (RO.last (aH (RC.rb (bT ?_)))))
  obtain rfl:=oi o
  have j:=j.t8 Int
  exact qq ⟨(.slice none 0 0),zr,j.pk 6 [0]⟩
 refine RC.skip (bM (aH (RC.seq (RC.zf mixed ?_))))
 have j:=j.drew
 refine RO.go (mv v0 (RO.nx ?_))
 obtain⟨ai,aj,o⟩:=bd o
 refine RL.bP 2 j pD aj fun ar j=>(RO.nx (RL.dX 0 j zr ma eB fun au j=>(RO.nx (RL.bL 0 ai.Xs j eY fun af j=>(RO.nx (mv (vi p2) (RO.nx (mv v0 ?_))))))))
 refine RO.nx ?_
 obtain⟨ab,ak,o⟩:=bd o
 refine RL.bP 5 j pD ak fun av j=>(RO.nx (RL.dX 0 j zr nH fQ fun aw j=>(RO.nx (RL.bD ab.Y1 0 j cJ (RO.nx (RL.min p2 ab.Y1 (RO.nx (aQ af ?_))))))))
 refine RO.nx (aQ (vi (if ab.Y1<p2 then ab.Y1 else p2)) (RO.last (aH (RC.ret ?_))))
 obtain rfl:=oi o
 exact qq ⟨af,zr,j.pk 8 [2]⟩
theorem A5 {p0: (List Int)} {p1: (List Int)} {p2:Bool->Bool->Option Bool} {res: (List Int)} (o:Holds E w V) (h0:V[i0]? =some (rd v0 p0)) (h1:V[i1]? =some (rd v1 p1)) (h2:JY bO E V v2 p2 (fun(r:Bool)=>Value.bool r)) (hb:qs N p0 p1 p2=some res):
    Calls bO 114 [v0,v1,v2].toArray w (gW (my E V res)):=by
 unfold qs at hb
 refine enter Tryz.func114 zr zr ?_
 have o:=(o.dup (i0+0) h0).dup (i1+1) h1
 refine RC.sr (aQ (.slice none 0 0) (RL.ns (aQ (.slice none 0 0) (RL.ns (aQ (vb false) (aQ (vb false) (aQ (vb false) (RL.nq ?_))))))))
 obtain⟨bw,hN,hb⟩:=bd hb
 refine RC.iter (fun(aa: (List Int)×(List Int)×(List Int)×Bool×Bool×Bool) U w=>∃a8 a9 ba:Value,SH E V [(0,a8),(1,a9),(2,v2),(7,ba),(8,vb aa.2.2.2.1),(9,vb aa.2.2.2.2.1),(10,vb aa.2.2.2.2.2)] [rd a8 aa.1,rd a9 aa.2.1,own 3 ba aa.2.2.1] U w) (fun(aa: (List Int)×(List Int)×(List Int)×Bool×Bool×Bool) U w=>∃aw:Value,SH E V [(7,aw)] [own 3 aw aa.2.2.1] U w) (fun(r:Empty) _ _=>r.elim) hN ?_ ?_ ?_ ?_
 ·have o:=o.cO Int 3
  exact⟨v0,v1,(.slice none 0 0),o.sp 3 [2,1,0]⟩
 ·rintro aa fl _ w ⟨ai,ae,af,O,rfl,o⟩ hb
  refine RC.seq (RC.seq ?_)
  obtain⟨a2,hj,hb⟩:=bd hb
  refine RC.jn (fun(a2:Bool)=>SH E V [(0,ai),(1,ae),(2,v2),(7,af),(8,vb aa.2.2.2.1),(9,vb aa.2.2.2.2.1),(10,vb aa.2.2.2.2.2),(20,vb a2)] [rd ai aa.1,rd ae aa.2.1,own 3 af aa.2.2.1]) a2 ?_ ?_
  ·refine RC.region (mv ai (RL.bA 0 aa.1 o ly (ic ((aa.1.length:Int)) 0 (mv (vb (decide ((aa.1.length:Int)>0))) (fC hj (fun aq hj=>?_) fun aq hj=>?_)))))
   ·refine bG aq (bG aq (bG aq (fL aq (vb true) (RL.nil ?_))))
    obtain rfl:=oi hj
    exact⟨rfl,o.sp 3 [0,1,2]⟩
   refine RL.move ae (cg aq) (RL.bA (hg:=(cg aq)) 1 aa.2.1 o ly (RL.kD (aa.2.1.length:Int) 0 (cg aq) (fL aq (vb (decide ((aa.2.1.length:Int)>0))) (RL.nil ?_))))
   obtain rfl:=oi hj
   exact⟨rfl,o.sp 3 [0,1,2]⟩
  rintro _ w ⟨O,rfl,o⟩
  refine aH (dU hb (fun hc hb=>?_) fun hc hb=>?_)
  rotate_left
  ·refine RC.ex ?_
   obtain rfl:=oi hb
   exact⟨rfl,af,o.sp 3 [2]⟩
  refine RC.sn (RC.bs (aQ (vi 0) (RL.nq (RC.seq ?_))))
  obtain⟨a3,hj,hb⟩:=bd hb
  refine RC.jn (fun(a3:Bool)=>SH E V [(0,ai),(1,ae),(2,v2),(7,af),(8,vb aa.2.2.2.1),(9,vb aa.2.2.2.2.1),(10,vb aa.2.2.2.2.2),(37,vb a3)] [rd ai aa.1,rd ae aa.2.1,own 3 af aa.2.2.1]) a3 ?_ ?_
  ·refine RC.zf mixed ?_
   have o:=o.drew
   refine RO.go (mv ae (RO.nx (RL.bA 1 aa.2.1 o ly (RO.nx (ic ((aa.2.1.length:Int)) 0 (RO.nx (mv (vb ((aa.2.1.length:Int)==0)) (fC hj (fun aj hj=>?_) fun aj hj=>?_))))))))
   ·refine RO.nx (bG aj (RO.nx (bG aj (RO.nx (bG aj (RO.nx (bG aj (RO.nx ?_))))))))
    refine CC (RO.nx (CC (RO.nx (CC (RO.nx (CC (RO.nx (CC ?_))))))))
    refine RO.nx (CC (RO.nx (CC (RO.nx (bG aj (RO.nx (fL aj (vb true) (RO.last ?_))))))))
    obtain rfl:=oi hj
    exact⟨rfl,o.sp 3 [0,1,2]⟩
   refine RO.nx (RL.move ai (cg aj) (RO.nx (RL.bA (hg:=(cg aj)) 0 aa.1 o ly (RO.nx (RL.kD (aa.1.length:Int) 0 (cg aj) (RO.nx (RL.move (vb (decide ((aa.1.length:Int)>0))) (cg aj) (fC hj (fun ag hj=>?_) fun ag hj=>?_))))))))
   rotate_left
   ·refine RO.nx (bG ag (RO.nx (bG ag (RO.nx (bG ag (RO.nx (bG ag (RO.nx ?_))))))))
    refine bG ag (RO.nx (bG ag (RO.nx (bG ag (RO.nx (fL ag (vb false) (hg:=(cg aj)) (RO.nx (fL aj (vb false) ?_))))))))
    refine RO.last ?_
    obtain rfl:=oi hj
    exact⟨rfl,o.sp 3 [0,1,2]⟩
   refine RO.nx (RL.move ai (cg ag) (RO.nx ?_))
   obtain⟨ay,bk,hj⟩:=bd hj
   refine RL.bP (hg:=(cg ag)) 0 o dW bk fun bz o=>(RO.nx (RL.bD (hg:=(cg ag)) ay 0 o cJ (RO.nx (RL.move ae (cg ag) (RO.nx ?_)))))
   obtain⟨az,bl,hj⟩:=bd hj
   refine RL.bP (hg:=(cg ag)) 2 o dW bl fun b0 o=>(RO.nx (RL.bD (hg:=(cg ag)) az 0 o cJ (RO.nx (RL.kD ay az (cg ag) (RO.nx (fL ag (vb (decide (ay<=az))) (hg:=(cg aj)) (RO.nx (fL aj (vb (decide (ay<=az))) ?_))))))))
   refine RO.last ?_
   obtain rfl:=oi hj
   exact⟨rfl,o.sp 5 [2,3,4]⟩
  rintro _ w ⟨O,rfl,o⟩
  refine aH ?_
  obtain⟨ah,hj,hb⟩:=bd hb
  refine RC.jn (fun(ah:Int)=>SH E V [(0,ai),(1,ae),(2,v2),(7,af),(8,vb aa.2.2.2.1),(9,vb aa.2.2.2.2.1),(10,vb aa.2.2.2.2.2),(11,vi ah)] [rd ai aa.1,rd ae aa.2.1,own 3 af aa.2.2.1]) ah ?_ ?_
  ·refine dU hj (fun hc hj=>?_) fun hc hj=>?_
   ·refine RC.region (mv ai ?_)
    obtain⟨bb,bm,hj⟩:=bd hj
    refine RL.bP 0 o dW bm fun b1 o=>(RL.bD bb 0 o cJ (aQ (vi bb) (RL.nil ?_)))
    obtain rfl:=oi hj
    exact⟨rfl,o.sp 4 [1,2,3]⟩
   refine RC.region (mv ae ?_)
   obtain⟨bc,bn,hj⟩:=bd hj
   refine RL.bP 1 o dW bn fun b2 o=>(RL.bD bc 0 o cJ (aQ (vi bc) (RL.nil ?_)))
   obtain rfl:=oi hj
   exact⟨rfl,o.sp 4 [1,2,3]⟩
  rintro _ w ⟨O,rfl,o⟩
  refine aH (RC.seq (RC.seq ?_))
  obtain⟨a4,hj,hb⟩:=bd hb
  refine RC.jn (fun(a4:Bool)=>SH E V [(0,ai),(1,ae),(2,v2),(7,af),(8,vb aa.2.2.2.1),(9,vb aa.2.2.2.2.1),(10,vb aa.2.2.2.2.2),(11,vi ah),(53,vb a4)] [rd ai aa.1,rd ae aa.2.1,own 3 af aa.2.2.1]) a4 ?_ ?_
  ·refine RC.region (mv ai (RL.bA 0 aa.1 o ly (ic ((aa.1.length:Int)) 0 (mv (vb (decide ((aa.1.length:Int)>0))) (fC hj (fun ak hj=>?_) fun ak hj=>?_)))))
   rotate_left
   ·refine bG ak (bG ak (bG ak (bG ak (bG ak (fL ak (vb false) (RL.nil ?_))))))
    obtain rfl:=oi hj
    exact⟨rfl,o.sp 3 [0,1,2]⟩
   refine RL.move ai (cg ak) ?_
   obtain⟨a5,bo,hj⟩:=bd hj
   refine RL.bP (hg:=(cg ak)) 0 o dW bo fun b3 o=>(RL.bD (hg:=(cg ak)) a5 0 o cJ (RL.move (vi ah) (cg ak) (RL.kD a5 ah (cg ak) (fL ak (vb (a5==ah)) (RL.nil ?_)))))
   obtain rfl:=oi hj
   exact⟨rfl,o.sp 4 [1,2,3]⟩
  rintro _ w ⟨O,rfl,o⟩
  refine aH ?_
  obtain⟨an,hj,hb⟩:=bd hb
  refine RC.jn (fun(an: (List Int)×Bool) U w=>∃ao:Value,SH E V [(0,ao),(1,ae),(2,v2),(7,af),(8,vb an.2),(9,vb aa.2.2.2.2.1),(10,vb aa.2.2.2.2.2),(11,vi ah)] [rd ae aa.2.1,own 3 af aa.2.2.1,rd ao an.1] U w) an ?_ ?_
  ·refine dU hj (fun hc hj=>?_) fun hc hj=>?_
   rotate_left
   ·refine RC.skip ?_
    obtain rfl:=oi hj
    exact⟨rfl,ai,o.sp 3 [1,2,0]⟩
   refine RC.region (mv ai ?_)
   obtain⟨b4,bp,hj⟩:=bd hj
   refine RL.cut 0 o dW (.inr ⟨rfl,zr⟩) bp fun bf o=>(mv (vb aa.2.2.2.1) (RL.not aa.2.2.2.1 (aQ bf (aQ (vb (!aa.2.2.2.1)) (RL.nil ?_)))))
   obtain rfl:=oi hj
   exact⟨rfl,bf,o.sp 4 [2,3,0]⟩
  rintro _ w ⟨ao,O,rfl,o⟩
  refine aH (RC.seq (RC.seq ?_))
  obtain⟨a6,hj,hb⟩:=bd hb
  refine RC.jn (fun(a6:Bool)=>SH E V [(0,ao),(1,ae),(2,v2),(7,af),(8,vb an.2),(9,vb aa.2.2.2.2.1),(10,vb aa.2.2.2.2.2),(11,vi ah),(67,vb a6)] [rd ao an.1,rd ae aa.2.1,own 3 af aa.2.2.1]) a6 ?_ ?_
  ·refine RC.region (mv ae (RL.bA 0 aa.2.1 o ly (ic ((aa.2.1.length:Int)) 0 (mv (vb (decide ((aa.2.1.length:Int)>0))) (fC hj (fun al hj=>?_) fun al hj=>?_)))))
   rotate_left
   ·refine bG al (bG al (bG al (bG al (bG al (fL al (vb false) (RL.nil ?_))))))
    obtain rfl:=oi hj
    exact⟨rfl,o.sp 3 [2,0,1]⟩
   refine RL.move ae (cg al) ?_
   obtain⟨a7,bq,hj⟩:=bd hj
   refine RL.bP (hg:=(cg al)) 0 o dW bq fun b5 o=>(RL.bD (hg:=(cg al)) a7 0 o cJ (RL.move (vi ah) (cg al) (RL.kD a7 ah (cg al) (fL al (vb (a7==ah)) (RL.nil ?_)))))
   obtain rfl:=oi hj
   exact⟨rfl,o.sp 4 [3,1,2]⟩
  rintro _ w ⟨O,rfl,o⟩
  refine aH ?_
  obtain⟨au,hj,hb⟩:=bd hb
  refine RC.jn (fun(au: (List Int)×Bool) U w=>∃av:Value,SH E V [(0,ao),(1,av),(2,v2),(7,af),(8,vb an.2),(9,vb au.2),(10,vb aa.2.2.2.2.2),(11,vi ah)] [rd ao an.1,own 3 af aa.2.2.1,rd av au.1] U w) au ?_ ?_
  ·refine dU hj (fun hc hj=>?_) fun hc hj=>?_
   rotate_left
   ·refine RC.skip ?_
    obtain rfl:=oi hj
    exact⟨rfl,ae,o.sp 3 [0,2,1]⟩
   refine RC.region (mv ae ?_)
   obtain⟨b6,br,hj⟩:=bd hj
   refine RL.cut 1 o dW (.inr ⟨rfl,zr⟩) br fun bg o=>(mv (vb aa.2.2.2.2.1) (RL.not aa.2.2.2.2.1 (aQ bg (aQ (vb (!aa.2.2.2.2.1)) (RL.nil ?_)))))
   obtain rfl:=oi hj
   exact⟨rfl,bg,o.sp 4 [1,3,0]⟩
  rintro _ w ⟨av,O,rfl,o⟩
  refine aH (RC.sr (mv v2 (mv (vb an.2) (mv (vb au.2) ?_))))
  have o:=(o.sc Bool an.2).sc Bool au.2
  obtain⟨ax,bt,hb⟩:=bd hb
  refine RL.Jm (i:=1) (j:=0) zt zr o zr h2 5 zr zr zr zr zr bt fun w o=>(aQ (vb ax) (RL.ns (mv (vb ax) (mv (vb aa.2.2.2.2.2) (RL.H3 (a:=ax) (b:=aa.2.2.2.2.2) zt zr zr zr Ni (RL.nt ?_))))))
  obtain⟨a0,hj,hb⟩:=bd hb
  refine RC.jn (fun(a0: (List Int)×Bool) U w=>∃a1:Value,SH E V [(0,ao),(1,av),(2,v2),(7,a1),(8,vb an.2),(9,vb au.2),(10,vb a0.2)] [rd ao an.1,rd av au.1,own 3 a1 a0.1] U w) a0 ?_ ?_
  ·refine dU hj (fun hc hj=>?_) fun hc hj=>?_
   rotate_left
   ·refine RC.skip ?_
    obtain rfl:=oi hj
    exact⟨rfl,af,o.sp 5 [2,4,3]⟩
   refine RC.region (mv af (mv (vi ah) ?_))
   have o:=o.sc Int ah
   refine RL.dR ([ah]: (List Int)) o [(vi ah)] dW A1 (fun M hs g=>⟨(g.sat 0 _ zr).1,zt⟩) fun b7 w o=>?_
   have o:=o.freeze 0
   obtain⟨b8,bu,hj⟩:=bd hj
   refine RL.app 5 0 o pC bu fun bh w o=>?_
   refine mv (vb ax) (aQ bh (aQ (vb ax) (RL.nil ?_)))
   obtain rfl:=oi hj
   exact⟨rfl,bh,o.sp 7 [4,6,5]⟩
  rintro _ w ⟨a1,O,rfl,o⟩
  refine bM ?_
  obtain rfl:=oi hb
  exact⟨rfl,ao,av,a1,o.sp 3 [0,1,2]⟩
 ·intro r _ _ _ _
  exact r.elim
 rintro aa _ w rfl ⟨aw,O,rfl,o⟩
 rw [Fo.dA] at hb
 refine aH (RC.sr (mv aw (aQ aw (RL.nt (RC.ret ?_)))))
 obtain rfl:=oi hb
 exact bX (o.pk 1 [0])
theorem zV {p0: (List aA)} {p1: (List aA)} {p2:Bool->Bool->Option Bool} {res: (List aA)} (j:Holds E w V) (h0:V[i0]? =some (rd v0 p0)) (h1:V[i1]? =some (rd v1 p1)) (h2:JY bO E V v2 p2 (fun(r:Bool)=>Value.bool r)) (o:o5 N p0 p1 p2=some res):
    Calls bO 83 [v0,v1,v2].toArray w (gW (m0 E V res)):=by
 unfold o5 at o
 refine enter Tryz.func83 zr zr ?_
 have j:=(j.dup (i0+0) h0).dup (i1+1) h1
 refine RC.sr (aQ (.slice none 0 0) (RL.ns (aQ (.slice none 0 0) (RL.nq (RC.sr (mv v0 (RL.bA 1 p0 j vr (mv v1 ?_))))))))
 refine RL.bA 0 p1 j vr (RL.gl (p0.length:Int) (p1.length:Int) (ic ((IntKind.wrap .i64 ((p0.length:Int)+ (p1.length:Int)))) 0 (RL.nt (dU o (fun hc o=>?_) fun hc o=>?_))))
 ·refine RC.sr (aQ (.slice none 0 0) (RL.nt (RC.rt ?_)))
  obtain rfl:=oi o
  have j:=j.cO aA 118
  exact bX (j.pk 3 [0])
 refine RC.sx (aQ (vi 0) (aQ (vi 0) (RL.nq (RC.sr (mv v0 (mv v1 (RL.dR ([p0,p1]: (List (List aA))) j [v0,v1] GZ JC (fun M hs g=>⟨(g.sat 1 _ zr).1,⟨(g.sat 0 _ zr).1,zt⟩⟩) fun ar w j=>(RL.fS 0 ([p0,p1]: (List (List aA))) j KL ?_))))))))
 refine mv (vi 0) (RL.nt ?_)
 obtain⟨ad,hN,o⟩:=bd o
 refine RC.fold (fun(aj:Nat) (ad:Int×Int)=>SH E V [(0,v0),(1,v1),(2,v2),(7,(.slice none 0 0)),(8,vi ad.1),(9,vi ad.2),(25,ar),(26,(vi ((([p0,p1]: (List (List aA))).length:Nat):Int))),(27,vi aj)] [rd v0 p0,rd v1 p1,own 74 ar ([p0,p1]: (List (List aA)))]) (fun(ad:Int×Int)=>SH E V [(0,v0),(1,v1),(2,v2),(7,(.slice none 0 0)),(8,vi ad.1),(9,vi ad.2)] [rd v0 p0,rd v1 p1,own 74 ar ([p0,p1]: (List (List aA)))]) hN ?_ ?_ ?_ ?_
 ·exact j.sp 3 [2,1,0]
 ·rintro hm ad _ w ⟨O,rfl,j⟩
  refine RC.sr (ic (((([p0,p1]: (List (List aA))).length:Nat):Int)) (((([p0,p1]: (List (List aA))).length:Nat):Int)) (RL.nq (RC.fO tG (RC.ex ?_))))
  exact⟨rfl,j.sp 3 [0,1,2]⟩
 ·rintro hm aj ad s' _ w hk ⟨O,rfl,j⟩ o
  refine RC.sr (ic ((aj:Int)) (((([p0,p1]: (List (List aA))).length:Nat):Int)) (RL.nq (RC.fN (tF hk) (RC.ss (RC.bs (mv (vi aj) ?_))))))
  obtain⟨aw,a8,o⟩:=bd o
  refine RL.bQ 2 j zr zr GZ a8 (RL.ju (f:=(fun x=>x)) 2 j (jg 2 j a8 0) (bF a8).2.1 Fd.self KM fun ak j=>?_)
  refine aQ (vi aj) (aQ ak (RL.ns (mv ak (RL.bA 0 aw j vr (ic ((aw.length:Int)) 0 (RL.nt ?_))))))
  obtain⟨a5,hj,o⟩:=bd o
  refine RC.jn (fun(a5:Int×Int)=>SH E V [(0,v0),(1,v1),(2,v2),(7,(.slice none 0 0)),(8,vi a5.1),(9,vi a5.2),(25,ar),(26,(vi ((([p0,p1]: (List (List aA))).length:Nat):Int))),(27,vi aj)] [rd v0 p0,rd v1 p1,own 74 ar ([p0,p1]: (List (List aA)))]) a5 ?_ ?_
  ·refine dU hj (fun hc hj=>?_) fun hc hj=>?_
   rotate_left
   ·refine RC.skip ?_
    obtain rfl:=oi hj
    exact⟨rfl,j.sp 4 [1,2,3]⟩
   refine RC.seq (RC.seq ?_)
   obtain⟨a9,hjj,hj⟩:=bd hj
   refine RC.jn (fun(a9:Bool)=>SH E V [(0,v0),(1,v1),(2,v2),(7,(.slice none 0 0)),(8,vi ad.1),(9,vi ad.2),(11,ak),(25,ar),(26,(vi ((([p0,p1]: (List (List aA))).length:Nat):Int))),(27,vi aj),(41,vb a9)] [rd v0 p0,rd v1 p1,rd ak aw,own 74 ar ([p0,p1]: (List (List aA)))]) a9 ?_ ?_
   ·refine RC.region (mv (vi aj) (ic ((aj:Int)) 0 (mv (vb ((aj:Int)==0)) (fC hjj (fun au hjj=>?_) fun au hjj=>?_))))
    ·refine bG au (bG au (bG au (fL au (vb true) (RL.nil ?_))))
     obtain rfl:=oi hjj
     exact⟨rfl,j.sp 4 [1,2,0,3]⟩
    refine RL.move v0 (cg au) (RL.bA (hg:=(cg au)) 1 p0 j vr (RL.kD (p0.length:Int) 0 (cg au) (fL au (vb ((p0.length:Int)==0)) (RL.nil ?_))))
    obtain rfl:=oi hjj
    exact⟨rfl,j.sp 4 [1,2,0,3]⟩
   rintro _ w ⟨O,rfl,j⟩
   refine aH ?_
   obtain⟨al,hjj,hj⟩:=bd hj
   refine RC.jn (fun(al:Int×Int)=>SH E V [(0,v0),(1,v1),(2,v2),(7,(.slice none 0 0)),(8,vi al.1),(9,vi al.2),(11,ak),(25,ar),(26,(vi ((([p0,p1]: (List (List aA))).length:Nat):Int))),(27,vi aj)] [rd v0 p0,rd v1 p1,rd ak aw,own 74 ar ([p0,p1]: (List (List aA)))]) al ?_ ?_
   ·refine dU hjj (fun hc hjj=>?_) fun hc hjj=>?_
    rotate_left
    ·refine RC.skip ?_
     obtain rfl:=oi hjj
     exact⟨rfl,j.sp 4 [0,1,2,3]⟩
    refine RC.zf mixed ?_
    have j:=j.drew
    refine RO.go (mv ak (RO.nx ?_))
    obtain⟨bj,bw,hjj⟩:=bd hjj
    refine RL.bP 2 j pD bw fun cd j=>(RO.nx (RL.dX 0 j zr pV ig fun cf j=>(RO.nx (RL.bD bj.Y0 0 j cJ (RO.nx (mv ak (RO.nx (mv ak ?_))))))))
    refine RO.nx (RL.bA 4 aw j vr (RO.nx (RL.gl (aw.length:Int) 1 (RO.nx ?_))))
    obtain⟨bk,bx,hjj⟩:=bd hjj
    refine RL.bP 4 j pD bx fun ch j=>(RO.nx (RL.dX 0 j zr nH fQ fun cj j=>(RO.nx (RL.bD bk.Y1 0 j cJ (RO.nx (aQ (vi bj.Y0) (RO.nx (aQ (vi bk.Y1) ?_))))))))
    refine RO.last ?_
    obtain rfl:=oi hjj
    exact⟨rfl,j.sp 8 [4,5,6,7]⟩
   rintro _ w ⟨O,rfl,j⟩
   refine aH (RC.zf mixed ?_)
   have j:=j.drew
   refine RO.go (mv (vi al.1) (RO.nx (mv ak (RO.nx ?_))))
   obtain⟨a6,bz,hj⟩:=bd hj
   refine RL.bP 2 j pD bz fun ck j=>(RO.nx (RL.dX 0 j zr pV ig fun cl j=>(RO.nx (RL.bD a6.Y0 0 j cJ (RO.nx (RL.min al.1 a6.Y0 (RO.nx (mv (vi al.2) ?_))))))))
   refine RO.nx (mv ak (RO.nx (mv ak (RO.nx (RL.bA 4 aw j vr (RO.nx (RL.gl (aw.length:Int) 1 (RO.nx ?_))))))))
   obtain⟨a7,b0,hj⟩:=bd hj
   refine RL.bP 4 j pD b0 fun cm j=>(RO.nx (RL.dX 0 j zr nH fQ fun cn j=>(RO.nx (RL.bD a7.Y1 0 j cJ (RO.nx (RL.max al.2 a7.Y1 (RO.nx (aQ (vi (if a6.Y0<al.1 then a6.Y0 else al.1)) ?_))))))))
   refine RO.nx (aQ (vi (if al.2<a7.Y1 then a7.Y1 else al.2)) (RO.last ?_))
   obtain rfl:=oi hj
   exact⟨rfl,j.sp 8 [4,5,7]⟩
  rintro _ w ⟨O,rfl,j⟩
  refine bM (aH (RC.region (RL.inc hk hm (mv (vi ((aj+1:Nat):Int)) (RL.nil ?_)))))
  obtain rfl:=oi o
  exact⟨rfl,j.sp 3 [0,1,2]⟩
 rintro _ w ⟨O,rfl,j⟩
 refine aH (RC.seq ?_)
 obtain⟨cp,hN,o⟩:=bd o
 refine RC.iter (fun(aa: (List aA)×(List aA)×(List aA)×Int) U w=>∃bl bm bn:Value,SH E V [(0,bl),(1,bm),(2,v2),(7,bn),(8,vi aa.2.2.2),(9,vi ad.2)] [rd bl aa.1,rd bm aa.2.1,own 118 bn aa.2.2.1] U w) (fun(aa: (List aA)×(List aA)×(List aA)×Int) U w=>∃a2:Value,SH E V [(7,a2)] [own 118 a2 aa.2.2.1] U w) (fun(r:Empty) _ _=>r.elim) hN ?_ ?_ ?_ ?_
 ·have j:=j.cO aA 118
  exact⟨v0,v1,(.slice none 0 0),j.sp 4 [1,2,0]⟩
 ·rintro aa fl _ w ⟨b1,ay,ag,O,rfl,j⟩ o
  refine RC.seq (RC.sr (mv (vi aa.2.2.2) (mv (vi ad.2) (ic aa.2.2.2 ad.2 (RL.nt (dU o (fun hc o=>?_) fun hc o=>?_))))))
  rotate_left
  ·refine RC.ex ?_
   obtain rfl:=oi o
   exact⟨rfl,ag,j.sp 3 [2]⟩
  refine RC.sn (RC.block (RC.seq ?_))
  obtain⟨cq,hN,o⟩:=bd o
  refine RC.iter (fun(an: (List aA)) U w=>∃bp:Value,SH E V [(0,bp),(1,ay),(2,v2),(7,ag),(8,vi aa.2.2.2),(9,vi ad.2)] [rd ay aa.2.1,own 118 ag aa.2.2.1,rd bp an] U w) (fun(an: (List aA)) U w=>∃ao:Value,SH E V [(0,ao),(1,ay),(2,v2),(7,ag),(8,vi aa.2.2.2),(9,vi ad.2)] [rd ay aa.2.1,own 118 ag aa.2.2.1,rd ao an] U w) (fun(r:Empty) _ _=>r.elim) hN ?_ ?_ ?_ ?_
  ·exact⟨b1,j.sp 3 [1,2,0]⟩
  ·rintro an fl _ w ⟨az,O,rfl,j⟩ o
   refine RC.seq (RC.seq ?_)
   obtain⟨ba,hj,o⟩:=bd o
   refine RC.jn (fun(ba:Bool)=>SH E V [(0,az),(1,ay),(2,v2),(7,ag),(8,vi aa.2.2.2),(9,vi ad.2),(82,vb ba)] [rd az an,rd ay aa.2.1,own 118 ag aa.2.2.1]) ba ?_ ?_
   ·refine RC.region (mv az (RL.bA 2 an j vr (ic ((an.length:Int)) 0 (mv (vb (decide ((an.length:Int)>0))) (fC hj (fun ah hj=>?_) fun ah hj=>?_)))))
    rotate_left
    ·refine bG ah (bG ah (bG ah (bG ah (bG ah (bG ah (fL ah (vb false) (RL.nil ?_)))))))
     obtain rfl:=oi hj
     exact⟨rfl,j.sp 3 [2,0,1]⟩
    refine RL.move az (cg ah) ?_
    obtain⟨bb,b2,hj⟩:=bd hj
    refine RL.bP (hg:=(cg ah)) 2 j pD b2 fun cr j=>(RL.dX (hg:=(cg ah)) 0 j zr nH fQ fun ct j=>(RL.bD (hg:=(cg ah)) bb.Y1 0 j cJ (RL.move (vi aa.2.2.2) (cg ah) (RL.kD bb.Y1 aa.2.2.2 (cg ah) (fL ah (vb (decide (bb.Y1<=aa.2.2.2))) (RL.nil ?_))))))
    obtain rfl:=oi hj
    exact⟨rfl,j.sp 5 [4,2,3]⟩
   rintro _ w ⟨O,rfl,j⟩
   refine aH (dU o (fun hc o=>?_) fun hc o=>?_)
   rotate_left
   ·refine RC.ex ?_
    obtain rfl:=oi o
    exact⟨rfl,az,j.sp 3 [1,2,0]⟩
   refine RC.sn (RC.block (RC.region (mv az ?_)))
   obtain⟨cu,b3,o⟩:=bd o
   refine RL.cut 0 j pD (.inr ⟨rfl,zr⟩) b3 fun bq j=>(aQ bq (RL.nil (bM ?_)))
   obtain rfl:=oi o
   exact⟨rfl,bq,j.sp 4 [2,3,0]⟩
  ·intro r _ _ _ _
   exact r.elim
  rintro an _ w rfl ⟨ao,O,rfl,j⟩
  rw [Fo.dA] at o
  refine aH (RC.seq ?_)
  obtain⟨cv,hN,o⟩:=bd o
  refine RC.iter (fun(av: (List aA)) U w=>∃br:Value,SH E V [(0,ao),(1,br),(2,v2),(7,ag),(8,vi aa.2.2.2),(9,vi ad.2)] [rd ao an,own 118 ag aa.2.2.1,rd br av] U w) (fun(av: (List aA)) U w=>∃a0:Value,SH E V [(0,ao),(1,a0),(2,v2),(7,ag),(8,vi aa.2.2.2),(9,vi ad.2)] [rd ao an,own 118 ag aa.2.2.1,rd a0 av] U w) (fun(r:Empty) _ _=>r.elim) hN ?_ ?_ ?_ ?_
  ·exact⟨ay,j.sp 3 [2,1,0]⟩
  ·rintro av fl _ w ⟨a1,O,rfl,j⟩ o
   refine RC.seq (RC.seq ?_)
   obtain⟨bc,hj,o⟩:=bd o
   refine RC.jn (fun(bc:Bool)=>SH E V [(0,ao),(1,a1),(2,v2),(7,ag),(8,vi aa.2.2.2),(9,vi ad.2),(95,vb bc)] [rd ao an,rd a1 av,own 118 ag aa.2.2.1]) bc ?_ ?_
   ·refine RC.region (mv a1 (RL.bA 2 av j vr (ic ((av.length:Int)) 0 (mv (vb (decide ((av.length:Int)>0))) (fC hj (fun ai hj=>?_) fun ai hj=>?_)))))
    rotate_left
    ·refine bG ai (bG ai (bG ai (bG ai (bG ai (bG ai (fL ai (vb false) (RL.nil ?_)))))))
     obtain rfl:=oi hj
     exact⟨rfl,j.sp 3 [0,2,1]⟩
    refine RL.move a1 (cg ai) ?_
    obtain⟨bf,b4,hj⟩:=bd hj
    refine RL.bP (hg:=(cg ai)) 2 j pD b4 fun cw j=>(RL.dX (hg:=(cg ai)) 0 j zr nH fQ fun cx j=>(RL.bD (hg:=(cg ai)) bf.Y1 0 j cJ (RL.move (vi aa.2.2.2) (cg ai) (RL.kD bf.Y1 aa.2.2.2 (cg ai) (fL ai (vb (decide (bf.Y1<=aa.2.2.2))) (RL.nil ?_))))))
    obtain rfl:=oi hj
    exact⟨rfl,j.sp 5 [2,4,3]⟩
   rintro _ w ⟨O,rfl,j⟩
   refine aH (dU o (fun hc o=>?_) fun hc o=>?_)
   rotate_left
   ·refine RC.ex ?_
    obtain rfl:=oi o
    exact⟨rfl,a1,j.sp 3 [0,2,1]⟩
   refine RC.sn (RC.block (RC.region (mv a1 ?_)))
   obtain⟨cy,b5,o⟩:=bd o
   refine RL.cut 1 j pD (.inr ⟨rfl,zr⟩) b5 fun bt j=>(aQ bt (RL.nil (bM ?_)))
   obtain rfl:=oi o
   exact⟨rfl,bt,j.sp 4 [1,3,0]⟩
  ·intro r _ _ _ _
   exact r.elim
  rintro av _ w rfl ⟨a0,O,rfl,j⟩
  rw [Fo.dA] at o
  refine aH (RC.sr (mv ao (mv (vi aa.2.2.2) (mv (vi ad.2) ?_))))
  obtain⟨ae,b6,o⟩:=bd o
  refine RL.call zt zr I2 [ao,(vi aa.2.2.2),(vi ad.2)] zr (aD (tK N (p1:=aa.2.2.2) (p2:=ad.2) (i0:=0) j zr b6) ?_)
  rintro _ w ⟨a3,rfl,j⟩
  refine mv (.tuple #[a3,(vi ae.2)]) (RL.extract a3 (RL.extract (vi ae.2) (aQ a3 (aQ (vi ae.2) (RL.ns (mv a0 (mv (vi aa.2.2.2) (mv (vi ad.2) ?_))))))))
  obtain⟨af,b7,o⟩:=bd o
  refine RL.call zt zr I2 [a0,(vi aa.2.2.2),(vi ad.2)] zr (aD (tK N (p1:=aa.2.2.2) (p2:=ad.2) (i0:=3) j zr b7) ?_)
  rintro _ w ⟨a4,rfl,j⟩
  refine mv (.tuple #[a4,(vi af.2)]) (RL.extract a4 (RL.extract (vi af.2) (aQ a4 (aQ (vi af.2) (RL.ns (mv (vi ae.2) (mv (vi af.2) (RL.min ae.2 af.2 ?_))))))))
  refine aQ (vi (if af.2<ae.2 then af.2 else ae.2)) (RL.ns (mv ag (mv (vi aa.2.2.2) (mv (vi (if af.2<ae.2 then af.2 else ae.2)) (mv a3 (mv a4 (mv v2 ?_)))))))
  obtain⟨b8,b9,o⟩:=bd o
  refine RL.call zt zr KN [a3,a4,v2] zr (aD (A5 N (i0:=1) (i1:=0) j zr zr (h2.lift 5 zr) b9) ?_)
  rintro ca w j
  have j:=((j.sc Int aa.2.2.2).sc Int (if af.2<ae.2 then af.2 else ae.2)).freeze 2
  refine RL.build (⟨aa.2.2.2,(if af.2<ae.2 then af.2 else ae.2),b8⟩:aA) trivial rfl j [(0,vi aa.2.2.2),(1,(vi (if af.2<ae.2 then af.2 else ae.2))),(2,ca)] rfl IY rfl (fun M hs g=>by have h:=w6 M;exact cT.cons (f:=fun(x:aA) y=>{x with Y0:=y}) h tH (g.sat 1 _ rfl).1 fun _ h=>cT.cons (f:=fun(x:aA) y=>{x with Y1:=y}) h pA (g.sat 0 _ rfl).1 fun _ h=>cT.cons (f:=fun(x:aA) y=>{x with Xs:=y}) h tI (g.sat 2 _ rfl).1 fun _ h=>cT.nil h) fun cb j=>?_
  have j:=j.pull 7
  obtain⟨cz,cc,o⟩:=bd o
  refine RL.call zt zr Ku [ag,cb] zr (aD (rj N (i1:=0) j zr cc) ?_)
  rintro bu w j
  refine aQ bu (RL.nt (RC.region (mv (vi (if af.2<ae.2 then af.2 else ae.2)) (aQ (vi (if af.2<ae.2 then af.2 else ae.2)) (RL.nil (bM ?_))))))
  obtain rfl:=oi o
  exact⟨rfl,ao,a0,bu,j.sp 10 [7,9,0]⟩
 ·intro r _ _ _ _
  exact r.elim
 rintro aa _ w rfl ⟨a2,O,rfl,j⟩
 rw [Fo.dA] at o
 refine aH (RC.sr (mv a2 (aQ a2 (RL.nt (RC.ret ?_)))))
 obtain rfl:=oi o
 exact bX (j.pk 1 [0])
theorem uE {p0 p1 res:Bool} (o:Holds E w V) (j:ov N p0 p1=some res):
    Calls bO 84 [(vb p0),(vb p1)].toArray w (gW (aV E V res)):=by
 unfold ov at j
 refine enter Tryz.func84 rfl rfl (RC.sr (aQ (vb false) (RL.ns (mv (vb p0) (mv (vb p0) (RL.gs true p0 (vb p1) rfl rfl rfl cH (RL.gs true p0 (vb (!p1)) rfl rfl rfl (Gx p1 rfl (fun h=>by exact(cK h:cv (true&&(p0==true)) (vb p1)= (vb p1)))) (RL.pick p0 (vb (p0&&(!p1))) (gr true rfl) ?_))))))))
 refine aQ (vb (p0&&(!p1))) (RL.nt (RC.ret ?_))
 obtain rfl:=oi j
 exact bX ⟨rfl,o.drop 0⟩
theorem xm {p0: (List aA)} {p1: (List aA)} {res: (List aA)} (o:Holds E w V) (h0:V[i0]? =some (rd v0 p0)) (h1:V[i1]? =some (rd v1 p1)) (hb:lf N p0 p1=some res):
    Calls bO 45 [v0,v1].toArray w (gW (m0 E V res)):=by
 unfold lf at hb
 refine enter Tryz.func45 zr zr ?_
 have o:=(o.dup (i0+0) h0).dup (i1+1) h1
 refine RC.sr (aQ (.slice none 0 0) (RL.ns (mv v0 (mv v1 ?_))))
 obtain⟨af,ab,hb⟩:=bd hb
 refine RL.call trivial rfl Mi [v0,v1,(.func (.func 84) #[] #[])] rfl (aD (zV N (i0:=1) (i1:=0) o rfl rfl ⟨84,[],rfl,Mh,fun w Γl v v' y0 y1 r i j o hi hj hr=>by obtain rfl:=o.CI (γ:=Bool) hi;obtain rfl:=o.CI (γ:=Bool) hj;exact aD (uE N (p0:=y0) (p1:=y1) o hr) fun _ _ h=>h⟩ ab) ?_)
 rintro ae w o
 refine aQ ae (RL.nt (RC.ret ?_))
 obtain rfl:=oi hb
 exact bX (o.pk 3 [0])
theorem xn {p0: (List aA)} (j:Holds E w V) (h0:V[i0]? =some (rd v0 p0)) (hb:mu N p0=some res):
    Calls bO 46 [v0].toArray w (gW (aW E V res)):=by
 unfold mu at hb
 refine enter Tryz.func46 zr zr ?_
 have j:=j.dup (i0+0) h0
 refine RC.sr (aQ (vi 0) (RL.ns (aQ (vi 0) (RL.nq (RC.sr (mv v0 (RL.bA 0 p0 j vr (mv (vi 0) ?_))))))))
 refine RL.nt ?_
 obtain⟨o,hN,hb⟩:=bd hb
 refine RC.fold (fun(ad:Nat) (o:Int)=>SH E V [(3,vi o),(6,v0),(7,vi p0.length),(8,vi ad)] [rd v0 p0]) (fun(o:Int)=>SH E V [(3,vi o)] [rd v0 p0]) hN ?_ ?_ ?_ ?_
 ·exact j.sp 1 [0]
 ·rintro hm o _ w ⟨O,rfl,j⟩
  refine RC.sr (ic ((p0.length:Int)) ((p0.length:Int)) (RL.nq (RC.fO tG (RC.ex ?_))))
  exact⟨rfl,j.sp 1 [0]⟩
 ·rintro hm ad o s' _ w hk ⟨O,rfl,j⟩ hb
  refine RC.sr (ic ((ad:Int)) ((p0.length:Int)) (RL.nq (RC.fN (tF hk) (RC.ss (RC.bs ?_)))))
  obtain⟨ab,ah,hb⟩:=bd hb
  refine RL.bP 0 j pD ah fun ai j=>(RL.bL 0 ab j w8 fun aj j=>(RL.alloc j Dh.z fun ak w j=>?_))
  refine RL.cA 0 j 1 zr w8 fun w j=>?_
  refine RL.nt (RC.region (mv (vi o) (RL.aX zr ma (RL.bE 0 j zr eB eY fun al j=>(RL.bA 0 ab.Xs j ly (RL.quo (ab.Xs.length:Int) 2 (RL.gl o (IntKind.wrap .i64 (Int.tdiv (ab.Xs.length:Int) 2)) (aQ (vi (IntKind.wrap .i64 (o+ (IntKind.wrap .i64 (Int.tdiv (ab.Xs.length:Int) 2))))) ?_))))))))
  refine RL.nil (bM (aH (RC.region (RL.inc hk hm (mv (vi ((ad+1:Nat):Int)) (RL.nil ?_))))))
  obtain rfl:=oi hb
  exact⟨rfl,j.sp 5 [4]⟩
 rintro _ w ⟨O,rfl,j⟩
 refine aH (RC.sr (mv (vi o) (aQ (vi o) (RL.nt (RC.ret ?_)))))
 obtain rfl:=oi hb
 exact bX ⟨rfl,j.drop 1⟩
def uF (E:World) (V:List HP) (b1:Nat) (res:Int×(List Int)) (v:Value) (w:World):Prop:=∃u1_0:Value,v= (vi res.1)/\Holds E w ([bc 28 b1 [u1_0],own 3 u1_0 res.2]++V)
theorem l5 {p1_0: (List Int)} {res:Int×(List Int)} (j:Holds E w (bc 28 b1 [v1_0]::own 3 v1_0 p1_0::V)) (o:fI N p0 p1_0=some res):
    Calls bO 85 [(vi p0),(vp b1 0)].toArray w (gW (uF E V b1 res)):=by
 unfold fI at o
 refine enter Tryz.func85 zr zr (RC.sr (aQ (vi 0) (RL.nq ?_)))
 obtain⟨an,hN,o⟩:=bd o
 refine RC.iter (fun(aa:Int×(List Int))=>SH E V [(0,vi aa.1),(1,vp b1 0)] [bc 28 b1 [v1_0],own 3 v1_0 aa.2]) (fun(aa:Int×(List Int))=>SH E V [(0,vi aa.1),(1,vp b1 0)] [bc 28 b1 [v1_0],own 3 v1_0 aa.2]) (fun(r:Empty) _ _=>r.elim) hN ?_ ?_ ?_ ?_
 ·exact j.sp 2 [0,1]
 ·rintro aa fl _ w ⟨O,rfl,j⟩ o
  refine RC.seq (RC.sr (RL.bI 0 v1_0 j eY (mv (vi aa.1) ?_)))
  obtain⟨ai,ab,o⟩:=bd o
  refine RL.bQ 1 j zr zr dW ab (RL.dQ (f:=(fun x=>x)) 1 j (jg 1 j ab 0) (bF ab).2.1 Fd.self cJ (mv (vi aa.1) (ic ai aa.1 (RL.nt (dU o (fun hc o=>?_) fun hc o=>?_)))))
  rotate_left
  ·refine RC.ex ?_
   obtain rfl:=oi o
   exact⟨rfl,j.sp 2 [0,1]⟩
  refine RC.sn (RC.block (RC.seq (RC.v5 mixed [0,0,0,0,0,0,0,0,0,0,2] [0,1,2,3,4,5,6,7,8,9,10] ?_)))
  have j:=j.drew
  refine DP.e0 zr (RL.bI 0 v1_0 j eY (aZ zr (mv (vi aa.1) (aZ zr (RL.bI 0 v1_0 j eY (aZ zr (RL.bI 0 v1_0 j eY (aZ zr ?_))))))))
  refine mv (vi aa.1) (aZ zr ?_)
  obtain⟨aq,ad,o⟩:=bd o
  refine RL.bQ 1 j zr zr dW ad (aZ zr (RL.dQ (f:=(fun x=>x)) 1 j (jg 1 j ad 0) (bF ad).2.1 Fd.self cJ (aZ zr ?_)))
  obtain⟨ak,ae,o⟩:=bd o
  refine RL.bQ 1 j zr zr dW ae (aZ zr (RL.dQ (f:=(fun x=>x)) 1 j (jg 1 j ae 0) (bF ae).2.1 Fd.self cJ (aZ zr ?_)))
  obtain⟨ar,af,o⟩:=bd o
  refine RL.bQ 1 j zr zr dW af (pP zr ?_)
  have j:=j.sc Int ak
  refine RL.gL (f:=(fun _ y=>y)) 2 0 j (jg 2 j af 0) (bF af).2.1 zr Fs.self cJ fun w j=>?_
  refine DP.d2 zt (DP.z (aH (RC.region (RL.bI 1 v1_0 j eY (mv (vi aa.1) ?_)))))
  obtain⟨al,ag,o⟩:=bd o
  refine RL.bQ 2 j zr zr dW ag (RL.dQ (f:=(fun x=>x)) 2 j (jg 2 j ag 0) (bF ag).2.1 Fd.self cJ (aQ (vi al) (RL.nil (bM ?_))))
  obtain rfl:=oi o
  exact⟨rfl,j.sp 3 [1,2]⟩
 ·intro r _ _ _ _
  exact r.elim
 rintro aa _ w rfl ⟨O,rfl,j⟩
 rw [Fo.dA] at o
 refine aH (RC.sr (mv (vi aa.1) (aQ (vi aa.1) (RL.nt (RC.ret ?_)))))
 obtain rfl:=oi o
 exact bX ⟨v1_0,zr,j.pk 2 [0,1]⟩
def xo (E:World) (V:List HP) (res: (List (List aA))) (v:Value) (w:World):Prop:=Holds E w ([own 74 v res]++V)
theorem wm {p0: (List aA)} {res: (List (List aA))} (o:Holds E w V) (h0:V[i0]? =some (rd v0 p0)) (hb:lK N p0=some res):
    Calls bO 47 [v0].toArray w (gW (xo E V res)):=by
 unfold lK at hb
 refine enter Tryz.func47 zr zr ?_
 have o:=o.dup (i0+0) h0
 refine RC.sr (aQ (.slice none 0 0) (RL.ns (mv v0 ?_)))
 obtain⟨aq,c7,hb⟩:=bd hb
 refine RL.call zt zr Jx [v0] zr (aD (nN N (i0:=0) o zr c7) ?_)
 rintro ah w o
 refine aQ ah (RL.ns (mv ah (RL.fS 0 aq o nc ?_)))
 obtain⟨bn,c8,hb⟩:=bd hb
 refine RL.mk (aq.length:Int) o pC Kr c8 fun ba w o=>?_
 refine RL.uc zr o Kq zr fun ag w o=>?_
 refine RL.iw 0 ba o zr zr (iM 1 o) eY fun w o=>?_
 refine RL.nq (RC.sr (RL.bI 0 ba o eY (RL.fS 1 bn o ly (mv (vi 0) (RL.nt ?_)))))
 obtain⟨bk,hN,hb⟩:=bd hb
 refine RC.fold (fun(a8:Nat) (bk: (List Int))=>SH E V [(0,v0),(3,ah),(4,vp ag 0),(32,vi bn.length),(33,vi a8)] [rd v0 p0,own 59 ah aq,bc 28 ag [ba],own 3 ba bk]) (fun(bk: (List Int))=>SH E V [(0,v0),(3,ah),(4,vp ag 0)] [rd v0 p0,own 59 ah aq,bc 28 ag [ba],own 3 ba bk]) hN ?_ ?_ ?_ ?_
 ·exact o.sp 4 [3,2,0,1]
 ·rintro hm bk _ w ⟨O,rfl,o⟩
  refine RC.sr (ic ((bn.length:Int)) ((bn.length:Int)) (RL.nq (RC.fO tG (RC.ex ?_))))
  exact⟨rfl,o.sp 4 [0,1,2,3]⟩
 ·rintro hm a8 bk s' _ w hk ⟨O,rfl,o⟩ hb
  refine RC.sr (ic ((a8:Int)) ((bn.length:Int)) (RL.nq (RC.fN (tF hk) (RC.ss (RC.bs (mv (vi a8) (aQ (vi a8) (RL.nt ?_))))))))
  refine RC.region (RL.bI 2 ba o eY (mv (vi a8) (mv (vi a8) ?_)))
  obtain⟨du,cb,hb⟩:=bd hb
  refine RL.bQ 3 o zr zr dW cb ?_
  have o:=o.sc Int (a8:Int)
  refine RL.gL (f:=(fun _ y=>y)) 4 0 o (jg 4 o cb 0) (bF cb).2.1 zr Fs.self cJ fun w o=>?_
  refine RL.nil (bM (aH (RC.region (RL.inc hk hm (mv (vi ((a8+1:Nat):Int)) (RL.nil ?_))))))
  obtain rfl:=oi hb
  exact⟨rfl,o.sp 5 [1,2,3,4]⟩
 rintro _ w ⟨O,rfl,o⟩
 refine aH (RC.sr (RL.makeFunc zt zr [(vp ag 0)] zr (aQ (.func (.func 85) #[] #[(vp ag 0)]) (RL.ns (aQ (vi 0) (aQ (vi 0) (RL.nq (RC.sr ?_))))))))
 refine mv v0 (RL.bA 0 p0 o vr (mv (vi 0) (RL.nt ?_)))
 obtain⟨ad,hN,hb⟩:=bd hb
 refine RC.fold (fun(ay:Nat) (ad: (List Int)×Int×Int) U w=>∃ct:Value,SH E V [(0,v0),(3,ah),(4,vp ag 0),(6,(.func (.func 85) #[] #[(vp ag 0)])),(7,vi ad.2.1),(8,vi ad.2.2),(42,v0),(43,vi p0.length),(44,vi ay)] [rd v0 p0,own 59 ah aq,bc 28 ag [ct],own 3 ct ad.1] U w) (fun(ad: (List Int)×Int×Int) U w=>∃br:Value,SH E V [(3,ah),(6,(.func (.func 85) #[] #[(vp ag 0)]))] [rd v0 p0,own 59 ah aq,bc 28 ag [br],own 3 br ad.1] U w) hN ?_ ?_ ?_ ?_
 ·exact⟨ba,o.sp 4 [0,1,2,3]⟩
 ·rintro hm ad _ w ⟨c9,O,rfl,o⟩
  refine RC.sr (ic ((p0.length:Int)) ((p0.length:Int)) (RL.nq (RC.fO tG (RC.ex ?_))))
  exact⟨rfl,c9,o.sp 4 [0,1,2,3]⟩
 ·rintro hm ay ad s' _ w hk ⟨bt,O,rfl,o⟩ hb
  refine RC.sr (ic ((ay:Int)) ((p0.length:Int)) (RL.nq (RC.fN (tF hk) (RC.ss (RC.bs (mv (vi ay) ?_))))))
  obtain⟨an,da,hb⟩:=bd hb
  refine RL.bP 0 o pD da fun dv o=>(RL.bL 0 an o w8 fun dw o=>(RL.alloc o Dh.z fun dx w o=>?_))
  refine aQ (vi ay) (RL.cA 0 o 1 zr w8 fun w o=>?_)
  refine RL.ns (RL.aX zr ma (RL.bE 0 o zr eB eY fun dy o=>(RL.bA 0 an.Xs o ly (RL.quo (an.Xs.length:Int) 2 (aQ (vi (IntKind.wrap .i64 (Int.tdiv (an.Xs.length:Int) 2))) (RL.nq (RC.seq ?_)))))))
  obtain⟨cc,hj,hb⟩:=bd hb
  refine RC.jn (fun(cc:Bool)=>SH E V [(0,v0),(3,ah),(4,vp ag 0),(6,(.func (.func 85) #[] #[(vp ag 0)])),(7,vi ad.2.1),(8,vi ad.2.2),(11,(vi (IntKind.wrap .i64 (Int.tdiv (an.Xs.length:Int) 2)))),(42,v0),(43,vi p0.length),(44,vi ay),(65,vb cc)] [rd v0 p0,own 59 ah aq,bc 28 ag [bt],own 3 bt ad.1]) cc ?_ ?_
  ·refine RC.zf mixed ?_
   have o:=o.drew
   refine RO.go (mv (vi ay) (RO.nx (ic ((ay:Int)) 0 (RO.nx (mv (vb (decide ((ay:Int)>0))) (fC hj (fun aw hj=>?_) fun aw hj=>?_))))))
   rotate_left
   ·refine RO.nx (bG aw (RO.nx (bG aw (RO.nx (bG aw (RO.nx (bG aw (RO.nx ?_))))))))
    refine bG aw (RO.nx (bG aw (RO.nx (bG aw (RO.nx (bG aw (RO.nx (bG aw ?_))))))))
    refine RO.nx (fL aw (vb false) (RO.last ?_))
    obtain rfl:=oi hj
    exact⟨rfl,o.sp 8 [4,5,6,7]⟩
   refine RO.nx (RL.move v0 (cg aw) (RO.nx (RL.move (vi ay) (cg aw) (RO.nx (RL.gl (hg:=(cg aw)) (ay:Int) 1 (RO.nx ?_))))))
   obtain⟨cd,db,hj⟩:=bd hj
   refine RL.bP (hg:=(cg aw)) 4 o pD db fun dz o=>(RO.nx (RL.dX (hg:=(cg aw)) 0 o zr nH fQ fun d0 o=>(RO.nx (RL.bD (hg:=(cg aw)) cd.Y1 0 o cJ (RO.nx (RL.aX (hg:=(cg aw)) zr pV (RO.nx (RL.aN (hg:=(cg aw)) 3 o zr ig cJ ?_))))))))
   refine RO.nx (RL.kD cd.Y1 an.Y0 (cg aw) (RO.nx (fL aw (vb (cd.Y1==an.Y0)) (RO.last ?_))))
   obtain rfl:=oi hj
   exact⟨rfl,o.sp 10 [6,7,8,9]⟩
  rintro _ w ⟨O,rfl,o⟩
  refine aH ?_
  obtain⟨cf,hj,hb⟩:=bd hb
  refine RC.jn (fun(cf: (List Int)) U w=>∃bu:Value,SH E V [(0,v0),(3,ah),(4,vp ag 0),(6,(.func (.func 85) #[] #[(vp ag 0)])),(7,vi ad.2.1),(11,(vi (IntKind.wrap .i64 (Int.tdiv (an.Xs.length:Int) 2)))),(42,v0),(43,vi p0.length),(44,vi ay)] [rd v0 p0,own 59 ah aq,bc 28 ag [bu],own 3 bu cf] U w) cf ?_ ?_
  ·refine dU hj (fun hc hj=>?_) fun hc hj=>?_
   rotate_left
   ·refine RC.skip ?_
    obtain rfl:=oi hj
    exact⟨rfl,bt,o.sp 4 [0,1,2,3]⟩
   refine RC.sr (mv (vi ad.2.2) (mv (vi ad.2.1) (aQ (vi ad.2.2) (aQ (vi ad.2.1) (RL.nt ?_)))))
   obtain⟨d3,hN,hj⟩:=bd hj
   refine RC.iter (fun(ae: (List Int)×Int×Int) U w=>∃cu:Value,SH E V [(0,v0),(3,ah),(4,vp ag 0),(6,(.func (.func 85) #[] #[(vp ag 0)])),(7,vi ad.2.1),(11,(vi (IntKind.wrap .i64 (Int.tdiv (an.Xs.length:Int) 2)))),(12,vi ae.2.1),(13,vi ae.2.2),(42,v0),(43,vi p0.length),(44,vi ay)] [rd v0 p0,own 59 ah aq,bc 28 ag [cu],own 3 cu ae.1] U w) (fun(ae: (List Int)×Int×Int) U w=>∃bw:Value,SH E V [(0,v0),(3,ah),(4,vp ag 0),(6,(.func (.func 85) #[] #[(vp ag 0)])),(7,vi ad.2.1),(11,(vi (IntKind.wrap .i64 (Int.tdiv (an.Xs.length:Int) 2)))),(42,v0),(43,vi p0.length),(44,vi ay)] [rd v0 p0,own 59 ah aq,bc 28 ag [bw],own 3 bw ae.1] U w) (fun(r:Empty) _ _=>r.elim) hN ?_ ?_ ?_ ?_
   ·exact⟨bt,o.sp 4 [0,1,2,3]⟩
   ·rintro ae fl _ w ⟨bz,O,rfl,o⟩ hb
    refine RC.seq (RC.sr (mv (vi ae.2.1) (mv (vi ad.2.1) (ic ae.2.1 ad.2.1 (mv (vb (decide (ae.2.1<ad.2.1))) (RL.gs true (decide (ae.2.1<ad.2.1)) (vi ae.2.2) zr zr zr cH (RL.gs true (decide (ae.2.1<ad.2.1)) (vi ad.2.1) zr zr zr cH (RL.gs true (decide (ae.2.1<ad.2.1)) (vi (IntKind.wrap .i64 (Int.tdiv (an.Xs.length:Int) 2))) zr zr zr cH ?_))))))))
    refine RL.gs true (decide (ae.2.1<ad.2.1)) (vi (IntKind.wrap .i64 (ad.2.1+ (IntKind.wrap .i64 (Int.tdiv (an.Xs.length:Int) 2))))) rfl rfl rfl (Jk (bop:= .add) (K:= .i64) (a:=ad.2.1) (b:=(IntKind.wrap .i64 (Int.tdiv (an.Xs.length:Int) 2))) rfl (fun h=>by exact(cK h:cv (true&&((decide (ae.2.1<ad.2.1))==true)) (vi ad.2.1)= (vi ad.2.1))) (fun h=>by exact(cK h:cv (true&&((decide (ae.2.1<ad.2.1))==true)) (vi (IntKind.wrap .i64 (Int.tdiv (an.Xs.length:Int) 2)))= (vi (IntKind.wrap .i64 (Int.tdiv (an.Xs.length:Int) 2))))) rfl) (RL.gs true (decide (ae.2.1<ad.2.1)) (vb (decide (ae.2.2< (IntKind.wrap .i64 (ad.2.1+ (IntKind.wrap .i64 (Int.tdiv (an.Xs.length:Int) 2))))))) rfl rfl rfl (dI .lss .i64 ae.2.2 (IntKind.wrap .i64 (ad.2.1+ (IntKind.wrap .i64 (Int.tdiv (an.Xs.length:Int) 2)))) rfl (fun h=>by exact(cK h:cv (true&&((decide (ae.2.1<ad.2.1))==true)) (vi ae.2.2)= (vi ae.2.2))) (fun h=>by exact(cK h:cv (true&&((decide (ae.2.1<ad.2.1))==true)) (vi (IntKind.wrap .i64 (ad.2.1+ (IntKind.wrap .i64 (Int.tdiv (an.Xs.length:Int) 2)))))= (vi (IntKind.wrap .i64 (ad.2.1+ (IntKind.wrap .i64 (Int.tdiv (an.Xs.length:Int) 2))))))) rfl) (RL.pick (decide (ae.2.1<ad.2.1)) (vb ((decide (ae.2.1<ad.2.1))&&(decide (ae.2.2< (IntKind.wrap .i64 (ad.2.1+ (IntKind.wrap .i64 (Int.tdiv (an.Xs.length:Int) 2)))))))) (gr true rfl) (RL.nt (dU hb (fun hc hb=>?_) fun hc hb=>?_))))
    rotate_left
    ·refine RC.ex ?_
     obtain rfl:=oi hb
     exact⟨rfl,bz,o.sp 4 [0,1,2,3]⟩
    refine RC.sn (RC.block (RC.seq (RC.seq ?_)))
    obtain⟨ch,hj,hb⟩:=bd hb
    refine RC.jn (fun(ch:Bool)=>SH E V [(0,v0),(3,ah),(4,vp ag 0),(6,(.func (.func 85) #[] #[(vp ag 0)])),(7,vi ad.2.1),(11,(vi (IntKind.wrap .i64 (Int.tdiv (an.Xs.length:Int) 2)))),(12,vi ae.2.1),(13,vi ae.2.2),(42,v0),(43,vi p0.length),(44,vi ay),(101,vb ch)] [rd v0 p0,own 59 ah aq,bc 28 ag [bz],own 3 bz ae.1]) ch ?_ ?_
    ·refine RC.zf mixed ?_
     have o:=o.drew
     refine RO.go (mv ah (RO.nx (mv (vi ae.2.1) (RO.nx ?_))))
     obtain⟨cw,b0,hj⟩:=bd hj
     refine RL.bQ 1 o zr zr jk b0 (RO.nx (RL.jV (α:=aI) (jg 1 o b0 0) ir (RO.nx (RL.dQ 1 o (jg 1 o b0 0) (bF b0).2.1 dL cJ (RO.nx (mv ah (RO.nx (mv (vi ae.2.2) ?_))))))))
     refine RO.nx ?_
     obtain⟨cx,b1,hj⟩:=bd hj
     refine RL.bQ 1 o zr zr jk b1 (RO.nx (RL.jV (α:=aI) (jg 1 o b1 0) jl (RO.nx (RL.dQ 1 o (jg 1 o b1 2) (bF b1).2.1 eE cJ (RO.nx (ic cw.X0 cx.X1 (RO.nx (mv (vb (decide (cw.X0<cx.X1))) ?_))))))))
     refine fC hj (fun ao hj=>?_) fun ao hj=>?_
     rotate_left
     ·refine RO.nx (bG ao (RO.nx (bG ao (RO.nx (bG ao (RO.nx (bG ao (RO.nx ?_))))))))
      refine bG ao (RO.nx (bG ao (RO.nx (bG ao (RO.nx (bG ao (RO.nx (bG ao ?_))))))))
      refine RO.nx (bG ao (RO.nx (bG ao (RO.nx (fL ao (vb false) (RO.last ?_))))))
      obtain rfl:=oi hj
      exact⟨rfl,o.sp 4 [0,1,2,3]⟩
     refine RO.nx (RL.move ah (cg ao) (RO.nx (RL.move (vi ae.2.2) (cg ao) (RO.nx ?_))))
     obtain⟨cy,b2,hj⟩:=bd hj
     refine RL.bQ (hg:=(cg ao)) 1 o zr zr jk b2 (RO.nx (RL.jV (hg:=(cg ao)) (α:=aI) (jg 1 o b2 0) ir (RO.nx (RL.dQ (hg:=(cg ao)) 1 o (jg 1 o b2 0) (bF b2).2.1 dL cJ (RO.nx (RL.move ah (cg ao) (RO.nx (RL.move (vi ae.2.1) (cg ao) ?_))))))))
     refine RO.nx ?_
     obtain⟨cz,b3,hj⟩:=bd hj
     refine RL.bQ (hg:=(cg ao)) 1 o zr zr jk b3 (RO.nx (RL.jV (hg:=(cg ao)) (α:=aI) (jg 1 o b3 0) jl (RO.nx (RL.dQ (hg:=(cg ao)) 1 o (jg 1 o b3 2) (bF b3).2.1 eE cJ (RO.nx (RL.kD cy.X0 cz.X1 (cg ao) (RO.nx (fL ao (vb (decide (cy.X0<cz.X1))) ?_))))))))
     refine RO.last ?_
     obtain rfl:=oi hj
     exact⟨rfl,o.sp 4 [0,1,2,3]⟩
    rintro _ w ⟨O,rfl,o⟩
    refine aH ?_
    obtain⟨b4,hj,hb⟩:=bd hb
    refine RC.jn (fun(b4: (List Int)) U w=>∃bl:Value,SH E V [(0,v0),(3,ah),(4,vp ag 0),(6,(.func (.func 85) #[] #[(vp ag 0)])),(7,vi ad.2.1),(11,(vi (IntKind.wrap .i64 (Int.tdiv (an.Xs.length:Int) 2)))),(12,vi ae.2.1),(13,vi ae.2.2),(42,v0),(43,vi p0.length),(44,vi ay)] [rd v0 p0,own 59 ah aq,bc 28 ag [bl],own 3 bl b4] U w) b4 ?_ ?_
    ·refine dU hj (fun hc hj=>?_) fun hc hj=>?_
     rotate_left
     ·refine RC.skip ?_
      obtain rfl:=oi hj
      exact⟨rfl,bz,o.sp 4 [0,1,2,3]⟩
     refine RC.sr (mv (.func (.func 85) #[] #[(vp ag 0)]) (mv (vi ae.2.1) ?_))
     have o:=(o.pull 3).pull 3
     obtain⟨bf,dc,hj⟩:=bd hj
     refine RL.CF (cap:=[(vp ag 0)]) zt zr JD zr [(vi ae.2.1)] zr (aD (l5 N (p0:=ae.2.1) o dc) ?_)
     rintro _ w ⟨d5,rfl,o⟩
     refine mv (.func (.func 85) #[] #[(vp ag 0)]) (mv (vi ae.2.2) ?_)
     have o:=(o.pull 1).pull 1
     obtain⟨bg,dd,hj⟩:=bd hj
     refine RL.CF (cap:=[(vp ag 0)]) zt zr JD zr [(vi ae.2.2)] zr (aD (l5 N (p0:=ae.2.2) o dd) ?_)
     rintro _ w ⟨c0,rfl,o⟩
     refine aQ (vi bf.1) (aQ (vi bg.1) (RL.nt (RC.region (RL.bI 0 c0 o eY (mv (vi bf.1) (mv (vi bg.1) (RL.max bf.1 bg.1 (mv (vi bf.1) ?_))))))))
     refine mv (vi bg.1) (RL.min bf.1 bg.1 ?_)
     obtain⟨d6,cj,hj⟩:=bd hj
     refine RL.bQ 1 o zr zr dW cj ?_
     have o:=o.sc Int (if bg.1<bf.1 then bg.1 else bf.1)
     refine RL.gL (f:=(fun _ y=>y)) 2 0 o (jg 2 o cj 0) (bF cj).2.1 zr Fs.self cJ fun w o=>?_
     refine RL.nil ?_
     obtain rfl:=oi hj
     exact⟨rfl,c0,o.sp 9 [5,6,1,2]⟩
    rintro _ w ⟨bl,O,rfl,o⟩
    refine aH (RC.seq (RC.zf mixed ?_))
    have o:=o.drew
    refine RO.go (mv ah (RO.nx (mv (vi ae.2.1) (RO.nx ?_))))
    obtain⟨de,b5,hb⟩:=bd hb
    refine RL.bQ 1 o zr zr jk b5 (RO.nx (RL.jV (α:=aI) (jg 1 o b5 0) jl (RO.nx (RL.dQ 1 o (jg 1 o b5 2) (bF b5).2.1 eE cJ (RO.nx (mv ah (RO.nx (mv (vi ae.2.2) ?_))))))))
    refine RO.nx ?_
    obtain⟨df,b6,hb⟩:=bd hb
    refine RL.bQ 1 o zr zr jk b6 (RO.nx (RL.jV (α:=aI) (jg 1 o b6 0) jl (RO.nx (RL.dQ 1 o (jg 1 o b6 2) (bF b6).2.1 eE cJ (RO.nx (ic de.X1 df.X1 (RO.last (aH ?_))))))))
    obtain⟨b7,hj,hb⟩:=bd hb
    refine RC.jn (fun(b7:Int×Int)=>SH E V [(0,v0),(3,ah),(4,vp ag 0),(6,(.func (.func 85) #[] #[(vp ag 0)])),(7,vi ad.2.1),(11,(vi (IntKind.wrap .i64 (Int.tdiv (an.Xs.length:Int) 2)))),(12,vi b7.1),(13,vi b7.2),(42,v0),(43,vi p0.length),(44,vi ay)] [rd v0 p0,own 59 ah aq,bc 28 ag [bl],own 3 bl b4]) b7 ?_ ?_
    ·refine dU hj (fun hc hj=>?_) fun hc hj=>?_
     ·refine RC.region (mv (vi ae.2.1) (RL.gl ae.2.1 1 (aQ (vi (IntKind.wrap .i64 (ae.2.1+1))) (RL.nil ?_))))
      obtain rfl:=oi hj
      exact⟨rfl,o.sp 4 [0,1,2,3]⟩
     refine RC.region (mv (vi ae.2.2) (RL.gl ae.2.2 1 (aQ (vi (IntKind.wrap .i64 (ae.2.2+1))) (RL.nil ?_))))
     obtain rfl:=oi hj
     exact⟨rfl,o.sp 4 [0,1,2,3]⟩
    rintro _ w ⟨O,rfl,o⟩
    refine bM ?_
    obtain rfl:=oi hb
    exact⟨rfl,bl,o.sp 4 [0,1,2,3]⟩
   ·intro r _ _ _ _
    exact r.elim
   rintro ae _ w rfl ⟨bw,O,rfl,o⟩
   rw [Fo.dA] at hj
   obtain rfl:=oi hj
   exact⟨rfl,bw,o.sp 4 [0,1,2,3]⟩
  rintro _ w ⟨bu,O,rfl,o⟩
  refine aH (RC.region (mv (vi ad.2.1) (mv (vi ad.2.1) (mv (vi (IntKind.wrap .i64 (Int.tdiv (an.Xs.length:Int) 2))) (RL.gl ad.2.1 (IntKind.wrap .i64 (Int.tdiv (an.Xs.length:Int) 2)) (aQ (vi ad.2.1) (aQ (vi (IntKind.wrap .i64 (ad.2.1+ (IntKind.wrap .i64 (Int.tdiv (an.Xs.length:Int) 2))))) (RL.nil ?_))))))))
  refine bM (aH (RC.region (RL.inc hk hm (mv (vi ((ay+1:Nat):Int)) (RL.nil ?_)))))
  obtain rfl:=oi hb
  exact⟨rfl,bu,o.sp 4 [0,1,2,3]⟩
 rintro _ w ⟨br,O,rfl,o⟩
 refine aH (RC.sr (RL.makeMap (κ:=Int) (ν:=Int) zt zr o fun a6 w o=>(aQ a6 (RL.ns (aQ (.slice none 0 0) (RL.nq (RC.sr (mv ah ?_))))))))
 refine RL.fS 2 aq o nc (mv (vi 0) (RL.nt ?_))
 obtain⟨ak,hN,hb⟩:=bd hb
 refine RC.fold (fun(a5:Nat) (ak: (List Int)×(List (Int×Int))×(List (List aI))) U w=>∃(c1 c2:Value) (us939:List RV),SH E V [(6,(.func (.func 85) #[] #[(vp ag 0)])),(16,a6),(17,c2),(137,ah),(138,vi aq.length),(139,vi a5)] [bc 28 ag [c1],own 3 c1 ak.1,mp a6 ak.2.1,own 59 ah aq,own 23 c2 us939,iu (XS 59 aI) us939 ak.2.2 none] U w) (fun(ak: (List Int)×(List (Int×Int))×(List (List aI))) U w=>∃(ck bh:Value) (us942:List RV),SH E V [(17,bh)] [bc 28 ag [ck],own 3 ck ak.1,mp a6 ak.2.1,own 59 ah aq,own 23 bh us942,iu (XS 59 aI) us942 ak.2.2 none] U w) hN ?_ ?_ ?_ ?_
 ·have o:=(o.zq (XS 59 aI)).cO RV 23
  exact⟨br,(.slice none 0 0),([]:List RV),o.sp 7 [5,6,2,4,0,1]⟩
 ·rintro hm ak _ w ⟨dg,dh,us987,O,rfl,o⟩
  refine RC.sr (ic ((aq.length:Int)) ((aq.length:Int)) (RL.nq (RC.fO tG (RC.ex ?_))))
  exact⟨rfl,dg,dh,us987,o.sp 6 [0,1,2,3,4,5]⟩
 ·rintro hm a5 ak s' _ w hk ⟨d7,cl,us945,O,rfl,o⟩ hb
  refine RC.sr (ic ((a5:Int)) ((aq.length:Int)) (RL.nq (RC.fN (tF hk) (RC.ss (RC.bs (mv (vi a5) ?_))))))
  obtain⟨bb,cm,hb⟩:=bd hb
  refine RL.bQ 3 o zr zr jk cm (RL.ju (f:=(fun x=>x)) 3 o (jg 3 o cm 0) (bF cm).2.1 Fd.self iF fun d8 o=>?_)
  refine RL.alloc o oA.z fun b8 w o=>?_
  refine aQ (vi a5) (RL.cA 0 o 1 zr iF fun w o=>?_)
  refine RL.ns (mv (.func (.func 85) #[] #[(vp ag 0)]) (mv (vi a5) ?_))
  have o:=(o.pull 3).pull 3
  obtain⟨a2,di,hb⟩:=bd hb
  refine RL.CF (cap:=[(vp ag 0)]) zt zr JD zr [(vi a5)] zr (aD (l5 N (p0:=(a5:Int)) o di) ?_)
  rintro _ w ⟨bo,rfl,o⟩
  refine aQ (vi a2.1) (RL.ns (mv a6 (mv (vi a2.1) (RL.GG (i:=6) (k:=a2.1) zt zr o zr zr zr Dm (mv (.tuple #[(vi (jy ak.2.1 a2.1 (0:Int))),(vb (tM ak.2.1 a2.1))]) (RL.extract (vi (jy ak.2.1 a2.1 (0:Int))) (RL.extract (vb (tM ak.2.1 a2.1)) (aQ (vi (jy ak.2.1 a2.1 (0:Int))) ?_))))))))
  refine aQ (vb (tM ak.2.1 a2.1)) (RL.nq (RC.sr (mv (vb (tM ak.2.1 a2.1)) (RL.not (tM ak.2.1 a2.1) (RL.nt ?_)))))
  obtain⟨af,hj,hb⟩:=bd hb
  refine RC.jn (fun(af: (List (Int×Int))×(List (List aI))×Int) U w=>∃(a1:Value) (us956:List RV),SH E V [(6,(.func (.func 85) #[] #[(vp ag 0)])),(16,a6),(17,a1),(19,vp b8 0),(21,vi af.2.2),(137,ah),(138,vi aq.length),(139,vi a5)] [bc 28 ag [bo],own 3 bo a2.2,mp a6 af.1,bx 59 b8 bb,own 59 ah aq,own 23 a1 us956,iu (XS 59 aI) us956 af.2.1 none] U w) af ?_ ?_
  ·refine dU hj (fun hc hj=>?_) fun hc hj=>?_
   rotate_left
   ·refine RC.skip ?_
    obtain rfl:=oi hj
    exact⟨rfl,cl,us945,o.sp 10 [0,1,6,2,7,8,9]⟩
   refine RC.sr (mv cl (RL.rP 8 9 ak.2.2 o qw (aQ (vi ak.2.2.length) (RL.ns (mv a6 (mv (vi a2.1) (mv (vi ak.2.2.length) ?_)))))))
   have o:=o.sc Int (ak.2.2.length:Int)
   refine RL.mapUpdate 7 0 a2.1 zt o zr zr zr zr zr Dm fun w o=>(RL.nt (RC.region (mv cl ?_)))
   have o:=(o.cO aI 59).Bj (i:=0) rfl
   refine RL.dR ([rv (.slice none 0 0)]:List RV) o [(.slice none 0 0)] uk JE (fun M hs g=>⟨(g.sat 0 _ zr).1,zt⟩) fun d9 w o=>?_
   obtain⟨ea,dj,hj⟩:=bd hj
   have o:=o.freeze 0
   refine RL.CZ 12 0 13 2 zt zr o zr zr zr zr zr zr G1 dj fun c3 w o=>?_
   refine aQ c3 (RL.nil ?_)
   obtain rfl:=oi hj
   exact⟨rfl,c3,(us945++[rv (.slice none 0 0)]),o.sp 14 [4,5,10,6,11,12,13]⟩
  rintro _ w ⟨a1,us956,O,rfl,o⟩
  refine aH ?_
  obtain⟨eb,b9,hb⟩:=bd hb
  obtain⟨bj,dk,hb⟩:=bd hb
  obtain⟨ec,cn,hb⟩:=bd hb
  refine RC.FJ E V mixed [1,1,1,1,0,0,0,0,0,0,0] [6,7,8,10] (fun(x:Value×Value×Value)=>(fun a0 ax al=>[(0,163,a1),(1,164,(vi af.2.2)),(2,165,a1),(3,166,(vi af.2.2)),(4,167,(zc a1 (Int.toNat af.2.2) 1 0)),(5,168,(us956.getD (Int.toNat af.2.2) CA).v),(6,169,a0),(7,170,ax),(8,171,al),(9,172,(zc a1 (Int.toNat af.2.2) 1 0))]) x.1 x.2.1 x.2.2) [(6,(.func (.func 85) #[] #[(vp ag 0)])),(16,a6),(17,a1),(19,vp b8 0),(21,vi af.2.2),(137,ah),(138,vi aq.length),(139,vi a5)] [] (fun(D:Nat->Bool) (x:Value×Value×Value)=>(fun a0 ax al=>[bif D 0 then (rd a0 bb) else bC,bif D 2 then (rd ax ([bb]: (List aI))) else (bif D 1 then (own 59 ax ([bb]: (List aI))) else bC),bif D 3 then bC else (bif D 2 then (own 59 al bj) else bC),bc 28 ag [bo],own 3 bo a2.2,mp a6 af.1,bx 59 b8 bb,own 59 ah aq,bif D 3 then (own 23 a1 (us956.set (Int.toNat af.2.2) (rv al))) else (own 23 a1 us956),bif D 3 then (iu (XS 59 aI) (us956.set (Int.toNat af.2.2) (rv al)) (af.2.1.set (Int.toNat af.2.2) bj) none) else (bif D 2 then (iu (XS 59 aI) us956 af.2.1 (some (Int.toNat af.2.2))) else (iu (XS 59 aI) us956 af.2.1 none))]) x.1 x.2.1 x.2.2) (fun x=>by kernel_rfl) ?_ ⟨fun _=>jF gn,fun _=>jF gn,fun _=>jF gn,fun _=>jF gn,?_,?_,?_,?_,?_,?_,?_,trivial⟩ ?_
  ·have o:=(((o.drew).bC).bC).bC
   exact⟨(undef,undef,undef),fP.none,(Eu zr),zt,o⟩
  ·rintro D U w hD au aj ⟨⟨a0,ax,al⟩,hv,ha,_,o⟩
   obtain⟨O,rfl⟩:=(ac (hv.at 2 rfl (au.1 rfl)) (ac (hv.at 3 rfl (au.2.1 rfl)) az)).fH
   have o:=((o.cB 8 (nh aj hD 10)).cB 9 (nh aj hD 10)).cB 9 (nf (fun h=>ft hD ((aj 5 _ rfl ((aj 8 _ rfl h).1 rfl)).1 rfl)))
   have hl974:=o.eD 9
   have hr975:=fT CA hl974 b9
   refine RL.bQ 8 o zr zr uk hr975 ?_
   have o:=(o.eW 8 (D 10) (nh aj hD 10) (own 23 a1 (us956.set (Int.toNat af.2.2) (rv al)))).eW 9 (D 8) (nf (fun h=>ft hD ((aj 5 _ rfl ((aj 8 _ rfl h).1 rfl)).1 rfl))) (iu (XS 59 aI) us956 af.2.1 (some (Int.toNat af.2.2)))
   have o:=o.eW 9 (D 10) (nh aj hD 10) (iu (XS 59 aI) (us956.set (Int.toNat af.2.2) (rv al)) (af.2.1.set (Int.toNat af.2.2) bj) none)
   exact RL.nil ⟨rfl,(a0,ax,al),hv.pu 4,ha.u,zt,o⟩
  ·rintro D U w hD au aj ⟨⟨a0,ax,al⟩,hv,ha,_,o⟩
   obtain⟨O,rfl⟩:=(ac (hv.at 4 rfl (au.1 rfl)) az).fH
   have o:=((o.cB 8 (nh aj hD 10)).cB 9 (nh aj hD 10)).cB 9 (nh aj hD 8)
   have hl976:=o.eD 9
   have hr977:=fT CA hl976 b9
   refine RL.u4 8 9 af.2.2 (Bi 59 aI) CA zr o zr (jg 8 o hr977 0) zr zr b9 tR ?_
   have o:=(o.eW 8 (D 10) (nh aj hD 10) (own 23 a1 (us956.set (Int.toNat af.2.2) (rv al)))).eW 9 (D 8) (nh aj hD 8) (iu (XS 59 aI) us956 af.2.1 (some (Int.toNat af.2.2)))
   have o:=o.eW 9 (D 10) (nh aj hD 10) (iu (XS 59 aI) (us956.set (Int.toNat af.2.2) (rv al)) (af.2.1.set (Int.toNat af.2.2) bj) none)
   exact RL.nil ⟨rfl,(a0,ax,al),hv.pu 5,ha.u,zt,o⟩
  ·rintro D U w hD au aj ⟨⟨a0,ax,al⟩,hv,ha,_,o⟩
   obtain⟨O,rfl⟩:=(ac (ha.at 3 rfl) az).fH
   have o:=o.cB 0 hD
   refine RL.bE (f:=(fun x=>x)) 6 o zr Fd.self iF fun dm o=>?_
   have o:=(o.pl 11 [0,2,3,4,5,6,7,8,9,10]).cQ 0 true rfl bC
   exact RL.nil ⟨rfl,(dm,ax,al),hv.pu 6,ha.u,zt,o⟩
  ·rintro D U w hD au aj ⟨⟨a0,ax,al⟩,hv,ha,_,o⟩
   obtain⟨O,rfl⟩:=(ac (hv.at 6 rfl (au.1 rfl)) az).fH
   have o:=((o.cP 0 (au.1 rfl)).cB 1 (nh aj hD 8)).cB 1 hD
   refine RL.dR ([bb]: (List aI)) o [a0] jk oA (fun M hs g=>⟨(g.sat 0 _ zr).1,zt⟩) fun c4 w o=>?_
   have o:=(((o.pl 11 [1,0,3,4,5,6,7,8,9,10]).cQ 0 (D 6) (au.1 rfl) bC).cQ 1 true rfl bC).eW 1 (D 8) (nh aj hD 8) (rd c4 ([bb]: (List aI)))
   exact RL.nil ⟨rfl,(a0,c4,al),hv.pu 7,ha.u,zt,o⟩
  ·rintro D U w hD au aj ⟨⟨a0,ax,al⟩,hv,ha,_,o⟩
   obtain⟨O,rfl⟩:=(ac (hv.at 5 rfl (au.1 rfl)) (ac (hv.at 7 rfl (au.2.1 rfl)) az)).fH
   have o:=(((((((o.cB 1 hD).cP 1 (au.2.1 rfl)).cB 2 (nh aj hD 10)).cB 2 hD).cB 8 (nh aj hD 10)).cB 9 (nh aj hD 10)).cB 9 hD).zF (j:=9) (jj:=af.2.2) (Bi 59 aI) CA rfl b9
   have o:=o.freeze 2
   refine RL.app 0 2 o zO dk fun cp w o=>?_
   have o:=((((o.pl 11 [1,2,0,4,5,6,7,8,9,10]).cQ 1 true rfl (bif D 7 then (own 59 ax ([bb]: (List aI))) else bC)).cQ 2 true rfl bC).eW 2 (D 10) (nh aj hD 10) bC).eW 8 (D 10) (nh aj hD 10) (own 23 a1 (us956.set (Int.toNat af.2.2) (rv cp)))
   have o:=(o.cQ 9 true rfl (iu (XS 59 aI) us956 af.2.1 none)).eW 9 (D 10) (nh aj hD 10) (iu (XS 59 aI) (us956.set (Int.toNat af.2.2) (rv cp)) (af.2.1.set (Int.toNat af.2.2) bj) none)
   exact RL.nil ⟨rfl,(a0,ax,cp),hv.pu 8,ha.u,zt,o⟩
  ·rintro D U w hD au aj ⟨⟨a0,ax,al⟩,hv,ha,_,o⟩
   obtain⟨O,rfl⟩:=(ac (hv.at 0 rfl (au.1 rfl)) (ac (hv.at 1 rfl (au.2.1 rfl)) az)).fH
   have o:=((o.cB 8 (nh aj hD 10)).cB 9 (nh aj hD 10)).cP 9 (au.2.2.2.2.2.2.2.2.2.2.1 rfl)
   have hl981:=o.eD 9
   have hr982:=fT CA hl981 cn
   refine RL.bQ 8 o zr zr uk hr982 ?_
   have o:=((o.eW 8 (D 10) (nh aj hD 10) (own 23 a1 (us956.set (Int.toNat af.2.2) (rv al)))).cQ 9 (D 8) (au.2.2.2.2.2.2.2.2.2.2.1 rfl) (iu (XS 59 aI) us956 af.2.1 none)).eW 9 (D 10) (nh aj hD 10) (iu (XS 59 aI) (us956.set (Int.toNat af.2.2) (rv al)) (af.2.1.set (Int.toNat af.2.2) bj) none)
   exact RL.nil ⟨rfl,(a0,ax,al),hv.pu 9,ha.u,zt,o⟩
  ·rintro D U w hD au aj ⟨⟨a0,ax,al⟩,hv,ha,_,o⟩
   obtain⟨O,rfl⟩:=(ac (hv.at 8 rfl (au.2.1 rfl)) (ac (hv.at 9 rfl (au.1 rfl)) az)).fH
   have o:=((((o.cB 2 hD).cP 2 (au.2.1 rfl)).cB 8 hD).cB 9 hD).cP 9 (au.2.1 rfl)
   have hl983:=o.eD 9
   have hr984:=fT CA hl983 cn
   refine RL.sS 8 9 2 af.2.2 (Bi 59 aI) CA o zr zr (jg 8 o hr984 0) zr zr zr cn tR fun w o=>?_
   have o:=((o.cQ 2 true rfl (bif D 8 then (own 59 al bj) else bC)).cQ 8 true rfl (own 23 a1 us956)).cQ 9 true rfl (bif D 8 then (iu (XS 59 aI) us956 af.2.1 (some (Int.toNat af.2.2))) else (iu (XS 59 aI) us956 af.2.1 none))
   exact RL.nil ⟨rfl,(a0,ax,al),hv.n1,ha,zt,o⟩
  rintro D U w bp ⟨⟨a0,ax,al⟩,hv,ha,_,o⟩
  have o:=((((o.cP 0 (kQ bp 6)).cP 1 (kQ bp 8)).cP 2 (kQ bp 10)).cP 8 (kQ bp 10)).cP 9 (kQ bp 10)
  obtain⟨O,rfl⟩:=(ac (ha.at 0 rfl) (ac (ha.at 1 rfl) (ac (ha.at 2 rfl) (ac (ha.at 3 rfl) (ac (ha.at 4 rfl) (ac (ha.at 5 rfl) (ac (ha.at 6 rfl) (ac (ha.at 7 rfl) az)))))))).fH
  refine bM (aH (RC.region (RL.inc hk hm (mv (vi ((a5+1:Nat):Int)) (RL.nil ?_)))))
  obtain rfl:=oi hb
  exact⟨rfl,bo,a1,(us956.set (Int.toNat af.2.2) (rv al)),o.sp 10 [3,4,5,7,8,9]⟩
 rintro _ w ⟨ck,bh,us942,O,rfl,o⟩
 refine aH (RC.sr (aQ (.slice none 0 0) (RL.nq (RC.sr (mv bh (RL.rP 4 5 ak.2.2 o qw (mv (vi 0) (RL.nt ?_))))))))
 have o:=o.zu (X:=(XS 59 aI)) (b:=5) (j:=4) rfl (fun M h u x cs=>(IQ 59) M h u x cs) rfl rfl (by decide)
 obtain⟨bm,hN,hb⟩:=bd hb
 refine RC.fold (fun(ca:Nat) (bm: (List (List aA))) U w=>∃c5:Value,SH E V [(23,c5),(174,bh),(175,vi ak.2.2.length),(176,vi ca)] [own 23 bh ak.2.2,own 74 c5 bm] U w) (fun(bm: (List (List aA))) U w=>∃bq:Value,SH E V [(23,bq)] [own 23 bh ak.2.2,own 74 bq bm] U w) hN ?_ ?_ ?_ ?_
 ·have o:=o.cO (List aA) 74
  exact⟨(.slice none 0 0),o.sp 7 [5,0]⟩
 ·rintro hm bm _ w ⟨dn,O,rfl,o⟩
  refine RC.sr (ic ((ak.2.2.length:Int)) ((ak.2.2.length:Int)) (RL.nq (RC.fO tG (RC.ex ?_))))
  exact⟨rfl,dn,o.sp 2 [0,1]⟩
 ·rintro hm ca bm s' _ w hk ⟨dp,O,rfl,o⟩ hb
  refine RC.sr (ic ((ca:Int)) ((ak.2.2.length:Int)) (RL.nq (RC.fN (tF hk) (RC.ss (RC.bs ?_)))))
  obtain⟨ed,cq,hb⟩:=bd hb
  refine RL.bQ 0 o zr zr uk cq (RL.ju (f:=(fun x=>x)) 0 o (jg 0 o cq 0) (bF cq).2.1 Fd.self tR fun cr o=>?_)
  refine aQ cr (RL.nt (RC.region (mv dp (mv cr ?_))))
  obtain⟨dq,dr,hb⟩:=bd hb
  refine RL.call zt zr GU [cr] zr (aD (mA N (i0:=0) o zr dr) ?_)
  rintro ds w o
  have o:=o.freeze 0
  refine RL.dR ([dq]: (List (List aA))) o [ds] GZ JC (fun M hs g=>⟨(g.sat 0 _ zr).1,zt⟩) fun ee w o=>?_
  have o:=o.freeze 0
  obtain⟨ef,dt,hb⟩:=bd hb
  refine RL.app 4 0 o KP dt fun c6 w o=>?_
  refine aQ c6 (RL.nil (bM (aH (RC.region (RL.inc hk hm (mv (vi ((ca+1:Nat):Int)) (RL.nil ?_)))))))
  obtain rfl:=oi hb
  exact⟨rfl,c6,o.sp 5 [3,4]⟩
 rintro _ w ⟨bq,O,rfl,o⟩
 refine aH (RC.sr (mv bq (aQ bq (RL.nt (RC.ret ?_)))))
 obtain rfl:=oi hb
 exact bX (o.pk 2 [1])
def uG (E:World) (V:List HP) (b0:Nat) (v0_0 v0_1:Value) (v0_2 v0_3:Value) (v0_6 v0_7:Value) (v0_8 v0_9:Value) (v0_10 v0_11:Value) (res:Bool×(List (List aA))×(List aK)) (v:Value) (w:World):Prop:=∃u0_4 u0_5:Value,v= (vb res.1)/\Holds E w ([bc 44 b0 [v0_0,v0_1,v0_2,v0_3,u0_4,u0_5,v0_6,v0_7,v0_8,v0_9,v0_10,v0_11],own 74 u0_4 res.2.1,own 90 u0_5 res.2.2]++V)
theorem tU {p0_0: (List (List aI))} {p0_2: (List cE)} {p0_4: (List (List aA))} {p0_5: (List aK)} {res:Bool×(List (List aA))×(List aK)} (j:Holds E w (bc 44 b0 [v0_0,v0_1,v0_2,v0_3,v0_4,v0_5,v0_6,v0_7,v0_8,v0_9,v0_10,v0_11]::rd v0_0 p0_0::rd v0_2 p0_2::own 74 v0_4 p0_4::own 90 v0_5 p0_5::V)) (o:j6 N p0_0 p0_2 p0_4 p0_5=some res):
    Calls bO 20 [(vp b0 0)].toArray w (gW (uG E V b0 v0_0 v0_1 v0_2 v0_3 v0_6 v0_7 v0_8 v0_9 v0_10 v0_11 res)):=by
 unfold j6 at o
 refine enter Tryz.func20 zr zr (RC.sr (aQ (vb false) (RL.ns (aQ (vb true) (RL.nq (RC.sr (mv (vp b0 0) (RL.nilCheck zr ?_))))))))
 refine RL.aX zr sY (RL.aX zr mx (RL.bI 0 v0_0 j pB (RL.bA 1 p0_0 j qw (mv (vi 0) (RL.nt ?_)))))
 obtain⟨aa,hN,o⟩:=bd o
 refine RC.fold (fun(ab:Nat) (aa: (List (List aA))×(List aK)×Bool) U w=>∃bf bg:Value,SH E V [(0,vp b0 0),(3,vb aa.2.2),(16,v0_0),(17,vi p0_0.length),(18,vi ab)] [bc 44 b0 [v0_0,v0_1,v0_2,v0_3,bf,bg,v0_6,v0_7,v0_8,v0_9,v0_10,v0_11],own 74 bf aa.1,own 90 bg aa.2.1,rd v0_0 p0_0,rd v0_2 p0_2] U w) (fun(aa: (List (List aA))×(List aK)×Bool) U w=>∃au al:Value,SH E V [(0,vp b0 0),(3,vb aa.2.2)] [bc 44 b0 [v0_0,v0_1,v0_2,v0_3,au,al,v0_6,v0_7,v0_8,v0_9,v0_10,v0_11],own 74 au aa.1,own 90 al aa.2.1,rd v0_0 p0_0,rd v0_2 p0_2] U w) hN ?_ ?_ ?_ ?_
 ·exact⟨v0_4,v0_5,j.sp 5 [0,3,4,1,2]⟩
 ·rintro hm aa _ w ⟨bq,br,O,rfl,j⟩
  refine RC.sr (ic ((p0_0.length:Int)) ((p0_0.length:Int)) (RL.nq (RC.fO tG (RC.ex ?_))))
  exact⟨rfl,bq,br,j.sp 5 [0,1,2,3,4]⟩
 ·rintro hm ab aa s' _ w hk ⟨af,ag,O,rfl,j⟩ o
  refine RC.sr (ic ((ab:Int)) ((p0_0.length:Int)) (RL.nq (RC.fN (tF hk) (RC.ss (RC.bs (mv (vi ab) ?_))))))
  obtain⟨a2,bt,o⟩:=bd o
  refine RL.bP 3 j uk bt fun cp j=>(RL.bL 0 a2 j tR fun ah j=>(aQ (vi ab) (aQ ah (RL.ns (aQ (.slice none 0 0) (RL.nq (RC.sr (mv (vp b0 0) ?_))))))))
  refine RL.nilCheck zr (RL.aX zr sY (RL.aX zr gK (RL.bI 2 v0_2 j mZ (RL.bA 6 p0_2 j um (mv (vi 0) (RL.nt ?_))))))
  obtain⟨av,hN,o⟩:=bd o
  refine RC.fold (fun(az:Nat) (av: (List aI)) U w=>∃bh:Value,SH E V [(0,vp b0 0),(3,vb aa.2.2),(4,vi ab),(5,ah),(6,bh),(16,v0_0),(17,vi p0_0.length),(18,vi ab),(27,v0_2),(28,vi p0_2.length),(29,vi az)] [bc 44 b0 [v0_0,v0_1,v0_2,v0_3,af,ag,v0_6,v0_7,v0_8,v0_9,v0_10,v0_11],rd v0_0 p0_0,rd v0_2 p0_2,own 74 af aa.1,own 90 ag aa.2.1,rd ah a2,own 59 bh av] U w) (fun(av: (List aI)) U w=>∃a0:Value,SH E V [(0,vp b0 0),(3,vb aa.2.2),(4,vi ab),(5,ah),(6,a0),(16,v0_0),(17,vi p0_0.length),(18,vi ab)] [bc 44 b0 [v0_0,v0_1,v0_2,v0_3,af,ag,v0_6,v0_7,v0_8,v0_9,v0_10,v0_11],rd v0_0 p0_0,rd v0_2 p0_2,own 74 af aa.1,own 90 ag aa.2.1,rd ah a2,own 59 a0 av] U w) hN ?_ ?_ ?_ ?_
  ·have j:=j.cO aI 59
   exact⟨(.slice none 0 0),j.sp 8 [3,6,7,4,5,1,0]⟩
  ·rintro hm av _ w ⟨bu,O,rfl,j⟩
   refine RC.sr (ic ((p0_2.length:Int)) ((p0_2.length:Int)) (RL.nq (RC.fO tG (RC.ex ?_))))
   exact⟨rfl,bu,j.sp 7 [0,1,2,3,4,5,6]⟩
  ·rintro hm az av s' _ w hk ⟨bj,O,rfl,j⟩ o
   refine RC.sr (ic ((az:Int)) ((p0_2.length:Int)) (RL.nq (RC.fN (tF hk) (RC.ss (RC.bs ?_)))))
   obtain⟨bw,bx,o⟩:=bd o
   refine RL.bP 2 j pE bx fun cq j=>(RL.bL 0 bw j lE fun cr j=>(RL.alloc j Dj.z fun ct w j=>?_))
   refine RL.cA 0 j 1 zr lE fun w j=>?_
   refine RL.ns (RL.bE (f:=(fun x=>x)) 0 j zr Fd.self lE fun bz j=>(mv (vi ab) ?_))
   obtain⟨cu,b1,o⟩:=bd o
   refine RL.call zt zr JB [bz,(vi ab)] zr (aD (oG N (p1:=(ab:Int)) (i0:=0) j zr b1) ?_)
   rintro _ w ⟨rfl,j⟩
   refine RL.nt ?_
   obtain⟨a6,hj,o⟩:=bd o
   refine RC.jn (fun(a6: (List aI)) U w=>∃a3:Value,SH E V [(0,vp b0 0),(3,vb aa.2.2),(4,vi ab),(5,ah),(6,a3),(16,v0_0),(17,vi p0_0.length),(18,vi ab),(27,v0_2),(28,vi p0_2.length),(29,vi az)] [bc 44 b0 [v0_0,v0_1,v0_2,v0_3,af,ag,v0_6,v0_7,v0_8,v0_9,v0_10,v0_11],rd v0_0 p0_0,rd v0_2 p0_2,own 74 af aa.1,own 90 ag aa.2.1,rd ah a2,own 59 a3 a6] U w) a6 ?_ ?_
   ·refine dU hj (fun hc hj=>?_) fun hc hj=>?_
    rotate_left
    ·refine RC.skip ?_
     obtain rfl:=oi hj
     exact⟨rfl,bj,j.sp 11 [4,5,6,7,8,9,10]⟩
    refine RC.region (mv bj (RL.bE (f:=(fun x=>x)) 1 j zr Fd.self lE fun b3 j=>?_))
    obtain⟨b4,b5,hj⟩:=bd hj
    refine RL.call zt zr FN [b3] zr (aD (jo N (i0:=0) j zr b5) ?_)
    rintro b6 w j
    refine RL.dR ([b4]: (List aI)) j [b6] jk oA (fun M hs g=>⟨(g.sat 0 _ zr).1,zt⟩) fun cv w j=>?_
    have j:=j.freeze 0
    obtain⟨cw,b7,hj⟩:=bd hj
    refine RL.app 13 0 j zO b7 fun bk w j=>?_
    refine aQ bk (RL.nil ?_)
    obtain rfl:=oi hj
    exact⟨rfl,bk,j.sp 14 [7,8,9,10,11,12,13]⟩
   rintro _ w ⟨a3,O,rfl,j⟩
   refine bM (aH (RC.region (RL.inc hk hm (mv (vi ((az+1:Nat):Int)) (RL.nil ?_)))))
   obtain rfl:=oi o
   exact⟨rfl,a3,j.sp 7 [0,1,2,3,4,5,6]⟩
  rintro _ w ⟨a0,O,rfl,j⟩
  refine aH (RC.sr (mv ah ?_))
  obtain⟨cx,b8,o⟩:=bd o
  refine RL.call zt zr GU [ah] zr (aD (mA N (i0:=5) j zr b8) ?_)
  rintro b9 w j
  refine mv a0 ?_
  have j:=j.freeze 7
  obtain⟨cy,ca,o⟩:=bd o
  refine RL.call zt zr GU [a0] zr (aD (mA N (i0:=7) j zr ca) ?_)
  rintro cb w j
  have j:=(j.freeze 1).freeze 0
  obtain⟨cz,cc,o⟩:=bd o
  refine RL.call zt zr Mj [b9,cb] zr (aD (xm N (i0:=1) (i1:=0) j zr zr cc) ?_)
  rintro a1 w j
  refine aQ a1 (RL.nq ?_)
  obtain⟨an,hj,o⟩:=bd o
  refine RC.jn (fun(an:Bool×(List aA)) U w=>∃ao:Value,SH E V [(0,vp b0 0),(3,vb an.1),(4,vi ab),(9,ao),(16,v0_0),(17,vi p0_0.length),(18,vi ab)] [bc 44 b0 [v0_0,v0_1,v0_2,v0_3,af,ag,v0_6,v0_7,v0_8,v0_9,v0_10,v0_11],rd v0_0 p0_0,rd v0_2 p0_2,own 74 af aa.1,own 90 ag aa.2.1,rd ao an.2] U w) an ?_ ?_
  ·refine RC.region (mv (vb aa.2.2) (mv (vb aa.2.2) (fC hj (fun ai hj=>?_) fun ai hj=>?_)))
   rotate_left
   ·refine bG ai (bG ai (bG ai (fL ai (vb false) (aQ (vb false) (RL.nil ?_)))))
    obtain rfl:=oi hj
    have j:=j.freeze 0
    exact⟨rfl,a1,j.sp 10 [3,4,5,6,7,0]⟩
   refine RL.move a1 (cg ai) ?_
   have j:=j.freeze 0
   obtain⟨a7,cd,hj⟩:=bd hj
   refine RL.call (cg ai) zr Mk [a1] zr (aD (xn N (i0:=0) j zr cd) ?_)
   rintro _ w ⟨rfl,j⟩
   refine RL.kD a7 2000 (cg ai) (fL ai (vb (decide (a7<=2000))) (aQ (vb (decide (a7<=2000))) (RL.nil ?_)))
   obtain rfl:=oi hj
   exact⟨rfl,a1,j.sp 10 [3,4,5,6,7,0]⟩
  rintro _ w ⟨ao,O,rfl,j⟩
  refine aH (RC.sr (mv (vp b0 0) (mv (vp b0 0) (RL.nilCheck zr (RL.aX zr G0 (RL.bI 0 af j KO (mv ao (RL.dR ([an.2]: (List (List aA))) j [ao] GZ JC (fun M hs g=>⟨(g.sat 5 _ zr).1,zt⟩) fun c0 w j=>?_))))))))
  have j:=j.freeze 0
  obtain⟨bl,cf,o⟩:=bd o
  refine RL.app 4 0 j KP cf fun aq w j=>?_
  refine RL.nilCheck zr (RL.aX zr G0 (RL.iw 1 aq j zr zr (iM 4 j) KO fun w j=>?_))
  refine RL.ns (mv ao ?_)
  obtain⟨ar,ch,o⟩:=bd o
  refine RL.call zt zr Ml [ao] zr (aD (wm N (i0:=6) j zr ch) ?_)
  rintro a8 w j
  refine RL.fS 0 ar j KL (mv (vi 0) (RL.nt ?_))
  obtain⟨aw,hN,o⟩:=bd o
  refine RC.fold (fun(a4:Nat) (aw: (List aK)) U w=>∃bm:Value,SH E V [(0,vp b0 0),(3,vb an.1),(4,vi ab),(16,v0_0),(17,vi p0_0.length),(18,vi ab),(64,a8),(65,vi ar.length),(66,vi a4)] [bc 44 b0 [v0_0,v0_1,v0_2,v0_3,aq,bm,v0_6,v0_7,v0_8,v0_9,v0_10,v0_11],own 90 bm aw,rd v0_0 p0_0,rd v0_2 p0_2,own 74 aq bl,own 74 a8 ar] U w) (fun(aw: (List aK)) U w=>∃a5:Value,SH E V [(0,vp b0 0),(3,vb an.1),(16,v0_0),(17,vi p0_0.length),(18,vi ab)] [bc 44 b0 [v0_0,v0_1,v0_2,v0_3,aq,a5,v0_6,v0_7,v0_8,v0_9,v0_10,v0_11],own 90 a5 aw,rd v0_0 p0_0,rd v0_2 p0_2,own 74 aq bl,own 74 a8 ar] U w) hN ?_ ?_ ?_ ?_
  ·exact⟨ag,j.sp 8 [2,6,3,4,5,0]⟩
  ·rintro hm aw _ w ⟨cj,O,rfl,j⟩
   refine RC.sr (ic ((ar.length:Int)) ((ar.length:Int)) (RL.nq (RC.fO tG (RC.ex ?_))))
   exact⟨rfl,cj,j.sp 6 [0,1,2,3,4,5]⟩
  ·rintro hm a4 aw s' _ w hk ⟨a9,O,rfl,j⟩ o
   refine RC.sr (ic ((a4:Int)) ((ar.length:Int)) (RL.nq (RC.fN (tF hk) (RC.ss (RC.bs ?_)))))
   obtain⟨bn,ba,o⟩:=bd o
   refine RL.bQ 5 j zr zr GZ ba (RL.ju (f:=(fun x=>x)) 5 j (jg 5 j ba 0) (bF ba).2.1 Fd.self KM fun ax j=>?_)
   refine aQ ax (RL.nt ?_)
   have j:=j.drew
   refine RC.Et (fun w=>Holds E w ([bc 44 b0 [v0_0,v0_1,v0_2,v0_3,aq,a9,v0_6,v0_7,v0_8,v0_9,v0_10,v0_11]]++V)) mixed zr [1,1,1,1,1,1,1,0,2,0,2,2,0,0,2] [0,1,2,3,4,5,6,7,8,9,10,11,12,13,14] (j.pk 7 [1]) (DP.e1 (vp b0 0) zr (fun w=>RL.move (vp b0 0) zt DP.d1) (DP.e1 (vp b0 0) zr (fun w=>RL.move (vp b0 0) zt DP.d1) (DP.e1 (vp b0 0) zr (fun w=>RL.nilCheck zr DP.d1) (DP.e1 (vp b0 5) zr (fun w=>RL.aX zr yc DP.d1) (DP.Ic a9 zr (fun w j=>RL.bI 0 a9 j FQ DP.d1) (DP.e1 (vi ab) zr (fun w=>RL.move (vi ab) zt DP.d1) (DP.e1 ax zr (fun w=>RL.move ax zt DP.d1) (DP.e0 zr ?_))))))))
   refine mv ax (pP zr ?_)
   obtain⟨bo,ck,o⟩:=bd o
   refine RL.call zt zr Jx [ax] zr (aD (nN N (i0:=0) j zr ck) ?_)
   rintro cl w j
   refine DP.d2 (j.pk 8 [2]) (DP.e0 zr ?_)
   have j:=(j.sc Int (ab:Int)).freeze 1
   refine RL.build (⟨(ab:Int),bn,bo⟩:aK) trivial rfl j [(0,vi ab),(1,ax),(2,cl)] rfl Mm rfl (fun M hs g=>by have h:=zN M;exact cT.cons (f:=fun(x:aK) y=>{x with cU:=y}) h wX (g.sat 0 _ rfl).1 fun _ h=>cT.cons (f:=fun(x:aK) y=>{x with Set:=y}) h wY (g.sat 2 _ rfl).1 fun _ h=>cT.cons (f:=fun(x:aK) y=>{x with iN:=y}) h wZ (g.sat 1 _ rfl).1 fun _ h=>cT.nil h) fun cm j=>?_
   refine pP zr (RL.dR ([(⟨(ab:Int),bn,bo⟩:aK)]: (List aK)) j [cm] JF JG (fun M hs g=>⟨(g.sat 0 _ zr).1,zt⟩) fun c1 w j=>(DP.d2 (j.pk 11 [5]) (DP.e2 zr ?_)))
   have j:=j.freeze 0
   obtain⟨c2,cn,o⟩:=bd o
   refine RL.app 6 0 j Mn cn fun bp w j=>?_
   refine DP.d2 (j.pk 11 [5]) (DP.e0 zr (RL.nilCheck zr (aZ zr (RL.aX zr yc (DP.d0 (DP.LF zr zr (RL.iw 5 bp j zr zr (iM 6 j) FQ fun w j=>?_)))))))
   refine DP.d2 zt (DP.z (bM (aH (RC.region (RL.inc hk hm (mv (vi ((a4+1:Nat):Int)) (RL.nil ?_)))))))
   obtain rfl:=oi o
   exact⟨rfl,bp,j.sp 11 [5,6,7,8,9,10]⟩
  rintro _ w ⟨a5,O,rfl,j⟩
  refine bM (aH (RC.region (RL.inc hk hm (mv (vi ((ab+1:Nat):Int)) (RL.nil ?_)))))
  obtain rfl:=oi o
  exact⟨rfl,aq,a5,j.sp 6 [0,4,1,2,3]⟩
 rintro _ w ⟨au,al,O,rfl,j⟩
 refine aH (RC.seq ?_)
 obtain⟨bb,hj,o⟩:=bd o
 refine RC.jn (fun(bb:Bool)=>SH E V [(0,vp b0 0),(2,vb bb)] [bc 44 b0 [v0_0,v0_1,v0_2,v0_3,au,al,v0_6,v0_7,v0_8,v0_9,v0_10,v0_11],rd v0_0 p0_0,rd v0_2 p0_2,own 74 au aa.1,own 90 al aa.2.1]) bb ?_ ?_
 ·refine RC.region (mv (vb aa.2.2) (mv (vb aa.2.2) (fC hj (fun ae hj=>?_) fun ae hj=>?_)))
  ·refine RL.move (vp b0 0) (cg ae) (RL.nilCheck (hg:=(cg ae)) zr (RL.aX (hg:=(cg ae)) zr yc (RL.bI (hg:=(cg ae)) 0 al j FQ (RL.fS (hg:=(cg ae)) 2 aa.2.1 j Ih (RL.kD (aa.2.1.length:Int) 2000 (cg ae) (fL ae (vb (decide ((aa.2.1.length:Int)<=2000))) (aQ (vb (decide ((aa.2.1.length:Int)<=2000))) (RL.nil ?_))))))))
   obtain rfl:=oi hj
   exact⟨rfl,j.sp 5 [0,3,4,1,2]⟩
  refine bG ae (bG ae (bG ae (bG ae (bG ae (bG ae (fL ae (vb false) (aQ (vb false) (RL.nil ?_))))))))
  obtain rfl:=oi hj
  exact⟨rfl,j.sp 5 [0,3,4,1,2]⟩
 rintro _ w ⟨O,rfl,j⟩
 refine aH (RC.ret ?_)
 obtain rfl:=oi o
 exact bX ⟨au,al,zr,j.pk 5 [0,3,4]⟩
end Go.Gk
namespace Go.Gk
open Go Go.Proofs
variable (N:Nat) {E w:World} {b0 i0 i1:Nat} {p0 p1 p2 res:Int} {v0 v0_0 v0_1 v0_10 v0_11 v0_2 v0_3 v0_4 v0_5 v0_6 v0_7 v0_8 v0_9 v1:Value} {V:List HP}
theorem yk {p0 p1:aI} {res:Bool} (j:Holds E w V) (h0:V[i0]? =some (rd v0 p0)) (h1:V[i1]? =some (rd v1 p1)) (hb:ry N p0 p1=some res):
    Calls bO 50 [v0,v1].toArray w (gW (aV E V res)):=by
 unfold ry at hb
 refine enter Tryz.func50 zr zr ?_
 have j:=(j.dup (i0+0) h0).dup (i1+1) h1
 refine RC.sr (RL.dJ 1 v0 j zr fun o w j=>?_)
 refine RL.dJ 1 v1 j zr fun aa w j=>?_
 refine aQ (vb false) (RL.ns (RL.aX zr ir (RL.aN 1 j zr dL cJ (RL.aX zr jl (RL.aN 0 j zr eE cJ (ic p0.X0 p1.X1 (mv (vb (decide (p0.X0<p1.X1))) (RL.gs true (decide (p0.X0<p1.X1)) (vp aa 0) zr zr zr (eA ir) ?_))))))))
 refine RL.gs true (decide (p0.X0<p1.X1)) (vi p1.X0) rfl rfl rfl (bZ 0 rfl j (fun h=>by exact(cK h:cv (true&&((decide (p0.X0<p1.X1))==true)) (vp aa 0)= (vp aa 0))) rfl dL cJ) (RL.gs true (decide (p0.X0<p1.X1)) (vp o 2) rfl rfl rfl (eA jl) (RL.gs true (decide (p0.X0<p1.X1)) (vi p0.X1) rfl rfl rfl (bZ 1 rfl j (fun h=>by exact(cK h:cv (true&&((decide (p0.X0<p1.X1))==true)) (vp o 2)= (vp o 2))) rfl eE cJ) (RL.gs true (decide (p0.X0<p1.X1)) (vb (decide (p1.X0<p0.X1))) rfl rfl rfl (dI .lss .i64 p1.X0 p0.X1 rfl (fun h=>by exact(cK h:cv (true&&((decide (p0.X0<p1.X1))==true)) (vi p1.X0)= (vi p1.X0))) (fun h=>by exact(cK h:cv (true&&((decide (p0.X0<p1.X1))==true)) (vi p0.X1)= (vi p0.X1))) rfl) (RL.pick (decide (p0.X0<p1.X1)) (vb ((decide (p0.X0<p1.X1))&&(decide (p1.X0<p0.X1)))) (gr true rfl) (aQ (vb ((decide (p0.X0<p1.X1))&&(decide (p1.X0<p0.X1)))) (RL.ns (RL.aX rfl g8 (RL.aN 1 j rfl dF cJ ?_))))))))
 refine RL.aX rfl kq (RL.aN 0 j rfl fF cJ (ic p0.Y0 p1.Y1 (mv (vb (decide (p0.Y0<p1.Y1))) (RL.gs true (decide (p0.Y0<p1.Y1)) (vp aa 1) rfl rfl rfl (eA g8) (RL.gs true (decide (p0.Y0<p1.Y1)) (vi p1.Y0) rfl rfl rfl (bZ 0 rfl j (fun h=>by exact(cK h:cv (true&&((decide (p0.Y0<p1.Y1))==true)) (vp aa 1)= (vp aa 1))) rfl dF cJ) (RL.gs true (decide (p0.Y0<p1.Y1)) (vp o 3) rfl rfl rfl (eA kq) (RL.gs true (decide (p0.Y0<p1.Y1)) (vi p0.Y1) rfl rfl rfl (bZ 1 rfl j (fun h=>by exact(cK h:cv (true&&((decide (p0.Y0<p1.Y1))==true)) (vp o 3)= (vp o 3))) rfl fF cJ) (RL.gs true (decide (p0.Y0<p1.Y1)) (vb (decide (p1.Y0<p0.Y1))) rfl rfl rfl (dI .lss .i64 p1.Y0 p0.Y1 rfl (fun h=>by exact(cK h:cv (true&&((decide (p0.Y0<p1.Y1))==true)) (vi p1.Y0)= (vi p1.Y0))) (fun h=>by exact(cK h:cv (true&&((decide (p0.Y0<p1.Y1))==true)) (vi p0.Y1)= (vi p0.Y1))) rfl) ?_))))))))
 refine RL.pick (decide (p0.Y0<p1.Y1)) (vb ((decide (p0.Y0<p1.Y1))&&(decide (p1.Y0<p0.Y1)))) (gr true rfl) (aQ (vb ((decide (p0.Y0<p1.Y1))&&(decide (p1.Y0<p0.Y1)))) (RL.ns (mv (vb ((decide (p0.X0<p1.X1))&&(decide (p1.X0<p0.X1)))) (mv (vb ((decide (p0.X0<p1.X1))&&(decide (p1.X0<p0.X1)))) (RL.gs true ((decide (p0.X0<p1.X1))&&(decide (p1.X0<p0.X1))) (vp o 3) rfl rfl rfl (eA kq) (RL.gs true ((decide (p0.X0<p1.X1))&&(decide (p1.X0<p0.X1))) (vi p0.Y1) rfl rfl rfl (bZ 1 rfl j (fun h=>by exact(cK h:cv (true&&(((decide (p0.X0<p1.X1))&&(decide (p1.X0<p0.X1)))==true)) (vp o 3)= (vp o 3))) rfl fF cJ) (RL.gs true ((decide (p0.X0<p1.X1))&&(decide (p1.X0<p0.X1))) (vp aa 1) rfl rfl rfl (eA g8) (RL.gs true ((decide (p0.X0<p1.X1))&&(decide (p1.X0<p0.X1))) (vi p1.Y0) rfl rfl rfl (bZ 0 rfl j (fun h=>by exact(cK h:cv (true&&(((decide (p0.X0<p1.X1))&&(decide (p1.X0<p0.X1)))==true)) (vp aa 1)= (vp aa 1))) rfl dF cJ) ?_))))))))
 refine RL.gs true ((decide (p0.X0<p1.X1))&&(decide (p1.X0<p0.X1))) (vb (p0.Y1==p1.Y0)) rfl rfl rfl (dI .eql .i64 p0.Y1 p1.Y0 rfl (fun h=>by exact(cK h:cv (true&&(((decide (p0.X0<p1.X1))&&(decide (p1.X0<p0.X1)))==true)) (vi p0.Y1)= (vi p0.Y1))) (fun h=>by exact(cK h:cv (true&&(((decide (p0.X0<p1.X1))&&(decide (p1.X0<p0.X1)))==true)) (vi p1.Y0)= (vi p1.Y0))) rfl) (RL.gs true ((decide (p0.X0<p1.X1))&&(decide (p1.X0<p0.X1))) (vb (p0.Y1==p1.Y0)) rfl rfl rfl (cH (hx:=fun h=>by exact(cK h:cv (true&&(((decide (p0.X0<p1.X1))&&(decide (p1.X0<p0.X1)))==true)) (vb (p0.Y1==p1.Y0))= (vb (p0.Y1==p1.Y0))))) (RL.gs (true&&(((decide (p0.X0<p1.X1))&&(decide (p1.X0<p0.X1)))==true)) (p0.Y1==p1.Y0) (vp aa 3) rfl rfl rfl (eA kq) (RL.gs (true&&(((decide (p0.X0<p1.X1))&&(decide (p1.X0<p0.X1)))==true)) (p0.Y1==p1.Y0) (vi p1.Y1) rfl rfl rfl (bZ 0 rfl j (fun h=>by exact(cK h:cv ((true&&(((decide (p0.X0<p1.X1))&&(decide (p1.X0<p0.X1)))==true))&&((p0.Y1==p1.Y0)==false)) (vp aa 3)= (vp aa 3))) rfl fF cJ) (RL.gs (true&&(((decide (p0.X0<p1.X1))&&(decide (p1.X0<p0.X1)))==true)) (p0.Y1==p1.Y0) (vp o 1) rfl rfl rfl (eA g8) (RL.gs (true&&(((decide (p0.X0<p1.X1))&&(decide (p1.X0<p0.X1)))==true)) (p0.Y1==p1.Y0) (vi p0.Y0) rfl rfl rfl (bZ 1 rfl j (fun h=>by exact(cK h:cv ((true&&(((decide (p0.X0<p1.X1))&&(decide (p1.X0<p0.X1)))==true))&&((p0.Y1==p1.Y0)==false)) (vp o 1)= (vp o 1))) rfl dF cJ) (RL.gs (true&&(((decide (p0.X0<p1.X1))&&(decide (p1.X0<p0.X1)))==true)) (p0.Y1==p1.Y0) (vb (p1.Y1==p0.Y0)) rfl rfl rfl (dI .eql .i64 p1.Y1 p0.Y0 rfl (fun h=>by exact(cK h:cv ((true&&(((decide (p0.X0<p1.X1))&&(decide (p1.X0<p0.X1)))==true))&&((p0.Y1==p1.Y0)==false)) (vi p1.Y1)= (vi p1.Y1))) (fun h=>by exact(cK h:cv ((true&&(((decide (p0.X0<p1.X1))&&(decide (p1.X0<p0.X1)))==true))&&((p0.Y1==p1.Y0)==false)) (vi p0.Y0)= (vi p0.Y0))) rfl) (RL.gs true ((decide (p0.X0<p1.X1))&&(decide (p1.X0<p0.X1))) (vb ((p0.Y1==p1.Y0)||(p1.Y1==p0.Y0))) rfl rfl rfl (kE (p0.Y1==p1.Y0) rfl (fun h=>by exact(cK h:cv (true&&(((decide (p0.X0<p1.X1))&&(decide (p1.X0<p0.X1)))==true)) (vb (p0.Y1==p1.Y0))= (vb (p0.Y1==p1.Y0)))) (fun h=>by exact nR (h:=h) (true&&(((decide (p0.X0<p1.X1))&&(decide (p1.X0<p0.X1)))==true)))) (RL.pick ((decide (p0.X0<p1.X1))&&(decide (p1.X0<p0.X1))) (vb (((decide (p0.X0<p1.X1))&&(decide (p1.X0<p0.X1)))&&((p0.Y1==p1.Y0)||(p1.Y1==p0.Y0)))) (gr true rfl) ?_))))))))
 refine mv (vb (((decide (p0.X0<p1.X1))&&(decide (p1.X0<p0.X1)))&&((p0.Y1==p1.Y0)||(p1.Y1==p0.Y0)))) (RL.gs true (((decide (p0.X0<p1.X1))&&(decide (p1.X0<p0.X1)))&&((p0.Y1==p1.Y0)||(p1.Y1==p0.Y0))) (vb ((decide (p0.Y0<p1.Y1))&&(decide (p1.Y0<p0.Y1)))) rfl rfl rfl cH (RL.gs true (((decide (p0.X0<p1.X1))&&(decide (p1.X0<p0.X1)))&&((p0.Y1==p1.Y0)||(p1.Y1==p0.Y0))) (vb ((decide (p0.Y0<p1.Y1))&&(decide (p1.Y0<p0.Y1)))) rfl rfl rfl (cH (hx:=fun h=>by exact(cK h:cv (true&&((((decide (p0.X0<p1.X1))&&(decide (p1.X0<p0.X1)))&&((p0.Y1==p1.Y0)||(p1.Y1==p0.Y0)))==false)) (vb ((decide (p0.Y0<p1.Y1))&&(decide (p1.Y0<p0.Y1))))= (vb ((decide (p0.Y0<p1.Y1))&&(decide (p1.Y0<p0.Y1))))))) (RL.gs (true&&((((decide (p0.X0<p1.X1))&&(decide (p1.X0<p0.X1)))&&((p0.Y1==p1.Y0)||(p1.Y1==p0.Y0)))==false)) ((decide (p0.Y0<p1.Y1))&&(decide (p1.Y0<p0.Y1))) (vp o 2) rfl rfl rfl (eA jl) (RL.gs (true&&((((decide (p0.X0<p1.X1))&&(decide (p1.X0<p0.X1)))&&((p0.Y1==p1.Y0)||(p1.Y1==p0.Y0)))==false)) ((decide (p0.Y0<p1.Y1))&&(decide (p1.Y0<p0.Y1))) (vi p0.X1) rfl rfl rfl (bZ 1 rfl j (fun h=>by exact(cK h:cv ((true&&((((decide (p0.X0<p1.X1))&&(decide (p1.X0<p0.X1)))&&((p0.Y1==p1.Y0)||(p1.Y1==p0.Y0)))==false))&&(((decide (p0.Y0<p1.Y1))&&(decide (p1.Y0<p0.Y1)))==true)) (vp o 2)= (vp o 2))) rfl eE cJ) (RL.gs (true&&((((decide (p0.X0<p1.X1))&&(decide (p1.X0<p0.X1)))&&((p0.Y1==p1.Y0)||(p1.Y1==p0.Y0)))==false)) ((decide (p0.Y0<p1.Y1))&&(decide (p1.Y0<p0.Y1))) (vp aa 0) rfl rfl rfl (eA ir) (RL.gs (true&&((((decide (p0.X0<p1.X1))&&(decide (p1.X0<p0.X1)))&&((p0.Y1==p1.Y0)||(p1.Y1==p0.Y0)))==false)) ((decide (p0.Y0<p1.Y1))&&(decide (p1.Y0<p0.Y1))) (vi p1.X0) rfl rfl rfl (bZ 0 rfl j (fun h=>by exact(cK h:cv ((true&&((((decide (p0.X0<p1.X1))&&(decide (p1.X0<p0.X1)))&&((p0.Y1==p1.Y0)||(p1.Y1==p0.Y0)))==false))&&(((decide (p0.Y0<p1.Y1))&&(decide (p1.Y0<p0.Y1)))==true)) (vp aa 0)= (vp aa 0))) rfl dL cJ) (RL.gs (true&&((((decide (p0.X0<p1.X1))&&(decide (p1.X0<p0.X1)))&&((p0.Y1==p1.Y0)||(p1.Y1==p0.Y0)))==false)) ((decide (p0.Y0<p1.Y1))&&(decide (p1.Y0<p0.Y1))) (vb (p0.X1==p1.X0)) rfl rfl rfl (dI .eql .i64 p0.X1 p1.X0 rfl (fun h=>by exact(cK h:cv ((true&&((((decide (p0.X0<p1.X1))&&(decide (p1.X0<p0.X1)))&&((p0.Y1==p1.Y0)||(p1.Y1==p0.Y0)))==false))&&(((decide (p0.Y0<p1.Y1))&&(decide (p1.Y0<p0.Y1)))==true)) (vi p0.X1)= (vi p0.X1))) (fun h=>by exact(cK h:cv ((true&&((((decide (p0.X0<p1.X1))&&(decide (p1.X0<p0.X1)))&&((p0.Y1==p1.Y0)||(p1.Y1==p0.Y0)))==false))&&(((decide (p0.Y0<p1.Y1))&&(decide (p1.Y0<p0.Y1)))==true)) (vi p1.X0)= (vi p1.X0))) rfl) (RL.gs (true&&((((decide (p0.X0<p1.X1))&&(decide (p1.X0<p0.X1)))&&((p0.Y1==p1.Y0)||(p1.Y1==p0.Y0)))==false)) ((decide (p0.Y0<p1.Y1))&&(decide (p1.Y0<p0.Y1))) (vb (p0.X1==p1.X0)) rfl rfl rfl (cH (hx:=fun h=>by exact(cK h:cv ((true&&((((decide (p0.X0<p1.X1))&&(decide (p1.X0<p0.X1)))&&((p0.Y1==p1.Y0)||(p1.Y1==p0.Y0)))==false))&&(((decide (p0.Y0<p1.Y1))&&(decide (p1.Y0<p0.Y1)))==true)) (vb (p0.X1==p1.X0))= (vb (p0.X1==p1.X0))))) ?_))))))))
 refine RL.gs ((true&&((((decide (p0.X0<p1.X1))&&(decide (p1.X0<p0.X1)))&&((p0.Y1==p1.Y0)||(p1.Y1==p0.Y0)))==false))&&(((decide (p0.Y0<p1.Y1))&&(decide (p1.Y0<p0.Y1)))==true)) (p0.X1==p1.X0) (vp aa 2) rfl rfl rfl (eA jl) (RL.gs ((true&&((((decide (p0.X0<p1.X1))&&(decide (p1.X0<p0.X1)))&&((p0.Y1==p1.Y0)||(p1.Y1==p0.Y0)))==false))&&(((decide (p0.Y0<p1.Y1))&&(decide (p1.Y0<p0.Y1)))==true)) (p0.X1==p1.X0) (vi p1.X1) rfl rfl rfl (bZ 0 rfl j (fun h=>by exact(cK h:cv (((true&&((((decide (p0.X0<p1.X1))&&(decide (p1.X0<p0.X1)))&&((p0.Y1==p1.Y0)||(p1.Y1==p0.Y0)))==false))&&(((decide (p0.Y0<p1.Y1))&&(decide (p1.Y0<p0.Y1)))==true))&&((p0.X1==p1.X0)==false)) (vp aa 2)= (vp aa 2))) rfl eE cJ) (RL.gs ((true&&((((decide (p0.X0<p1.X1))&&(decide (p1.X0<p0.X1)))&&((p0.Y1==p1.Y0)||(p1.Y1==p0.Y0)))==false))&&(((decide (p0.Y0<p1.Y1))&&(decide (p1.Y0<p0.Y1)))==true)) (p0.X1==p1.X0) (vp o 0) rfl rfl rfl (eA ir) (RL.gs ((true&&((((decide (p0.X0<p1.X1))&&(decide (p1.X0<p0.X1)))&&((p0.Y1==p1.Y0)||(p1.Y1==p0.Y0)))==false))&&(((decide (p0.Y0<p1.Y1))&&(decide (p1.Y0<p0.Y1)))==true)) (p0.X1==p1.X0) (vi p0.X0) rfl rfl rfl (bZ 1 rfl j (fun h=>by exact(cK h:cv (((true&&((((decide (p0.X0<p1.X1))&&(decide (p1.X0<p0.X1)))&&((p0.Y1==p1.Y0)||(p1.Y1==p0.Y0)))==false))&&(((decide (p0.Y0<p1.Y1))&&(decide (p1.Y0<p0.Y1)))==true))&&((p0.X1==p1.X0)==false)) (vp o 0)= (vp o 0))) rfl dL cJ) (RL.gs ((true&&((((decide (p0.X0<p1.X1))&&(decide (p1.X0<p0.X1)))&&((p0.Y1==p1.Y0)||(p1.Y1==p0.Y0)))==false))&&(((decide (p0.Y0<p1.Y1))&&(decide (p1.Y0<p0.Y1)))==true)) (p0.X1==p1.X0) (vb (p1.X1==p0.X0)) rfl rfl rfl (dI .eql .i64 p1.X1 p0.X0 rfl (fun h=>by exact(cK h:cv (((true&&((((decide (p0.X0<p1.X1))&&(decide (p1.X0<p0.X1)))&&((p0.Y1==p1.Y0)||(p1.Y1==p0.Y0)))==false))&&(((decide (p0.Y0<p1.Y1))&&(decide (p1.Y0<p0.Y1)))==true))&&((p0.X1==p1.X0)==false)) (vi p1.X1)= (vi p1.X1))) (fun h=>by exact(cK h:cv (((true&&((((decide (p0.X0<p1.X1))&&(decide (p1.X0<p0.X1)))&&((p0.Y1==p1.Y0)||(p1.Y1==p0.Y0)))==false))&&(((decide (p0.Y0<p1.Y1))&&(decide (p1.Y0<p0.Y1)))==true))&&((p0.X1==p1.X0)==false)) (vi p0.X0)= (vi p0.X0))) rfl) (RL.gs (true&&((((decide (p0.X0<p1.X1))&&(decide (p1.X0<p0.X1)))&&((p0.Y1==p1.Y0)||(p1.Y1==p0.Y0)))==false)) ((decide (p0.Y0<p1.Y1))&&(decide (p1.Y0<p0.Y1))) (vb ((p0.X1==p1.X0)||(p1.X1==p0.X0))) rfl rfl rfl (kE (p0.X1==p1.X0) rfl (fun h=>by exact(cK h:cv ((true&&((((decide (p0.X0<p1.X1))&&(decide (p1.X0<p0.X1)))&&((p0.Y1==p1.Y0)||(p1.Y1==p0.Y0)))==false))&&(((decide (p0.Y0<p1.Y1))&&(decide (p1.Y0<p0.Y1)))==true)) (vb (p0.X1==p1.X0))= (vb (p0.X1==p1.X0)))) (fun h=>by exact nR (h:=h) ((true&&((((decide (p0.X0<p1.X1))&&(decide (p1.X0<p0.X1)))&&((p0.Y1==p1.Y0)||(p1.Y1==p0.Y0)))==false))&&(((decide (p0.Y0<p1.Y1))&&(decide (p1.Y0<p0.Y1)))==true)))) (RL.gs true (((decide (p0.X0<p1.X1))&&(decide (p1.X0<p0.X1)))&&((p0.Y1==p1.Y0)||(p1.Y1==p0.Y0))) (vb (((decide (p0.Y0<p1.Y1))&&(decide (p1.Y0<p0.Y1)))&&((p0.X1==p1.X0)||(p1.X1==p0.X0)))) rfl rfl rfl (kE ((decide (p0.Y0<p1.Y1))&&(decide (p1.Y0<p0.Y1))) rfl (fun h=>by exact(cK h:cv (true&&((((decide (p0.X0<p1.X1))&&(decide (p1.X0<p0.X1)))&&((p0.Y1==p1.Y0)||(p1.Y1==p0.Y0)))==false)) (vb ((decide (p0.Y0<p1.Y1))&&(decide (p1.Y0<p0.Y1))))= (vb ((decide (p0.Y0<p1.Y1))&&(decide (p1.Y0<p0.Y1)))))) (fun h=>by exact gr (true&&((((decide (p0.X0<p1.X1))&&(decide (p1.X0<p0.X1)))&&((p0.Y1==p1.Y0)||(p1.Y1==p0.Y0)))==false)) h)) (RL.pick (((decide (p0.X0<p1.X1))&&(decide (p1.X0<p0.X1)))&&((p0.Y1==p1.Y0)||(p1.Y1==p0.Y0))) (vb ((((decide (p0.X0<p1.X1))&&(decide (p1.X0<p0.X1)))&&((p0.Y1==p1.Y0)||(p1.Y1==p0.Y0)))||(((decide (p0.Y0<p1.Y1))&&(decide (p1.Y0<p0.Y1)))&&((p0.X1==p1.X0)||(p1.X1==p0.X0))))) (nR true) (aQ (vb ((((decide (p0.X0<p1.X1))&&(decide (p1.X0<p0.X1)))&&((p0.Y1==p1.Y0)||(p1.Y1==p0.Y0)))||(((decide (p0.Y0<p1.Y1))&&(decide (p1.Y0<p0.Y1)))&&((p0.X1==p1.X0)||(p1.X1==p0.X0))))) ?_))))))))
 refine RL.nt (RC.ret ?_)
 obtain rfl:=oi hb
 exact bX ⟨rfl,j.drop 4⟩
theorem rH {p0:aI} {p1:cE} {res:Bool} (j:Holds E w V) (h0:V[i0]? =some (rd v0 p0)) (h1:V[i1]? =some (pt v1 p1)) (o:ki N p0 p1=some res):
    Calls bO 49 [v0,v1].toArray w (gW (aV E V res)):=by
 unfold ki at o
 refine enter Tryz.func49 zr zr ?_
 have j:=(j.dup (i0+0) h0).BU (i:=i1+1) h1
 refine RC.sr (RL.dJ 1 v0 j zr fun ah w j=>?_)
 have j:=j.lR (i:=0) rfl
 refine aQ (vb false) (RL.nq (RC.v5 mixed [1,0,2,2,0] [0,1,2,3,4] ?_))
 have j:=j.drew
 refine DP.zg p0 0 zr zt j iF fun aa a33 ai j=>(DP.e0 zr (RL.bL 3 p1 j lE fun ab j=>(pP zr ?_)))
 obtain⟨aj,ad,o⟩:=bd o
 refine RL.call zt zr FN [ab] zr (aD (jo N (i0:=0) j zr ad) ?_)
 rintro ae w j
 refine DP.d2 (⟨zt,j.iq 2⟩) (DP.e2 zr ?_)
 obtain⟨af,ag,o⟩:=bd o
 refine RL.call zt zr Mp [aa,ae] zr (aD (yk N (i0:=3) (i1:=0) j zr zr ag) ?_)
 rintro _ w ⟨rfl,j⟩
 refine DP.d2 (⟨zt,j.iq 2⟩) (DP.e0 zr (aQ (vb af) (DP.d0 ?_)))
 have j:=j.pl 7 [0,1,3,4,5,6]
 refine DP.z (aH (RC.ret ?_))
 obtain rfl:=oi o
 exact bX ⟨rfl,j.drop 6⟩
theorem mc {p0: (List aI)} {p1:aI->Option Bool} {res:Bool} (j:Holds E w V) (h0:V[i0]? =some (rd v0 p0)) (h1:HS bO E V v1 p1 (fun(r:Bool)=>Value.bool r)) (o:gX N p0 p1=some res):
    Calls bO 48 [v0,v1].toArray w (gW (aV E V res)):=by
 unfold gX at o
 refine enter Tryz.func48 zr zr ?_
 have j:=j.dup (i0+0) h0
 refine RC.sr (aQ (vb false) (RL.ns (mv v0 (mv v1 ?_))))
 obtain⟨aa,ab,o⟩:=bd o
 refine RL.call zt zr Ks [v0,v1] zr (aD (rF N (i0:=0) j zr (h1.lift 1 zr) ab) ?_)
 rintro _ w ⟨rfl,j⟩
 refine ic aa 0 (aQ (vb (decide (aa>=0))) (RL.nt (RC.ret ?_)))
 obtain rfl:=oi o
 exact bX ⟨rfl,j.drop 1⟩
def uH (E:World) (V:List HP) (b0:Nat) (v0_0 v0_1:Value) (v0_2 v0_3:Value) (v0_4 v0_5:Value) (v0_7 v0_8:Value) (v0_9 v0_10 v0_11:Value) (res: (List (List Int))) (v:Value) (w:World):Prop:=∃u0_6:Value,v = .tuple #[]/\Holds E w ([bc 44 b0 [v0_0,v0_1,v0_2,v0_3,v0_4,v0_5,u0_6,v0_7,v0_8,v0_9,v0_10,v0_11],own 28 u0_6 res]++V)
theorem tV {p0_2: (List cE)} {p0_5: (List aK)} {p0_6: (List (List Int))} {res: (List (List Int))} (j:Holds E w (bc 44 b0 [v0_0,v0_1,v0_2,v0_3,v0_4,v0_5,v0_6,v0_7,v0_8,v0_9,v0_10,v0_11]::rd v0_2 p0_2::rd v0_5 p0_5::own 28 v0_6 p0_6::V)) (hb:j7 N p0_2 p0_5 p0_6=some res):
    Calls bO 21 [(vp b0 0)].toArray w (gW (uH E V b0 v0_0 v0_1 v0_2 v0_3 v0_4 v0_5 v0_7 v0_8 v0_9 v0_10 v0_11 res)):=by
 unfold j7 at hb
 refine enter Tryz.func21 zr zr (RC.sr (mv (vp b0 0) (RL.nilCheck zr (RL.aX zr sY (RL.aX zr gK (RL.bI 0 v0_2 j mZ (RL.bA 1 p0_2 j um (mv (vi 0) ?_))))))))
 refine RL.nt ?_
 obtain⟨af,hN,hb⟩:=bd hb
 refine RC.fold (fun(ai:Nat) (af: (List (List Int))) U w=>∃az:Value,SH E V [(0,vp b0 0),(11,v0_2),(12,vi p0_2.length),(13,vi ai)] [bc 44 b0 [v0_0,v0_1,v0_2,v0_3,v0_4,v0_5,az,v0_7,v0_8,v0_9,v0_10,v0_11],own 28 az af,rd v0_2 p0_2,rd v0_5 p0_5] U w) (fun(af: (List (List Int))) U w=>∃aq:Value,SH E V [(0,vp b0 0)] [bc 44 b0 [v0_0,v0_1,v0_2,v0_3,v0_4,v0_5,aq,v0_7,v0_8,v0_9,v0_10,v0_11],own 28 aq af,rd v0_2 p0_2,rd v0_5 p0_5] U w) hN ?_ ?_ ?_ ?_
 ·exact⟨v0_6,j.sp 4 [0,3,1,2]⟩
 ·rintro hm af _ w ⟨a4,O,rfl,j⟩
  refine RC.sr (ic ((p0_2.length:Int)) ((p0_2.length:Int)) (RL.nq (RC.fO tG (RC.ex ?_))))
  exact⟨rfl,a4,j.sp 4 [0,1,2,3]⟩
 ·rintro hm ai af s' _ w hk ⟨ah,O,rfl,j⟩ hb
  refine RC.sr (ic ((ai:Int)) ((p0_2.length:Int)) (RL.nq (RC.fN (tF hk) (RC.ss (RC.bs ?_)))))
  obtain⟨aj,a5,hb⟩:=bd hb
  refine RL.bP 2 j pE a5 fun bk j=>(RL.bL 0 aj j lE fun bl j=>(RL.alloc j Dj.z fun ag w j=>?_))
  refine RL.cA 0 j 1 zr lE fun w j=>?_
  refine RL.ns (aQ (.slice none 0 0) (RL.nq (RC.sr (mv (vp b0 0) (RL.nilCheck zr (RL.aX zr yc (RL.bI 3 v0_5 j FQ (RL.bA 6 p0_5 j Ih ?_))))))))
  refine mv (vi 0) (RL.nt ?_)
  have j:=j.lR (i:=0) rfl
  obtain⟨ak,hN,hb⟩:=bd hb
  refine RC.fold (fun(ab:Nat) (ak: (List Int)) U w=>∃a0:Value,SH E V [(0,vp b0 0),(3,vp ag 0),(4,a0),(11,v0_2),(12,vi p0_2.length),(13,vi ai),(20,v0_5),(21,vi p0_5.length),(22,vi ab)] [bc 44 b0 [v0_0,v0_1,v0_2,v0_3,v0_4,v0_5,ah,v0_7,v0_8,v0_9,v0_10,v0_11],rd v0_2 p0_2,rd v0_5 p0_5,own 28 ah af,pt (vp ag 0) aj,own 3 a0 ak] U w) (fun(ak: (List Int)) U w=>∃ao:Value,SH E V [(0,vp b0 0),(4,ao),(11,v0_2),(12,vi p0_2.length),(13,vi ai)] [bc 44 b0 [v0_0,v0_1,v0_2,v0_3,v0_4,v0_5,ah,v0_7,v0_8,v0_9,v0_10,v0_11],rd v0_2 p0_2,rd v0_5 p0_5,own 28 ah af,pt (vp ag 0) aj,own 3 ao ak] U w) hN ?_ ?_ ?_ ?_
  ·have j:=j.cO Int 3
   exact⟨(.slice none 0 0),j.sp 8 [4,6,7,5,1,0]⟩
  ·rintro hm ak _ w ⟨a6,O,rfl,j⟩
   refine RC.sr (ic ((p0_5.length:Int)) ((p0_5.length:Int)) (RL.nq (RC.fO tG (RC.ex ?_))))
   exact⟨rfl,a6,j.sp 6 [0,1,2,3,4,5]⟩
  ·rintro hm ab ak s' _ w hk ⟨ar,O,rfl,j⟩ hb
   refine RC.sr (ic ((ab:Int)) ((p0_5.length:Int)) (RL.nq (RC.fN (tF hk) (RC.ss (RC.bs (mv (vi ab) ?_))))))
   obtain⟨aw,a7,hb⟩:=bd hb
   refine RL.bP 2 j JF a7 fun bm j=>(RL.bL 0 aw j Ii fun bn j=>(RL.alloc j JG.z fun bo w j=>?_))
   refine aQ (vi ab) (RL.cA 0 j 1 zr Ii fun w j=>?_)
   refine RL.nq ?_
   obtain⟨ax,o,hb⟩:=bd hb
   refine RC.jn (fun(ax:Bool)=>SH E V [(0,vp b0 0),(3,vp ag 0),(4,ar),(5,vi ab),(11,v0_2),(12,vi p0_2.length),(13,vi ai),(20,v0_5),(21,vi p0_5.length),(22,vi ab),(40,vb ax)] [bc 44 b0 [v0_0,v0_1,v0_2,v0_3,v0_4,v0_5,ah,v0_7,v0_8,v0_9,v0_10,v0_11],rd v0_2 p0_2,rd v0_5 p0_5,own 28 ah af,pt (vp ag 0) aj,own 3 ar ak]) ax ?_ ?_
   ·refine RC.region (RL.dX 7 j zr uq nT fun bp j=>(RL.bD aj.eH 0 j AR (mv (vb aj.eH) (fC o (fun ad o=>?_) fun ad o=>?_))))
    rotate_left
    ·refine bG ad (bG ad (bG ad (bG ad (fL ad (vb false) (mv (vb false) (ko (ko (ko ?_))))))))
     refine ko (RL.pick false (vb false) zr (RL.nil ?_))
     obtain rfl:=oi o
     exact⟨rfl,j.sp 10 [4,5,6,7,8,9]⟩
    refine RL.bL (hg:=(cg ad)) 8 aj j lE fun a8 j=>(RL.aX (hg:=(cg ad)) zr G2 (RL.aN (hg:=(cg ad)) 2 j zr rf cJ ?_))
    obtain⟨a1,a9,o⟩:=bd o
    refine RL.call (cg ad) zr JB [a8,(vi aw.cU)] zr (aD (oG N (p1:=aw.cU) (i0:=0) j zr a9) ?_)
    rintro _ w ⟨rfl,j⟩
    refine fL ad (vb a1) (mv (vb a1) (fC o (fun ae o=>?_) fun ae o=>?_))
    rotate_left
    ·refine bG ae (bG ae (bG ae (bG ae (fL ae (vb false) (RL.nil ?_)))))
     obtain rfl:=oi o
     exact⟨rfl,j.sp 11 [5,6,7,8,9,10]⟩
    refine RL.aX (hg:=(cg ae)) zr G3 (RL.bE (hg:=(cg ae)) 2 j zr rh tR fun ba j=>(RL.makeFunc (cg ae) zr [(vp ag 0)] zr ?_))
    obtain⟨bb,bf,o⟩:=bd o
    refine RL.call (cg ae) rfl KQ [ba,(.func (.func 49) #[] #[(vp ag 0)])] rfl (aD (mc N (i0:=0) j rfl ⟨49,[(vp ag 0)],rfl,Mq,fun w Γl v y0 r i j hi hr=>by exact aD (rH N (i0:=i) (i1:=Γl.length+10) j hi (BS rfl) hr) fun _ _ h=>h⟩ bf) ?_)
    rintro _ w ⟨rfl,j⟩
    refine fL ae (vb bb) (RL.nil ?_)
    obtain rfl:=oi o
    exact⟨rfl,j.sp 12 [6,7,8,9,10,11]⟩
   rintro _ w ⟨O,rfl,j⟩
   refine aH ?_
   obtain⟨ay,o,hb⟩:=bd hb
   refine RC.jn (fun(ay: (List Int)) U w=>∃au:Value,SH E V [(0,vp b0 0),(3,vp ag 0),(4,au),(11,v0_2),(12,vi p0_2.length),(13,vi ai),(20,v0_5),(21,vi p0_5.length),(22,vi ab)] [bc 44 b0 [v0_0,v0_1,v0_2,v0_3,v0_4,v0_5,ah,v0_7,v0_8,v0_9,v0_10,v0_11],rd v0_2 p0_2,rd v0_5 p0_5,own 28 ah af,pt (vp ag 0) aj,own 3 au ay] U w) ay ?_ ?_
   ·refine dU o (fun hc o=>?_) fun hc o=>?_
    rotate_left
    ·refine RC.skip ?_
     obtain rfl:=oi o
     exact⟨rfl,ar,j.sp 6 [0,1,2,3,4,5]⟩
    refine RC.region (mv ar (mv (vi ab) ?_))
    have j:=j.sc Int (ab:Int)
    refine RL.dR ([(ab:Int)]: (List Int)) j [(vi ab)] dW A1 (fun M hs g=>⟨(g.sat 0 _ zr).1,zt⟩) fun bq w j=>?_
    have j:=j.freeze 0
    obtain⟨br,bh,o⟩:=bd o
    refine RL.app 7 0 j pC bh fun a2 w j=>?_
    refine aQ a2 (RL.nil ?_)
    obtain rfl:=oi o
    exact⟨rfl,a2,j.sp 8 [2,3,4,5,6,7]⟩
   rintro _ w ⟨au,O,rfl,j⟩
   refine bM (aH (RC.region (RL.inc hk hm (mv (vi ((ab+1:Nat):Int)) (RL.nil ?_)))))
   obtain rfl:=oi hb
   exact⟨rfl,au,j.sp 6 [0,1,2,3,4,5]⟩
  rintro _ w ⟨ao,O,rfl,j⟩
  refine aH (RC.region (mv (vp b0 0) (mv (vp b0 0) (RL.nilCheck zr (RL.aX zr B7 (RL.bI 0 ah j w9 (mv ao ?_)))))))
  have j:=j.freeze 5
  refine RL.dR ([ak]: (List (List Int))) j [ao] yd JH (fun M hs g=>⟨(g.sat 5 _ zr).1,zt⟩) fun bt w j=>?_
  have j:=j.freeze 0
  obtain⟨bu,bj,hb⟩:=bd hb
  refine RL.app 4 0 j JI bj fun a3 w j=>?_
  refine RL.nilCheck zr (RL.aX zr B7 (RL.iw 1 a3 j zr zr (iM 4 j) w9 fun w j=>?_))
  refine RL.nil (bM (aH (RC.region (RL.inc hk hm (mv (vi ((ai+1:Nat):Int)) (RL.nil ?_))))))
  obtain rfl:=oi hb
  exact⟨rfl,a3,j.sp 7 [1,4,2,3]⟩
 rintro _ w ⟨aq,O,rfl,j⟩
 obtain rfl:=oi hb
 refine CE ?_
 exact HW zr ⟨aq,zr,j.pk 4 [0,1]⟩
def wo (E:World) (V:List HP) (res: ((List Int))) (v:Value) (w:World):Prop:=∃(ub0:Nat) (u0_0:Value),v=vp ub0 0/\Holds E w ([bc 132 ub0 [u0_0],own 3 u0_0 res]++V)
theorem vE {res: ((List Int))} (j:Holds E w V) (hb:lh N p0=some res):
    Calls bO 51 [(vi p0)].toArray w (gW (wo E V res)):=by
 unfold lh at hb
 refine enter Tryz.func51 zr zr (RC.sr (aQ (.pointer none) (RL.ns (mv (vi p0) ?_))))
 obtain⟨af,aj,hb⟩:=bd hb
 refine RL.mk p0 j pC Kr aj fun o w j=>?_
 refine RL.Ej [(.slice none 0 0)] [o] zr [(0,o)] zr KR ⟨(iM 0 j),zt⟩ zr (RL.BW [o] zr j zr (wO.all (⟨(iM 0 j),zt⟩:wO [o])) fun ab w j=>?_)
 refine aQ (vp ab 0) (RL.nq (RC.sr (mv (vp ab 0) (RL.nilCheck zr (RL.aX zr pW (RL.bI 0 o j eY (RL.fS 1 af j ly (mv (vi 0) ?_))))))))
 refine RL.nt ?_
 obtain⟨ae,hN,hb⟩:=bd hb
 refine RC.fold (fun(ad:Nat) (ae: (List Int))=>SH E V [(3,vp ab 0),(13,vi af.length),(14,vi ad)] [bc 132 ab [o],own 3 o ae]) (fun(ae: (List Int))=>SH E V [(3,vp ab 0)] [bc 132 ab [o],own 3 o ae]) hN ?_ ?_ ?_ ?_
 ·exact j.sp 2 [0,1]
 ·rintro hm ae _ w ⟨O,rfl,j⟩
  refine RC.sr (ic ((af.length:Int)) ((af.length:Int)) (RL.nq (RC.fO tG (RC.ex ?_))))
  exact⟨rfl,j.sp 2 [0,1]⟩
 ·rintro hm ad ae s' _ w hk ⟨O,rfl,j⟩ hb
  refine RC.sr (ic ((ad:Int)) ((af.length:Int)) (RL.nq (RC.fN (tF hk) (RC.ss (RC.bs (mv (vi ad) (aQ (vi ad) (RL.nt ?_))))))))
  refine RC.region (mv (vp ab 0) (RL.nilCheck zr (RL.aX zr pW (RL.bI 0 o j eY (mv (vi ad) (mv (vi ad) ?_))))))
  obtain⟨al,ag,hb⟩:=bd hb
  refine RL.bQ 1 j zr zr dW ag ?_
  have j:=j.sc Int (ad:Int)
  refine RL.gL (f:=(fun _ y=>y)) 2 0 j (jg 2 j ag 0) (bF ag).2.1 zr Fs.self cJ fun w j=>?_
  refine RL.nil (bM (aH (RC.region (RL.inc hk hm (mv (vi ((ad+1:Nat):Int)) (RL.nil ?_))))))
  obtain rfl:=oi hb
  exact⟨rfl,j.sp 3 [1,2]⟩
 rintro _ w ⟨O,rfl,j⟩
 refine aH (RC.sr (mv (vp ab 0) (aQ (vp ab 0) (RL.nt (RC.ret ?_)))))
 obtain rfl:=oi hb
 exact bX ⟨ab,o,zr,j.pk 2 [0,1]⟩
def vF (E:World) (V:List HP) (b0:Nat) (res:Int×(List Int)) (v:Value) (w:World):Prop:=∃u0_0:Value,v= (vi res.1)/\Holds E w ([bc 132 b0 [u0_0],own 3 u0_0 res.2]++V)
theorem mB {p0_0: (List Int)} {res:Int×(List Int)} (j:Holds E w (bc 132 b0 [v0_0]::own 3 v0_0 p0_0::V)) (o:gS N p0_0 p1=some res):
    Calls bO 87 [(vp b0 0),(vi p1)].toArray w (gW (vF E V b0 res)):=by
 unfold gS at o
 refine enter Tryz.func87 zr zr (RC.sr (aQ (vi 0) (RL.nq ?_)))
 obtain⟨an,hN,o⟩:=bd o
 refine RC.iter (fun(aa: (List Int)×Int)=>SH E V [(0,vp b0 0),(1,vi aa.2)] [bc 132 b0 [v0_0],own 3 v0_0 aa.1]) (fun(aa: (List Int)×Int)=>SH E V [(0,vp b0 0),(1,vi aa.2)] [bc 132 b0 [v0_0],own 3 v0_0 aa.1]) (fun(r:Empty) _ _=>r.elim) hN ?_ ?_ ?_ ?_
 ·exact j.sp 2 [0,1]
 ·rintro aa fl _ w ⟨O,rfl,j⟩ o
  refine RC.seq (RC.sr (mv (vp b0 0) (RL.nilCheck zr (RL.aX zr pW (RL.bI 0 v0_0 j eY (mv (vi aa.2) ?_))))))
  obtain⟨ai,ab,o⟩:=bd o
  refine RL.bQ 1 j zr zr dW ab (RL.dQ (f:=(fun x=>x)) 1 j (jg 1 j ab 0) (bF ab).2.1 Fd.self cJ (mv (vi aa.2) (ic ai aa.2 (RL.nt (dU o (fun hc o=>?_) fun hc o=>?_)))))
  rotate_left
  ·refine RC.ex ?_
   obtain rfl:=oi o
   exact⟨rfl,j.sp 2 [0,1]⟩
  refine RC.sn (RC.block (RC.seq (RC.v5 mixed [0,0,0,0,0,0,0,0,0,0,0,0,0,0,0,0,0,0,0,2] [0,1,2,3,4,5,6,7,8,9,10,11,12,13,14,15,16,17,18,19] ?_)))
  have j:=j.drew
  refine DP.e0 zr (mv (vp b0 0) (aZ zr (RL.nilCheck zr (aZ zr (RL.aX zr pW (aZ zr (RL.bI 0 v0_0 j eY (aZ zr ?_))))))))
  refine mv (vi aa.2) (aZ zr (mv (vp b0 0) (aZ zr (RL.nilCheck zr (aZ zr (RL.aX zr pW (aZ zr (RL.bI 0 v0_0 j eY ?_))))))))
  refine aZ zr (mv (vp b0 0) (aZ zr (RL.nilCheck zr (aZ zr (RL.aX zr pW (aZ zr (RL.bI 0 v0_0 j eY (aZ zr ?_))))))))
  refine mv (vi aa.2) (aZ zr ?_)
  obtain⟨aq,ad,o⟩:=bd o
  refine RL.bQ 1 j zr zr dW ad (aZ zr (RL.dQ (f:=(fun x=>x)) 1 j (jg 1 j ad 0) (bF ad).2.1 Fd.self cJ (aZ zr ?_)))
  obtain⟨ak,ae,o⟩:=bd o
  refine RL.bQ 1 j zr zr dW ae (aZ zr (RL.dQ (f:=(fun x=>x)) 1 j (jg 1 j ae 0) (bF ae).2.1 Fd.self cJ (aZ zr ?_)))
  obtain⟨ar,af,o⟩:=bd o
  refine RL.bQ 1 j zr zr dW af (pP zr ?_)
  have j:=j.sc Int ak
  refine RL.gL (f:=(fun _ y=>y)) 2 0 j (jg 2 j af 0) (bF af).2.1 zr Fs.self cJ fun w j=>?_
  refine DP.d2 zt (DP.z (aH (RC.region (mv (vp b0 0) (RL.nilCheck zr (RL.aX zr pW (RL.bI 1 v0_0 j eY (mv (vi aa.2) ?_))))))))
  obtain⟨al,ag,o⟩:=bd o
  refine RL.bQ 2 j zr zr dW ag (RL.dQ (f:=(fun x=>x)) 2 j (jg 2 j ag 0) (bF ag).2.1 Fd.self cJ (aQ (vi al) (RL.nil (bM ?_))))
  obtain rfl:=oi o
  exact⟨rfl,j.sp 3 [1,2]⟩
 ·intro r _ _ _ _
  exact r.elim
 rintro aa _ w rfl ⟨O,rfl,j⟩
 rw [Fo.dA] at o
 refine aH (RC.sr (mv (vi aa.2) (aQ (vi aa.2) (RL.nt (RC.ret ?_)))))
 obtain rfl:=oi o
 exact bX ⟨v0_0,zr,j.pk 2 [0,1]⟩
def uI (E:World) (V:List HP) (b0:Nat) (res: (List Int)) (v:Value) (w:World):Prop:=∃u0_0:Value,v = .tuple #[]/\Holds E w ([bc 132 b0 [u0_0],own 3 u0_0 res]++V)
theorem tW {p0_0: (List Int)} {res: (List Int)} (j:Holds E w (bc 132 b0 [v0_0]::own 3 v0_0 p0_0::V)) (o:il N p0_0 p1 p2=some res):
    Calls bO 52 [(vp b0 0),(vi p1),(vi p2)].toArray w (gW (uI E V b0 res)):=by
 unfold il at o
 refine enter Tryz.func52 zr zr (RC.sr (mv (vp b0 0) (mv (vi p1) ?_)))
 have j:=(j.pull 1).pull 1
 obtain⟨aa,af,o⟩:=bd o
 refine RL.call zt zr JJ [(vp b0 0),(vi p1)] zr (aD (mB N (p1:=p1) j af) ?_)
 rintro _ w ⟨ah,rfl,j⟩
 refine mv (vp b0 0) (mv (vi p2) ?_)
 have j:=(j.pull 1).pull 1
 obtain⟨ab,ag,o⟩:=bd o
 refine RL.call zt zr JJ [(vp b0 0),(vi p2)] zr (aD (mB N (p1:=p2) j ag) ?_)
 rintro _ w ⟨ae,rfl,j⟩
 refine aQ (vi aa.1) (aQ (vi ab.1) (RL.nt (RC.region (mv (vp b0 0) (RL.nilCheck zr (RL.aX zr pW (RL.bI 0 ae j eY (mv (vi aa.1) ?_))))))))
 refine mv (vi ab.1) (RL.max aa.1 ab.1 (mv (vi aa.1) (mv (vi ab.1) (RL.min aa.1 ab.1 ?_))))
 obtain⟨ai,ad,o⟩:=bd o
 refine RL.bQ 1 j zr zr dW ad ?_
 have j:=j.sc Int (if ab.1<aa.1 then ab.1 else aa.1)
 refine RL.gL (f:=(fun _ y=>y)) 2 0 j (jg 2 j ad 0) (bF ad).2.1 zr Fs.self cJ fun w j=>?_
 refine RL.nil ?_
 obtain rfl:=oi o
 refine CE ?_
 exact HW zr ⟨ae,zr,j.pk 7 [1,2]⟩
def uJ (E:World) (V:List HP) (b0:Nat) (res: (List (List Int))×(List Int)) (v:Value) (w:World):Prop:=∃u0 u0_0:Value,v=u0/\Holds E w ([own 28 u0 res.1,bc 132 b0 [u0_0],own 3 u0_0 res.2]++V)
theorem tX {p0_0: (List Int)} {res: (List (List Int))×(List Int)} (o:Holds E w (bc 132 b0 [v0_0]::own 3 v0_0 p0_0::V)) (hb:j8 N p0_0=some res):
    Calls bO 53 [(vp b0 0)].toArray w (gW (uJ E V b0 res)):=by
 unfold j8 at hb
 refine enter Tryz.func53 zr zr (RC.sr (aQ (.slice none 0 0) (RL.ns (aQ (.slice none 0 0) (RL.ns (RL.makeMap (κ:=Int) (ν:=Int) zt zr o fun aq w o=>(aQ aq (RL.nq ?_))))))))
 refine RC.sr (mv (vp b0 0) (RL.nilCheck zr (RL.aX zr pW (RL.bI 1 v0_0 o eY (RL.fS 2 p0_0 o ly (mv (vi 0) (RL.nt ?_)))))))
 obtain⟨ao,hN,hb⟩:=bd hb
 refine RC.fold (fun(ai:Nat) (ao: (List Int)×(List (List Int))×(List (Int×Int))) U w=>∃(a4 a5:Value) (us110:List RV),SH E V [(0,vp b0 0),(3,a5),(4,aq),(12,vi p0_0.length),(13,vi ai)] [bc 132 b0 [a4],own 3 a4 ao.1,mp aq ao.2.2,own 28 a5 us110,iu (XS 3 Int) us110 ao.2.1 none] U w) (fun(ao: (List Int)×(List (List Int))×(List (Int×Int))) U w=>∃(ax av:Value) (us113:List RV),SH E V [(0,vp b0 0),(3,av)] [bc 132 b0 [ax],own 3 ax ao.1,mp aq ao.2.2,own 28 av us113,iu (XS 3 Int) us113 ao.2.1 none] U w) hN ?_ ?_ ?_ ?_
 ·have o:=(o.zq (XS 3 Int)).cO RV 28
  exact⟨v0_0,(.slice none 0 0),([]:List RV),o.sp 5 [3,4,2,0,1]⟩
 ·rintro hm ao _ w ⟨bb,bf,us153,O,rfl,o⟩
  refine RC.sr (ic ((p0_0.length:Int)) ((p0_0.length:Int)) (RL.nq (RC.fO tG (RC.ex ?_))))
  exact⟨rfl,bb,bf,us153,o.sp 5 [0,1,2,3,4]⟩
 ·rintro hm ai ao s' _ w hk ⟨bl,a1,us116,O,rfl,o⟩ hb
  refine RC.sr (ic ((ai:Int)) ((p0_0.length:Int)) (RL.nq (RC.fN (tF hk) (RC.ss (RC.bs (mv (vi ai) (aQ (vi ai) (RL.ns ?_))))))))
  refine mv (vp b0 0) (mv (vi ai) ?_)
  have o:=(o.pull 1).pull 1
  obtain⟨ab,bg,hb⟩:=bd hb
  refine RL.call zt zr JJ [(vp b0 0),(vi ai)] zr (aD (mB N (p1:=(ai:Int)) o bg) ?_)
  rintro _ w ⟨aw,rfl,o⟩
  refine aQ (vi ab.1) (RL.nq (RC.sr (mv (vi ab.1) (mv (vi ai) (ic ab.1 ((ai:Int)) (RL.nt ?_))))))
  obtain⟨aa,hj,hb⟩:=bd hb
  refine RC.jn (fun(aa: (List (List Int))×(List (Int×Int))) U w=>∃(an:Value) (us124:List RV),SH E V [(0,vp b0 0),(3,an),(4,aq),(5,vi ai),(6,vi ab.1),(12,vi p0_0.length),(13,vi ai)] [bc 132 b0 [aw],own 3 aw ab.2,mp aq aa.2,own 28 an us124,iu (XS 3 Int) us124 aa.1 none] U w) aa ?_ ?_
  ·refine dU hj (fun hc hj=>?_) fun hc hj=>?_
   rotate_left
   ·refine RC.skip ?_
    obtain rfl:=oi hj
    exact⟨rfl,a1,us116,o.sp 7 [0,1,4,5,6]⟩
   refine RC.sr (mv aq (mv (vi ai) (mv a1 (RL.rP 5 6 ao.2.1 o FR ?_))))
   have o:=o.sc Int (ao.2.1.length:Int)
   refine RL.mapUpdate 5 0 (ai:Int) zt o zr zr zr zr zr Dm fun w o=>(RL.nt (RC.region (mv a1 ?_)))
   have o:=(o.cO Int 3).Bj (i:=0) rfl
   refine RL.dR ([rv (.slice none 0 0)]:List RV) o [(.slice none 0 0)] yd JH (fun M hs g=>⟨(g.sat 0 _ zr).1,zt⟩) fun bm w o=>?_
   obtain⟨bn,bj,hj⟩:=bd hj
   have o:=o.freeze 0
   refine RL.CZ 9 0 10 2 zt zr o zr zr zr zr zr zr JI bj fun a8 w o=>?_
   refine aQ a8 (RL.nil ?_)
   obtain rfl:=oi hj
   exact⟨rfl,a8,(us116++[rv (.slice none 0 0)]),o.sp 11 [4,5,8,9,10]⟩
  rintro _ w ⟨an,us124,O,rfl,o⟩
  refine aH ?_
  obtain⟨bo,ay,hb⟩:=bd hb
  obtain⟨au,bk,hb⟩:=bd hb
  obtain⟨bp,a2,hb⟩:=bd hb
  refine RC.FJ E V mixed [1,1,1,0,1,1,1,0,0,0,1,0,0,0,0] [11,12,14] (fun(x:Value×Value)=>(fun ak ag=>[(0,29,an),(1,30,aq),(2,31,(vi ab.1)),(3,32,(vi (jy aa.2 ab.1 (0:Int)))),(4,33,an),(5,34,aq),(6,35,(vi ab.1)),(7,36,(vi (jy aa.2 ab.1 (0:Int)))),(8,37,(zc an (Int.toNat (jy aa.2 ab.1 (0:Int))) 1 0)),(9,38,(us124.getD (Int.toNat (jy aa.2 ab.1 (0:Int))) CA).v),(10,39,(vi ai)),(11,40,ak),(12,41,ag),(13,42,(zc an (Int.toNat (jy aa.2 ab.1 (0:Int))) 1 0))]) x.1 x.2) [(0,vp b0 0),(3,an),(4,aq),(5,vi ai),(6,vi ab.1),(12,vi p0_0.length),(13,vi ai)] [] (fun(D:Nat->Bool) (x:Value×Value)=>(fun ak ag=>[bif D 1 then (rd ak ([(ai:Int)]: (List Int))) else (bif D 0 then (own 3 ak ([(ai:Int)]: (List Int))) else bC),bif D 2 then bC else (bif D 1 then (own 3 ag au) else bC),bc 132 b0 [aw],own 3 aw ab.2,mp aq aa.2,bif D 2 then (own 28 an (us124.set (Int.toNat (jy aa.2 ab.1 (0:Int))) (rv ag))) else (own 28 an us124),bif D 2 then (iu (XS 3 Int) (us124.set (Int.toNat (jy aa.2 ab.1 (0:Int))) (rv ag)) (aa.1.set (Int.toNat (jy aa.2 ab.1 (0:Int))) au) none) else (bif D 1 then (iu (XS 3 Int) us124 aa.1 (some (Int.toNat (jy aa.2 ab.1 (0:Int))))) else (iu (XS 3 Int) us124 aa.1 none))]) x.1 x.2) (fun x=>by kernel_rfl) ?_ ⟨fun _=>jF gn,fun _=>jF gn,fun _=>jF gn,?_,fun _=>jF gn,fun _=>jF gn,fun _=>jF gn,?_,?_,?_,fun _=>jF gn,?_,?_,?_,?_,trivial⟩ ?_
  ·have o:=((o.drew).bC).bC
   exact⟨(undef,undef),fP.none,(Eu zr),zt,o⟩
  ·rintro D U w hD ah ae ⟨⟨ak,ag⟩,hv,ha,_,o⟩
   obtain⟨O,rfl⟩:=(ac (hv.at 1 rfl (ah.1 rfl)) (ac (hv.at 2 rfl (ah.2.1 rfl)) az)).fH
   refine RL.CR 4 ab.1 zt zr o zr zr zr Dm ?_
   exact RL.nil ⟨rfl,(ak,ag),hv.pu 3,ha.u,zt,o⟩
  ·rintro D U w hD ah ae ⟨⟨ak,ag⟩,hv,ha,_,o⟩
   obtain⟨O,rfl⟩:=(ac (hv.at 5 rfl (ah.1 rfl)) (ac (hv.at 6 rfl (ah.2.1 rfl)) az)).fH
   refine RL.CR 4 ab.1 zt zr o zr zr zr Dm ?_
   exact RL.nil ⟨rfl,(ak,ag),hv.pu 7,ha.u,zt,o⟩
  ·rintro D U w hD ah ae ⟨⟨ak,ag⟩,hv,ha,_,o⟩
   obtain⟨O,rfl⟩:=(ac (hv.at 4 rfl (ah.1 rfl)) (ac (hv.at 7 rfl (ah.2.1 rfl)) az)).fH
   have o:=((o.cB 5 (nh ae hD 14)).cB 6 (nh ae hD 14)).cB 6 (nf (fun h=>ft hD ((ae 9 _ rfl ((ae 12 _ rfl h).1 rfl)).1 rfl)))
   have hl141:=o.eD 6
   have hr142:=fT CA hl141 ay
   refine RL.bQ 5 o zr zr yd hr142 ?_
   have o:=(o.eW 5 (D 14) (nh ae hD 14) (own 28 an (us124.set (Int.toNat (jy aa.2 ab.1 (0:Int))) (rv ag)))).eW 6 (D 12) (nf (fun h=>ft hD ((ae 9 _ rfl ((ae 12 _ rfl h).1 rfl)).1 rfl))) (iu (XS 3 Int) us124 aa.1 (some (Int.toNat (jy aa.2 ab.1 (0:Int)))))
   have o:=o.eW 6 (D 14) (nh ae hD 14) (iu (XS 3 Int) (us124.set (Int.toNat (jy aa.2 ab.1 (0:Int))) (rv ag)) (aa.1.set (Int.toNat (jy aa.2 ab.1 (0:Int))) au) none)
   exact RL.nil ⟨rfl,(ak,ag),hv.pu 8,ha.u,zt,o⟩
  ·rintro D U w hD ah ae ⟨⟨ak,ag⟩,hv,ha,_,o⟩
   obtain⟨O,rfl⟩:=(ac (hv.at 8 rfl (ah.1 rfl)) az).fH
   have o:=((o.cB 5 (nh ae hD 14)).cB 6 (nh ae hD 14)).cB 6 (nh ae hD 12)
   have hl143:=o.eD 6
   have hr144:=fT CA hl143 ay
   refine RL.u4 5 6 (jy aa.2 ab.1 (0:Int)) (Bi 3 Int) CA zr o zr (jg 5 o hr144 0) zr zr ay eY ?_
   have o:=(o.eW 5 (D 14) (nh ae hD 14) (own 28 an (us124.set (Int.toNat (jy aa.2 ab.1 (0:Int))) (rv ag)))).eW 6 (D 12) (nh ae hD 12) (iu (XS 3 Int) us124 aa.1 (some (Int.toNat (jy aa.2 ab.1 (0:Int)))))
   have o:=o.eW 6 (D 14) (nh ae hD 14) (iu (XS 3 Int) (us124.set (Int.toNat (jy aa.2 ab.1 (0:Int))) (rv ag)) (aa.1.set (Int.toNat (jy aa.2 ab.1 (0:Int))) au) none)
   exact RL.nil ⟨rfl,(ak,ag),hv.pu 9,ha.u,zt,o⟩
  ·rintro D U w hD ah ae ⟨⟨ak,ag⟩,hv,ha,_,o⟩
   obtain⟨O,rfl⟩:=(ac (hv.at 10 rfl (ah.1 rfl)) az).fH
   have o:=((o.cB 0 (nh ae hD 12)).cB 0 hD).sc Int (ai:Int)
   refine RL.dR ([(ai:Int)]: (List Int)) o [(vi ai)] dW A1 (fun M hs g=>⟨(g.sat 0 _ zr).1,zt⟩) fun a9 w o=>?_
   have o:=((o.pl 9 [0,3,4,5,6,7,8]).cQ 0 true rfl bC).eW 0 (D 12) (nh ae hD 12) (rd a9 ([(ai:Int)]: (List Int)))
   exact RL.nil ⟨rfl,(a9,ag),hv.pu 11,ha.u,zt,o⟩
  ·rintro D U w hD ah ae ⟨⟨ak,ag⟩,hv,ha,_,o⟩
   obtain⟨O,rfl⟩:=(ac (hv.at 9 rfl (ah.1 rfl)) (ac (hv.at 11 rfl (ah.2.1 rfl)) az)).fH
   have o:=(((((((o.cB 0 hD).cP 0 (ah.2.1 rfl)).cB 1 (nh ae hD 14)).cB 1 hD).cB 5 (nh ae hD 14)).cB 6 (nh ae hD 14)).cB 6 hD).zF (j:=6) (jj:=(jy aa.2 ab.1 (0:Int))) (Bi 3 Int) CA rfl ay
   have o:=o.freeze 1
   refine RL.app 0 1 o pC bk fun a3 w o=>?_
   have o:=((((o.pl 8 [1,0,3,4,5,6,7]).cQ 0 true rfl (bif D 11 then (own 3 ak ([(ai:Int)]: (List Int))) else bC)).cQ 1 true rfl bC).eW 1 (D 14) (nh ae hD 14) bC).eW 5 (D 14) (nh ae hD 14) (own 28 an (us124.set (Int.toNat (jy aa.2 ab.1 (0:Int))) (rv a3)))
   have o:=(o.cQ 6 true rfl (iu (XS 3 Int) us124 aa.1 none)).eW 6 (D 14) (nh ae hD 14) (iu (XS 3 Int) (us124.set (Int.toNat (jy aa.2 ab.1 (0:Int))) (rv a3)) (aa.1.set (Int.toNat (jy aa.2 ab.1 (0:Int))) au) none)
   exact RL.nil ⟨rfl,(ak,a3),hv.pu 12,ha.u,zt,o⟩
  ·rintro D U w hD ah ae ⟨⟨ak,ag⟩,hv,ha,_,o⟩
   obtain⟨O,rfl⟩:=(ac (hv.at 0 rfl (ah.1 rfl)) (ac (hv.at 3 rfl (ah.2.1 rfl)) az)).fH
   have o:=((o.cB 5 (nh ae hD 14)).cB 6 (nh ae hD 14)).cP 6 (ah.2.2.2.2.2.2.2.2.2.2.2.2.2.2.1 rfl)
   have hl147:=o.eD 6
   have hr148:=fT CA hl147 a2
   refine RL.bQ 5 o zr zr yd hr148 ?_
   have o:=(o.eW 5 (D 14) (nh ae hD 14) (own 28 an (us124.set (Int.toNat (jy aa.2 ab.1 (0:Int))) (rv ag)))).cQ 6 (D 12) (ah.2.2.2.2.2.2.2.2.2.2.2.2.2.2.1 rfl) (iu (XS 3 Int) us124 aa.1 none)
   have o:=o.eW 6 (D 14) (nh ae hD 14) (iu (XS 3 Int) (us124.set (Int.toNat (jy aa.2 ab.1 (0:Int))) (rv ag)) (aa.1.set (Int.toNat (jy aa.2 ab.1 (0:Int))) au) none)
   exact RL.nil ⟨rfl,(ak,ag),hv.pu 13,ha.u,zt,o⟩
  ·rintro D U w hD ah ae ⟨⟨ak,ag⟩,hv,ha,_,o⟩
   obtain⟨O,rfl⟩:=(ac (hv.at 12 rfl (ah.2.1 rfl)) (ac (hv.at 13 rfl (ah.1 rfl)) az)).fH
   have o:=((((o.cB 1 hD).cP 1 (ah.2.1 rfl)).cB 5 hD).cB 6 hD).cP 6 (ah.2.1 rfl)
   have hl149:=o.eD 6
   have hr150:=fT CA hl149 a2
   refine RL.sS 5 6 1 (jy aa.2 ab.1 (0:Int)) (Bi 3 Int) CA o zr zr (jg 5 o hr150 0) zr zr zr a2 eY fun w o=>?_
   have o:=((o.cQ 1 true rfl (bif D 12 then (own 3 ag au) else bC)).cQ 5 true rfl (own 28 an us124)).cQ 6 true rfl (bif D 12 then (iu (XS 3 Int) us124 aa.1 (some (Int.toNat (jy aa.2 ab.1 (0:Int))))) else (iu (XS 3 Int) us124 aa.1 none))
   exact RL.nil ⟨rfl,(ak,ag),hv.n1,ha,zt,o⟩
  rintro D U w a0 ⟨⟨ak,ag⟩,hv,ha,_,o⟩
  have o:=(((o.cP 0 (kQ a0 12)).cP 1 (kQ a0 14)).cP 5 (kQ a0 14)).cP 6 (kQ a0 14)
  obtain⟨O,rfl⟩:=(ac (ha.at 0 rfl) (ac (ha.at 1 rfl) (ac (ha.at 2 rfl) (ac (ha.at 3 rfl) (ac (ha.at 4 rfl) (ac (ha.at 5 rfl) (ac (ha.at 6 rfl) az))))))).fH
  refine bM (aH (RC.region (RL.inc hk hm (mv (vi ((ai+1:Nat):Int)) (RL.nil ?_)))))
  obtain rfl:=oi hb
  exact⟨rfl,aw,an,(us124.set (Int.toNat (jy aa.2 ab.1 (0:Int))) (rv ag)),o.sp 7 [2,3,4,5,6]⟩
 rintro _ w ⟨ax,av,us113,O,rfl,o⟩
 refine aH (RC.sr (mv av (aQ av (RL.nt (RC.ret ?_)))))
 obtain rfl:=oi hb
 have o:=o.zu (X:=(XS 3 Int)) (b:=4) (j:=3) rfl (fun M h u x cs=>(IQ 3) M h u x cs) rfl rfl (by decide)
 exact bX ⟨av,ax,zr,o.pk 5 [3,0,1]⟩
theorem tY {p0:aI} {p1:jt} {res:Bool} (j:Holds E w V) (h0:V[i0]? =some (rd v0 p0)) (h1:V[i1]? =some (pt v1 p1)) (hb:lD N p0 p1=some res):
    Calls bO 115 [v0,v1].toArray w (gW (aV E V res)):=by
 unfold lD at hb
 refine enter Tryz.func115 zr zr ?_
 have j:=(j.dup (i0+0) h0).BU (i:=i1+1) h1
 refine RC.sr (RL.dJ 1 v0 j zr fun ag w j=>?_)
 refine aQ (vb false) (RL.nq ?_)
 obtain⟨af,o,hb⟩:=bd hb
 refine RC.jn (fun(af:Bool)=>SH E V [(3,vb af)] []) af ?_ ?_
 ·refine RC.region (RL.dX 1 j zr v8 nL fun ah j=>(RL.bD p1.X 0 j cJ (RL.aX zr ir (RL.aN 1 j zr dL cJ (ic p1.X p0.X0 (mv (vb (decide (p1.X>=p0.X0))) (fC o (fun aa o=>?_) fun aa o=>?_)))))))
  rotate_left
  ·refine bG aa (bG aa (bG aa (bG aa (bG aa (fL aa (vb false) (mv (vb false) (ko (ko ?_))))))))
   refine ko (ko (ko (RL.pick false (vb false) zr (mv (vb false) (ko (ko (ko (ko ?_))))))))
   refine ko (RL.pick false (vb false) zr (aQ (vb false) (RL.nil ?_)))
   obtain rfl:=oi o
   exact⟨rfl,j.sp 4 []⟩
  refine RL.dX (hg:=(cg aa)) 2 j zr v8 nL fun ai j=>(RL.bD (hg:=(cg aa)) p1.X 0 j cJ (RL.aX (hg:=(cg aa)) zr jl (RL.aN (hg:=(cg aa)) 2 j zr eE cJ (RL.kD p1.X p0.X1 (cg aa) (fL aa (vb (decide (p1.X<p0.X1))) (mv (vb (decide (p1.X<p0.X1))) (fC o (fun ab o=>?_) fun ab o=>?_)))))))
  rotate_left
  ·refine bG ab (bG ab (bG ab (bG ab (bG ab (fL ab (vb false) (mv (vb false) (ko (ko ?_))))))))
   refine ko (ko (ko (RL.pick false (vb false) zr (aQ (vb false) (RL.nil ?_)))))
   obtain rfl:=oi o
   exact⟨rfl,j.sp 5 []⟩
  refine RL.dX (hg:=(cg ab)) 3 j zr v9 nM fun aj j=>(RL.bD (hg:=(cg ab)) p1.Y 0 j cJ (RL.aX (hg:=(cg ab)) zr g8 (RL.aN (hg:=(cg ab)) 3 j zr dF cJ (RL.kD p1.Y p0.Y0 (cg ab) (fL ab (vb (decide (p1.Y>=p0.Y0))) (mv (vb (decide (p1.Y>=p0.Y0))) (fC o (fun ad o=>?_) fun ad o=>?_)))))))
  ·refine RL.dX (hg:=(cg ad)) 4 j zr v9 nM fun ak j=>(RL.bD (hg:=(cg ad)) p1.Y 0 j cJ (RL.aX (hg:=(cg ad)) zr kq (RL.aN (hg:=(cg ad)) 4 j zr fF cJ (RL.kD p1.Y p0.Y1 (cg ad) (fL ad (vb (decide (p1.Y<p0.Y1))) (aQ (vb (decide (p1.Y<p0.Y1))) (RL.nil ?_)))))))
   obtain rfl:=oi o
   exact⟨rfl,j.sp 7 []⟩
  refine bG ad (bG ad (bG ad (bG ad (bG ad (fL ad (vb false) (aQ (vb false) (RL.nil ?_)))))))
  obtain rfl:=oi o
  exact⟨rfl,j.sp 6 []⟩
 rintro _ w ⟨O,rfl,j⟩
 refine aH (RC.ret ?_)
 obtain rfl:=oi hb
 exact bX ⟨rfl,j.drop 0⟩
theorem qC {p0: (List aI)} {p1:jt} {res:Bool} (j:Holds E w V) (h0:V[i0]? =some (rd v0 p0)) (h1:V[i1]? =some (rd v1 p1)) (o:ky N p0 p1=some res):
    Calls bO 88 [v0,v1].toArray w (gW (aV E V res)):=by
 unfold ky at o
 refine enter Tryz.func88 zr zr ?_
 have j:=(j.dup (i0+0) h0).dup (i1+1) h1
 refine RC.sr (RL.dJ 0 v1 j zr fun aa w j=>?_)
 have j:=j.lR (i:=0) rfl
 refine aQ (vb false) (RL.ns (mv v0 (RL.makeFunc zt zr [(vp aa 0)] zr ?_)))
 obtain⟨ab,ad,o⟩:=bd o
 refine RL.call trivial rfl KQ [v0,(.func (.func 115) #[] #[(vp aa 0)])] rfl (aD (mc N (i0:=2) j rfl ⟨115,[(vp aa 0)],rfl,KS,fun w Γl v y0 r i j hi hr=>by exact aD (tY N (i0:=i) (i1:=Γl.length+0) j hi (BS rfl) hr) fun _ _ h=>h⟩ ad) ?_)
 rintro _ w ⟨rfl,j⟩
 refine aQ (vb ab) (RL.nt (RC.ret ?_))
 obtain rfl:=oi o
 exact bX ⟨rfl,j.drop 3⟩
def ph (E:World) (V:List HP) (b0:Nat) (v0_0 v0_1:Value) (v0_2 v0_3:Value) (v0_4 v0_5:Value) (v0_6 v0_7:Value) (v0_8 v0_9:Value) (v0_10 v0_11:Value) (res:km×Bool) (v:Value) (w:World):Prop:=∃u0:Value,v = .tuple #[u0,(vb res.2)]/\Holds E w ([rd u0 res.1,bc 44 b0 [v0_0,v0_1,v0_2,v0_3,v0_4,v0_5,v0_6,v0_7,v0_8,v0_9,v0_10,v0_11]]++V)
def pj (E:World) (V:List HP) (b0:Nat) (v0_0 v0_1:Value) (v0_2 v0_3:Value) (v0_4 v0_5:Value) (v0_6 v0_7:Value) (v0_8 v0_9:Value) (v0_10 v0_11:Value) (r:km×Bool) (U:Nat->Value) (w:World):Prop:=mh bO 66 Tryz.f54 (ph E V b0 v0_0 v0_1 v0_2 v0_3 v0_4 v0_5 v0_6 v0_7 v0_8 v0_9 v0_10 v0_11 r) .ret U w
theorem tZ {p0_2: (List cE)} {p0_5: (List aK)} {p1:fW} {res:km×Bool} (j:Holds E w (bc 44 b0 [v0_0,v0_1,v0_2,v0_3,v0_4,v0_5,v0_6,v0_7,v0_8,v0_9,v0_10,v0_11]::rd v0_2 p0_2::rd v0_5 p0_5::V)) (h1:V[i1]? =some (rd v1 p1)) (o:j9 N p0_2 p0_5 p1=some res):
    Calls bO 54 [(vp b0 0),v1].toArray w (gW (ph E V b0 v0_0 v0_1 v0_2 v0_3 v0_4 v0_5 v0_6 v0_7 v0_8 v0_9 v0_10 v0_11 res)):=by
 unfold j9 at o
 refine enter Tryz.func54 zr zr ?_
 have j:=j.dup (i1+3) h1
 refine RC.sr (RL.dJ 0 v1 j zr fun ah w j=>?_)
 have j:=j.lR (i:=0) rfl
 refine RL.alloc j G5.z fun ae w j=>?_
 refine aQ (vb false) (RL.nq (RC.sr (mv (vp b0 0) (RL.nilCheck zr (RL.aX zr sY (RL.aX zr gK (RL.bI 3 v0_2 j mZ (RL.bA 4 p0_2 j um ?_))))))))
 refine mv (vi 0) (RL.nt ?_)
 obtain⟨bn,hN,o⟩:=bd o
 refine RC.range (fun(af:Nat) (al:Unit)=>SH E V [(0,vp b0 0),(3,vp ah 0),(4,vp ae 0),(14,v0_2),(15,vi p0_2.length),(16,vi af)] [bc 44 b0 [v0_0,v0_1,v0_2,v0_3,v0_4,v0_5,v0_6,v0_7,v0_8,v0_9,v0_10,v0_11],rd v0_2 p0_2,rd v0_5 p0_5,pt (vp ah 0) p1,raw 98 ae 2]) (fun(al:Unit)=>SH E V [(0,vp b0 0),(3,vp ah 0),(4,vp ae 0)] [bc 44 b0 [v0_0,v0_1,v0_2,v0_3,v0_4,v0_5,v0_6,v0_7,v0_8,v0_9,v0_10,v0_11],rd v0_2 p0_2,rd v0_5 p0_5,pt (vp ah 0) p1,raw 98 ae 2]) (pj E V b0 v0_0 v0_1 v0_2 v0_3 v0_4 v0_5 v0_6 v0_7 v0_8 v0_9 v0_10 v0_11) hN ?_ ?_ ?_ ?_ ?_
 ·exact j.sp 6 [3,4,5,1,0]
 ·rintro hm al _ w ⟨O,rfl,j⟩
  refine RC.sr (ic ((p0_2.length:Int)) ((p0_2.length:Int)) (RL.nq (RC.fO tG (RC.ex ?_))))
  exact⟨rfl,j.sp 5 [0,1,2,3,4]⟩
 ·rintro hm af al fl _ w hk ⟨O,rfl,j⟩ o
  refine RC.sr (ic ((af:Int)) ((p0_2.length:Int)) (RL.nq (RC.fN (tF hk) (RC.ss (RC.bs (mv (vi af) ?_))))))
  obtain⟨ax,a0,o⟩:=bd o
  refine RL.bP 1 j pE a0 fun bo j=>(RL.bL 0 ax j lE fun bp j=>(RL.alloc j Dj.z fun bq w j=>?_))
  refine aQ (vi af) (RL.cA 0 j 1 zr lE fun w j=>?_)
  refine RL.nq ?_
  obtain⟨aq,hj,o⟩:=bd o
  refine RC.jn (fun(aq:Bool)=>SH E V [(0,vp b0 0),(3,vp ah 0),(4,vp ae 0),(6,vi af),(14,v0_2),(15,vi p0_2.length),(16,vi af),(36,vb aq)] [bc 44 b0 [v0_0,v0_1,v0_2,v0_3,v0_4,v0_5,v0_6,v0_7,v0_8,v0_9,v0_10,v0_11],rd v0_2 p0_2,rd v0_5 p0_5,pt (vp ah 0) p1,raw 98 ae 2]) aq ?_ ?_
  ·refine RC.v5 mixed [0,0,0,0,0,0,2,0,0,0,2,2,1,1,2,0] [0,1,2,3,4,5,6,7,8,9,12,13,10,11,14,15] ?_
   have j:=j.drew
   refine DP.e0 zr (RL.aX zr uq (aZ zr (RL.aN 0 j zr nT AR (aZ zr (mv (vb ax.eH) (DP.d0 (fC hj (fun ai hj=>?_) fun ai hj=>?_)))))))
   rotate_left
   ·refine DP.e0 zr (bG ai (aZ zr (bG ai (aZ zr (bG ai (pP zr (bG ai (tP zr ?_))))))))
    refine fL ai (vb false) (aZ zr (mv (vb false) (aZ zr (ko (DP.d0 (DP.e1 undef zr (fun w=>ko DP.d1) (DP.e1 undef zr (fun w=>ko DP.d1) (DP.e2 zr ?_))))))))
    refine ko (E7 zr (ko (E7 zr (ko (tP zr (RL.pick false (vb false) zr (DP.d0 (DP.z ?_))))))))
    obtain rfl:=oi hj
    exact⟨rfl,j.sp 8 [3,4,5,6,7]⟩
   refine DP.e0 zr (RL.bE (hg:=(cg ai)) (f:=(fun x=>x)) 0 j zr Fd.self lE fun a1 j=>(aZ zr (RL.dX (hg:=(cg ai)) 7 j zr ya ql fun br j=>(aZ zr (RL.bD (hg:=(cg ai)) p1.cU 0 j cJ (pP zr ?_))))))
   obtain⟨ay,a2,hj⟩:=bd hj
   refine RL.call (cg ai) zr JB [a1,(vi p1.cU)] zr (aD (oG N (p1:=p1.cU) (i0:=1) j zr a2) ?_)
   rintro _ w ⟨rfl,j⟩
   refine tP zr (fL ai (vb ay) (aZ zr (mv (vb ay) (DP.d0 (fC hj (fun ab hj=>?_) fun ab hj=>?_)))))
   rotate_left
   ·refine DP.e0 zr (bG ab (DP.d0 (DP.e1 undef zr (fun w=>bG ab DP.d1) (DP.e1 undef zr (fun w=>bG ab DP.d1) (DP.e2 zr (bG ab (E7 zr (bG ab ?_))))))))
    refine E7 zr (bG ab (tP zr (fL ab (vb false) (DP.d0 (DP.z ?_)))))
    obtain rfl:=oi hj
    exact⟨rfl,j.sp 10 [5,6,7,8,9]⟩
   refine DP.e0 zr (RL.bE (hg:=(cg ab)) (f:=(fun x=>x)) 2 j zr Fd.self lE fun a3 j=>(DP.d0 (DP.B5 9 zr (cg ab) j zr yb qm fun bt j=>(DP.zg p1.At 0 zr (cg ab) j Dk fun a4 a105 bu j=>(DP.e2 zr ?_)))))
   obtain⟨a5,a6,hj⟩:=bd hj
   refine RL.call (cg ab) zr FN [a3] zr (aD (jo N (i0:=3) j zr a6) ?_)
   rintro a7 w j
   refine DP.d2 (⟨zt,j.iq 1⟩) (DP.e2 zr (RL.dR (hg:=(cg ab)) ([a5]: (List aI)) j [a7] jk oA (fun M hs g=>⟨(g.sat 0 _ zr).1,zt⟩) fun a8 w j=>(DP.d2 (⟨zt,j.iq 2⟩) (DP.e2 zr ?_))))
   have j:=j.freeze 0
   obtain⟨a9,ba,hj⟩:=bd hj
   refine RL.call (cg ab) zr KT [a8,a4] zr (aD (qC N (i0:=0) (i1:=3) j zr zr ba) ?_)
   rintro _ w ⟨rfl,j⟩
   refine DP.d2 (⟨zt,j.iq 2⟩) (DP.e0 zr (fL ab (vb a9) (DP.d0 ?_)))
   have j:=j.pl 16 [0,1,3,4,5,6,7,8,9,10,11,12,13,14,15]
   refine DP.z ?_
   obtain rfl:=oi hj
   exact⟨rfl,j.sp 15 [10,11,12,13,14]⟩
  rintro _ w ⟨O,rfl,j⟩
  refine aH (dU o (fun hc o=>?_) fun hc o=>?_)
  rotate_left
  ·refine RC.skip (bM (aH (RC.region (RL.inc hk hm (mv (vi ((af+1:Nat):Int)) (RL.nil ?_))))))
   obtain rfl:=oi o
   exact⟨rfl,j.sp 5 [0,1,2,3,4]⟩
  refine RC.sr (mv (vi af) ?_)
  have j:=(j.sc Bool true).sc Int (af:Int)
  refine RL.build (⟨true,(af:Int)⟩:km) trivial rfl j [(0,vb true),(1,vi af)] rfl FT rfl (fun M hs g=>by have h:=Bq M;exact cT.cons (f:=fun(x:km) y=>{x with cE:=y}) h Dg (g.sat 1 _ rfl).1 fun _ h=>cT.cons (f:=fun(x:km) y=>{x with Number:=y}) h w5 (g.sat 0 _ rfl).1 fun _ h=>cT.nil h) fun bw j=>?_
  refine RL.cA 7 j 0 zr uu fun w j=>?_
  refine aQ (vb true) (RL.nt (RC.rb (bT ?_)))
  obtain rfl:=oi o
  exact⟨rfl,wL 7 j uu fun bb j=>⟨bb,zr,j.pk 9 [0,4]⟩⟩
 ·intro r U w e hK
  subst e
  refine bT ?_
  obtain rfl:=oi o
  exact hK
 rintro al _ w rfl ⟨O,rfl,j⟩
 rw [Fo.dA] at o
 refine aH (RC.seq (RC.sr (mv (vp b0 0) (RL.nilCheck zr (RL.aX zr yc (RL.bI 0 v0_5 j FQ (RL.bA 2 p0_5 j Ih (mv (vi 0) ?_))))))))
 refine RL.nt ?_
 obtain⟨bx,hN,o⟩:=bd o
 refine RC.range (fun(ag:Nat) (an:Unit)=>SH E V [(0,vp b0 0),(3,vp ah 0),(4,vp ae 0),(43,v0_5),(44,vi p0_5.length),(45,vi ag)] [bc 44 b0 [v0_0,v0_1,v0_2,v0_3,v0_4,v0_5,v0_6,v0_7,v0_8,v0_9,v0_10,v0_11],rd v0_2 p0_2,rd v0_5 p0_5,pt (vp ah 0) p1,raw 98 ae 2]) (fun(an:Unit)=>SH E V [(0,vp b0 0),(4,vp ae 0)] [bc 44 b0 [v0_0,v0_1,v0_2,v0_3,v0_4,v0_5,v0_6,v0_7,v0_8,v0_9,v0_10,v0_11],rd v0_2 p0_2,rd v0_5 p0_5,pt (vp ah 0) p1,raw 98 ae 2]) (pj E V b0 v0_0 v0_1 v0_2 v0_3 v0_4 v0_5 v0_6 v0_7 v0_8 v0_9 v0_10 v0_11) hN ?_ ?_ ?_ ?_ ?_
 ·exact j.sp 5 [0,1,2,3,4]
 ·rintro hm an _ w ⟨O,rfl,j⟩
  refine RC.sr (ic ((p0_5.length:Int)) ((p0_5.length:Int)) (RL.nq (RC.fO tG (RC.ex ?_))))
  exact⟨rfl,j.sp 5 [0,1,2,3,4]⟩
 ·rintro hm ag an fl _ w hk ⟨O,rfl,j⟩ o
  refine RC.sr (ic ((ag:Int)) ((p0_5.length:Int)) (RL.nq (RC.fN (tF hk) (RC.ss (RC.bs (mv (vi ag) ?_))))))
  obtain⟨av,bf,o⟩:=bd o
  refine RL.bP 2 j JF bf fun bz j=>(RL.bL 0 av j Ii fun b1 j=>(RL.alloc j JG.z fun b2 w j=>?_))
  refine aQ (vi ag) (RL.cA 0 j 1 zr Ii fun w j=>?_)
  refine RL.nq ?_
  obtain⟨aw,hj,o⟩:=bd o
  refine RC.jn (fun(aw:Bool)=>SH E V [(0,vp b0 0),(3,vp ah 0),(4,vp ae 0),(8,vi ag),(43,v0_5),(44,vi p0_5.length),(45,vi ag),(61,vb aw)] [bc 44 b0 [v0_0,v0_1,v0_2,v0_3,v0_4,v0_5,v0_6,v0_7,v0_8,v0_9,v0_10,v0_11],rd v0_2 p0_2,rd v0_5 p0_5,pt (vp ah 0) p1,raw 98 ae 2]) aw ?_ ?_
  ·refine RC.region (RL.aX zr G2 (RL.aN 0 j zr rf cJ (RL.dX 6 j zr ya ql fun b3 j=>(RL.bD p1.cU 0 j cJ (ic av.cU p1.cU (mv (vb (av.cU==p1.cU)) (fC hj (fun ad hj=>?_) fun ad hj=>?_)))))))
   rotate_left
   ·refine bG ad (bG ad (bG ad (bG ad (bG ad (fL ad (vb false) (RL.nil ?_))))))
    obtain rfl:=oi hj
    exact⟨rfl,j.sp 9 [4,5,6,7,8]⟩
   refine RL.aX (hg:=(cg ad)) zr G3 (RL.bE (hg:=(cg ad)) 1 j zr rh tR fun bg j=>(RL.dX (hg:=(cg ad)) 8 j zr yb qm fun b4 j=>(RL.bL (hg:=(cg ad)) 0 p1.At j Dk fun bh j=>?_)))
   obtain⟨bj,bk,hj⟩:=bd hj
   refine RL.call (cg ad) zr KT [bg,bh] zr (aD (qC N (i0:=2) (i1:=0) j zr zr bk) ?_)
   rintro _ w ⟨rfl,j⟩
   refine fL ad (vb bj) (RL.nil ?_)
   obtain rfl:=oi hj
   exact⟨rfl,j.sp 12 [7,8,9,10,11]⟩
  rintro _ w ⟨O,rfl,j⟩
  refine aH (dU o (fun hc o=>?_) fun hc o=>?_)
  rotate_left
  ·refine RC.skip (bM (aH (RC.region (RL.inc hk hm (mv (vi ((ag+1:Nat):Int)) (RL.nil ?_))))))
   obtain rfl:=oi o
   exact⟨rfl,j.sp 5 [0,1,2,3,4]⟩
  refine RC.sr (mv (vi ag) ?_)
  have j:=j.sc Int (ag:Int)
  refine RL.build (⟨false,(ag:Int)⟩:km) trivial rfl j [(1,vi ag)] rfl FT rfl (fun M hs g=>by have h:=Bq M;exact cT.cons (f:=fun(x:km) y=>{x with Number:=y}) h w5 (g.sat 0 _ rfl).1 fun _ h=>cT.nil h) fun b5 j=>?_
  refine RL.cA 6 j 0 zr uu fun w j=>?_
  refine aQ (vb true) (RL.nt (RC.rb (bT ?_)))
  obtain rfl:=oi o
  exact⟨rfl,wL 6 j uu fun bl j=>⟨bl,zr,j.pk 8 [0,3]⟩⟩
 ·intro r U w e hK
  subst e
  refine bT ?_
  obtain rfl:=oi o
  exact hK
 rintro an _ w rfl ⟨O,rfl,j⟩
 rw [Fo.dA] at o
 refine aH (RC.sr (RL.build (⟨false,0⟩:km) trivial rfl j [] rfl FT rfl (fun M hs g=>by have h:=Bq M;exact cT.nil h) fun b6 j=>?_))
 refine RL.cA 5 j 0 zr uu fun w j=>?_
 refine aQ (vb false) (RL.nt (RC.ret ?_))
 obtain rfl:=oi o
 exact wL 5 j uu fun bm j=>⟨bm,zr,j.pk 7 [0,2]⟩
def qY (E:World) (V:List HP) (b0:Nat) (v0_0 v0_1:Value) (v0_2 v0_3:Value) (v0_4 v0_5:Value) (v0_6 v0_7:Value) (v0_8 v0_9:Value) (v0_10 v0_11:Value) (res:Int) (v:Value) (w:World):Prop:=v= (vi res)/\Holds E w ([bc 44 b0 [v0_0,v0_1,v0_2,v0_3,v0_4,v0_5,v0_6,v0_7,v0_8,v0_9,v0_10,v0_11]]++V)
theorem qD {p0_8: (List Int)} {p0_9: (List Int)} {p1:km} (j:Holds E w (bc 44 b0 [v0_0,v0_1,v0_2,v0_3,v0_4,v0_5,v0_6,v0_7,v0_8,v0_9,v0_10,v0_11]::rd v0_8 p0_8::rd v0_9 p0_9::V)) (h1:V[i1]? =some (rd v1 p1)) (o:iA N p0_8 p0_9 p1=some res):
    Calls bO 55 [(vp b0 0),v1].toArray w (gW (qY E V b0 v0_0 v0_1 v0_2 v0_3 v0_4 v0_5 v0_6 v0_7 v0_8 v0_9 v0_10 v0_11 res)):=by
 unfold iA at o
 refine enter Tryz.func55 zr zr ?_
 have j:=j.dup (i1+3) h1
 refine RC.sr (RL.dJ 0 v1 j zr fun ag w j=>?_)
 refine aQ (vi 0) (RL.nq (RC.sr (RL.aX zr Ca (RL.aN 0 j zr w4 AR (RL.nt (dU o (fun hc o=>?_) fun hc o=>?_))))))
 ·refine RC.seq (RC.zf mixed ?_)
  have j:=j.drew
  refine RO.go (mv (vp b0 0) (RO.nx (RL.nilCheck zr (RO.nx (RL.aX zr B9 (RO.nx (RL.bI 2 v0_9 j eY (RO.nx ?_))))))))
  refine RL.aX zr zP (RO.nx (RL.aN 0 j zr uj cJ (RO.nx ?_)))
  obtain⟨aa,ae,o⟩:=bd o
  refine RL.bP 4 j dW ae fun ah j=>(RO.nx (RL.bD aa 0 j cJ (RO.nx (aQ (vi aa) (RO.last (aH (RC.rt ?_)))))))
  obtain rfl:=oi o
  exact bX ⟨rfl,j.pk 6 [3]⟩
 refine RC.ss (RC.zf mixed ?_)
 have j:=j.drew
 refine RO.go (mv (vp b0 0) (RO.nx (RL.nilCheck zr (RO.nx (RL.aX zr B8 (RO.nx (RL.bI 2 v0_8 j eY (RO.nx ?_))))))))
 refine RL.aX zr zP (RO.nx (RL.aN 0 j zr uj cJ (RO.nx ?_)))
 obtain⟨ab,af,o⟩:=bd o
 refine RL.bP 3 j dW af fun ai j=>(RO.nx (RL.bD ab 0 j cJ (RO.nx (aQ (vi ab) (RO.last (aH (RC.ret ?_)))))))
 obtain rfl:=oi o
 exact bX ⟨rfl,j.pk 6 [3]⟩
end Go.Gk
