/-
  Printed texts: Go functions as plain functions, and that they are. No statement of the seed is proved here.
-/
import Derived.Test.YtopjilpddngibaaGreatDoorG1
import Derived.Test.YtopjilpddngibaaGreatDoorG2
import Derived.Test.YtopjilpddngibaaGreatDoorA2
set_option linter.unusedVariables false
set_option linter.unusedSimpArgs false
set_option linter.unusedSectionVars false
set_option maxRecDepth 100000
set_option maxHeartbeats 40000000
namespace Go.Gk
open Go Go.Proofs
variable (N:Nat) {E w:World} {i0 i1:Nat} {p1 p2 res:Int} {v0 v1:Value} {V:List HP}
def fW (E:World) (V:List HP) (r:Int) (U:Nat->Value) (w:World):Prop:=gR bE 132 Tryz.f29 (aC E V r) .ret U w
theorem lC {p0: (List aD)} {p1:aH} (j:Holds E w V) (h0:V[i0]? =some (rd v0 p0)) (h1:V[i1]? =some (rd v1 p1)) (o:er N p0 p1=some res):
    Calls bE 29 [v0,v1].toArray w (eT (aC E V res)):=by
 unfold er at o
 refine enter Tryz.func29 zr zr ?_
 have j:=(j.dup (i0+0) h0).dup (i1+1) h1
 refine RC.sr (RL.cW 0 v1 j zr fun ah w j=>?_)
 refine aI 0 (RL.nq (RC.sr (RL.bU zr iX (RL.bI 0 j zr cU oZ fun bu j=>(RL.bG 0 p1.aK j rW (ic ((p1.aK.length:Int)) 1000 (RL.nt (dX o (fun o=>?_) fun o=>?_))))))))
 ·refine RC.sr (aI 2 (RL.nt (RC.rt ?_)))
  obtain rfl:=oi o
  exact bC ⟨rfl,j.drop 4⟩
 refine RC.ss (RC.sr (RL.bU zr iX (RL.bI 1 j zr cU oZ fun au j=>(RL.bG 0 p1.aK j rW (aX 0 (RL.nt (RC.r0 E V (fun(a2:Unit)=>[rd v0 p0,bx 26 ah p1,rd au p1.aK]) (fun _=>[(0,v0),(3,vp ah 0)]) (fun ai _=>[(16,au),(17,vi p1.aK.length),(18,vi ai)]) (fW E V) o ?_ ?_ ?_ ?_)))))))
 ·exact j.sp 5 [4,2,0]
 ·rintro hm ai a2 fl _ w hk ⟨O,rfl,j⟩ o
  refine RC.seq (RC.bs (aX (ai:Int) ?_))
  obtain⟨ak,bb,o⟩:=bd o
  refine RL.bK 2 j o4 bb fun bw j=>(RL.aZ 0 ak j m1 fun bz j=>(RL.alloc j uW.z fun b0 w j=>?_))
  refine aI (ai:Int) (RL.bD 0 j 1 zr m1 fun w j=>?_)
  refine RL.nt (RC.bs (RL.bU zr lr (RL.aV 0 j zr gA fY ?_)))
  obtain⟨Cb,bc,o⟩:=bd o
  refine RL.cs CO (jA N (p0:=ak.Name) j bc) fun w j=>(RL.not Cb (bY (!Cb) (RL.nt (dX o (fun o=>?_) fun o=>?_))))
  ·refine RC.sr (aI 5 (RL.nt (RC.rb (dx (aO ?_)))))
   obtain rfl:=oi o
   exact⟨rfl,bC ⟨rfl,j.drop 6⟩⟩
  refine RC.sr (mv v0 (RL.bU zr lu (RL.aV 0 j zr gB fY ?_)))
  obtain⟨a4,bf,o⟩:=bd o
  refine RL.cs A0 (fh N (p1:=ak.cE) (i0:=3) j zr bf) fun w j=>(ic a4 0 (bY (decide (a4<0)) (RL.nt (dX o (fun o=>?_) fun o=>?_))))
  ·refine RC.sr (aI 9 (RL.nt (RC.rb (dx (aO ?_)))))
   obtain rfl:=oi o
   exact⟨rfl,bC ⟨rfl,j.drop 6⟩⟩
  refine RC.seq ?_
  obtain⟨ay,hj,o⟩:=bd o
  refine RC.jn (fun(ay:Bool)=>SH E V [(0,v0),(3,vp ah 0),(16,au),(17,vi p1.aK.length),(18,vi ai),(34,vb ay)] [rd v0 p0,bx 26 ah p1,rd au p1.aK]) ay ?_ ?_
  ·refine RC.v7 mixed ?_
   have j:=j.drew
   refine RO.go (aX (ai:Int) (RO.nx (ic ((ai:Int)) 0 (RO.nx (jG (decide ((ai:Int)>0)) (iW hj (fun ab hj=>?_) fun ab hj=>?_))))))
   rotate_left
   ·refine RO.nx (bS ab (RO.nx (bS ab (RO.nx (bS ab (RO.nx (bS ab (RO.nx ?_))))))))
    refine bS ab (RO.nx (bS ab (RO.nx (bS ab (RO.nx (bS ab (RO.nx (bS ab ?_))))))))
    refine RO.nx (bS ab (RO.nx (iQ ab (vb false) (RO.nx (bY false (RO.last ?_))))))
    obtain rfl:=oi hj
    exact⟨rfl,j.sp 6 [3,4,5]⟩
   refine RO.nx (RL.bU (hg:=(cg ab)) zr lr (RO.nx (RL.aV (hg:=(cg ab)) 0 j zr gA fY (RO.nx (RL.bU (hg:=(cg ab)) zr iX (RO.nx (RL.bI (hg:=(cg ab)) 4 j zr cU oZ fun b2 j=>(RO.nx ?_))))))))
   refine RL.move (vi ai) (cg ab) (RO.nx (RL.gq (hg:=(cg ab)) (ai:Int) 1 (RO.nx ?_)))
   obtain⟨an,bg,hj⟩:=bd hj
   refine RL.bK (hg:=(cg ab)) 0 j o4 bg fun b3 j=>(RO.nx (RL.gS 0 (cg ab) j zr lr gA fun b4 j=>(RO.nx (RL.bX (hg:=(cg ab)) an.Name 0 j fY (RO.nx (RL.lR ak.Name an.Name (cg ab) (RO.nx (iQ ab (vb (ak.Name.ks an.Name||ak.Name.iM an.Name)) ?_))))))))
   refine RO.nx (bY (ak.Name.ks an.Name||ak.Name.iM an.Name) (RO.last ?_))
   obtain rfl:=oi hj
   exact⟨rfl,j.sp 9 [6,7,8]⟩
  rintro _ w ⟨O,rfl,j⟩
  refine aF (dX o (fun o=>?_) fun o=>?_)
  rotate_left
  ·refine RC.skip (bF (bF (aF (RC.region (RL.inc hk hm (aX ((ai+1:Nat):Int) (RL.nil ?_)))))))
   obtain rfl:=oi o
   exact⟨rfl,j.sp 3 [0,1,2]⟩
  refine RC.sr (aI 8 (RL.nt (RC.rb (dx (aO ?_)))))
  obtain rfl:=oi o
  exact⟨rfl,bC ⟨rfl,j.drop 3⟩⟩
 ·intro r U w o hK
  refine aO ?_
  obtain rfl:=oi o
  exact hK
 rintro a2 _ w o ⟨O,rfl,j⟩
 refine aF (RC.seq (RC.sr (RL.bU zr ke (RL.bI 1 j zr dY q7 fun b5 j=>(RL.bG 0 p1.aY j tx (ic ((p1.aY.length:Int)) 1000 (RL.nt (dX o (fun o=>?_) fun o=>?_))))))))
 ·refine RC.sr (aI 2 (RL.nt (RC.rt ?_)))
  obtain rfl:=oi o
  exact bC ⟨rfl,j.drop 4⟩
 refine RC.ss (RC.sr (RL.bU zr ke (RL.bI 2 j zr dY q7 fun al j=>(RL.bG 0 p1.aY j tx (aX 0 (RL.nt (RC.r0 E V (fun(a5:Unit)=>[rd v0 p0,bx 26 ah p1,rd al p1.aY]) (fun _=>[]) (fun ag _=>[(0,v0),(3,vp ah 0),(55,al),(56,vi p1.aY.length),(57,vi ag)]) (fW E V) o ?_ ?_ ?_ ?_)))))))
 ·exact j.sp 5 [2,3,0]
 ·rintro hm ag a5 fl _ w hk ⟨O,rfl,j⟩ o
  refine RC.seq (RC.bs (aX (ag:Int) ?_))
  obtain⟨af,bh,o⟩:=bd o
  refine RL.bK 2 j uX bh fun b6 j=>(RL.aZ 0 af j tz fun b7 j=>(RL.alloc j zW.z fun av w j=>?_))
  refine aI (ag:Int) (RL.bD 0 j 1 zr tz fun w j=>?_)
  refine RL.nq (RC.bs (RL.bU zr q8 (RL.aV 0 j zr mw fY ?_)))
  obtain⟨a6,bj,o⟩:=bd o
  refine RL.cs CO (jA N (p0:=af.Name) j bj) fun w j=>(RL.not a6 (bY (!a6) (RL.nt (dX o (fun o=>?_) fun o=>?_))))
  ·refine RC.sr (aI 5 (RL.nt (RC.rb (aO (dx (aO ?_))))))
   obtain rfl:=oi o
   exact⟨rfl,bC ⟨rfl,j.drop 6⟩⟩
  refine RC.sr (RL.bU zr mh (RL.bI 0 j zr i5 tA fun b8 j=>(RL.bG 0 af.aP j rX (ic ((af.aP.length:Int)) 0 (bY ((af.aP.length:Int)==0) (RL.nt (dX o (fun o=>?_) fun o=>?_)))))))
  ·refine RC.sr (aI 9 (RL.nt (RC.rb (aO (dx (aO ?_))))))
   obtain rfl:=oi o
   exact⟨rfl,bC ⟨rfl,j.drop 7⟩⟩
  refine RC.sr (RL.bU zr mh (RL.bI 1 j zr i5 tA fun b9 j=>(RL.bG 0 af.aP j rX (ic ((af.aP.length:Int)) 500 (bY (decide ((af.aP.length:Int)>500)) (RL.nt (dX o (fun o=>?_) fun o=>?_)))))))
  ·refine RC.sr (aI 2 (RL.nt (RC.rb (aO (dx (aO ?_))))))
   obtain rfl:=oi o
   exact⟨rfl,bC ⟨rfl,j.drop 8⟩⟩
  refine RC.skip (bF (aF (RC.seq (RC.sr (RL.bU zr mh (RL.bI 2 j zr i5 tA fun aw j=>(RL.bG 0 af.aP j rX (aX 0 ?_))))))))
  refine RL.nt (RC.r0 E V (fun(a7:Unit)=>[rd v0 p0,bx 26 ah p1,bx 65 av af,rd al p1.aY,rd aw af.aP]) (fun _=>[(0,v0),(3,vp ah 0),(7,vi ag),(8,vp av 0),(55,al),(56,vi p1.aY.length),(57,vi ag)]) (fun aj _=>[(78,aw),(79,vi af.aP.length),(80,vi aj)]) (fW E V) o ?_ ?_ ?_ ?_)
  ·exact j.sp 9 [6,7,3,8,0]
  ·rintro hm aj a7 fl _ w hk ⟨O,rfl,j⟩ o
   refine RC.seq (RC.bs (aX (aj:Int) ?_))
   obtain⟨a8,bk,o⟩:=bd o
   refine RL.bK 4 j rY bk fun ca j=>(RL.aZ 0 a8 j jm fun cb j=>(RL.alloc j wj.z fun a9 w j=>?_))
   refine aI (aj:Int) (RL.bD 0 j 1 zr jm fun w j=>?_)
   refine RL.nt (RC.bs (mv v0 (RL.b1 4 j zr lq fun cc j=>(RL.b1 1 j zr jm fun cd j=>?_))))
   obtain⟨ba,bl,o⟩:=bd o
   refine RL.cs Ef (mJ N (i0:=5) (i1:=1) (i2:=0) j zr zr zr bl) fun w j=>(RL.not ba (bY (!ba) (RL.nt (dX o (fun o=>?_) fun o=>?_))))
   ·refine RC.sr (aI 9 (RL.nt (RC.rb (dx (aO ?_)))))
    obtain rfl:=oi o
    exact⟨rfl,bC ⟨rfl,j.drop 10⟩⟩
   refine RC.seq ?_
   obtain⟨az,hj,o⟩:=bd o
   refine RC.jn (fun(az:Bool)=>SH E V [(0,v0),(3,vp ah 0),(7,vi ag),(8,vp av 0),(10,vp a9 0),(55,al),(56,vi p1.aY.length),(57,vi ag),(78,aw),(79,vi af.aP.length),(80,vi aj),(91,vb az)] [rd v0 p0,bx 26 ah p1,bx 65 av af,bx 59 a9 a8,rd al p1.aY,rd aw af.aP]) az ?_ ?_
   ·refine RC.Bo mixed [0,0,0,0,0,0,0,0,0,0,2,0,0,0] [0,1,2,3,4,5,6,7,8,9,10,11,12,13] ?_
    have j:=j.drew
    refine DP.e0 zr zr (aX (aj:Int) (eM zr (ic ((aj:Int)) 0 (eM zr (jG (decide ((aj:Int)>0)) (DP.d0 (iW hj (fun ae hj=>?_) fun ae hj=>?_)))))))
    rotate_left
    ·refine DP.e0 zr zr (bS ae (eM zr (bS ae (eM zr (bS ae (eM zr (bS ae (eM zr ?_))))))))
     refine bS ae (eM zr (bS ae (eM zr (bS ae (wg zr (bS ae (Bp zr (bS ae ?_))))))))
     refine eM zr (iQ ae (vb false) (eM zr (bY false (DP.d0 (DP.z ?_)))))
     obtain rfl:=oi hj
     exact⟨rfl,j.sp 10 [5,6,7,2,8,9]⟩
    refine DP.e0 zr zr (RL.bU (hg:=(cg ae)) zr mh (eM zr (RL.bI (hg:=(cg ae)) 7 j zr i5 tA fun cf j=>(eM zr (RL.move (vi aj) (cg ae) (eM zr (RL.gq (hg:=(cg ae)) (aj:Int) 1 (eM zr ?_))))))))
    obtain⟨bm,bn,hj⟩:=bd hj
    refine RL.bK (hg:=(cg ae)) 0 j rY bn fun ch j=>(eM zr (RL.aZ (hg:=(cg ae)) 0 bm j jm fun cj j=>(eM zr (RL.b1 (hg:=(cg ae)) 5 j zr jm fun ck j=>(wg zr ?_)))))
    obtain⟨a0,bo,hj⟩:=bd hj
    refine RL.cs (hg:=(cg ae)) Eg (mK N (i0:=1) (i1:=0) j zr zr bo) fun w j=>(Bp zr (RL.not (hg:=(cg ae)) a0 (eM zr (iQ ae (vb (!a0)) (eM zr (bY (!a0) (DP.d0 (DP.z ?_))))))))
    obtain rfl:=oi hj
    exact⟨rfl,j.sp 14 [9,10,11,6,12,13]⟩
   rintro _ w ⟨O,rfl,j⟩
   refine aF (dX o (fun o=>?_) fun o=>?_)
   ·refine RC.sr (aI 8 (RL.nt (RC.rb (dx (aO ?_)))))
    obtain rfl:=oi o
    exact⟨rfl,bC ⟨rfl,j.drop 6⟩⟩
   refine RC.seq (RC.Bo mixed [0,0,0,0,0,2,0] [0,1,2,3,4,5,6] ?_)
   have j:=j.drew
   refine DP.e0 zr zr (RL.bU zr ke (eM zr (RL.bI 1 j zr dY q7 fun cl j=>(eM zr (aX (ag:Int) (eM zr ?_))))))
   obtain⟨cm,bp,o⟩:=bd o
   refine RL.cut 0 zr j zr zr uX (.inr ⟨rfl,zr⟩) bp fun cn j=>(eM zr (RL.b1 5 j zr jm fun cp j=>(wg zr ?_)))
   obtain⟨bq,br,o⟩:=bd o
   refine RL.cs Eh (mL N (i0:=1) (i1:=0) j zr zr br) fun w j=>(Bp zr (bY bq (DP.d0 (DP.z (aF (dX o (fun o=>?_) fun o=>?_))))))
   rotate_left
   ·refine RC.skip (bF (bF (aF (RC.region (RL.inc hk hm (aX ((aj+1:Nat):Int) (RL.nil ?_)))))))
    obtain rfl:=oi o
    exact⟨rfl,j.sp 9 [3,4,5,7,8]⟩
   refine RC.sr (aI 7 (RL.nt (RC.rb (dx (aO ?_)))))
   obtain rfl:=oi o
   exact⟨rfl,bC ⟨rfl,j.drop 9⟩⟩
  ·intro r U w o hK
   refine aO (dx (aO ?_))
   obtain rfl:=oi o
   exact⟨rfl,hK⟩
  rintro a7 _ w o ⟨O,rfl,j⟩
  refine aF (RC.seq (RC.sr (RL.bU zr zY (RL.bI 2 j zr wh zZ fun cq j=>(RL.bG 0 af.kQ j o5 (ic ((af.kQ.length:Int)) 0 (RL.nt (dX o (fun o=>?_) fun o=>?_))))))))
  ·refine RC.sr (aI 3 (RL.nt (RC.rt (dx (aO ?_)))))
   obtain rfl:=oi o
   exact⟨rfl,bC ⟨rfl,j.drop 6⟩⟩
  refine RC.ss ?_
  obtain⟨a1,hj,o⟩:=bd o
  refine RC.jn (fun(a1:Bool)=>SH E V [(0,v0),(3,vp ah 0),(55,al),(56,vi p1.aY.length),(57,vi ag),(130,vb a1)] [rd v0 p0,bx 26 ah p1,rd al p1.aY]) a1 ?_ ?_
  ·refine RC.v7 mixed ?_
   have j:=j.drew
   refine RO.go (aX (ag:Int) (RO.nx (ic ((ag:Int)) 0 (RO.nx (jG (decide ((ag:Int)>0)) (iW hj (fun ad hj=>?_) fun ad hj=>?_))))))
   rotate_left
   ·refine RO.nx (bS ad (RO.nx (bS ad (RO.nx (bS ad (RO.nx (bS ad (RO.nx ?_))))))))
    refine bS ad (RO.nx (bS ad (RO.nx (bS ad (RO.nx (bS ad (RO.nx (bS ad ?_))))))))
    refine RO.nx (bS ad (RO.nx (iQ ad (vb false) (RO.last ?_))))
    obtain rfl:=oi hj
    exact⟨rfl,j.sp 6 [1,2,4]⟩
   refine RO.nx (RL.bU (hg:=(cg ad)) zr q8 (RO.nx (RL.aV (hg:=(cg ad)) 3 j zr mw fY (RO.nx (RL.bU (hg:=(cg ad)) zr ke (RO.nx (RL.bI (hg:=(cg ad)) 2 j zr dY q7 fun cr j=>(RO.nx ?_))))))))
   refine RL.move (vi ag) (cg ad) (RO.nx (RL.gq (hg:=(cg ad)) (ag:Int) 1 (RO.nx ?_)))
   obtain⟨ax,bt,hj⟩:=bd hj
   refine RL.bK (hg:=(cg ad)) 0 j uX bt fun ct j=>(RO.nx (RL.gS 0 (cg ad) j zr q8 mw fun cu j=>(RO.nx (RL.bX (hg:=(cg ad)) ax.Name 0 j fY (RO.nx (RL.lR af.Name ax.Name (cg ad) (RO.nx (iQ ad (vb (af.Name.ks ax.Name||af.Name.iM ax.Name)) ?_))))))))
   refine RO.last ?_
   obtain rfl:=oi hj
   exact⟨rfl,j.sp 9 [4,5,7]⟩
  rintro _ w ⟨O,rfl,j⟩
  refine aF (dX o (fun o=>?_) fun o=>?_)
  rotate_left
  ·refine RC.skip (bF (aF (RC.region (RL.inc hk hm (aX ((ag+1:Nat):Int) (RL.nil ?_))))))
   obtain rfl:=oi o
   exact⟨rfl,j.sp 3 [0,1,2]⟩
  refine RC.sr (aI 8 (RL.nt (RC.rb (aO ?_))))
  obtain rfl:=oi o
  exact⟨rfl,bC ⟨rfl,j.drop 3⟩⟩
 ·intro r U w o hK
  refine aO ?_
  obtain rfl:=oi o
  exact hK
 rintro a5 _ w o ⟨O,rfl,j⟩
 refine aF (RC.sr (aI 0 (RL.nt (RC.ret ?_))))
 obtain rfl:=oi o
 exact bC ⟨rfl,j.drop 3⟩
theorem lD {p0: (List aD)} {p1:aH} (j:Holds E w V) (h0:V[i0]? =some (rd v0 p0)) (h1:V[i1]? =some (rd v1 p1)) (o:eu N p0 p1=some res):
    Calls bE 11 [v0,v1].toArray w (eT (aC E V res)):=by
 unfold eu at o
 refine enter Tryz.func11 zr zr ?_
 have j:=(j.dup (i0+0) h0).dup (i1+1) h1
 refine RC.sr (RL.cW 0 v1 j zr fun af w j=>?_)
 refine aI 0 (RL.nq (RC.sr (mv v0 ?_)))
 obtain⟨aa,ab,o⟩:=bd o
 refine RL.cs Ee (kZ N (i0:=2) j zr ab) fun w j=>(aI aa (RL.ns (aX aa (ic aa 0 (RL.nt (dX o (fun o=>?_) fun o=>?_))))))
 ·refine RC.sr (aX aa (aI aa (RL.nt (RC.rt ?_))))
  obtain rfl:=oi o
  exact bC ⟨rfl,j.drop 3⟩
 refine RC.sx (mv v0 (RL.b1 0 j zr lq fun ag j=>?_))
 obtain⟨ad,ae,o⟩:=bd o
 refine RL.cs Ei (lC N (i0:=3) (i1:=0) j zr zr ae) fun w j=>(aI ad (RL.nt (RC.ret ?_)))
 obtain rfl:=oi o
 exact bC ⟨rfl,j.drop 4⟩
def mM (E:World) (V:List HP) (r: (List aT)) (U:Nat->Value) (w:World):Prop:=gR bE 61 Tryz.f99 (dQ E V r) .ret U w
theorem ml {p0: (List aT)} {res: (List aT)} (j:Holds E w (own 9 v0 p0::V)) (o:fR N p0=some res):
    Calls bE 99 [v0].toArray w (eT (dQ E V res)):=by
 unfold fR at o
 refine enter Tryz.func99 zr zr (RC.sr (cT (.slice none 0 0) (RL.nq (RC.sr (mv v0 (RL.eW 0 p0 j o5 (ic ((p0.length:Int)) 2 (RL.nt ?_))))))))
 refine dX o (fun o=>?_) fun o=>?_
 ·refine RC.sr (mv v0 (cT v0 (RL.nt (RC.rt ?_))))
  obtain rfl:=oi o
  exact bC (j.pk 1 [0])
 refine RC.ss (RC.sr (aI 1 (RL.nt (RC.i0 E V (fun(ab:Int)=>[own 9 v0 p0]) (fun _=>[(0,v0)]) (fun ab=>[(3,vi ab)]) (mM E V) o ?_ ?_ ?_ ?_))))
 ·exact j.sp 1 [0]
 ·rintro ab fl _ w ⟨O,rfl,j⟩ o
  refine RC.seq (RC.sr (aX ab (mv v0 (RL.eW 0 p0 j o5 (ic ab ((p0.length:Int)) (RL.nt (dX o (fun o=>?_) fun o=>?_)))))))
  rotate_left
  ·refine RC.ex ?_
   obtain rfl:=oi o
   exact⟨rfl,j.sp 1 [0]⟩
  refine RC.ss (RC.block (RC.seq (RC.v7 mixed ?_)))
  have j:=j.drew
  refine RO.go (mv v0 (RO.nx (aX ab (RO.nx ?_))))
  obtain⟨uL,aj,o⟩:=bd o
  refine RL.cO 0 j zr zr jD aj (RO.nx (RL.l1 0 j aj fY (RO.nx (mv v0 (RO.nx (aX ab (RO.nx (RL.gq ab 1 ?_))))))))
  refine RO.nx ?_
  obtain⟨aq,ak,o⟩:=bd o
  refine RL.cO 0 j zr zr jD ak (RO.nx (RL.l1 0 j ak fY (RO.nx (RL.lR uL aq zt (RO.last (aF (dX o (fun o=>?_) fun o=>?_)))))))
  rotate_left
  ·refine RC.skip (bF (aF (RC.region (aX ab (RL.gq ab 1 (aI (IntKind.wrap .i64 (ab+1)) (RL.nil ?_)))))))
   obtain rfl:=oi o
   exact⟨rfl,j.sp 1 [0]⟩
  refine RC.sr (mv v0 (aX ab ?_))
  obtain⟨az,ae,o⟩:=bd o
  refine RL.view 0 ab j zr zr jD ae (cT (vw v0 (Int.toNat ab) 1) (RL.nq (RC.sr (aI 1 (RL.nt (RC.e0 E V (fun(aa: (List aT)×Int×Int)=>[own 9 v0 aa.1]) (fun aa=>[(0,v0),(3,vi aa.2.1)]) (fun aa=>[(4,(vw v0 (Int.toNat ab) 1)),(5,vi aa.2.2)]) o ?_ ?_ ?_))))))
  ·exact j.sp 1 [0]
  ·rintro aa fl _ w ⟨O,rfl,j⟩ o
   refine RC.seq (RC.sr (aX aa.2.2 (mv (vw v0 (Int.toNat ab) 1) (RL.uE 0 aa.1 zr j zr zr o5 (ic aa.2.2 ((((aa.1.length - Int.toNat ab):Nat):Int)) (RL.nt (dX o (fun o=>?_) fun o=>?_)))))))
   rotate_left
   ·refine RC.ex ?_
    obtain rfl:=oi o
    exact⟨rfl,j.sp 1 [0]⟩
   refine RC.ss (RC.block (RC.seq (RC.v7 mixed ?_)))
   have j:=j.drew
   refine RO.go (mv (vw v0 (Int.toNat ab) 1) (RO.nx (aX aa.2.2 (RO.nx ?_))))
   obtain⟨ar,af,o⟩:=bd o
   refine RL.nF 0 ab j zr zr jD (kH ae) (bH af).1 (bH af).2 (RO.nx (RL.fK (i:=0) (f:=(fun x=>x)) zt zr j zr (qY 0 j (bH af).2 0) zr (cX (bH af).2).2.1 Fd.self fY (RO.nx (mv (vw v0 (Int.toNat ab) 1) (RO.nx (aX aa.2.2 (RO.nx (RL.gq aa.2.2 1 ?_))))))))
   refine RO.nx ?_
   obtain⟨au,ag,o⟩:=bd o
   refine RL.nF 0 ab j zr zr jD (kH ae) (bH ag).1 (bH ag).2 (RO.nx (RL.fK (i:=0) (f:=(fun x=>x)) zt zr j zr (qY 0 j (bH ag).2 0) zr (cX (bH ag).2).2.1 Fd.self fY (RO.nx (RL.lR ar au zt (RO.last (aF ?_))))))
   obtain⟨ah,hj,o⟩:=bd o
   refine RC.jn (fun(ah: (List aT)×Int)=>SH E V [(0,v0),(3,vi ah.2),(4,(vw v0 (Int.toNat ab) 1)),(5,vi aa.2.2)] [own 9 v0 ah.1]) ah ?_ ?_
   ·refine dX hj (fun hj=>?_) fun hj=>?_
    rotate_left
    ·refine RC.skip ?_
     obtain rfl:=oi hj
     exact⟨rfl,j.sp 1 [0]⟩
    refine RC.sr (mv v0 (aX aa.2.1 (mv (vw v0 (Int.toNat ab) 1) (aX aa.2.2 ?_))))
    obtain⟨av,ai,hj⟩:=bd hj
    refine RL.nF 0 ab j zr zr jD (kH ae) (bH ai).1 (bH ai).2 (RL.fK (i:=0) (f:=(fun x=>x)) zt zr j zr (qY 0 j (bH ai).2 0) zr (cX (bH ai).2).2.1 Fd.self fY ?_)
    obtain⟨a0,al,hj⟩:=bd hj
    refine RL.cO 0 j zr zr jD al ?_
    have j:=j.sc aT av
    refine RL.s1 1 0 j al fY fun w j=>?_
    refine RL.nt (RC.region (aX aa.2.1 (RL.gq aa.2.1 1 (aI (IntKind.wrap .i64 (aa.2.1+1)) (RL.nil ?_)))))
    obtain rfl:=oi hj
    exact⟨rfl,j.sp 2 [1]⟩
   rintro _ w ⟨O,rfl,j⟩
   refine bF (aF (RC.region (aX aa.2.2 (RL.gq aa.2.2 1 (aI (IntKind.wrap .i64 (aa.2.2+1)) (RL.nil ?_))))))
   obtain rfl:=oi o
   exact⟨rfl,j.sp 1 [0]⟩
  rintro aa _ w o ⟨O,rfl,j⟩
  refine aF (RC.sr (mv v0 (aX aa.2.1 ?_)))
  obtain⟨a1,an,o⟩:=bd o
  refine RL.view 0 aa.2.1 j zr zr jD an (RL.ql 0 j zr zr yH DB (uF an) fun w j=>(RL.ns (mv v0 (aX aa.2.1 ?_))))
  obtain⟨a2,aw,o⟩:=bd o
  refine RL.oM 0 j jD (.inr ⟨rfl,zr⟩) aw fun ax j=>(cT ax (RL.nt (RC.rb (aO ?_))))
  obtain rfl:=oi o
  exact⟨rfl,bC (j.pk 1 [0])⟩
 ·intro r U w o hK
  refine aO ?_
  obtain rfl:=oi o
  exact hK
 rintro ab _ w o ⟨O,rfl,j⟩
 refine aF (RC.sr (mv v0 (cT v0 (RL.nt (RC.ret ?_)))))
 obtain rfl:=oi o
 exact bC (j.pk 1 [0])
theorem lE {p0: (List aH)} {res: (List aT)} (j:Holds E w V) (h0:V[i0]? =some (rd v0 p0)) (o:ew N p0=some res):
    Calls bE 68 [v0].toArray w (eT (dQ E V res)):=by
 unfold ew at o
 refine enter Tryz.func68 zr zr ?_
 have j:=j.dup (i0+0) h0
 refine RC.sr (cT (.slice none 0 0) (RL.ns (cT (.slice none 0 0) (RL.nq (RC.sr (mv v0 (RL.bG 0 p0 j BX (aX 0 ?_))))))))
 refine RL.nt (RC.f1 E V (fun(ae: (List aT)) (af:Value)=>[rd v0 p0,own 9 af ae]) (fun _ af=>[(3,af)]) (fun aa _ _=>[(8,v0),(9,vi p0.length),(10,vi aa)]) o ?_ ?_ ?_)
 ·have j:=j.dV aT 9
  exact⟨(.slice none 0 0),j.sp 2 [1,0]⟩
 ·rintro hm aa ae s' _ w hk ⟨aq,O,rfl,j⟩ o
  refine RC.seq (RC.bs ?_)
  obtain⟨ab,ar,o⟩:=bd o
  refine RL.bK 0 j yK ar fun a1 j=>(RL.aZ 0 ab j lq fun a2 j=>(RL.alloc j yL.z fun a3 w j=>?_))
  refine RL.bD 0 j 1 zr lq fun w j=>?_
  refine RL.ns (RL.bU zr iX (RL.bI 0 j zr cU oZ fun al j=>(RL.bG 0 ab.aK j rW (aX 0 (RL.nt (RC.f1 E V (fun(ai: (List aT)) (aj:Value)=>[rd v0 p0,rd al ab.aK,own 9 aj ai]) (fun _ aj=>[(3,aj),(8,v0),(9,vi p0.length),(10,vi aa)]) (fun ak _ _=>[(15,al),(16,vi ab.aK.length),(17,vi ak)]) o ?_ ?_ ?_))))))
  ·exact⟨aq,j.sp 6 [4,0,5]⟩
  ·rintro hm ak ai s' _ w hk ⟨au,O,rfl,j⟩ o
   refine RC.seq (RC.bs ?_)
   obtain⟨ad,av,o⟩:=bd o
   refine RL.bK 1 j o4 av fun a4 j=>(RL.aZ 0 ad j m1 fun a5 j=>(RL.alloc j uW.z fun a6 w j=>?_))
   refine RL.bD 0 j 1 zr m1 fun w j=>?_
   refine RL.nt (RC.region (mv au (RL.bU zr lu (RL.aV 0 j zr gB fY ?_))))
   have j:=j.sc aT ad.cE
   refine RL.d8 ([ad.cE]: (List aT)) j [(str ad.cE)] jD DS (fun M hs g=>⟨(g.sat 0 _ zr).1,zt⟩) fun a7 w j=>?_
   have j:=j.freeze 0
   obtain⟨a8,aw,o⟩:=bd o
   refine RL.app 7 0 zt zr j zr zr zr zr yH aw fun an w j=>?_
   refine cT an (RL.nil (bF (aF (RC.region (RL.inc hk hm (aX ((ak+1:Nat):Int) (RL.nil ?_)))))))
   obtain rfl:=oi o
   exact⟨rfl,an,j.sp 8 [5,6,7]⟩
  rintro ai _ w o ⟨ax,O,rfl,j⟩
  refine bF (aF (RC.region (RL.inc hk hm (aX ((aa+1:Nat):Int) (RL.nil ?_)))))
  obtain rfl:=oi o
  exact⟨rfl,ax,j.sp 3 [0,2]⟩
 rintro ae _ w o ⟨ao,O,rfl,j⟩
 refine aF (RC.sr (mv ao ?_))
 obtain⟨a9,ay,o⟩:=bd o
 have j:=j.pull 1
 refine RL.cs El (Ad Tryz.lay98 j ay) fun w j=>(RL.ns (mv ao ?_))
 have j:=j.pull 0
 obtain⟨ba,az,o⟩:=bd o
 refine RL.cl Em (ml N j az) fun a0 w j=>(cT a0 (RL.nt (RC.ret ?_)))
 obtain rfl:=oi o
 exact bC (j.pk 4 [0])
def nS (E:World) (V:List HP) (r:Int) (U:Nat->Value) (w:World):Prop:=gR bE 19 Tryz.f69 (aC E V r) .ret U w
theorem nj {p0: (List aT)} {p1:aT} (o:Holds E w V) (h0:V[i0]? =some (rd v0 p0)) (j:eK N p0 p1=some res):
    Calls bE 69 [v0,(str p1)].toArray w (eT (aC E V res)):=by
 unfold eK at j
 refine enter Tryz.func69 zr zr ?_
 have o:=o.dup (i0+0) h0
 refine RC.sr (aI 0 (RL.nq (RC.sr (mv v0 (RL.bG 0 p0 o o5 (aX 0 (RL.nt (RC.r0 E V (fun(ab:Unit)=>[rd v0 p0]) (fun _=>[]) (fun aa _=>[(0,v0),(1,(str p1)),(7,vi p0.length),(8,vi aa)]) (nS E V) j ?_ ?_ ?_ ?_))))))))
 ·exact o.sp 1 [0]
 ·rintro hm aa ab fl _ w hk ⟨O,rfl,o⟩ j
  refine RC.seq (RC.bs (aX (aa:Int) (aI (aa:Int) (RL.ns (mv (str p1) (mv v0 (aX (aa:Int) ?_)))))))
  obtain⟨ad,ag,j⟩:=bd j
  refine RL.bK 0 o jD ag fun aj o=>(RL.bX ad 0 o fY (RL.lR p1 ad zt (RL.nt (dX j (fun j=>?_) fun j=>?_))))
  rotate_left
  ·refine RC.skip (bF (aF (RC.region (RL.inc hk hm (aX ((aa+1:Nat):Int) (RL.nil ?_))))))
   obtain rfl:=oi j
   exact⟨rfl,o.sp 2 [1]⟩
  refine RC.sr (aX (aa:Int) (aI (aa:Int) (RL.nt (RC.rb (aO ?_)))))
  obtain rfl:=oi j
  exact⟨rfl,bC ⟨rfl,o.drop 2⟩⟩
 ·intro r U w j hK
  refine aO ?_
  obtain rfl:=oi j
  exact hK
 rintro ab _ w j ⟨O,rfl,o⟩
 refine aF (RC.sr (aI (-1) (RL.nt (RC.ret ?_))))
 obtain rfl:=oi j
 exact bC ⟨rfl,o.drop 1⟩
theorem nk {p0: (List aD)} {p1: (List aH)} {res:aM} (j:Holds E w V) (h0:V[i0]? =some (rd v0 p0)) (h1:V[i1]? =some (rd v1 p1)) (hb:fo N p0 p1=some res):
    Calls bE 30 [v0,v1].toArray w (eT (ie E V res)):=by
 unfold fo at hb
 refine enter Tryz.func30 zr zr ?_
 have j:=(j.dup (i0+0) h0).dup (i1+1) h1
 refine RC.sr (RL.alloc j A1.z fun ax w j=>?_)
 refine RL.ns (mv v0 (mv v1 (RL.zH (zs:=[(.slice none 0 0),(.slice none 0 0),(.slice none 0 0),(.slice none 0 0)]) (cs:=[v0,v1,(.slice none 0 0),(.slice none 0 0)]) zt zr [(0,v0),(1,v1)] zr Ek ⟨(r8 2 j zr),(r8 1 j zr),zt⟩ zr (RL.vR zt zr j CU zr fun ak w j=>?_))))
 refine RL.yt (i:=0) (cs:=[v0,v1,(.slice none 0 0),(.slice none 0 0)]) zt j zr zr zr (vU.all (⟨(r8 3 j zr),(r8 2 j zr),zr,zr,zt⟩:vU [v0,v1,(.slice none 0 0),(.slice none 0 0)])) pQ zr zr fun w j=>?_
 refine RL.ns (mv v1 ?_)
 obtain⟨ca,bq,hb⟩:=bd hb
 refine RL.cl En (lE N (i0:=2) j zr bq) fun bf w j=>(cT bf (RL.nq (RC.sr (mv v1 (RL.bG 3 p1 j BX (aX 0 (RL.nt ?_)))))))
 obtain⟨ao,hN,hb⟩:=bd hb
 refine RC.fold (fun(az:Nat) (ao: (List (List Int))×(List (List Int))×(List aT)) U w=>∃bg bh bj:Value,SH E V [(4,vp ax 0),(5,vp ak 0),(6,bj),(17,v1),(18,vi p1.length),(19,vi az)] [raw 46 ax 4,bc 46 ak [v0,v1,bg,bh],own 27 bg ao.1,own 27 bh ao.2.1,rd v0 p0,rd v1 p1,rd bj ao.2.2] U w) (fun(ao: (List (List Int))×(List (List Int))×(List aT)) U w=>∃a0 a1:Value,SH E V [(4,vp ax 0),(5,vp ak 0)] [raw 46 ax 4,bc 46 ak [v0,v1,a0,a1],own 27 a0 ao.1,own 27 a1 ao.2.1,rd v0 p0,rd v1 p1] U w) hN ?_ ?_ ?_ ?_
 ·have j:=((j.freeze 0).dV (List Int) 27).dV (List Int) 27
  exact⟨(.slice none 0 0),(.slice none 0 0),bf,j.sp 7 [4,3,1,0,6,5,2]⟩
 ·rintro hm ao _ w ⟨bt,bu,cb,O,rfl,j⟩
  refine RC.sr (ic ((p1.length:Int)) ((p1.length:Int)) (RL.nq (RC.xg Dm (RC.ex ?_))))
  exact⟨rfl,bt,bu,j.sp 7 [0,1,2,3,4,5]⟩
 ·rintro hm az ao s' _ w hk ⟨av,aq,a2,O,rfl,j⟩ hb
  refine RC.sr (ic ((az:Int)) ((p1.length:Int)) (RL.nq (RC.sy (Dl hk) (RC.ss (RC.bs ?_)))))
  obtain⟨ar,bw,hb⟩:=bd hb
  refine RL.bK 5 j yK bw fun cc j=>(RL.aZ 0 ar j lq fun cd j=>(RL.alloc j yL.z fun a4 w j=>?_))
  refine RL.bD 0 j 1 zr lq fun w j=>?_
  refine RL.ns (cT (.slice none 0 0) (RL.nq (RC.sr (RL.bU zr iX (RL.bI 0 j zr cU oZ fun a7 j=>(RL.bG 0 ar.aK j rW (aX 0 (RL.nt ?_))))))))
  refine RC.f1 E V (fun(au: (List Int)) (a8:Value)=>[raw 46 ax 4,bc 46 ak [v0,v1,av,aq],rd v0 p0,rd v1 p1,own 27 av ao.1,own 27 aq ao.2.1,rd a2 ao.2.2,bx 26 a4 ar,rd a7 ar.aK,own 3 a8 au]) (fun _ a8=>[(4,vp ax 0),(5,vp ak 0),(6,a2),(8,vp a4 0),(9,a8),(17,v1),(18,vi p1.length),(19,vi az)]) (fun a9 _ _=>[(24,a7),(25,vi ar.aK.length),(26,vi a9)]) hb ?_ ?_ ?_
  ·have j:=j.dV Int 3
   exact⟨(.slice none 0 0),j.sp 12 [5,6,9,10,7,8,11,2,1,0]⟩
  ·rintro hm a9 au s' _ w hk ⟨bz,O,rfl,j⟩ hb
   refine RC.seq (RC.bs ?_)
   obtain⟨bk,b0,hb⟩:=bd hb
   refine RL.bK 8 j o4 b0 fun cf j=>(RL.aZ 0 bk j m1 fun cg j=>(RL.alloc j uW.z fun ch w j=>?_))
   refine RL.bD 0 j 1 zr m1 fun w j=>?_
   refine RL.nt (RC.region (mv bz (mv a2 (RL.bU zr lu (RL.aV 0 j zr gB fY ?_)))))
   obtain⟨ba,b2,hb⟩:=bd hb
   refine RL.cs Eo (nj N (p1:=bk.cE) (i0:=9) j zr b2) fun w j=>?_
   have j:=j.sc Int ba
   refine RL.d8 ([ba]: (List Int)) j [(vi ba)] jo Bu (fun M hs g=>⟨(g.sat 0 _ zr).1,zt⟩) fun cj w j=>?_
   have j:=j.freeze 0
   obtain⟨ck,b3,hb⟩:=bd hb
   refine RL.app 14 0 zt zr j zr zr zr zr ra b3 fun bl w j=>?_
   refine cT bl (RL.nil (bF (aF (RC.region (RL.inc hk hm (aX ((a9+1:Nat):Int) (RL.nil ?_)))))))
   obtain rfl:=oi hb
   exact⟨rfl,bl,j.sp 15 [5,6,7,8,9,10,11,12,13,14]⟩
  rintro au _ w hb ⟨a3,O,rfl,j⟩
  refine aF ?_
  obtain⟨b4,b5,hb⟩:=bd hb
  obtain⟨aw,b6,hb⟩:=bd hb
  obtain⟨b7,b8,hb⟩:=bd hb
  refine RC.zP E V mixed [1,0,1,0,0,1,0,1,0,0,0,0,0,1,0,1,0] [3,4,8,10,11,12,14,16] (fun(x:Value×Value×Value×Value×Value×Value)=>(fun ah al ag ai aa ae=>[(0,38,(vp ak 2)),(1,39,av),(2,40,a3),(3,41,ah),(4,42,aa),(5,43,(vp ak 3)),(6,44,aq),(7,45,(vp a4 1)),(8,46,al),(9,47,(vi ar.aY.length)),(10,48,ag),(11,49,ai),(12,50,ae),(13,51,(vp ak 2)),(15,52,(vp ak 3))]) x.1 x.2.1 x.2.2.1 x.2.2.2.1 x.2.2.2.2.1 x.2.2.2.2.2) [(4,vp ax 0),(5,vp ak 0),(6,a2),(8,vp a4 0),(9,a3),(17,v1),(18,vi p1.length),(19,vi az)] [] (fun(D:Nat->Bool) (x:Value×Value×Value×Value×Value×Value)=>(fun ah al ag ai aa ae=>[bif D 1 then (rd ah ([au]: (List (List Int)))) else (bif D 0 then (own 27 ah ([au]: (List (List Int)))) else bB),bif D 2 then (rd al ar.aY) else bB,bif D 4 then (rd ag aw) else (bif D 3 then (own 3 ag aw) else bB),bif D 5 then (rd ai ([aw]: (List (List Int)))) else (bif D 4 then (own 27 ai ([aw]: (List (List Int)))) else bB),raw 46 ax 4,bif D 7 then (bc 46 ak [v0,v1,aa,ae]) else (bif D 6 then (bc 46 ak [v0,v1,aa,aq]) else (bc 46 ak [v0,v1,av,aq])),rd v0 p0,rd v1 p1,bif D 1 then (own 27 aa b4) else (own 27 av ao.1),bif D 5 then (own 27 ae b7) else (own 27 aq ao.2.1),rd a2 ao.2.2,bx 26 a4 ar,rd a7 ar.aK,bif D 0 then (rd a3 au) else (own 3 a3 au)]) x.1 x.2.1 x.2.2.1 x.2.2.2.1 x.2.2.2.2.1 x.2.2.2.2.2) (fun x=>by kernel_rfl) ?_ ⟨fun _=>i4 gn pR,?_,fun _=>lS gn,?_,?_,fun _=>i4 gn pS,?_,fun _=>i4 gn ke,?_,?_,?_,?_,?_,fun _=>i4 gn pR,?_,fun _=>i4 gn pS,?_,trivial⟩ ?_
  ·have j:=((((j.drew).bB).bB).bB).bB
   exact⟨(undef,undef,undef,undef,undef,undef),cA.none,(x0 zr),zt,j⟩
  ·rintro D U w o af ab ⟨⟨ah,al,ag,ai,aa,ae⟩,hv,ha,_,j⟩
   obtain⟨O,rfl⟩:=hv.o1 0 af
   have j:=(j.bR 5 (nh ab o 16)).bR 5 (nh ab o 14)
   refine RL.ir 5 av j o6 ?_
   have j:=(j.fF 5 (D 14) (nh ab o 14) (bc 46 ak [v0,v1,aa,aq])).fF 5 (D 16) (nh ab o 16) (bc 46 ak [v0,v1,aa,ae])
   exact RL.ep (ah,al,ag,ai,aa,ae) 1 hv ha j
  ·rintro D U w o af ab ⟨⟨ah,al,ag,ai,aa,ae⟩,hv,ha,_,j⟩
   obtain⟨O,rfl⟩:=hv.o1 2 af
   have j:=(((j.bR 0 (nh ab o 4)).bR 0 o).bR 13 o).freeze 13
   refine RL.d8 ([au]: (List (List Int))) j [a3] iS wm (fun M hs g=>⟨(g.sat 13 _ zr).1,zt⟩) fun bm w j=>?_
   have j:=((j.nw 0).fF 0 (D 4) (nh ab o 4) (rd bm ([au]: (List (List Int))))).cH 13 true rfl (own 3 a3 au)
   exact RL.ep (bm,al,ag,ai,aa,ae) 3 hv ha j
  ·rintro D U w o af ab ⟨⟨ah,al,ag,ai,aa,ae⟩,hv,ha,_,j⟩
   obtain⟨O,rfl⟩:=hv.o2 1 3 af
   have j:=(((((j.bR 0 o).ec 0 (af.2.1 rfl)).bR 5 (nh ab o 16)).bR 5 (nh ab o 14)).bR 8 o).freeze 0
   refine RL.app 8 0 zt zr j zr zr zr zr u5 b5 fun bb w j=>?_
   have j:=((j.cH 0 true rfl (bif D 3 then (own 27 ah ([au]: (List (List Int)))) else bB)).fF 5 (D 14) (nh ab o 14) (bc 46 ak [v0,v1,bb,aq])).fF 5 (D 16) (nh ab o 16) (bc 46 ak [v0,v1,bb,ae])
   have j:=j.cH 8 true rfl (own 27 av ao.1)
   exact RL.ep (ah,al,ag,ai,bb,ae) 4 hv ha j
  ·rintro D U w o af ab ⟨⟨ah,al,ag,ai,aa,ae⟩,hv,ha,_,j⟩
   obtain⟨O,rfl⟩:=hv.o1 5 af
   have j:=(j.bR 5 (nh ab o 16)).bR 5 (nh ab o 14)
   refine RL.ir 5 aq j o6 ?_
   have j:=(j.fF 5 (D 14) (nh ab o 14) (bc 46 ak [v0,v1,aa,aq])).fF 5 (D 16) (nh ab o 16) (bc 46 ak [v0,v1,aa,ae])
   exact RL.ep (ah,al,ag,ai,aa,ae) 6 hv ha j
  ·rintro D U w o af ab ⟨⟨ah,al,ag,ai,aa,ae⟩,hv,ha,_,j⟩
   obtain⟨O,rfl⟩:=hv.o1 7 af
   have j:=j.bR 1 o
   refine RL.bI 11 j zr dY q7 fun b9 j=>?_
   have j:=j.nw 1
   exact RL.ep (ah,b9,ag,ai,aa,ae) 8 hv ha j
  ·rintro D U w o af ab ⟨⟨ah,al,ag,ai,aa,ae⟩,hv,ha,_,j⟩
   obtain⟨O,rfl⟩:=hv.o1 8 af
   have j:=j.ec 1 (af.1 rfl)
   refine RL.bG 1 ar.aY j tx ?_
   have j:=j.cH 1 (D 8) (af.1 rfl) bB
   exact RL.ep (ah,al,ag,ai,aa,ae) 9 hv ha j
  ·rintro D U w o af ab ⟨⟨ah,al,ag,ai,aa,ae⟩,hv,ha,_,j⟩
   obtain⟨O,rfl⟩:=hv.o1 9 af
   have j:=(j.bR 2 (nh ab o 11)).bR 2 o
   refine RL.mk (ar.aY.length:Int) zr j zr zr ra Cc b6 fun bn w j=>?_
   have j:=(j.nw 2).fF 2 (D 11) (nh ab o 11) (rd bn aw)
   exact RL.ep (ah,al,bn,ai,aa,ae) 10 hv ha j
  ·rintro D U w o af ab ⟨⟨ah,al,ag,ai,aa,ae⟩,hv,ha,_,j⟩
   obtain⟨O,rfl⟩:=hv.o1 10 af
   have j:=((((j.bR 2 o).ec 2 (af.1 rfl)).bR 3 (nh ab o 12)).bR 3 o).freeze 2
   refine RL.d8 ([aw]: (List (List Int))) j [ag] iS wm (fun M hs g=>⟨(g.sat 2 _ zr).1,zt⟩) fun bo w j=>?_
   have j:=(((j.pl 15 [1,2,3,0,5,6,7,8,9,10,11,12,13,14] rfl).cH 2 true rfl (bif D 10 then (own 3 ag aw) else bB)).cH 3 true rfl bB).fF 3 (D 12) (nh ab o 12) (rd bo ([aw]: (List (List Int))))
   exact RL.ep (ah,al,ag,bo,aa,ae) 11 hv ha j
  ·rintro D U w o af ab ⟨⟨ah,al,ag,ai,aa,ae⟩,hv,ha,_,j⟩
   obtain⟨O,rfl⟩:=hv.o2 6 11 af
   have j:=(((((j.bR 3 o).ec 3 (af.2.1 rfl)).bR 5 (nh ab o 16)).bR 5 (nh ab o 14)).bR 9 o).freeze 3
   refine RL.app 9 3 zt zr j zr zr zr zr u5 b8 fun bp w j=>?_
   have j:=((j.cH 3 true rfl (bif D 11 then (own 27 ai ([aw]: (List (List Int)))) else bB)).fF 5 (D 14) (nh ab o 14) (bc 46 ak [v0,v1,aa,aq])).fF 5 (D 16) (nh ab o 16) (bc 46 ak [v0,v1,aa,bp])
   have j:=j.cH 9 true rfl (own 27 aq ao.2.1)
   exact RL.ep (ah,al,ag,ai,aa,bp) 12 hv ha j
  ·rintro D U w o af ab ⟨⟨ah,al,ag,ai,aa,ae⟩,hv,ha,_,j⟩
   obtain⟨O,rfl⟩:=hv.o2 13 4 af
   have j:=((j.bR 5 (nh ab o 16)).bR 5 o).ec 8 (af.2.1 rfl)
   refine RL.kx 5 aa j zr zr (oN 8 j) o6 fun w j=>?_
   have j:=((j.cH 5 true rfl (bc 46 ak [v0,v1,av,aq])).fF 5 (D 16) (nh ab o 16) (bc 46 ak [v0,v1,aa,ae])).cH 8 (D 4) (af.2.1 rfl) (own 27 av ao.1)
   exact RL.eo (ah,al,ag,ai,aa,ae) hv ha j
  ·rintro D U w o af ab ⟨⟨ah,al,ag,ai,aa,ae⟩,hv,ha,_,j⟩
   obtain⟨O,rfl⟩:=hv.o2 14 12 af
   have j:=((j.bR 5 o).ec 5 (af.2.2.1 rfl)).ec 9 (af.2.1 rfl)
   refine RL.kx 5 ae j zr zr (oN 9 j) o6 fun w j=>?_
   have j:=(j.cH 5 true rfl (bif D 14 then (bc 46 ak [v0,v1,aa,aq]) else (bc 46 ak [v0,v1,av,aq]))).cH 9 (D 12) (af.2.1 rfl) (own 27 aq ao.2.1)
   exact RL.eo (ah,al,ag,ai,aa,ae) hv ha j
  rintro D U w ay ⟨⟨ah,al,ag,ai,aa,ae⟩,hv,ha,_,j⟩
  simp only [List.getD_cons_zero,List.getD_cons_succ,ay 4 (by decide),ay 8 (by decide),ay 11 (by decide),ay 12 (by decide),ay 16 (by decide),ay 4 (by decide),ay 12 (by decide),ay 3 (by decide),bJ] at j
  obtain⟨O,rfl⟩:=ha.pq
  refine bF (aF (RC.region (RL.inc hk hm (aX ((az+1:Nat):Int) (RL.nil ?_)))))
  obtain rfl:=oi hb
  exact⟨rfl,aa,ae,a2,j.sp 14 [4,5,8,9,6,7,10]⟩
 rintro _ w ⟨a0,a1,O,rfl,j⟩
 refine aF (RC.sr ?_)
 have j:=((j.freeze 2).freeze 3).vQ (i:=1) (x:=(⟨p0,p1,ao.1,ao.2.1⟩:aM)) rfl (fun M hs g=>⟨[v0],[v1,a0,a1],rfl,(n3 (g.sat 4 _ rfl).1),⟨[v1],[a0,a1],rfl,(n3 (g.sat 5 _ rfl).1),⟨[a0],[a1],rfl,(n3 (g.sat 2 _ rfl).1),(n3 (g.sat 3 _ rfl).1)⟩⟩⟩)
 refine RL.b1 1 j zr pQ fun cm j=>(RL.bD 1 j 0 zr pQ fun w j=>?_)
 refine RL.nt (RC.ret ?_)
 obtain rfl:=oi hb
 exact Cj 1 zr j zr zr pQ fun cn j=>(j.pk 8 [0])
def nT (E:World) (V:List HP) (r:Int) (U:Nat->Value) (w:World):Prop:=gR bE 21 Tryz.f70 (aC E V r) .ret U w
theorem nm {p0:aH} {p1:bT} (j:Holds E w V) (h0:V[i0]? =some (rd v0 p0)) (h1:V[i1]? =some (rd v1 p1)) (o:gu N p0 p1=some res):
    Calls bE 70 [v0,v1].toArray w (eT (aC E V res)):=by
 unfold gu at o
 refine enter Tryz.func70 zr zr ?_
 have j:=(j.dup (i0+0) h0).dup (i1+1) h1
 refine RC.sr (RL.cW 1 v0 j zr fun al w j=>?_)
 refine RL.cW 1 v1 j zr fun ab w j=>?_
 refine aI 0 (RL.nq (RC.sr (RL.bU zr ke (RL.bI 1 j zr dY q7 fun ad j=>(RL.bG 0 p0.aY j tx (aX 0 (RL.nt (RC.r0 E V (fun(ae:Unit)=>[bx 59 ab p1,rd ad p0.aY]) (fun _=>[]) (fun aa _=>[(3,vp ab 0),(8,ad),(9,vi p0.aY.length),(10,vi aa)]) (nT E V) o ?_ ?_ ?_ ?_))))))))
 ·exact j.sp 5 [1,0]
 ·rintro hm aa ae fl _ w hk ⟨O,rfl,j⟩ o
  refine RC.seq (RC.bs (aX (aa:Int) ?_))
  obtain⟨ah,ai,o⟩:=bd o
  refine RL.bK 1 j uX ai fun ao j=>(RL.aZ 0 ah j tz fun aq j=>(RL.alloc j zW.z fun ar w j=>?_))
  refine aI (aa:Int) (RL.bD 0 j 1 zr tz fun w j=>?_)
  refine RL.ns (RL.bU zr mh (RL.bI 0 j zr i5 tA fun au j=>(RL.b1 4 j zr jm fun av j=>?_)))
  obtain⟨aw,aj,o⟩:=bd o
  refine RL.cs CT (jY N (i0:=1) (i1:=0) j zr zr aj) fun w j=>(RL.nt (dX o (fun o=>?_) fun o=>?_))
  rotate_left
  ·refine RC.skip (bF (aF (RC.region (RL.inc hk hm (aX ((aa+1:Nat):Int) (RL.nil ?_))))))
   obtain rfl:=oi o
   exact⟨rfl,j.sp 7 [5,6]⟩
  refine RC.sr (aX (aa:Int) (aI (aa:Int) (RL.nt (RC.rb (aO ?_)))))
  obtain rfl:=oi o
  exact⟨rfl,bC ⟨rfl,j.drop 7⟩⟩
 ·intro r U w o hK
  refine aO ?_
  obtain rfl:=oi o
  exact hK
 rintro ae _ w o ⟨O,rfl,j⟩
 refine aF (RC.sr (aI (-1) (RL.nt (RC.ret ?_))))
 obtain rfl:=oi o
 exact bC ⟨rfl,j.drop 2⟩
def oy (E:World) (V:List HP) (r:Int) (U:Nat->Value) (w:World):Prop:=gR bE 35 Tryz.f71 (aC E V r) .ret U w
theorem j9 {p0:aD} (j:Holds E w V) (h0:V[i0]? =some (rd v0 p0)) (hb:eV N p0 p1=some res):
    Calls bE 71 [v0,(vi p1)].toArray w (eT (aC E V res)):=by
 unfold eV at hb
 refine enter Tryz.func71 zr zr ?_
 have j:=j.dup (i0+0) h0
 refine RC.sr (RL.cW 0 v0 j zr fun ae w j=>?_)
 refine aI 0 (RL.nq (RC.sr (aX p1 (aX 0 (RL.nt (RC.i0 E V (fun(ab:Int)=>[bx 52 ae p0]) (fun _=>[(1,vi p1)]) (fun ab=>[(2,vp ae 0),(6,vi p1),(7,vi ab)]) (oy E V) hb ?_ ?_ ?_ ?_))))))
 ·exact j.sp 2 [0]
 ·rintro ab fl _ w ⟨O,rfl,j⟩ hb
  refine RC.sr (ic ab p1 (RL.nq (dX hb (fun hb=>?_) fun hb=>?_)))
  rotate_left
  ·refine RC.ex ?_
   obtain rfl:=oi hb
   exact⟨rfl,j.sp 1 [0]⟩
  refine RC.ss (RC.bs (aX ab (aI ab (RL.nq ?_))))
  obtain⟨af,hj,hb⟩:=bd hb
  refine RC.jn (fun(af:Bool)=>SH E V [(1,vi p1),(2,vp ae 0),(5,vi ab),(6,vi p1),(7,vi ab),(31,vb af)] [bx 52 ae p0]) af ?_ ?_
  ·refine RC.v7 mixed ?_
   have j:=j.drew
   refine RO.go (RL.bU zr iC (RO.nx (RL.bI 0 j zr cF ob fun aq j=>(RO.nx (aX p1 (RO.nx ?_))))))
   obtain⟨ag,aj,hj⟩:=bd hj
   refine RL.bK 0 j mf aj fun ar j=>(RO.nx (RL.gS 0 zt j zr jT dC fun au j=>(RO.nx (RL.bX ag.aW 0 j iy (RO.nx (ic ag.aW 0 (RO.nx (jG (decide (ag.aW>0)) ?_))))))))
   refine iW hj (fun o hj=>?_) fun o hj=>?_
   rotate_left
   ·refine RO.nx (bS o (RO.nx (bS o (RO.nx (bS o (RO.nx (bS o (RO.nx ?_))))))))
    refine bS o (RO.nx (bS o (RO.nx (bS o (RO.nx (bS o (RO.nx (bS o ?_))))))))
    refine RO.nx (bS o (RO.nx (bS o (RO.nx (bS o (RO.nx (bS o (RO.nx ?_))))))))
    refine iQ o (vb false) (RO.last ?_)
    obtain rfl:=oi hj
    exact⟨rfl,j.sp 4 [3]⟩
   refine RO.nx (RL.bU (hg:=(cg o)) zr iC (RO.nx (RL.bI (hg:=(cg o)) 3 j zr cF ob fun av j=>(RO.nx (RL.move (vi ab) (cg o) (RO.nx ?_))))))
   obtain⟨ah,ak,hj⟩:=bd hj
   refine RL.bK (hg:=(cg o)) 0 j mf ak fun aw j=>(RO.nx (RL.gS 0 (cg o) j zr jT dC fun ax j=>(RO.nx (RL.bX (hg:=(cg o)) ah.aW 0 j iy (RO.nx (RL.bU (hg:=(cg o)) zr iC (RO.nx (RL.bI (hg:=(cg o)) 6 j zr cF ob fun ay j=>?_))))))))
   refine RO.nx (RL.move (vi p1) (cg o) (RO.nx ?_))
   obtain⟨ai,al,hj⟩:=bd hj
   refine RL.bK (hg:=(cg o)) 0 j mf al fun az j=>(RO.nx (RL.gS 0 (cg o) j zr jT dC fun a0 j=>(RO.nx (RL.bX (hg:=(cg o)) ai.aW 0 j iy (RO.nx (RL.kr ah.aW ai.aW (cg o) (RO.nx (iQ o (vb (ah.aW==ai.aW)) ?_))))))))
   refine RO.last ?_
   obtain rfl:=oi hj
   exact⟨rfl,j.sp 10 [9]⟩
  rintro _ w ⟨O,rfl,j⟩
  refine aF (dX hb (fun hb=>?_) fun hb=>?_)
  rotate_left
  ·refine RC.skip (bF (aF (RC.region (RL.gq ab 1 (aX (IntKind.wrap .i64 (ab+1)) (RL.nil ?_))))))
   obtain rfl:=oi hb
   exact⟨rfl,j.sp 1 [0]⟩
  refine RC.sr (aX ab (aI ab (RL.nt (RC.rb (aO ?_)))))
  obtain rfl:=oi hb
  exact⟨rfl,bC ⟨rfl,j.drop 1⟩⟩
 ·intro r U w hb hK
  refine aO ?_
  obtain rfl:=oi hb
  exact hK
 rintro ab _ w hb ⟨O,rfl,j⟩
 refine aF (RC.sr (aX p1 (aI p1 (RL.nt (RC.ret ?_)))))
 obtain rfl:=oi hb
 exact bC ⟨rfl,j.drop 1⟩
theorem gW {p0: (List aB)} {res: (List Int)} (j:Holds E w V) (h0:V[i0]? =some (rd v0 p0)) (hb:du N p0=some res):
    Calls bE 72 [v0].toArray w (eT (cD E V res)):=by
 unfold du at hb
 refine enter Tryz.func72 zr zr ?_
 have j:=j.dup (i0+0) h0
 refine RC.sr (cT (.slice none 0 0) (RL.ns (cT (.slice none 0 0) (RL.nq (RC.sr (mv v0 (RL.bG 0 p0 j AZ (aX 0 ?_))))))))
 refine RL.nt (RC.f1 E V (fun(ah: (List aB)) (au:Value)=>[rd v0 p0,own 81 au ah]) (fun _ au=>[(3,au)]) (fun ak _ _=>[(10,v0),(11,vi p0.length),(12,vi ak)]) hb ?_ ?_ ?_)
 ·have j:=j.dV aB 81
  exact⟨(.slice none 0 0),j.sp 2 [1,0]⟩
 ·rintro hm ak ah s' _ w hk ⟨ai,O,rfl,j⟩ hb
  refine RC.seq (RC.bs ?_)
  obtain⟨ag,a8,hb⟩:=bd hb
  refine RL.bK 0 j rZ a8 fun bf j=>(RL.aZ 0 ag j u3 fun bg j=>(RL.alloc j wk.z fun al w j=>?_))
  refine RL.bD 0 j 1 zr u3 fun w j=>?_
  refine RL.ns (mv ai (RL.eW 4 ah j AZ (aI (ah.length:Int) (RL.nq (RC.e0 E V (fun(af:Int)=>[own 81 ai ah,bx 81 al ag,rd v0 p0]) (fun af=>[(3,ai),(5,vp al 0),(6,vi af),(10,v0),(11,vi p0.length),(12,vi ak)]) (fun _=>[]) hb ?_ ?_ ?_)))))
  ·exact j.sp 5 [4,0,3]
  ·rintro af fl _ w ⟨O,rfl,j⟩ hb
   refine RC.seq (RC.seq ?_)
   obtain⟨ax,hj,hb⟩:=bd hb
   refine RC.jn (fun(ax:Bool)=>SH E V [(3,ai),(5,vp al 0),(6,vi af),(10,v0),(11,vi p0.length),(12,vi ak),(52,vb ax)] [own 81 ai ah,bx 81 al ag,rd v0 p0]) ax ?_ ?_
   ·refine RC.v7 mixed ?_
    have j:=j.drew
    refine RO.go (aX af (RO.nx (ic af 0 (RO.nx (jG (decide (af>0)) (iW hj (fun o hj=>?_) fun o hj=>?_))))))
    rotate_left
    ·refine RO.nx (bS o (RO.nx (bS o (RO.nx (bS o (RO.nx (bS o (RO.nx ?_))))))))
     refine bS o (RO.nx (bS o (RO.nx (bS o (RO.nx (bS o (RO.nx (bS o ?_))))))))
     refine RO.nx (bS o (RO.nx (qw (RO.nx (qw (RO.nx (qw (RO.nx ?_))))))))
     refine qw (RO.nx (qw (RO.nx (qw (RO.nx (qw (RO.nx (qw ?_))))))))
     refine RO.nx (qw (RO.nx (qw (RO.nx (qw (RO.nx (qw (RO.nx ?_))))))))
     refine qw (RO.nx (qw (RO.nx (qw (RO.nx (qw (RO.nx (qw ?_))))))))
     refine RO.nx (qw (RO.nx (qw (RO.nx (qw (RO.nx (bS o (RO.nx ?_))))))))
     refine iQ o (vb false) (RO.last ?_)
     obtain rfl:=oi hj
     exact⟨rfl,j.sp 3 [0,1,2]⟩
    refine RO.nx (RL.move ai (cg o) (RO.nx (RL.move (vi af) (cg o) (RO.nx (RL.gq (hg:=(cg o)) af 1 (RO.nx ?_))))))
    obtain⟨a2,an,hj⟩:=bd hj
    refine RL.cO (hg:=(cg o)) 0 j zr zr rZ an (RO.nx (RL.uH (α:=aB) (cg o) zr zr zr (qY 0 j an 0) rf (RO.nx (RL.fK (i:=0) (cg o) zr j zr (qY 0 j an 0) zr (cX an).2.1 fE iy (RO.nx (RL.sH (cg o) rf (RO.nx (RL.aV (hg:=(cg o)) 1 j zr fE iy ?_))))))))
    refine RO.nx (RL.kr a2.e0 ag.e0 (cg o) (RO.nx (RL.move (vb (decide (a2.e0>ag.e0))) (cg o) (iW hj (fun ab hj=>?_) fun ab hj=>?_))))
    ·refine RO.nx (bS ab (RO.nx (bS ab (RO.nx (bS ab (RO.nx (bS ab (RO.nx ?_))))))))
     refine bS ab (RO.nx (bS ab (RO.nx (bS ab (RO.nx (bS ab (RO.nx (bS ab ?_))))))))
     refine RO.nx (bS ab (RO.nx (qw (RO.nx (qw (RO.nx (qw (RO.nx ?_))))))))
     refine qw (RO.nx (qw (RO.nx (qw (RO.nx (qw (RO.nx (qw ?_))))))))
     refine RO.nx (qw (RO.nx (bS ab (RO.nx (iQ ab (vb true) (hg:=(cg o)) (RO.nx (iQ o (vb true) (RO.last ?_))))))))
     obtain rfl:=oi hj
     exact⟨rfl,j.sp 3 [0,1,2]⟩
    refine RO.nx (RL.move ai (cg ab) (RO.nx (RL.move (vi af) (cg ab) (RO.nx (RL.gq (hg:=(cg ab)) af 1 (RO.nx ?_))))))
    obtain⟨a3,ao,hj⟩:=bd hj
    refine RL.cO (hg:=(cg ab)) 0 j zr zr rZ ao (RO.nx (RL.uH (α:=aB) (cg ab) zr zr zr (qY 0 j ao 0) rf (RO.nx (RL.fK (i:=0) (cg ab) zr j zr (qY 0 j ao 0) zr (cX ao).2.1 fE iy (RO.nx (RL.sH (cg ab) rf (RO.nx (RL.aV (hg:=(cg ab)) 1 j zr fE iy ?_))))))))
    refine RO.nx (RL.kr a3.e0 ag.e0 (cg ab) (RO.nx (RL.move (vb (a3.e0==ag.e0)) (cg ab) (iW hj (fun ad hj=>?_) fun ad hj=>?_))))
    rotate_left
    ·refine RO.nx (bS ad (RO.nx (bS ad (RO.nx (bS ad (RO.nx (bS ad (RO.nx ?_))))))))
     refine bS ad (RO.nx (bS ad (RO.nx (bS ad (RO.nx (bS ad (RO.nx (bS ad ?_))))))))
     refine RO.nx (iQ ad (vb false) (hg:=(cg ab)) (RO.nx (iQ ab (vb false) (hg:=(cg o)) (RO.nx (iQ o (vb false) (RO.last ?_))))))
     obtain rfl:=oi hj
     exact⟨rfl,j.sp 3 [0,1,2]⟩
    refine RO.nx (RL.move ai (cg ad) (RO.nx (RL.move (vi af) (cg ad) (RO.nx (RL.gq (hg:=(cg ad)) af 1 (RO.nx ?_))))))
    obtain⟨aq,ar,hj⟩:=bd hj
    refine RL.cO (hg:=(cg ad)) 0 j zr zr rZ ar (RO.nx (RL.uH (α:=aB) (cg ad) zr zr zr (qY 0 j ar 0) u4 (RO.nx (RL.fK (i:=0) (cg ad) zr j zr (qY 0 j ar 1) zr (cX ar).2.1 hU iy (RO.nx (RL.sH (cg ad) u4 (RO.nx (RL.aV (hg:=(cg ad)) 1 j zr hU iy ?_))))))))
    refine RO.nx (RL.kr aq.e1 ag.e1 (cg ad) (RO.nx (iQ ad (vb (decide (aq.e1>ag.e1))) (hg:=(cg ab)) (RO.nx (iQ ab (vb (decide (aq.e1>ag.e1))) (hg:=(cg o)) (RO.nx (iQ o (vb (decide (aq.e1>ag.e1))) (RO.last ?_))))))))
    obtain rfl:=oi hj
    exact⟨rfl,j.sp 3 [0,1,2]⟩
   rintro _ w ⟨O,rfl,j⟩
   refine aF (dX hb (fun hb=>?_) fun hb=>?_)
   rotate_left
   ·refine RC.ex ?_
    obtain rfl:=oi hb
    exact⟨rfl,j.sp 3 [0,1,2]⟩
   refine RC.sn (RC.block (RC.region (aX af (RL.gq af 1 (aI (IntKind.wrap .i64 (af - 1)) (RL.nil (bF ?_)))))))
   obtain rfl:=oi hb
   exact⟨rfl,j.sp 3 [0,1,2]⟩
  rintro af _ w hb ⟨O,rfl,j⟩
  refine aF (RC.region (mv ai (aX af (RL.b1 1 j zr u3 fun a9 j=>(RL.d8 ([ag]: (List aB)) j [a9] rZ wk (fun M hs g=>⟨(g.sat 0 _ zr).1,zt⟩) fun bj w j=>?_)))))
  obtain⟨bk,ba,hb⟩:=bd hb
  have j:=(j.pull 0).pull 3
  refine RL.cl CX (yM rZ z3 Es j ba) fun a4 w j=>(cT a4 (RL.nil (bF (aF (RC.region (RL.inc hk hm (aX ((ak+1:Nat):Int) (RL.nil ?_))))))))
  obtain rfl:=oi hb
  exact⟨rfl,a4,j.sp 6 [5,0]⟩
 rintro ah _ w hb ⟨ay,O,rfl,j⟩
 refine aF (RC.sr (cT (.slice none 0 0) (RL.nq (RC.sr (mv ay (RL.eW 1 ah j AZ (aX 0 (RL.nt ?_))))))))
 refine RC.f1 E V (fun(az: (List Int)) (a0:Value)=>[own 81 ay ah,own 3 a0 az]) (fun _ a0=>[(7,a0)]) (fun a1 _ _=>[(61,ay),(62,vi ah.length),(63,vi a1)]) hb ?_ ?_ ?_
 ·have j:=j.dV Int 3
  exact⟨(.slice none 0 0),j.sp 3 [2,0]⟩
 ·rintro hm a1 az s' _ w hk ⟨bb,O,rfl,j⟩ hb
  refine RC.seq (RC.bs ?_)
  obtain⟨aj,a5,hb⟩:=bd hb
  refine RL.cO 0 j zr zr rZ a5 (RL.l2 0 j a5 u3 fun bl j=>?_)
  refine RL.alloc j wk.z fun bm w j=>?_
  refine RL.bD 0 j 1 zr u3 fun w j=>?_
  refine RL.nt (RC.region (mv bb (RL.sH zt rf (RL.aV 0 j zr fE iy (RL.sH zt u4 (RL.aV 0 j zr hU iy ?_))))))
  have j:=(j.sc Int aj.e0).sc Int aj.e1
  refine RL.d8 ([aj.e0,aj.e1]: (List Int)) j [(vi aj.e0),(vi aj.e1)] jo Bu (fun M hs g=>⟨(g.sat 1 _ zr).1,⟨(g.sat 0 _ zr).1,zt⟩⟩) fun bn w j=>?_
  have j:=j.freeze 0
  obtain⟨bo,bc,hb⟩:=bd hb
  refine RL.app 6 0 zt zr j zr zr zr zr ra bc fun a6 w j=>?_
  refine cT a6 (RL.nil (bF (aF (RC.region (RL.inc hk hm (aX ((a1+1:Nat):Int) (RL.nil ?_)))))))
  obtain rfl:=oi hb
  exact⟨rfl,a6,j.sp 7 [5,6]⟩
 rintro az _ w hb ⟨a7,O,rfl,j⟩
 refine aF (RC.sr (mv a7 (cT a7 (RL.nt (RC.ret ?_)))))
 obtain rfl:=oi hb
 exact bC (j.pk 2 [1])
theorem jF {p0:aM} {res: (List Int)} (j:Holds E w V) (h0:V[i0]? =some (rd v0 p0)) (hb:cI N p0 p1 p2=some res):
    Calls bE 31 [v0,(vi p1),(vi p2)].toArray w (eT (cD E V res)):=by
 unfold cI at hb
 refine enter Tryz.func31 zr zr ?_
 have j:=j.dup (i0+0) h0
 refine RC.sr (RL.cW 0 v0 j zr fun az w j=>?_)
 refine cT (.slice none 0 0) (RL.ns (RL.bU zr z5 (RL.bI 0 j zr fP CV fun bq j=>(aX p1 ?_))))
 obtain⟨a2,br,hb⟩:=bd hb
 refine RL.bK 0 j yK br fun bt j=>(RL.aZ 0 a2 j lq fun bu j=>(RL.alloc j yL.z fun a6 w j=>?_))
 refine RL.bD 0 j 1 zr lq fun w j=>?_
 refine RL.ns (RL.bU zr iX (RL.bI 0 j zr cU oZ fun bw j=>(aX p2 ?_)))
 obtain⟨ay,bz,hb⟩:=bd hb
 refine RL.bK 0 j o4 bz fun b0 j=>(RL.aZ 0 ay j m1 fun b2 j=>(RL.alloc j uW.z fun a3 w j=>?_))
 refine RL.bD 0 j 1 zr m1 fun w j=>?_
 refine RL.nq ?_
 obtain⟨b3,b4,hb⟩:=bd hb
 obtain⟨ax,b5,hb⟩:=bd hb
 refine RC.zP E V mixed [1,0,1,0,1,0,0,0,0,0,0] [1,3,7,8,9,10] (fun(x:Value×Value×Value×Value×Nat)=>(fun ak al an ao af=>[(0,24,(vp az 0)),(1,25,ak),(2,26,(vp az 0)),(3,27,al),(4,28,(vp a3 1)),(5,29,(str ay.cE)),(6,30,(vi b3)),(7,31,an),(8,32,ao),(9,9,(vp af 0))]) x.1 x.2.1 x.2.2.1 x.2.2.2.1 x.2.2.2.2) [(1,vi p1),(2,vi p2),(3,vp az 0),(7,vp a6 0),(8,vp a3 0)] [] (fun(D:Nat->Bool) (x:Value×Value×Value×Value×Nat)=>(fun ak al an ao af=>[bif D 0 then (rd ak p0.t) else bB,bif D 1 then (rd al p0.t) else bB,bif D 2 then (pt an ax) else bB,bif D 3 then (rd ao ax) else bB,bif D 5 then (bx 52 af ax) else (bif D 4 then (raw 52 af 2) else bB),bx 57 a3 ay,rd b2 ay,pt b0 ay,rd bw a2.aK,bx 26 a6 a2,rd bu a2,pt bt a2,rd bq p0.l,bx 46 az p0,rd v0 p0]) x.1 x.2.1 x.2.2.1 x.2.2.2.1 x.2.2.2.2) (fun x=>by kernel_rfl) ?_ ⟨fun _=>i4 gn u6,?_,fun _=>i4 gn u6,?_,fun _=>i4 gn lu,?_,?_,?_,?_,?_,?_,trivial⟩ ?_
 ·have j:=(((((j.drew).bB).bB).bB).bB).bB
  exact⟨(undef,undef,undef,undef,0),cA.none,(x0 zr),zt,j⟩
 ·rintro D U w hD aa ag ⟨⟨ak,al,an,ao,af⟩,o,ha,_,j⟩
  obtain⟨O,rfl⟩:=o.o1 0 aa
  have j:=j.bR 0 hD
  refine RL.bI 13 j zr dK xt fun b6 j=>?_
  have j:=j.nw 0
  exact RL.ep (b6,al,an,ao,af) 1 o ha j
 ·rintro D U w hD aa ag ⟨⟨ak,al,an,ao,af⟩,o,ha,_,j⟩
  obtain⟨O,rfl⟩:=o.o1 2 aa
  have j:=j.bR 1 hD
  refine RL.bI 13 j zr dK xt fun b7 j=>?_
  have j:=j.nw 1
  exact RL.ep (ak,b7,an,ao,af) 3 o ha j
 ·rintro D U w hD aa ag ⟨⟨ak,al,an,ao,af⟩,o,ha,_,j⟩
  obtain⟨O,rfl⟩:=o.o1 4 aa
  refine RL.aV 5 j zr gB fY ?_
  exact RL.ep (ak,al,an,ao,af) 5 o ha j
 ·rintro D U w hD aa ag ⟨⟨ak,al,an,ao,af⟩,o,ha,_,j⟩
  obtain⟨O,rfl⟩:=o.o2 3 5 aa
  have j:=j.ec 1 (aa.1 rfl)
  refine RL.cs A0 (fh N (p1:=ay.cE) (i0:=1) j zr b4) fun w j=>?_
  have j:=j.cH 1 (D 3) (aa.1 rfl) bB
  exact RL.ep (ak,al,an,ao,af) 6 o ha j
 ·rintro D U w hD aa ag ⟨⟨ak,al,an,ao,af⟩,o,ha,_,j⟩
  obtain⟨O,rfl⟩:=o.o2 1 6 aa
  have j:=(j.ec 0 (aa.1 rfl)).bR 2 hD
  refine RL.bK 0 j qA b5 fun b8 j=>?_
  have j:=((j.pl 16 [1,2,0,4,5,6,7,8,9,10,11,12,13,14,15] rfl).cH 0 (D 1) (aa.1 rfl) bB).cH 2 true rfl bB
  exact RL.ep (ak,al,b8,ao,af) 7 o ha j
 ·rintro D U w hD aa ag ⟨⟨ak,al,an,ao,af⟩,o,ha,_,j⟩
  obtain⟨O,rfl⟩:=o.o1 7 aa
  have j:=(j.ec 2 (aa.1 rfl)).bR 3 hD
  refine RL.aZ 2 ax j lT fun b9 j=>?_
  have j:=((j.pl 16 [1,2,3,0,5,6,7,8,9,10,11,12,13,14,15] rfl).cH 2 (D 7) (aa.1 rfl) bB).cH 3 true rfl bB
  exact RL.ep (ak,al,an,b9,af) 8 o ha j
 ·rintro D U w hD aa ag ⟨⟨ak,al,an,ao,af⟩,o,ha,_,j⟩
  obtain⟨O,rfl⟩:=E2 U
  have j:=(j.bR 4 (nh ag hD 10)).bR 4 hD
  refine RL.alloc j xu.z fun bk w j=>?_
  have j:=(j.nw 4).fF 4 (D 10) (nh ag hD 10) (bx 52 bk ax)
  exact RL.ep (ak,al,an,ao,bk) 9 o ha j
 ·rintro D U w hD aa ag ⟨⟨ak,al,an,ao,af⟩,o,ha,_,j⟩
  obtain⟨O,rfl⟩:=o.o2 9 8 aa
  have j:=((j.ec 3 (aa.2.1 rfl)).bR 4 hD).ec 4 (aa.1 rfl)
  refine RL.bD 4 j 3 zr lT fun w j=>?_
  have j:=(j.cH 3 (D 8) (aa.2.1 rfl) bB).cH 4 true rfl (bif D 9 then (raw 52 af 2) else bB)
  exact RL.eo (ak,al,an,ao,af) o ha j
 rintro D U w aw ⟨⟨ak,al,an,ao,af⟩,o,ha,_,j⟩
 simp only [List.getD_cons_zero,List.getD_cons_succ,aw 1 (by decide),aw 3 (by decide),aw 7 (by decide),aw 8 (by decide),aw 10 (by decide),bJ] at j
 obtain⟨O,rfl⟩:=(ac (o.at 9 rfl (r9 aw 9)) ha).pq
 refine aF (RC.sr (cT (.slice none 0 0) (RL.nq (RC.sr (RL.bU zr iC (RL.bI 4 j zr cF ob fun a8 j=>(RL.bG 0 ax.aP j pN (aX 0 ?_))))))))
 refine RL.nt (RC.f1 E V (fun(a7: (List aB)) (bg:Value)=>[bx 46 az p0,bx 26 a6 a2,bx 57 a3 ay,bx 52 af ax,rd a8 ax.aP,own 81 bg a7]) (fun _ bg=>[(1,vi p1),(2,vi p2),(3,vp az 0),(10,bg)]) (fun a0 _ _=>[(7,vp a6 0),(8,vp a3 0),(9,vp af 0),(34,a8),(35,vi ax.aP.length),(36,vi a0)]) hb ?_ ?_ ?_)
 ·have j:=j.dV aB 81
  exact⟨(.slice none 0 0),j.sp 17 [15,11,7,6,1,0]⟩
 ·rintro hm a0 a7 s' _ w hk ⟨bh,O,rfl,j⟩ hb
  refine RC.seq (RC.bs (aX (a0:Int) ?_))
  obtain⟨ba,cc,hb⟩:=bd hb
  refine RL.bK 4 j mf cc fun cy j=>(RL.aZ 0 ba j mg fun cz j=>(RL.alloc j tw.z fun c0 w j=>?_))
  refine aI (a0:Int) (RL.bD 0 j 1 zr mg fun w j=>?_)
  refine RL.ns (RL.b1 4 j zr lq fun c1 j=>(RL.bU zr lr (RL.aV 6 j zr gA fY (RL.bU zr kK (RL.aV 1 j zr ee fY ?_)))))
  have j:=(j.sc aT ay.Name).sc aT ba.Name
  refine RL.build (⟨ay.Name,ba.Name⟩:bT) trivial rfl j [(0,(str ay.Name)),(1,(str ba.Name))] rfl AY rfl (fun M hs g=>by have h:=x5 M;exact dT.cons (f:=fun(x:bT) y=>{x with Part:=y}) h qy (g.sat 1 _ rfl).1 fun _ h=>dT.cons (f:=fun(x:bT) y=>{x with bT:=y}) h qz (g.sat 0 _ rfl).1 fun _ h=>dT.nil h) fun c2 j=>?_
  obtain⟨bb,cd,hb⟩:=bd hb
  refine RL.cs Er (nm N (i0:=3) (i1:=0) j zr zr cd) fun w j=>(aI bb (RL.nq (RC.sr (aX bb (ic bb 0 (RL.nt ?_))))))
  obtain⟨a4,hj,hb⟩:=bd hb
  refine RC.jn (fun(a4:Int)=>SH E V [(1,vi p1),(2,vi p2),(3,vp az 0),(7,vp a6 0),(8,vp a3 0),(9,vp af 0),(10,bh),(11,vi a0),(13,vi a4),(34,a8),(35,vi ax.aP.length),(36,vi a0)] [bx 46 az p0,bx 26 a6 a2,bx 57 a3 ay,bx 52 af ax,own 81 bh a7,rd a8 ax.aP]) a4 ?_ ?_
  ·refine dX hj (fun hj=>?_) fun hj=>?_
   rotate_left
   ·refine RC.skip ?_
    obtain rfl:=oi hj
    exact⟨rfl,j.sp 13 [7,8,9,10,12,11]⟩
   refine RC.region (RL.bU zr pS (RL.bI 7 j zr dM o6 fun c3 j=>(aX p1 ?_)))
   obtain⟨cf,cg,hj⟩:=bd hj
   refine RL.bK 0 j iS cg fun c4 j=>(RL.aZ 0 cf j lU fun c5 j=>(aX bb ?_))
   obtain⟨bl,ch,hj⟩:=bd hj
   refine RL.bK 0 j jo ch fun c6 j=>(RL.bX bl 0 j iy (aI bl (RL.nil ?_)))
   obtain rfl:=oi hj
   exact⟨rfl,j.sp 17 [11,12,13,14,16,15]⟩
  rintro _ w ⟨O,rfl,j⟩
  refine aF (RC.region (mv bh (RL.b1 3 j zr lT fun c7 j=>(aX (a0:Int) ?_))))
  obtain⟨bc,cj,hb⟩:=bd hb
  refine RL.cs CW (j9 N (p1:=(a0:Int)) (i0:=0) j zr cj) fun w j=>(aX a4 ?_)
  have j:=(j.sc Int bc).sc Int a4
  refine RL.uI (⟨bc,a4⟩:aB) trivial rfl j [(0,vi bc),(1,vi a4)] rfl x6 rfl (fun M hs g=>by have h:=lp M;exact dT.cons (f:=fun(x:aB) y=>{x with e0:=y}) h km (g.sat 1 _ rfl).1 fun _ h=>dT.cons (f:=fun(x:aB) y=>{x with e1:=y}) h kn (g.sat 0 _ rfl).1 fun _ h=>dT.nil h) fun ck j=>?_
  refine RL.d8 ([(⟨bc,a4⟩:aB)]: (List aB)) j [ck] rZ wk (fun M hs g=>⟨(g.sat 0 _ zr).1,zt⟩) fun c8 w j=>?_
  have j:=j.freeze 0
  obtain⟨c9,cm,hb⟩:=bd hb
  refine RL.app 9 0 zt zr j zr zr zr zr z3 cm fun bm w j=>?_
  refine cT bm (RL.nil (bF (aF (RC.region (RL.inc hk hm (aX ((a0+1:Nat):Int) (RL.nil ?_)))))))
  obtain rfl:=oi hb
  exact⟨rfl,bm,j.sp 11 [5,6,7,8,10,9]⟩
 rintro a7 _ w hb ⟨a9,O,rfl,j⟩
 refine aF (RC.seq ?_)
 obtain⟨bj,cn,hb⟩:=bd hb
 obtain⟨a5,cp,hb⟩:=bd hb
 obtain⟨bf,cq,hb⟩:=bd hb
 obtain⟨bn,cr,hb⟩:=bd hb
 refine RC.zP E V mixed [1,0,1,0,0,1,0,0,0,1,0,0,1] [1,3,4,6,8,10,11] (fun(x:Value×Value×Value×Value×Value×Value×Value)=>(fun aq ar au av aj ah ai=>[(0,67,(vp az 2)),(1,68,aq),(2,69,(vi p1)),(3,70,ar),(4,71,au),(5,72,(vi p2)),(6,73,av),(7,74,(vi a5)),(8,75,aj),(9,76,a9),(10,77,ai),(11,78,ah),(12,6,ah)]) x.1 x.2.1 x.2.2.1 x.2.2.2.1 x.2.2.2.2.1 x.2.2.2.2.2.1 x.2.2.2.2.2.2) [(1,vi p1),(2,vi p2),(3,vp az 0),(10,a9)] [] (fun(D:Nat->Bool) (x:Value×Value×Value×Value×Value×Value×Value)=>(fun aq ar au av aj ah ai=>[bif D 0 then (rd aq p0.parts) else bB,bif D 1 then (pt ar bj) else bB,bif D 2 then (rd au bj) else bB,bif D 3 then (pt av a5) else bB,bif D 6 then (own 3 ah bn) else (bif D 4 then (own 3 aj ([a5]: (List Int))) else bB),bif D 6 then (rd ai bf) else (bif D 5 then (own 3 ai bf) else bB),bx 46 az p0,bx 26 a6 a2,bx 57 a3 ay,bx 52 af ax,rd a8 ax.aP,bif D 5 then (rd a9 a7) else (own 81 a9 a7)]) x.1 x.2.1 x.2.2.1 x.2.2.2.1 x.2.2.2.2.1 x.2.2.2.2.2.1 x.2.2.2.2.2.2) (fun x=>by kernel_rfl) ?_ ⟨fun _=>i4 gn pR,?_,fun _=>lS gn,?_,?_,fun _=>lS gn,?_,?_,?_,fun _=>lS gn,?_,?_,fun _=>xl gn,trivial⟩ ?_
 ·have j:=((((((j.drew).bB).bB).bB).bB).bB).bB
  exact⟨(undef,undef,undef,undef,undef,undef,undef),cA.none,(x0 zr),zt,j⟩
 ·rintro D U w hD aa ag ⟨⟨aq,ar,au,av,aj,ah,ai⟩,o,ha,_,j⟩
  obtain⟨O,rfl⟩:=o.o1 0 aa
  have j:=j.bR 0 hD
  refine RL.bI 6 j zr dL o6 fun ct j=>?_
  have j:=j.nw 0
  exact RL.ep (ct,ar,au,av,aj,ah,ai) 1 o ha j
 ·rintro D U w hD aa ag ⟨⟨aq,ar,au,av,aj,ah,ai⟩,o,ha,_,j⟩
  obtain⟨O,rfl⟩:=o.o2 1 2 aa
  have j:=(j.ec 0 (aa.1 rfl)).bR 1 hD
  refine RL.bK 0 j iS cn fun cu j=>?_
  have j:=((j.pl 13 [1,0,3,4,5,6,7,8,9,10,11,12] rfl).cH 0 (D 1) (aa.1 rfl) bB).cH 1 true rfl bB
  exact RL.ep (aq,cu,au,av,aj,ah,ai) 3 o ha j
 ·rintro D U w hD aa ag ⟨⟨aq,ar,au,av,aj,ah,ai⟩,o,ha,_,j⟩
  obtain⟨O,rfl⟩:=o.o1 3 aa
  have j:=(j.ec 1 (aa.1 rfl)).bR 2 hD
  refine RL.aZ 1 bj j lU fun cv j=>?_
  have j:=((j.pl 13 [1,2,0,4,5,6,7,8,9,10,11,12] rfl).cH 1 (D 3) (aa.1 rfl) bB).cH 2 true rfl bB
  exact RL.ep (aq,ar,cv,av,aj,ah,ai) 4 o ha j
 ·rintro D U w hD aa ag ⟨⟨aq,ar,au,av,aj,ah,ai⟩,o,ha,_,j⟩
  obtain⟨O,rfl⟩:=o.o2 4 5 aa
  have j:=(j.ec 2 (aa.1 rfl)).bR 3 hD
  refine RL.bK 2 j jo cp fun cw j=>?_
  have j:=((j.pl 13 [1,2,3,0,5,6,7,8,9,10,11,12] rfl).cH 2 (D 4) (aa.1 rfl) bB).cH 3 true rfl bB
  exact RL.ep (aq,ar,au,cw,aj,ah,ai) 6 o ha j
 ·rintro D U w hD aa ag ⟨⟨aq,ar,au,av,aj,ah,ai⟩,o,ha,_,j⟩
  obtain⟨O,rfl⟩:=o.o1 6 aa
  have j:=j.ec 3 (aa.1 rfl)
  refine RL.bX a5 3 j iy ?_
  have j:=j.cH 3 (D 6) (aa.1 rfl) bB
  exact RL.ep (aq,ar,au,av,aj,ah,ai) 7 o ha j
 ·rintro D U w hD aa ag ⟨⟨aq,ar,au,av,aj,ah,ai⟩,o,ha,_,j⟩
  obtain⟨O,rfl⟩:=o.o1 7 aa
  have j:=((j.bR 4 (nh ag hD 11)).bR 4 hD).sc Int a5
  refine RL.d8 ([a5]: (List Int)) j [(vi a5)] jo Bu (fun M hs g=>⟨(g.sat 0 _ zr).1,zt⟩) fun cx w j=>?_
  have j:=((j.pl 14 [2,3,4,5,0,7,8,9,10,11,12,13] rfl).cH 4 true rfl bB).fF 4 (D 11) (nh ag hD 11) (own 3 ah bn)
  exact RL.ep (aq,ar,au,av,cx,ah,ai) 8 o ha j
 ·rintro D U w hD aa ag ⟨⟨aq,ar,au,av,aj,ah,ai⟩,o,ha,_,j⟩
  obtain⟨O,rfl⟩:=o.o1 9 aa
  have j:=(((j.bR 5 (nh ag hD 11)).bR 5 hD).bR 11 hD).freeze 11
  refine RL.cl CY (gW N (i0:=11) j zr cq) fun bo w j=>?_
  have j:=((j.nw 5).fF 5 (D 11) (nh ag hD 11) (rd bo bf)).cH 11 true rfl (own 81 a9 a7)
  exact RL.ep (aq,ar,au,av,aj,ah,bo) 10 o ha j
 ·rintro D U w hD aa ag ⟨⟨aq,ar,au,av,aj,ah,ai⟩,o,ha,_,j⟩
  obtain⟨O,rfl⟩:=o.o2 8 10 aa
  have j:=((((j.bR 4 hD).ec 4 (aa.1 rfl)).bR 5 hD).ec 5 (aa.2.1 rfl)).freeze 5
  refine RL.app 4 5 zt zr j zr zr zr zr ra cr fun bp w j=>?_
  have j:=(j.cH 4 true rfl (bif D 8 then (own 3 aj ([a5]: (List Int))) else bB)).cH 5 true rfl (bif D 10 then (own 3 ai bf) else bB)
  have o:=o.re 12 rfl (v':=bp) (fun h=>ft hD ((ag 12 _ rfl h).1 rfl))
  exact RL.ep (aq,ar,au,av,aj,bp,ai) 11 o ha j
 rintro D U w aw ⟨⟨aq,ar,au,av,aj,ah,ai⟩,o,ha,_,j⟩
 simp only [List.getD_cons_zero,List.getD_cons_succ,aw 1 (by decide),aw 3 (by decide),aw 4 (by decide),aw 6 (by decide),aw 11 (by decide),aw 11 (by decide),aw 10 (by decide),bJ] at j
 obtain⟨O,rfl⟩:=(ac (o.at 12 rfl (r9 aw 12)) ha).pq
 refine aF (RC.ret ?_)
 obtain rfl:=oi hb
 exact bC (j.pk 12 [4])
end Go.Gk
namespace Go.Gk
open Go Go.Proofs
variable (N:Nat) {E w:World} {i0 i1:Nat} {p1 p2 res:Int} {v0 v1:Value} {V:List HP}
theorem jZ {p0:aM} {res: (List Int)} (j:Holds E w V) (h0:V[i0]? =some (rd v0 p0)) (hb:cL N p0 p1 p2=some res):
    Calls bE 32 [v0,(vi p1),(vi p2)].toArray w (eT (cD E V res)):=by
 unfold cL at hb
 refine enter Tryz.func32 zr zr ?_
 have j:=j.dup (i0+0) h0
 refine RC.sr (RL.cW 0 v0 j zr fun ba w j=>?_)
 refine cT (.slice none 0 0) (RL.ns (RL.bU zr z5 (RL.bI 0 j zr fP CV fun dk j=>(aX p1 ?_))))
 obtain⟨bh,cc,hb⟩:=bd hb
 refine RL.bK 0 j yK cc fun dm j=>(RL.aZ 0 bh j lq fun dn j=>(RL.alloc j yL.z fun bl w j=>?_))
 refine RL.bD 0 j 1 zr lq fun w j=>?_
 refine RL.ns (cT (.slice none 0 0) (RL.nq (RC.sr (RL.bU zr ke (RL.bI 0 j zr dY q7 fun dp j=>(aX p2 ?_))))))
 obtain⟨bj,cd,hb⟩:=bd hb
 refine RL.bK 0 j uX cd fun dq j=>(RL.gS 0 zt j zr mh i5 fun dr j=>(RL.aZ 0 bj.aP j tA fun bn j=>(RL.bG 0 bj.aP j rX (aX 0 (RL.nt (RC.f1 E V (fun(bk: (List aB)) (bw:Value)=>[bx 46 ba p0,bx 26 bl bh,rd bn bj.aP,own 81 bw bk]) (fun _ bw=>[(1,vi p1),(2,vi p2),(3,vp ba 0),(8,bw)]) (fun bq _ _=>[(7,vp bl 0),(23,bn),(24,vi bj.aP.length),(25,vi bq)]) hb ?_ ?_ ?_))))))
 ·have j:=j.dV aB 81
  exact⟨(.slice none 0 0),j.sp 11 [9,5,1,0]⟩
 ·rintro hm bq bk s' _ w hk ⟨bo,O,rfl,j⟩ hb
  refine RC.seq (RC.bs ?_)
  obtain⟨bc,ch,hb⟩:=bd hb
  refine RL.bK 2 j rY ch fun b2 j=>(RL.aZ 0 bc j jm fun b3 j=>(RL.alloc j wj.z fun br w j=>?_))
  refine RL.bD 0 j 1 zr jm fun w j=>?_
  refine RL.ns (RL.bU zr iX (RL.bI 4 j zr cU oZ fun b4 j=>(RL.bU zr m5 (RL.aV 1 j zr jR fY ?_))))
  obtain⟨tq,cj,hb⟩:=bd hb
  refine RL.cs CP (jB N (p1:=bc.Part) (i0:=0) j zr cj) fun w j=>(aI tq (RL.nq ?_))
  obtain⟨bp,ck,hb⟩:=bd hb
  obtain⟨cm,cn,hb⟩:=bd hb
  obtain⟨bf,cp,hb⟩:=bd hb
  refine RC.zP E V mixed [1,0,1,0,1,0,1,0,0,0,0,0,0,0,0] [1,3,5,7,8,11,12,13,14] (fun(x:Value×Value×Value×Value×Value×Value×Value×Nat)=>(fun av aw ax ay a0 a1 a2 ar=>[(0,34,(vp ba 0)),(1,35,av),(2,36,(vp ba 0)),(3,37,aw),(4,38,(vp bl 0)),(5,39,ax),(6,40,(vi tq)),(7,41,ay),(8,42,a0),(9,43,(str bp.cE)),(10,44,(vi cm)),(11,45,a1),(12,46,a2),(13,12,(vp ar 0))]) x.1 x.2.1 x.2.2.1 x.2.2.2.1 x.2.2.2.2.1 x.2.2.2.2.2.1 x.2.2.2.2.2.2.1 x.2.2.2.2.2.2.2) [(1,vi p1),(2,vi p2),(3,vp ba 0),(7,vp bl 0),(8,bo),(10,vp br 0),(11,vi tq),(23,bn),(24,vi bj.aP.length),(25,vi bq)] [] (fun(D:Nat->Bool) (x:Value×Value×Value×Value×Value×Value×Value×Nat)=>(fun av aw ax ay a0 a1 a2 ar=>[bif D 0 then (rd av p0.t) else bB,bif D 1 then (rd aw p0.t) else bB,bif D 2 then (rd ax bh.aK) else bB,bif D 3 then (pt ay bp) else bB,bif D 4 then (pt a0 bp.cE) else bB,bif D 5 then (pt a1 bf) else bB,bif D 6 then (rd a2 bf) else bB,bif D 8 then (bx 52 ar bf) else (bif D 7 then (raw 52 ar 2) else bB),rd b4 bh.aK,bx 59 br bc,rd b3 bc,pt b2 bc,bx 46 ba p0,bx 26 bl bh,rd bn bj.aP,own 81 bo bk]) x.1 x.2.1 x.2.2.1 x.2.2.2.1 x.2.2.2.2.1 x.2.2.2.2.2.1 x.2.2.2.2.2.2.1 x.2.2.2.2.2.2.2) (fun x=>by kernel_rfl) ?_ ⟨fun _=>i4 gn u6,?_,fun _=>i4 gn u6,?_,fun _=>i4 gn iX,?_,fun _=>lS gn,?_,?_,?_,?_,?_,?_,?_,?_,trivial⟩ ?_
  ·have j:=((((((((j.drew).bB).bB).bB).bB).bB).bB).bB).bB
   exact⟨(undef,undef,undef,undef,undef,undef,undef,0),cA.none,(x0 zr),zt,j⟩
  ·rintro D U w hD aa ae ⟨⟨av,aw,ax,ay,a0,a1,a2,ar⟩,o,ha,_,j⟩
   dsimp only at o j
   obtain⟨O,rfl⟩:=o.o1 0 aa
   have j:=j.bR 0 hD
   refine RL.bI 12 j zr dK xt fun cq j=>?_
   have j:=j.nw 0
   exact RL.ep (cq,aw,ax,ay,a0,a1,a2,ar) 1 o ha j
  ·rintro D U w hD aa ae ⟨⟨av,aw,ax,ay,a0,a1,a2,ar⟩,o,ha,_,j⟩
   dsimp only at o j
   obtain⟨O,rfl⟩:=o.o1 2 aa
   have j:=j.bR 1 hD
   refine RL.bI 12 j zr dK xt fun cr j=>?_
   have j:=j.nw 1
   exact RL.ep (av,cr,ax,ay,a0,a1,a2,ar) 3 o ha j
  ·rintro D U w hD aa ae ⟨⟨av,aw,ax,ay,a0,a1,a2,ar⟩,o,ha,_,j⟩
   dsimp only at o j
   obtain⟨O,rfl⟩:=o.o1 4 aa
   have j:=j.bR 2 hD
   refine RL.bI 13 j zr cU oZ fun ct j=>?_
   have j:=j.nw 2
   exact RL.ep (av,aw,ct,ay,a0,a1,a2,ar) 5 o ha j
  ·rintro D U w hD aa ae ⟨⟨av,aw,ax,ay,a0,a1,a2,ar⟩,o,ha,_,j⟩
   dsimp only at o j
   obtain⟨O,rfl⟩:=o.o2 5 6 aa
   have j:=(j.ec 2 (aa.1 rfl)).bR 3 hD
   refine RL.bK 2 j o4 ck fun cu j=>?_
   have j:=((j.pl 17 [1,2,3,0,5,6,7,8,9,10,11,12,13,14,15,16] rfl).cH 2 (D 5) (aa.1 rfl) bB).cH 3 true rfl bB
   exact RL.ep (av,aw,ax,cu,a0,a1,a2,ar) 7 o ha j
  ·rintro D U w hD aa ae ⟨⟨av,aw,ax,ay,a0,a1,a2,ar⟩,o,ha,_,j⟩
   dsimp only at o j
   obtain⟨O,rfl⟩:=o.o1 7 aa
   have j:=(j.ec 3 (aa.1 rfl)).bR 4 hD
   refine RL.gS 3 zt j zr lu gB fun cv j=>?_
   have j:=((j.pl 17 [1,2,3,4,0,6,7,8,9,10,11,12,13,14,15,16] rfl).cH 3 (D 7) (aa.1 rfl) bB).cH 4 true rfl bB
   exact RL.ep (av,aw,ax,ay,cv,a1,a2,ar) 8 o ha j
  ·rintro D U w hD aa ae ⟨⟨av,aw,ax,ay,a0,a1,a2,ar⟩,o,ha,_,j⟩
   dsimp only at o j
   obtain⟨O,rfl⟩:=o.o1 8 aa
   have j:=j.ec 4 (aa.1 rfl)
   refine RL.bX bp.cE 4 j fY ?_
   have j:=j.cH 4 (D 8) (aa.1 rfl) bB
   exact RL.ep (av,aw,ax,ay,a0,a1,a2,ar) 9 o ha j
  ·rintro D U w hD aa ae ⟨⟨av,aw,ax,ay,a0,a1,a2,ar⟩,o,ha,_,j⟩
   dsimp only at o j
   obtain⟨O,rfl⟩:=o.o2 3 9 aa
   have j:=j.ec 1 (aa.1 rfl)
   refine RL.cs A0 (fh N (p1:=bp.cE) (i0:=1) j zr cn) fun w j=>?_
   have j:=j.cH 1 (D 3) (aa.1 rfl) bB
   exact RL.ep (av,aw,ax,ay,a0,a1,a2,ar) 10 o ha j
  ·rintro D U w hD aa ae ⟨⟨av,aw,ax,ay,a0,a1,a2,ar⟩,o,ha,_,j⟩
   dsimp only at o j
   obtain⟨O,rfl⟩:=o.o2 1 10 aa
   have j:=(j.ec 0 (aa.1 rfl)).bR 5 hD
   refine RL.bK 0 j qA cp fun cw j=>?_
   have j:=((j.pl 17 [1,2,3,4,5,0,7,8,9,10,11,12,13,14,15,16] rfl).cH 0 (D 1) (aa.1 rfl) bB).cH 5 true rfl bB
   exact RL.ep (av,aw,ax,ay,a0,cw,a2,ar) 11 o ha j
  ·rintro D U w hD aa ae ⟨⟨av,aw,ax,ay,a0,a1,a2,ar⟩,o,ha,_,j⟩
   dsimp only at o j
   obtain⟨O,rfl⟩:=o.o1 11 aa
   have j:=(j.ec 5 (aa.1 rfl)).bR 6 hD
   refine RL.aZ 5 bf j lT fun cx j=>?_
   have j:=((j.pl 17 [1,2,3,4,5,6,0,8,9,10,11,12,13,14,15,16] rfl).cH 5 (D 11) (aa.1 rfl) bB).cH 6 true rfl bB
   exact RL.ep (av,aw,ax,ay,a0,a1,cx,ar) 12 o ha j
  ·rintro D U w hD aa ae ⟨⟨av,aw,ax,ay,a0,a1,a2,ar⟩,o,ha,_,j⟩
   dsimp only at o j
   obtain⟨O,rfl⟩:=E2 U
   have j:=(j.bR 7 (nh ae hD 14)).bR 7 hD
   refine RL.alloc j xu.z fun b5 w j=>?_
   have j:=(j.nw 7).fF 7 (D 14) (nh ae hD 14) (bx 52 b5 bf)
   exact RL.ep (av,aw,ax,ay,a0,a1,a2,b5) 13 o ha j
  ·rintro D U w hD aa ae ⟨⟨av,aw,ax,ay,a0,a1,a2,ar⟩,o,ha,_,j⟩
   dsimp only at o j
   obtain⟨O,rfl⟩:=o.o2 13 12 aa
   have j:=((j.ec 6 (aa.2.1 rfl)).bR 7 hD).ec 7 (aa.1 rfl)
   refine RL.bD 7 j 6 zr lT fun w j=>?_
   have j:=(j.cH 6 (D 12) (aa.2.1 rfl) bB).cH 7 true rfl (bif D 13 then (raw 52 ar 2) else bB)
   exact RL.eo (av,aw,ax,ay,a0,a1,a2,ar) o ha j
  rintro D U w au ⟨⟨av,aw,ax,ay,a0,a1,a2,ar⟩,o,ha,_,j⟩
  simp only [List.getD_cons_zero,List.getD_cons_succ,au 1 (by decide),au 3 (by decide),au 5 (by decide),au 7 (by decide),au 8 (by decide),au 11 (by decide),au 12 (by decide),au 14 (by decide),bJ] at j
  obtain⟨O,rfl⟩:=(ac (o.at 13 rfl (r9 au 13)) ha).pq
  refine aF ?_
  obtain⟨bz,cy,hb⟩:=bd hb
  obtain⟨bb,cz,hb⟩:=bd hb
  obtain⟨b6,c0,hb⟩:=bd hb
  obtain⟨bg,c1,hb⟩:=bd hb
  obtain⟨c2,c3,hb⟩:=bd hb
  refine RC.zP E V mixed [0,1,0,1,0,0,1,0,0,0,0,1,0,0,0,0,0,0,1] [2,4,5,7,9,10,15,16,17] (fun(x:Value×Value×Value×Value×Value×Value×Value×Value×Value)=>(fun aj ak al an ao aq ai ag ah=>[(0,47,bo),(1,48,(vp ba 2)),(2,49,aj),(3,50,(vi p1)),(4,51,ak),(5,52,al),(6,53,(vi tq)),(7,54,an),(8,55,(vi bb)),(9,56,ao),(10,57,aq),(11,58,(vp br 1)),(12,59,(str bc.bT)),(13,60,(vi b6)),(14,61,(vi bg)),(15,62,ai),(16,63,ag),(17,64,ah),(18,8,ah)]) x.1 x.2.1 x.2.2.1 x.2.2.2.1 x.2.2.2.2.1 x.2.2.2.2.2.1 x.2.2.2.2.2.2.1 x.2.2.2.2.2.2.2.1 x.2.2.2.2.2.2.2.2) [(1,vi p1),(2,vi p2),(3,vp ba 0),(7,vp bl 0),(10,vp br 0),(11,vi tq),(12,vp ar 0),(23,bn),(24,vi bj.aP.length),(25,vi bq)] [(18,8,bo)] (fun(D:Nat->Bool) (x:Value×Value×Value×Value×Value×Value×Value×Value×Value)=>(fun aj ak al an ao aq ai ag ah=>[bif D 0 then (rd aj p0.parts) else bB,bif D 1 then (pt ak bz) else bB,bif D 2 then (rd al bz) else bB,bif D 3 then (pt an bb) else bB,bif D 4 then (rd ao bf) else bB,bif D 5 then (rd aq bf) else bB,bif D 6 then (rd ai (⟨bb,bg⟩:aB)) else bB,bif D 8 then (rd ag ([(⟨bb,bg⟩:aB)]: (List aB))) else (bif D 7 then (own 81 ag ([(⟨bb,bg⟩:aB)]: (List aB))) else bB),rd av p0.t,rd aw p0.t,rd ax bh.aK,pt ay bp,pt a0 bp.cE,pt a1 bf,rd a2 bf,bx 52 ar bf,rd b4 bh.aK,bx 59 br bc,rd b3 bc,pt b2 bc,bx 46 ba p0,bx 26 bl bh,rd bn bj.aP,bif D 8 then (own 81 ah c2) else (own 81 bo bk)]) x.1 x.2.1 x.2.2.1 x.2.2.2.1 x.2.2.2.2.1 x.2.2.2.2.2.1 x.2.2.2.2.2.2.1 x.2.2.2.2.2.2.2.1 x.2.2.2.2.2.2.2.2) (fun x=>by kernel_rfl) ?_ ⟨?_,fun _=>i4 gn pR,?_,fun _=>lS gn,?_,?_,fun _=>lS gn,?_,?_,?_,?_,fun _=>i4 gn pP,?_,?_,?_,?_,?_,?_,fun _=>xl gn,trivial⟩ ?_
  ·have j:=((((((((j.drew).bB).bB).bB).bB).bB).bB).bB).bB
   exact⟨(undef,undef,undef,undef,undef,undef,undef,undef,undef),cA.none,(x0 zr),⟨fun _=>zr,zt⟩,j⟩
  ·rintro D U w hD aa ae ⟨⟨aj,ak,al,an,ao,aq,ai,ag,ah⟩,o,ha,ho,j⟩
   obtain⟨O,rfl⟩:=(ac (ho.at 0 rfl (nh ae hD 18)) az).pq
   refine mv bo ?_
   exact RL.nil ⟨rfl,(aj,ak,al,an,ao,aq,ai,ag,ah),o.pu 0,ha.u,ho.up zr,j⟩
  ·rintro D U w hD aa ae ⟨⟨aj,ak,al,an,ao,aq,ai,ag,ah⟩,o,ha,ho,j⟩
   obtain⟨O,rfl⟩:=o.o1 1 aa
   have j:=j.bR 0 hD
   refine RL.bI 20 j zr dL o6 fun c4 j=>?_
   have j:=j.nw 0
   exact RL.nil ⟨rfl,(c4,ak,al,an,ao,aq,ai,ag,ah),o.pu 2,ha.u,ho.up zr,j⟩
  ·rintro D U w hD aa ae ⟨⟨aj,ak,al,an,ao,aq,ai,ag,ah⟩,o,ha,ho,j⟩
   obtain⟨O,rfl⟩:=o.o2 2 3 aa
   have j:=(j.ec 0 (aa.1 rfl)).bR 1 hD
   refine RL.bK 0 j iS cy fun c5 j=>?_
   have j:=((j.pl 25 [1,0,3,4,5,6,7,8,9,10,11,12,13,14,15,16,17,18,19,20,21,22,23,24] rfl).cH 0 (D 2) (aa.1 rfl) bB).cH 1 true rfl bB
   exact RL.nil ⟨rfl,(aj,c5,al,an,ao,aq,ai,ag,ah),o.pu 4,ha.u,ho.up zr,j⟩
  ·rintro D U w hD aa ae ⟨⟨aj,ak,al,an,ao,aq,ai,ag,ah⟩,o,ha,ho,j⟩
   obtain⟨O,rfl⟩:=o.o1 4 aa
   have j:=(j.ec 1 (aa.1 rfl)).bR 2 hD
   refine RL.aZ 1 bz j lU fun c6 j=>?_
   have j:=((j.pl 25 [1,2,0,4,5,6,7,8,9,10,11,12,13,14,15,16,17,18,19,20,21,22,23,24] rfl).cH 1 (D 4) (aa.1 rfl) bB).cH 2 true rfl bB
   exact RL.nil ⟨rfl,(aj,ak,c6,an,ao,aq,ai,ag,ah),o.pu 5,ha.u,ho.up zr,j⟩
  ·rintro D U w hD aa ae ⟨⟨aj,ak,al,an,ao,aq,ai,ag,ah⟩,o,ha,ho,j⟩
   obtain⟨O,rfl⟩:=o.o2 5 6 aa
   have j:=(j.ec 2 (aa.1 rfl)).bR 3 hD
   refine RL.bK 2 j jo cz fun c7 j=>?_
   have j:=((j.pl 25 [1,2,3,0,5,6,7,8,9,10,11,12,13,14,15,16,17,18,19,20,21,22,23,24] rfl).cH 2 (D 5) (aa.1 rfl) bB).cH 3 true rfl bB
   exact RL.nil ⟨rfl,(aj,ak,al,c7,ao,aq,ai,ag,ah),o.pu 7,ha.u,ho.up zr,j⟩
  ·rintro D U w hD aa ae ⟨⟨aj,ak,al,an,ao,aq,ai,ag,ah⟩,o,ha,ho,j⟩
   obtain⟨O,rfl⟩:=o.o1 7 aa
   have j:=j.ec 3 (aa.1 rfl)
   refine RL.bX bb 3 j iy ?_
   have j:=j.cH 3 (D 7) (aa.1 rfl) bB
   exact RL.nil ⟨rfl,(aj,ak,al,an,ao,aq,ai,ag,ah),o.pu 8,ha.u,ho.up zr,j⟩
  ·rintro D U w hD aa ae ⟨⟨aj,ak,al,an,ao,aq,ai,ag,ah⟩,o,ha,ho,j⟩
   obtain⟨O,rfl⟩:=ha.pq
   have j:=j.bR 4 hD
   refine RL.b1 15 j zr lT fun c8 j=>?_
   have j:=j.nw 4
   exact RL.nil ⟨rfl,(aj,ak,al,an,c8,aq,ai,ag,ah),o.pu 9,ha.u,ho.up zr,j⟩
  ·rintro D U w hD aa ae ⟨⟨aj,ak,al,an,ao,aq,ai,ag,ah⟩,o,ha,ho,j⟩
   obtain⟨O,rfl⟩:=ha.pq
   have j:=j.bR 5 hD
   refine RL.b1 15 j zr lT fun c9 j=>?_
   have j:=j.nw 5
   exact RL.nil ⟨rfl,(aj,ak,al,an,ao,c9,ai,ag,ah),o.pu 10,ha.u,ho.up zr,j⟩
  ·rintro D U w hD aa ae ⟨⟨aj,ak,al,an,ao,aq,ai,ag,ah⟩,o,ha,ho,j⟩
   obtain⟨O,rfl⟩:=o.o1 11 aa
   refine RL.aV 17 j zr ln fY ?_
   exact RL.nil ⟨rfl,(aj,ak,al,an,ao,aq,ai,ag,ah),o.pu 12,ha.u,ho.up zr,j⟩
  ·rintro D U w hD aa ae ⟨⟨aj,ak,al,an,ao,aq,ai,ag,ah⟩,o,ha,ho,j⟩
   obtain⟨O,rfl⟩:=o.o2 10 12 aa
   have j:=j.ec 5 (aa.1 rfl)
   refine RL.cs CQ (jX N (p1:=bc.bT) (i0:=5) j zr c0) fun w j=>?_
   have j:=j.cH 5 (D 10) (aa.1 rfl) bB
   exact RL.nil ⟨rfl,(aj,ak,al,an,ao,aq,ai,ag,ah),o.pu 13,ha.u,ho.up zr,j⟩
  ·rintro D U w hD aa ae ⟨⟨aj,ak,al,an,ao,aq,ai,ag,ah⟩,o,ha,ho,j⟩
   obtain⟨O,rfl⟩:=o.o2 9 13 aa
   have j:=j.ec 4 (aa.1 rfl)
   refine RL.cs CW (j9 N (p1:=b6) (i0:=4) j zr c1) fun w j=>?_
   have j:=j.cH 4 (D 9) (aa.1 rfl) bB
   exact RL.nil ⟨rfl,(aj,ak,al,an,ao,aq,ai,ag,ah),o.pu 14,ha.u,ho.up zr,j⟩
  ·rintro D U w hD aa ae ⟨⟨aj,ak,al,an,ao,aq,ai,ag,ah⟩,o,ha,ho,j⟩
   obtain⟨O,rfl⟩:=o.o2 8 14 aa
   have j:=((j.bR 6 hD).sc Int bb).sc Int bg
   refine RL.uI (⟨bb,bg⟩:aB) trivial rfl j [(0,vi bb),(1,vi bg)] rfl x6 rfl (fun M hs g=>by have h:=lp M;exact dT.cons (f:=fun(x:aB) y=>{x with e0:=y}) h km (g.sat 1 _ rfl).1 fun _ h=>dT.cons (f:=fun(x:aB) y=>{x with e1:=y}) h kn (g.sat 0 _ rfl).1 fun _ h=>dT.nil h) fun da j=>?_
   have j:=(j.pl 27 [3,4,5,6,7,8,0,10,11,12,13,14,15,16,17,18,19,20,21,22,23,24,25,26] rfl).cH 6 true rfl bB
   exact RL.nil ⟨rfl,(aj,ak,al,an,ao,aq,da,ag,ah),o.pu 15,ha.u,ho.up zr,j⟩
  ·rintro D U w hD aa ae ⟨⟨aj,ak,al,an,ao,aq,ai,ag,ah⟩,o,ha,ho,j⟩
   obtain⟨O,rfl⟩:=o.o1 15 aa
   have j:=((j.ec 6 (aa.1 rfl)).bR 7 (nh ae hD 17)).bR 7 hD
   refine RL.d8 ([(⟨bb,bg⟩:aB)]: (List aB)) j [ai] rZ wk (fun M hs g=>⟨(g.sat 6 _ zr).1,zt⟩) fun b7 w j=>?_
   have j:=(((j.pl 25 [1,2,3,4,5,6,7,0,9,10,11,12,13,14,15,16,17,18,19,20,21,22,23,24] rfl).cH 6 (D 15) (aa.1 rfl) bB).cH 7 true rfl bB).fF 7 (D 17) (nh ae hD 17) (rd b7 ([(⟨bb,bg⟩:aB)]: (List aB)))
   exact RL.nil ⟨rfl,(aj,ak,al,an,ao,aq,ai,b7,ah),o.pu 16,ha.u,ho.up zr,j⟩
  ·rintro D U w hD aa ae ⟨⟨aj,ak,al,an,ao,aq,ai,ag,ah⟩,o,ha,ho,j⟩
   obtain⟨O,rfl⟩:=o.o2 0 16 aa
   have j:=(((j.bR 7 hD).ec 7 (aa.2.1 rfl)).bR 23 hD).freeze 7
   refine RL.app 23 7 zt zr j zr zr zr zr z3 c3 fun b8 w j=>?_
   have j:=(j.cH 7 true rfl (bif D 16 then (own 81 ag ([(⟨bb,bg⟩:aB)]: (List aB))) else bB)).cH 23 true rfl (own 81 bo bk)
   have o:=o.re 18 rfl (v':=b8) (fun h=>ft hD ((ae 18 _ rfl h).1 rfl))
   exact RL.nil ⟨rfl,(aj,ak,al,an,ao,aq,ai,ag,b8),o.pu 17,ha.u,ho.up zr,j⟩
  rintro D U w au ⟨⟨aj,ak,al,an,ao,aq,ai,ag,ah⟩,o,ha,_,j⟩
  simp only [List.getD_cons_zero,List.getD_cons_succ,au 2 (by decide),au 4 (by decide),au 5 (by decide),au 7 (by decide),au 9 (by decide),au 10 (by decide),au 15 (by decide),au 17 (by decide),au 17 (by decide),bJ] at j
  obtain⟨O,rfl⟩:=(ac (o.at 18 rfl (r9 au 18)) ha).pq
  refine bF (aF (RC.region (RL.inc hk hm (aX ((bq+1:Nat):Int) (RL.nil ?_)))))
  obtain rfl:=oi hb
  exact⟨rfl,ah,j.sp 24 [20,21,22,23]⟩
 rintro bk _ w hb ⟨bt,O,rfl,j⟩
 refine aF (RC.seq ?_)
 obtain⟨b0,db,hb⟩:=bd hb
 obtain⟨bm,dc,hb⟩:=bd hb
 obtain⟨bu,dd,hb⟩:=bd hb
 obtain⟨b9,de,hb⟩:=bd hb
 refine RC.zP E V mixed [1,0,1,0,0,1,0,0,0,1,0,0,1] [1,3,4,6,8,10,11] (fun(x:Value×Value×Value×Value×Value×Value×Value)=>(fun a6 a7 a8 a9 a5 a3 a4=>[(0,66,(vp ba 3)),(1,67,a6),(2,68,(vi p1)),(3,69,a7),(4,70,a8),(5,71,(vi p2)),(6,72,a9),(7,73,(vi bm)),(8,74,a5),(9,75,bt),(10,76,a4),(11,77,a3),(12,6,a3)]) x.1 x.2.1 x.2.2.1 x.2.2.2.1 x.2.2.2.2.1 x.2.2.2.2.2.1 x.2.2.2.2.2.2) [(1,vi p1),(2,vi p2),(3,vp ba 0),(8,bt)] [] (fun(D:Nat->Bool) (x:Value×Value×Value×Value×Value×Value×Value)=>(fun a6 a7 a8 a9 a5 a3 a4=>[bif D 0 then (rd a6 p0.qp) else bB,bif D 1 then (pt a7 b0) else bB,bif D 2 then (rd a8 b0) else bB,bif D 3 then (pt a9 bm) else bB,bif D 6 then (own 3 a3 b9) else (bif D 4 then (own 3 a5 ([bm]: (List Int))) else bB),bif D 6 then (rd a4 bu) else (bif D 5 then (own 3 a4 bu) else bB),bx 46 ba p0,bx 26 bl bh,rd bn bj.aP,bif D 5 then (rd bt bk) else (own 81 bt bk)]) x.1 x.2.1 x.2.2.1 x.2.2.2.1 x.2.2.2.2.1 x.2.2.2.2.2.1 x.2.2.2.2.2.2) (fun x=>by kernel_rfl) ?_ ⟨fun _=>i4 gn pS,?_,fun _=>lS gn,?_,?_,fun _=>lS gn,?_,?_,?_,fun _=>lS gn,?_,?_,fun _=>xl gn,trivial⟩ ?_
 ·have j:=((((((j.drew).bB).bB).bB).bB).bB).bB
  exact⟨(undef,undef,undef,undef,undef,undef,undef),cA.none,(x0 zr),zt,j⟩
 ·rintro D U w hD aa ae ⟨⟨a6,a7,a8,a9,a5,a3,a4⟩,o,ha,_,j⟩
  obtain⟨O,rfl⟩:=o.o1 0 aa
  have j:=j.bR 0 hD
  refine RL.bI 6 j zr dM o6 fun df j=>?_
  have j:=j.nw 0
  exact RL.ep (df,a7,a8,a9,a5,a3,a4) 1 o ha j
 ·rintro D U w hD aa ae ⟨⟨a6,a7,a8,a9,a5,a3,a4⟩,o,ha,_,j⟩
  obtain⟨O,rfl⟩:=o.o2 1 2 aa
  have j:=(j.ec 0 (aa.1 rfl)).bR 1 hD
  refine RL.bK 0 j iS db fun dg j=>?_
  have j:=((j.pl 11 [1,0,3,4,5,6,7,8,9,10] rfl).cH 0 (D 1) (aa.1 rfl) bB).cH 1 true rfl bB
  exact RL.ep (a6,dg,a8,a9,a5,a3,a4) 3 o ha j
 ·rintro D U w hD aa ae ⟨⟨a6,a7,a8,a9,a5,a3,a4⟩,o,ha,_,j⟩
  obtain⟨O,rfl⟩:=o.o1 3 aa
  have j:=(j.ec 1 (aa.1 rfl)).bR 2 hD
  refine RL.aZ 1 b0 j lU fun dh j=>?_
  have j:=((j.pl 11 [1,2,0,4,5,6,7,8,9,10] rfl).cH 1 (D 3) (aa.1 rfl) bB).cH 2 true rfl bB
  exact RL.ep (a6,a7,dh,a9,a5,a3,a4) 4 o ha j
 ·rintro D U w hD aa ae ⟨⟨a6,a7,a8,a9,a5,a3,a4⟩,o,ha,_,j⟩
  obtain⟨O,rfl⟩:=o.o2 4 5 aa
  have j:=(j.ec 2 (aa.1 rfl)).bR 3 hD
  refine RL.bK 2 j jo dc fun di j=>?_
  have j:=((j.pl 11 [1,2,3,0,5,6,7,8,9,10] rfl).cH 2 (D 4) (aa.1 rfl) bB).cH 3 true rfl bB
  exact RL.ep (a6,a7,a8,di,a5,a3,a4) 6 o ha j
 ·rintro D U w hD aa ae ⟨⟨a6,a7,a8,a9,a5,a3,a4⟩,o,ha,_,j⟩
  obtain⟨O,rfl⟩:=o.o1 6 aa
  have j:=j.ec 3 (aa.1 rfl)
  refine RL.bX bm 3 j iy ?_
  have j:=j.cH 3 (D 6) (aa.1 rfl) bB
  exact RL.ep (a6,a7,a8,a9,a5,a3,a4) 7 o ha j
 ·rintro D U w hD aa ae ⟨⟨a6,a7,a8,a9,a5,a3,a4⟩,o,ha,_,j⟩
  obtain⟨O,rfl⟩:=o.o1 7 aa
  have j:=((j.bR 4 (nh ae hD 11)).bR 4 hD).sc Int bm
  refine RL.d8 ([bm]: (List Int)) j [(vi bm)] jo Bu (fun M hs g=>⟨(g.sat 0 _ zr).1,zt⟩) fun dj w j=>?_
  have j:=((j.pl 12 [2,3,4,5,0,7,8,9,10,11] rfl).cH 4 true rfl bB).fF 4 (D 11) (nh ae hD 11) (own 3 a3 b9)
  exact RL.ep (a6,a7,a8,a9,dj,a3,a4) 8 o ha j
 ·rintro D U w hD aa ae ⟨⟨a6,a7,a8,a9,a5,a3,a4⟩,o,ha,_,j⟩
  obtain⟨O,rfl⟩:=o.o1 9 aa
  have j:=(((j.bR 5 (nh ae hD 11)).bR 5 hD).bR 9 hD).freeze 9
  refine RL.cl CY (gW N (i0:=9) j zr dd) fun ca w j=>?_
  have j:=((j.nw 5).fF 5 (D 11) (nh ae hD 11) (rd ca bu)).cH 9 true rfl (own 81 bt bk)
  exact RL.ep (a6,a7,a8,a9,a5,a3,ca) 10 o ha j
 ·rintro D U w hD aa ae ⟨⟨a6,a7,a8,a9,a5,a3,a4⟩,o,ha,_,j⟩
  obtain⟨O,rfl⟩:=o.o2 8 10 aa
  have j:=((((j.bR 4 hD).ec 4 (aa.1 rfl)).bR 5 hD).ec 5 (aa.2.1 rfl)).freeze 5
  refine RL.app 4 5 zt zr j zr zr zr zr ra de fun cb w j=>?_
  have j:=(j.cH 4 true rfl (bif D 8 then (own 3 a5 ([bm]: (List Int))) else bB)).cH 5 true rfl (bif D 10 then (own 3 a4 bu) else bB)
  have o:=o.re 12 rfl (v':=cb) (fun h=>ft hD ((ae 12 _ rfl h).1 rfl))
  exact RL.ep (a6,a7,a8,a9,a5,cb,a4) 11 o ha j
 rintro D U w au ⟨⟨a6,a7,a8,a9,a5,a3,a4⟩,o,ha,_,j⟩
 simp only [List.getD_cons_zero,List.getD_cons_succ,au 1 (by decide),au 3 (by decide),au 4 (by decide),au 6 (by decide),au 11 (by decide),au 11 (by decide),au 10 (by decide),bJ] at j
 obtain⟨O,rfl⟩:=(ac (o.at 12 rfl (r9 au 12)) ha).pq
 refine aF (RC.ret ?_)
 obtain rfl:=oi hb
 exact bC (j.pk 10 [4])
def pZ (E:World) (V:List HP) (r:Bool) (U:Nat->Value) (w:World):Prop:=gR bE 26 Tryz.f6 (bA E V r) .ret U w
theorem gy {p0: (List Int)} {p1: (List Int)} {res:Bool} (j:Holds E w V) (h0:V[i0]? =some (rd v0 p0)) (h1:V[i1]? =some (rd v1 p1)) (o:dA N p0 p1=some res):
    Calls bE 6 [v0,v1].toArray w (eT (bA E V res)):=by
 unfold dA at o
 refine enter Tryz.func6 zr zr ?_
 have j:=(j.dup (i0+0) h0).dup (i1+1) h1
 refine RC.sr (bY false (RL.nq (RC.sr (mv v0 (RL.bG 1 p0 j oc (mv v1 (RL.bG 0 p1 j oc (ic ((p0.length:Int)) ((p1.length:Int)) ?_))))))))
 refine RL.nt (dX o (fun o=>?_) fun o=>?_)
 ·refine RC.sr (bY false (RL.nt (RC.rt ?_)))
  obtain rfl:=oi o
  exact bC ⟨rfl,j.drop 2⟩
 refine RC.ss (RC.sr (mv v0 (RL.bG 1 p0 j oc (aX 0 (RL.nt (RC.r0 E V (fun(ab:Unit)=>[rd v0 p0,rd v1 p1]) (fun _=>[]) (fun aa _=>[(0,v0),(1,v1),(12,vi p0.length),(13,vi aa)]) (pZ E V) o ?_ ?_ ?_ ?_))))))
 ·exact j.sp 2 [1,0]
 ·rintro hm aa ab fl _ w hk ⟨O,rfl,j⟩ o
  refine RC.seq (RC.bs (aX (aa:Int) (aI (aa:Int) (RL.nq (RC.v7 mixed ?_)))))
  have j:=j.drew
  refine RO.go (mv v0 (RO.nx (aX (aa:Int) (RO.nx ?_))))
  obtain⟨ad,ah,o⟩:=bd o
  refine RL.bK 0 j jo ah fun al j=>(RO.nx (RL.bX ad 0 j iy (RO.nx (mv v1 (RO.nx (aX (aa:Int) (RO.nx ?_)))))))
  obtain⟨ae,ai,o⟩:=bd o
  refine RL.bK 2 j jo ai fun an j=>(RO.nx (RL.bX ae 0 j iy (RO.nx (ic ad ae (RO.last (aF (dX o (fun o=>?_) fun o=>?_)))))))
  rotate_left
  ·refine RC.skip (bF (aF (RC.region (RL.inc hk hm (aX ((aa+1:Nat):Int) (RL.nil ?_))))))
   obtain rfl:=oi o
   exact⟨rfl,j.sp 4 [2,3]⟩
  refine RC.sr (bY false (RL.nt (RC.rb (aO ?_))))
  obtain rfl:=oi o
  exact⟨rfl,bC ⟨rfl,j.drop 4⟩⟩
 ·intro r U w o hK
  refine aO ?_
  obtain rfl:=oi o
  exact hK
 rintro ab _ w o ⟨O,rfl,j⟩
 refine aF (RC.sr (bY true (RL.nt (RC.ret ?_))))
 obtain rfl:=oi o
 exact bC ⟨rfl,j.drop 2⟩
def nU (E:World) (V:List HP) (res: (List (List Int))×Int) (v:Value) (w:World):Prop:=∃u0:Value,v = .tuple #[u0,(vi res.2)]/\Holds E w ([own 27 u0 res.1]++V)
theorem j1 {p0: (List (List (List Int)))} {res: (List (List Int))×Int} (j:Holds E w V) (h0:V[i0]? =some (rd v0 p0)) (o:eL N p0=some res):
    Calls bE 33 [v0].toArray w (eT (nU E V res)):=by
 unfold eL at o
 refine enter Tryz.func33 zr zr ?_
 have j:=j.dup (i0+0) h0
 refine RC.sr (cT (.slice none 0 0) (aI 0 (RL.ns (cT (.slice none 0 0) (RL.nq (RC.sr (mv v0 (RL.bG 0 p0 j C1 ?_))))))))
 refine aX 0 (RL.nt (RC.f1 E V (fun(ak: (List (List Int))) (a5:Value)=>[rd v0 p0,own 27 a5 ak]) (fun _ a5=>[(0,v0),(4,a5)]) (fun al _ _=>[(17,v0),(18,vi p0.length),(19,vi al)]) o ?_ ?_ ?_))
 ·have j:=j.dV (List Int) 27
  exact⟨(.slice none 0 0),j.sp 2 [1,0]⟩
 ·rintro hm al ak s' _ w hk ⟨br,O,rfl,j⟩ o
  refine RC.seq (RC.bs ?_)
  obtain⟨af,bt,o⟩:=bd o
  refine RL.bK 0 j A2 bt fun b8 j=>(RL.aZ 0 af j o6 fun ag j=>(cT ag (RL.ns (mv ag (RL.bG 0 af j qB (aX 0 (RL.nt (RC.f1 E V (fun(an: (List (List Int))) (a6:Value)=>[rd v0 p0,rd ag af,own 27 a6 an]) (fun _ a6=>[(0,v0),(4,a6),(17,v0),(18,vi p0.length),(19,vi al)]) (fun au _ _=>[(23,ag),(24,vi af.length),(25,vi au)]) o ?_ ?_ ?_))))))))
  ·exact⟨br,j.sp 4 [2,0,3]⟩
  ·rintro hm au an s' _ w hk ⟨ai,O,rfl,j⟩ o
   refine RC.seq (RC.bs ?_)
   obtain⟨ax,bu,o⟩:=bd o
   refine RL.bK 1 j iS bu fun b9 j=>(RL.aZ 0 ax j lU fun aj j=>(cT aj (RL.ns (mv ai (RL.eW 4 an j qB (aI (an.length:Int) (RL.nq (RC.e0 E V (fun(ab:Int)=>[rd v0 p0,own 27 ai an,rd aj ax,rd ag af]) (fun ab=>[(0,v0),(4,ai),(8,aj),(9,vi ab),(17,v0),(18,vi p0.length),(19,vi al),(23,ag),(24,vi af.length),(25,vi au)]) (fun _=>[]) o ?_ ?_ ?_))))))))
   ·exact j.sp 5 [2,4,0,3]
   ·rintro ab fl _ w ⟨O,rfl,j⟩ o
    refine RC.seq (RC.seq ?_)
    obtain⟨a7,hj,o⟩:=bd o
    refine RC.jn (fun(a7:Bool)=>SH E V [(0,v0),(4,ai),(8,aj),(9,vi ab),(17,v0),(18,vi p0.length),(19,vi al),(23,ag),(24,vi af.length),(25,vi au),(42,vb a7)] [rd v0 p0,own 27 ai an,rd aj ax,rd ag af]) a7 ?_ ?_
    ·refine RC.region (aX ab (ic ab 0 (jG (decide (ab>0)) (iW hj (fun ad hj=>?_) fun ad hj=>?_))))
     rotate_left
     ·refine bS ad (bS ad (bS ad (bS ad (bS ad (bS ad (bS ad (bS ad (iQ ad (vb false) ?_))))))))
      refine RL.nil ?_
      obtain rfl:=oi hj
      exact⟨rfl,j.sp 4 [0,1,2,3]⟩
     refine RL.move ai (cg ad) (RL.move (vi ab) (cg ad) (RL.gq (hg:=(cg ad)) ab 1 ?_))
     obtain⟨ca,bg,hj⟩:=bd hj
     refine RL.cO (hg:=(cg ad)) 1 j zr zr iS bg (RL.l2 (hg:=(cg ad)) 1 j bg lU fun cb j=>?_)
     refine RL.move aj (cg ad) ?_
     obtain⟨bh,bx,hj⟩:=bd hj
     refine RL.cs (hg:=(cg ad)) z4 (eQ N (i0:=0) (i1:=3) j zr zr bx) fun w j=>(RL.kr bh 0 (cg ad) (iQ ad (vb (decide (bh>0))) (RL.nil ?_)))
     obtain rfl:=oi hj
     exact⟨rfl,j.sp 5 [1,2,3,4]⟩
    rintro _ w ⟨O,rfl,j⟩
    refine aF (dX o (fun o=>?_) fun o=>?_)
    rotate_left
    ·refine RC.ex ?_
     obtain rfl:=oi o
     exact⟨rfl,j.sp 4 [0,1,2,3]⟩
    refine RC.sn (RC.block (RC.region (aX ab (RL.gq ab 1 (aI (IntKind.wrap .i64 (ab - 1)) (RL.nil (bF ?_)))))))
    obtain rfl:=oi o
    exact⟨rfl,j.sp 4 [0,1,2,3]⟩
   rintro ab _ w o ⟨O,rfl,j⟩
   refine aF (RC.seq ?_)
   obtain⟨a8,hj,o⟩:=bd o
   refine RC.jn (fun(a8:Bool)=>SH E V [(0,v0),(4,ai),(8,aj),(9,vi ab),(17,v0),(18,vi p0.length),(19,vi al),(23,ag),(24,vi af.length),(25,vi au),(56,vb a8)] [rd v0 p0,own 27 ai an,rd aj ax,rd ag af]) a8 ?_ ?_
   ·refine RC.region (aX ab (ic ab 0 (jG (ab==0) (iW hj (fun ae hj=>?_) fun ae hj=>?_))))
    ·refine bS ae (bS ae (bS ae (bS ae (bS ae (bS ae (bS ae (bS ae (iQ ae (vb true) ?_))))))))
     refine RL.nil ?_
     obtain rfl:=oi hj
     exact⟨rfl,j.sp 4 [0,1,2,3]⟩
    refine RL.move ai (cg ae) (RL.move (vi ab) (cg ae) (RL.gq (hg:=(cg ae)) ab 1 ?_))
    obtain⟨cc,bj,hj⟩:=bd hj
    refine RL.cO (hg:=(cg ae)) 1 j zr zr iS bj (RL.l2 (hg:=(cg ae)) 1 j bj lU fun cd j=>?_)
    refine RL.move aj (cg ae) ?_
    obtain⟨bk,bz,hj⟩:=bd hj
    refine RL.cs (hg:=(cg ae)) De (gy N (i0:=0) (i1:=3) j zr zr bz) fun w j=>(RL.not (hg:=(cg ae)) bk (iQ ae (vb (!bk)) (RL.nil ?_)))
    obtain rfl:=oi hj
    exact⟨rfl,j.sp 5 [1,2,3,4]⟩
   rintro _ w ⟨O,rfl,j⟩
   refine aF ?_
   obtain⟨a9,hj,o⟩:=bd o
   refine RC.jn (fun(a9: (List (List Int))) U w=>∃a2:Value,SH E V [(0,v0),(4,a2),(17,v0),(18,vi p0.length),(19,vi al),(23,ag),(24,vi af.length),(25,vi au)] [rd v0 p0,rd ag af,own 27 a2 a9] U w) a9 ?_ ?_
   ·refine dX hj (fun hj=>?_) fun hj=>?_
    rotate_left
    ·refine RC.skip ?_
     obtain rfl:=oi hj
     exact⟨rfl,ai,j.sp 4 [0,3,1]⟩
    refine RC.region (mv ai (aX ab (mv aj (RL.d8 ([ax]: (List (List Int))) j [aj] iS wm (fun M hs g=>⟨(g.sat 2 _ zr).1,zt⟩) fun cf w j=>?_))))
    obtain⟨ch,b0,hj⟩:=bd hj
    have j:=(j.pull 0).pull 3
    refine RL.cl Ev (z6 iS u5 CM j b0) fun bl w j=>(cT bl (RL.nil ?_))
    obtain rfl:=oi hj
    exact⟨rfl,bl,j.sp 6 [2,5,0]⟩
   rintro _ w ⟨a2,O,rfl,j⟩
   refine bF (aF (RC.region (RL.inc hk hm (aX ((au+1:Nat):Int) (RL.nil ?_)))))
   obtain rfl:=oi o
   exact⟨rfl,a2,j.sp 3 [0,1,2]⟩
  rintro an _ w o ⟨b1,O,rfl,j⟩
  refine bF (aF (RC.region (RL.inc hk hm (aX ((al+1:Nat):Int) (RL.nil ?_)))))
  obtain rfl:=oi o
  exact⟨rfl,b1,j.sp 3 [0,2]⟩
 rintro ak _ w o ⟨ao,O,rfl,j⟩
 refine aF (RC.sr (cT (.slice none 0 0) (RL.nq (RC.sr (mv v0 (RL.bG 0 p0 j C1 (aX 0 (RL.nt ?_))))))))
 refine RC.f1 E V (fun(ay: (List (List Int))) (ba:Value)=>[own 27 ao ak,rd v0 p0,own 27 ba ay]) (fun _ ba=>[(4,ao),(10,ba)]) (fun az _ _=>[(64,v0),(65,vi p0.length),(66,vi az)]) o ?_ ?_ ?_
 ·have j:=j.dV (List Int) 27
  exact⟨(.slice none 0 0),j.sp 3 [2,1,0]⟩
 ·rintro hm az ay s' _ w hk ⟨a0,O,rfl,j⟩ o
  refine RC.seq (RC.bs ?_)
  obtain⟨av,b2,o⟩:=bd o
  refine RL.bK 1 j A2 b2 fun cj j=>(RL.aZ 0 av j o6 fun aw j=>(cT aw (RL.ns (cT (.slice none 0 0) (RL.nq (RC.sr (mv aw (RL.bG 0 av j qB ?_))))))))
  refine aX 0 (RL.nt (RC.f1 E V (fun(a1: (List Int)) (bb:Value)=>[own 27 ao ak,own 27 a0 ay,rd v0 p0,rd aw av,own 3 bb a1]) (fun _ bb=>[(4,ao),(10,a0),(13,bb),(64,v0),(65,vi p0.length),(66,vi az)]) (fun a3 _ _=>[(70,aw),(71,vi av.length),(72,vi a3)]) o ?_ ?_ ?_))
  ·have j:=j.dV Int 3
   exact⟨(.slice none 0 0),j.sp 6 [3,5,4,1,0]⟩
  ·rintro hm a3 a1 s' _ w hk ⟨bc,O,rfl,j⟩ o
   refine RC.seq (RC.bs ?_)
   obtain⟨bm,b3,o⟩:=bd o
   refine RL.bK 3 j iS b3 fun ck j=>(RL.aZ 0 bm j lU fun a4 j=>(cT a4 (RL.ns (aI 0 (RL.nq (RC.e0 E V (fun(ah:Int)=>[own 27 ao ak,own 27 a0 ay,own 3 bc a1,rd a4 bm,rd v0 p0,rd aw av]) (fun ah=>[(4,ao),(10,a0),(13,bc),(16,vi ah),(64,v0),(65,vi p0.length),(66,vi az),(70,aw),(71,vi av.length),(72,vi a3)]) (fun _=>[(15,a4)]) o ?_ ?_ ?_))))))
   ·exact j.sp 7 [2,3,6,0,4,5]
   ·rintro ah fl _ w ⟨O,rfl,j⟩ o
    refine RC.seq (RC.sr (mv ao (aX ah ?_)))
    obtain⟨cm,bn,o⟩:=bd o
    refine RL.cO 0 j zr zr iS bn (RL.l2 0 j bn lU fun cn j=>?_)
    refine mv a4 ?_
    obtain⟨b4,b5,o⟩:=bd o
    refine RL.cs De (gy N (i0:=0) (i1:=4) j zr zr b5) fun w j=>(RL.not b4 (RL.nt (dX o (fun o=>?_) fun o=>?_)))
    rotate_left
    ·refine RC.ex ?_
     obtain rfl:=oi o
     exact⟨rfl,j.sp 7 [1,2,3,4,5,6]⟩
    refine RC.sn (RC.block (RC.region (aX ah (RL.gq ah 1 (aI (IntKind.wrap .i64 (ah+1)) (RL.nil (bF ?_)))))))
    obtain rfl:=oi o
    exact⟨rfl,j.sp 7 [1,2,3,4,5,6]⟩
   rintro ah _ w o ⟨O,rfl,j⟩
   refine aF (RC.region (mv bc (aX ah ?_)))
   have j:=j.sc Int ah
   refine RL.d8 ([ah]: (List Int)) j [(vi ah)] jo Bu (fun M hs g=>⟨(g.sat 0 _ zr).1,zt⟩) fun cp w j=>?_
   have j:=j.freeze 0
   obtain⟨cq,b6,o⟩:=bd o
   refine RL.app 4 0 zt zr j zr zr zr zr ra b6 fun bo w j=>?_
   refine cT bo (RL.nil (bF (aF (RC.region (RL.inc hk hm (aX ((a3+1:Nat):Int) (RL.nil ?_)))))))
   obtain rfl:=oi o
   exact⟨rfl,bo,j.sp 8 [2,3,6,7,4]⟩
  rintro a1 _ w o ⟨bp,O,rfl,j⟩
  refine aF (RC.region (mv a0 (mv bp ?_)))
  have j:=j.freeze 4
  refine RL.d8 ([a1]: (List (List Int))) j [bp] iS wm (fun M hs g=>⟨(g.sat 4 _ zr).1,zt⟩) fun cr w j=>?_
  have j:=j.freeze 0
  obtain⟨ct,b7,o⟩:=bd o
  refine RL.app 2 0 zt zr j zr zr zr zr u5 b7 fun bq w j=>?_
  refine cT bq (RL.nil (bF (aF (RC.region (RL.inc hk hm (aX ((az+1:Nat):Int) (RL.nil ?_)))))))
  obtain rfl:=oi o
  exact⟨rfl,bq,j.sp 6 [1,3,2]⟩
 rintro ay _ w o ⟨bf,O,rfl,j⟩
 refine aF (RC.sr (mv bf (mv ao (RL.eW 0 ak j qB (cT bf (aI (ak.length:Int) (RL.nt (RC.ret ?_))))))))
 obtain rfl:=oi o
 exact rR ⟨bf,zr,j.pk 3 [2]⟩
theorem nr {res: (List Int)} (j:Holds E w V) (hb:fu N p1=some res):
    Calls bE 103 [(.slice none 0 0),(vi p1)].toArray w (eT (cD E V res)):=by
 unfold fu at hb
 refine enter Tryz.func103 zr zr (RC.sr (cT (.slice none 0 0) (RL.nq (RC.sr (aX p1 (ic p1 0 (RL.nt (dX hb (fun hb=>?_) fun hb=>?_))))))))
 ·cases hb
 refine RC.ss (RC.sr (aX p1 (mv (.slice none 0 0) (RL.xV zt zr zr oc (mv (.slice none 0 0) (RL.zx (m:=0) zt zr zr oc (RL.gq ((0:Nat):Int) ((0:Nat):Int) (RL.gq p1 (IntKind.wrap .i64 (((0:Nat):Int) - ((0:Nat):Int))) ?_))))))))
 refine aI (IntKind.wrap .i64 (p1 - (IntKind.wrap .i64 (((0:Nat):Int) - ((0:Nat):Int))))) (RL.ns (aX (IntKind.wrap .i64 (p1 - (IntKind.wrap .i64 (((0:Nat):Int) - ((0:Nat):Int))))) (ic ((IntKind.wrap .i64 (p1 - (IntKind.wrap .i64 (((0:Nat):Int) - ((0:Nat):Int)))))) 0 (RL.nt ?_))))
 obtain⟨ad,o,hb⟩:=bd hb
 refine RC.jn (fun(ad: (List Int)) U w=>∃ab:Value,SH E V [(0,ab)] [own 3 ab ad] U w) ad ?_ ?_
 ·refine dX o (fun o=>?_) fun o=>?_
  rotate_left
  ·refine RC.skip ?_
   obtain rfl:=oi o
   have j:=j.dV Int 3
   exact⟨rfl,(.slice none 0 0),j.sp 1 [0]⟩
  refine RC.region (mv (.slice none 0 0) (mv (.slice none 0 0) (RL.xV zt zr zr oc (RL.AQ Int zt zr zr jo (.inr ⟨rfl,zr⟩) (.inl zr) zr zr (aX (IntKind.wrap .i64 (p1 - (IntKind.wrap .i64 (((0:Nat):Int) - ((0:Nat):Int))))) ?_)))))
  obtain⟨ah,af,o⟩:=bd o
  refine RL.zJ (k:=(IntKind.wrap .i64 (p1 - (IntKind.wrap .i64 (((0:Nat):Int) - ((0:Nat):Int)))))) zt zr j zr zr ra zV Cc af fun ai w j=>?_
  refine mv (.slice none 0 0) (RL.zx (m:=0) zt zr zr oc ?_)
  obtain⟨aj,ag,o⟩:=bd o
  refine RL.oM 0 j jo (.inr ⟨rfl,zr⟩) ag fun ae j=>(cT ae (RL.nil ?_))
  obtain rfl:=oi o
  exact⟨rfl,ae,j.sp 1 [0]⟩
 rintro _ w ⟨ab,O,rfl,j⟩
 refine aF (RC.sr (mv ab (cT ab (RL.nt (RC.ret ?_)))))
 obtain rfl:=oi hb
 exact bC (j.pk 1 [0])
theorem oz {p0: (List (List Int))} {res: (List Int)} (j:Holds E w V) (h0:V[i0]? =some (rd v0 p0)) (o:gk N p0=some res):
    Calls bE 76 [v0].toArray w (eT (cD E V res)):=by
 unfold gk at o
 refine enter Tryz.func76 zr zr ?_
 have j:=j.dup (i0+0) h0
 refine RC.sr (cT (.slice none 0 0) (RL.ns (aI 0 (RL.nq (RC.sr (mv v0 (RL.bG 0 p0 j qB (aX 0 ?_))))))))
 refine RL.nt (RC.f0 E V (fun(aa:Int)=>[rd v0 p0]) (fun aa=>[(0,v0),(3,vi aa)]) (fun ad _=>[(9,v0),(10,vi p0.length),(11,vi ad)]) o ?_ ?_ ?_)
 ·exact j.sp 1 [0]
 ·rintro hm ad aa s' _ w hk ⟨O,rfl,j⟩ o
  refine RC.seq (RC.bs ?_)
  obtain⟨ab,aq,o⟩:=bd o
  refine RL.bK 0 j iS aq fun ay j=>(RL.aZ 0 ab j lU fun aj j=>(cT aj (RL.ns (aX aa (mv aj (RL.bG 0 ab j oc (RL.gq aa (ab.length:Int) (aI (IntKind.wrap .i64 (aa+ (ab.length:Int))) ?_))))))))
  refine RL.ns (aX (IntKind.wrap .i64 (aa+ (ab.length:Int))) (ic ((IntKind.wrap .i64 (aa+ (ab.length:Int)))) 0 (RL.nt (dX o (fun o=>?_) fun o=>?_))))
  ·cases o
  refine RC.skip (bF (aF (RC.region (RL.inc hk hm (aX ((ad+1:Nat):Int) (RL.nil ?_))))))
  obtain rfl:=oi o
  exact⟨rfl,j.sp 3 [2]⟩
 rintro aa _ w o ⟨O,rfl,j⟩
 refine aF (RC.sr (aX aa ?_))
 obtain⟨az,ar,o⟩:=bd o
 refine RL.cl C3 (nr N (p1:=aa) j ar) fun ak w j=>(cT ak (RL.nq (RC.sr (mv v0 (RL.bG 1 p0 j qB (aX 0 (RL.nt (RC.f1 E V (fun(ag: (List Int)) (ah:Value)=>[rd v0 p0,own 3 ah ag]) (fun _ ah=>[(6,ah)]) (fun ai _ _=>[(25,v0),(26,vi p0.length),(27,vi ai)]) o ?_ ?_ ?_))))))))
 ·exact⟨ak,j.sp 2 [1,0]⟩
 ·rintro hm ai ag s' _ w hk ⟨au,O,rfl,j⟩ o
  refine RC.seq (RC.bs ?_)
  obtain⟨av,aw,o⟩:=bd o
  refine RL.bK 0 j iS aw fun a0 j=>(RL.aZ 0 av j lU fun al j=>(cT al (RL.nt (RC.region (mv au (mv al ?_))))))
  obtain⟨a1,ax,o⟩:=bd o
  refine RL.app 3 0 zt zr j zr zr zr zr ra ax fun an w j=>?_
  refine cT an (RL.nil (bF (aF (RC.region (RL.inc hk hm (aX ((ai+1:Nat):Int) (RL.nil ?_)))))))
  obtain rfl:=oi o
  exact⟨rfl,an,j.sp 4 [2,3]⟩
 rintro ag _ w o ⟨ao,O,rfl,j⟩
 refine aF (RC.sr (mv ao (cT ao (RL.nt (RC.ret ?_)))))
 obtain rfl:=oi o
 exact bC (j.pk 2 [1])
def oA (E:World) (V:List HP) (r: (List Int)) (U:Nat->Value) (w:World):Prop:=gR bE 61 Tryz.f78 (cD E V r) .ret U w
theorem nV {p0: (List Int)} {res: (List Int)} (j:Holds E w (own 3 v0 p0::V)) (o:gM N p0=some res):
    Calls bE 78 [v0].toArray w (eT (cD E V res)):=by
 unfold gM at o
 refine enter Tryz.func78 zr zr (RC.sr (cT (.slice none 0 0) (RL.nq (RC.sr (mv v0 (RL.eW 0 p0 j oc (ic ((p0.length:Int)) 2 (RL.nt ?_))))))))
 refine dX o (fun o=>?_) fun o=>?_
 ·refine RC.sr (mv v0 (cT v0 (RL.nt (RC.rt ?_))))
  obtain rfl:=oi o
  exact bC (j.pk 1 [0])
 refine RC.ss (RC.sr (aI 1 (RL.nt (RC.i0 E V (fun(ab:Int)=>[own 3 v0 p0]) (fun _=>[(0,v0)]) (fun ab=>[(3,vi ab)]) (oA E V) o ?_ ?_ ?_ ?_))))
 ·exact j.sp 1 [0]
 ·rintro ab fl _ w ⟨O,rfl,j⟩ o
  refine RC.seq (RC.sr (aX ab (mv v0 (RL.eW 0 p0 j oc (ic ab ((p0.length:Int)) (RL.nt (dX o (fun o=>?_) fun o=>?_)))))))
  rotate_left
  ·refine RC.ex ?_
   obtain rfl:=oi o
   exact⟨rfl,j.sp 1 [0]⟩
  refine RC.ss (RC.block (RC.seq (RC.v7 mixed ?_)))
  have j:=j.drew
  refine RO.go (mv v0 (RO.nx (aX ab (RO.nx ?_))))
  obtain⟨uL,aj,o⟩:=bd o
  refine RL.cO 0 j zr zr jo aj (RO.nx (RL.l1 0 j aj iy (RO.nx (mv v0 (RO.nx (aX ab (RO.nx (RL.gq ab 1 ?_))))))))
  refine RO.nx ?_
  obtain⟨aq,ak,o⟩:=bd o
  refine RL.cO 0 j zr zr jo ak (RO.nx (RL.l1 0 j ak iy (RO.nx (ic uL aq (RO.last (aF (dX o (fun o=>?_) fun o=>?_)))))))
  rotate_left
  ·refine RC.skip (bF (aF (RC.region (aX ab (RL.gq ab 1 (aI (IntKind.wrap .i64 (ab+1)) (RL.nil ?_)))))))
   obtain rfl:=oi o
   exact⟨rfl,j.sp 1 [0]⟩
  refine RC.sr (mv v0 (aX ab ?_))
  obtain⟨az,ae,o⟩:=bd o
  refine RL.view 0 ab j zr zr jo ae (cT (vw v0 (Int.toNat ab) 1) (RL.nq (RC.sr (aI 1 (RL.nt (RC.e0 E V (fun(aa: (List Int)×Int×Int)=>[own 3 v0 aa.1]) (fun aa=>[(0,v0),(3,vi aa.2.1)]) (fun aa=>[(4,(vw v0 (Int.toNat ab) 1)),(5,vi aa.2.2)]) o ?_ ?_ ?_))))))
  ·exact j.sp 1 [0]
  ·rintro aa fl _ w ⟨O,rfl,j⟩ o
   refine RC.seq (RC.sr (aX aa.2.2 (mv (vw v0 (Int.toNat ab) 1) (RL.uE 0 aa.1 zr j zr zr oc (ic aa.2.2 ((((aa.1.length - Int.toNat ab):Nat):Int)) (RL.nt (dX o (fun o=>?_) fun o=>?_)))))))
   rotate_left
   ·refine RC.ex ?_
    obtain rfl:=oi o
    exact⟨rfl,j.sp 1 [0]⟩
   refine RC.ss (RC.block (RC.seq (RC.v7 mixed ?_)))
   have j:=j.drew
   refine RO.go (mv (vw v0 (Int.toNat ab) 1) (RO.nx (aX aa.2.2 (RO.nx ?_))))
   obtain⟨ar,af,o⟩:=bd o
   refine RL.nF 0 ab j zr zr jo (kH ae) (bH af).1 (bH af).2 (RO.nx (RL.fK (i:=0) (f:=(fun x=>x)) zt zr j zr (qY 0 j (bH af).2 0) zr (cX (bH af).2).2.1 Fd.self iy (RO.nx (mv (vw v0 (Int.toNat ab) 1) (RO.nx (aX aa.2.2 (RO.nx (RL.gq aa.2.2 1 ?_))))))))
   refine RO.nx ?_
   obtain⟨au,ag,o⟩:=bd o
   refine RL.nF 0 ab j zr zr jo (kH ae) (bH ag).1 (bH ag).2 (RO.nx (RL.fK (i:=0) (f:=(fun x=>x)) zt zr j zr (qY 0 j (bH ag).2 0) zr (cX (bH ag).2).2.1 Fd.self iy (RO.nx (ic ar au (RO.last (aF ?_))))))
   obtain⟨ah,hj,o⟩:=bd o
   refine RC.jn (fun(ah: (List Int)×Int)=>SH E V [(0,v0),(3,vi ah.2),(4,(vw v0 (Int.toNat ab) 1)),(5,vi aa.2.2)] [own 3 v0 ah.1]) ah ?_ ?_
   ·refine dX hj (fun hj=>?_) fun hj=>?_
    rotate_left
    ·refine RC.skip ?_
     obtain rfl:=oi hj
     exact⟨rfl,j.sp 1 [0]⟩
    refine RC.sr (mv v0 (aX aa.2.1 (mv (vw v0 (Int.toNat ab) 1) (aX aa.2.2 ?_))))
    obtain⟨av,ai,hj⟩:=bd hj
    refine RL.nF 0 ab j zr zr jo (kH ae) (bH ai).1 (bH ai).2 (RL.fK (i:=0) (f:=(fun x=>x)) zt zr j zr (qY 0 j (bH ai).2 0) zr (cX (bH ai).2).2.1 Fd.self iy ?_)
    obtain⟨a0,al,hj⟩:=bd hj
    refine RL.cO 0 j zr zr jo al ?_
    have j:=j.sc Int av
    refine RL.s1 1 0 j al iy fun w j=>?_
    refine RL.nt (RC.region (aX aa.2.1 (RL.gq aa.2.1 1 (aI (IntKind.wrap .i64 (aa.2.1+1)) (RL.nil ?_)))))
    obtain rfl:=oi hj
    exact⟨rfl,j.sp 2 [1]⟩
   rintro _ w ⟨O,rfl,j⟩
   refine bF (aF (RC.region (aX aa.2.2 (RL.gq aa.2.2 1 (aI (IntKind.wrap .i64 (aa.2.2+1)) (RL.nil ?_))))))
   obtain rfl:=oi o
   exact⟨rfl,j.sp 1 [0]⟩
  rintro aa _ w o ⟨O,rfl,j⟩
  refine aF (RC.sr (mv v0 (aX aa.2.1 ?_)))
  obtain⟨a1,an,o⟩:=bd o
  refine RL.view 0 aa.2.1 j zr zr jo an (RL.ql 0 j zr zr ra Cc (uF an) fun w j=>(RL.ns (mv v0 (aX aa.2.1 ?_))))
  obtain⟨a2,aw,o⟩:=bd o
  refine RL.oM 0 j jo (.inr ⟨rfl,zr⟩) aw fun ax j=>(cT ax (RL.nt (RC.rb (aO ?_))))
  obtain rfl:=oi o
  exact⟨rfl,bC (j.pk 1 [0])⟩
 ·intro r U w o hK
  refine aO ?_
  obtain rfl:=oi o
  exact hK
 rintro ab _ w o ⟨O,rfl,j⟩
 refine aF (RC.sr (mv v0 (cT v0 (RL.nt (RC.ret ?_)))))
 obtain rfl:=oi o
 exact bC (j.pk 1 [0])
theorem iH {p0: (List (List Int))} (j:Holds E w V) (h0:V[i0]? =some (rd v0 p0)) (o:dE N p0=some res):
    Calls bE 34 [v0].toArray w (eT (aC E V res)):=by
 unfold dE at o
 refine enter Tryz.func34 zr zr ?_
 have j:=j.dup (i0+0) h0
 refine RC.sr (aI 0 (RL.ns (mv v0 ?_)))
 obtain⟨ag,ad,o⟩:=bd o
 refine RL.cl Ew (oz N (i0:=0) j zr ad) fun aa w j=>(cT aa (RL.ns (mv aa ?_)))
 obtain⟨ah,ae,o⟩:=bd o
 have j:=j.pull 0
 refine RL.cs Ex (Ab Tryz.lay77 j ae) fun w j=>(RL.ns (mv aa ?_))
 have j:=j.pull 0
 obtain⟨ab,af,o⟩:=bd o
 refine RL.cl Ey (nV N j af) fun ai w j=>(RL.eW 0 ab j oc (aI (ab.length:Int) (RL.nt (RC.ret ?_))))
 obtain rfl:=oi o
 exact bC ⟨rfl,j.drop 4⟩
def lX (E:World) (V:List HP) (r:aM) (U:Nat->Value) (w:World):Prop:=gR bE 99 Tryz.f12 (ie E V r) .ret U w
theorem lF {p0: (List aD)} {p1: (List aH)} {res:aM} (o:Holds E w V) (h0:V[i0]? =some (rd v0 p0)) (h1:V[i1]? =some (rd v1 p1)) (hb:cY N p0 p1=some res):
    Calls bE 12 [v0,v1].toArray w (eT (ie E V res)):=by
 unfold cY at hb
 refine enter Tryz.func12 zr zr ?_
 have o:=(o.dup (i0+0) h0).dup (i1+1) h1
 refine RC.sr (RL.alloc o A1.z fun ai w o=>?_)
 refine RL.ns (mv v0 (mv v1 ?_))
 obtain⟨cr,b0,hb⟩:=bd hb
 refine RL.cl Ep (nk N (i0:=2) (i1:=1) o zr zr b0) fun ct w o=>(RL.alloc o A1.z fun ae w o=>?_)
 refine RL.bD 0 o 1 zr pQ fun w o=>?_
 refine RL.ns (aI (-1) (aI (-1) (RL.nt (RC.i0 E V (fun(ab:aM×Int×Int)=>[rd v1 p1,raw 46 ai 4,bx 46 ae ab.1]) (fun _=>[(4,vp ai 0)]) (fun ab=>[(1,v1),(5,vp ae 0),(6,vi ab.2.1),(7,vi ab.2.2)]) (lX E V) hb ?_ ?_ ?_ ?_))))
 ·exact o.sp 5 [3,2,0]
 ·rintro ab fl _ w ⟨O,rfl,o⟩ hb
  refine RC.bs (cT (.slice none 0 0) (cT (.slice none 0 0) (RL.nq (RC.sr (mv v1 (RL.bG 0 p1 o BX (aX 0 (RL.nt ?_))))))))
  refine RC.f2 E V (fun(ao: (List (List (List Int)))×(List (List (List Int)))) (bb bf:Value)=>[rd v1 p1,raw 46 ai 4,bx 46 ae ab.1,own 44 bb ao.1,own 44 bf ao.2]) (fun _ bb bf=>[(1,v1),(4,vp ai 0),(5,vp ae 0),(6,vi ab.2.1),(7,vi ab.2.2),(8,bb),(9,bf)]) (fun ag _ _ _=>[(22,v1),(23,vi p1.length),(24,vi ag)]) hb ?_ ?_ ?_
  ·have o:=(o.dV (List (List Int)) 44).dV (List (List Int)) 44
   exact⟨(.slice none 0 0),(.slice none 0 0),o.sp 5 [2,3,4,1,0]⟩
  ·rintro hm ag ao s' _ w hk ⟨a3,a4,O,rfl,o⟩ hb
   refine RC.seq (RC.bs (aX (ag:Int) ?_))
   obtain⟨az,b2,hb⟩:=bd hb
   refine RL.bK 0 o yK b2 fun cv o=>(RL.aZ 0 az o lq fun cw o=>(RL.alloc o yL.z fun bk w o=>?_))
   refine aI (ag:Int) (RL.bD 0 o 1 zr lq fun w o=>?_)
   refine RL.ns (cT (.slice none 0 0) (cT (.slice none 0 0) (RL.nq (RC.sr (RL.bU zr iX (RL.bI 0 o zr cU oZ fun cx o=>(RL.bG 0 az.aK o rW (aX 0 ?_))))))))
   refine RL.nt (RC.f1 E V (fun(a5: (List (List Int))) (bg:Value)=>[rd v1 p1,raw 46 ai 4,bx 46 ae ab.1,own 44 a3 ao.1,own 44 a4 ao.2,bx 26 bk az,own 27 bg a5]) (fun _ bg=>[(1,v1),(4,vp ai 0),(5,vp ae 0),(6,vi ab.2.1),(7,vi ab.2.2),(8,a3),(9,a4),(10,vi ag),(11,vp bk 0),(12,bg),(13,(.slice none 0 0)),(22,v1),(23,vi p1.length),(24,vi ag)]) (fun aw _ _=>[(31,vi az.aK.length),(32,vi aw)]) hb ?_ ?_ ?_)
   ·have o:=o.dV (List Int) 27
    exact⟨(.slice none 0 0),o.sp 10 [5,6,7,8,9,2,0]⟩
   ·rintro hm aw a5 s' _ w hk ⟨b3,O,rfl,o⟩ hb
    refine RC.seq (RC.bs (aX (aw:Int) (aI (aw:Int) (RL.nt (RC.region (mv b3 (RL.b1 2 o zr pQ fun cy o=>(aX (ag:Int) ?_))))))))
    refine aX (aw:Int) ?_
    obtain⟨b4,b5,hb⟩:=bd hb
    refine RL.cl Et (jF N (p1:=(ag:Int)) (p2:=(aw:Int)) (i0:=0) o zr b5) fun b6 w o=>?_
    have o:=o.freeze 0
    refine RL.d8 ([b4]: (List (List Int))) o [b6] iS wm (fun M hs g=>⟨(g.sat 0 _ zr).1,zt⟩) fun cz w o=>?_
    have o:=o.freeze 0
    obtain⟨c0,b7,hb⟩:=bd hb
    refine RL.app 9 0 zt zr o zr zr zr zr u5 b7 fun bl w o=>?_
    refine cT bl (RL.nil (bF (aF (RC.region (RL.inc hk hm (aX ((aw+1:Nat):Int) (RL.nil ?_)))))))
    obtain rfl:=oi hb
    exact⟨rfl,bl,o.sp 10 [3,4,5,6,7,8,9]⟩
   rintro a5 _ w hb ⟨a7,O,rfl,o⟩
   refine aF (RC.seq (RC.sr (RL.bU zr ke (RL.bI 5 o zr dY q7 fun c1 o=>(RL.bG 0 az.aY o tx (aX 0 (RL.nt (RC.f1 E V (fun(a8: (List (List Int))) (bh:Value)=>[rd v1 p1,raw 46 ai 4,bx 46 ae ab.1,own 44 a3 ao.1,own 44 a4 ao.2,own 27 a7 a5,own 27 bh a8]) (fun _ bh=>[(1,v1),(4,vp ai 0),(5,vp ae 0),(6,vi ab.2.1),(7,vi ab.2.2),(8,a3),(9,a4),(12,a7),(13,bh),(22,v1),(23,vi p1.length),(24,vi ag)]) (fun ax _ _=>[(10,vi ag),(45,vi az.aY.length),(46,vi ax)]) hb ?_ ?_ ?_))))))))
   ·have o:=o.dV (List Int) 27
    exact⟨(.slice none 0 0),o.sp 9 [2,3,4,5,6,8,0]⟩
   ·rintro hm ax a8 s' _ w hk ⟨b8,O,rfl,o⟩ hb
    refine RC.seq (RC.bs (aX (ax:Int) (aI (ax:Int) (RL.nt (RC.region (mv b8 (RL.b1 2 o zr pQ fun c2 o=>(aX (ag:Int) ?_))))))))
    refine aX (ax:Int) ?_
    obtain⟨b9,ca,hb⟩:=bd hb
    refine RL.cl Eu (jZ N (p1:=(ag:Int)) (p2:=(ax:Int)) (i0:=0) o zr ca) fun cb w o=>?_
    have o:=o.freeze 0
    refine RL.d8 ([b9]: (List (List Int))) o [cb] iS wm (fun M hs g=>⟨(g.sat 0 _ zr).1,zt⟩) fun c3 w o=>?_
    have o:=o.freeze 0
    obtain⟨c4,cc,hb⟩:=bd hb
    refine RL.app 9 0 zt zr o zr zr zr zr u5 cc fun bm w o=>?_
    refine cT bm (RL.nil (bF (aF (RC.region (RL.inc hk hm (aX ((ax+1:Nat):Int) (RL.nil ?_)))))))
    obtain rfl:=oi hb
    exact⟨rfl,bm,o.sp 10 [3,4,5,6,7,8,9]⟩
   rintro a8 _ w hb ⟨bn,O,rfl,o⟩
   refine aF (RC.region (mv a3 (mv a7 ?_)))
   have o:=o.freeze 5
   refine RL.d8 ([a5]: (List (List (List Int)))) o [a7] A2 CZ (fun M hs g=>⟨(g.sat 5 _ zr).1,zt⟩) fun c5 w o=>?_
   have o:=o.freeze 0
   obtain⟨c6,cd,hb⟩:=bd hb
   refine RL.app 4 0 zt zr o zr zr zr zr C0 cd fun bo w o=>?_
   refine mv a4 (mv bn ?_)
   have o:=o.freeze 7
   refine RL.d8 ([a8]: (List (List (List Int)))) o [bn] A2 CZ (fun M hs g=>⟨(g.sat 7 _ zr).1,zt⟩) fun c7 w o=>?_
   have o:=o.freeze 0
   obtain⟨c8,cf,hb⟩:=bd hb
   refine RL.app 6 0 zt zr o zr zr zr zr C0 cf fun bp w o=>?_
   refine cT bo (cT bp (RL.nil (bF (aF (RC.region (RL.inc hk hm (aX ((ag+1:Nat):Int) (RL.nil ?_))))))))
   obtain rfl:=oi hb
   exact⟨rfl,bo,bp,o.sp 9 [2,3,4,5,6]⟩
  rintro ao _ w hb ⟨bq,br,O,rfl,o⟩
  refine aF (RC.sr (RL.b1 2 o zr pQ fun cg o=>(RL.vR zt zr o CU zr fun a9 w o=>?_)))
  refine RL.yr (i:=0) (j:=1) zt o zr zr zr zr pQ zr fun w o=>?_
  obtain⟨cs,hcs,o⟩:=o.AP (i:=0) rfl
  obtain⟨a0,ay,bt,bu,rfl⟩:=Dp hcs
  have o:=(((o.iY (i:=0) (k:=0) (f:=fun x=>x.t) rfl dK rfl rfl rfl).iY (i:=1) (k:=1) (f:=fun x=>x.l) rfl fP rfl rfl rfl).iY (i:=2) (k:=2) (f:=fun x=>x.parts) rfl dL rfl rfl rfl).iY (i:=3) (k:=3) (f:=fun x=>x.qp) rfl dM rfl rfl rfl
  refine RL.ns (aI 0 (aI 0 (RL.ns (mv bq ?_))))
  have o:=o.freeze 10
  obtain⟨ad,ch,hb⟩:=bd hb
  refine RL.cl C2 (j1 N (i0:=10) o zr ch) ?_
  rintro _ w ⟨aq,rfl,o⟩
  refine mv (.tuple #[aq,(vi ad.2)]) (RL.extract aq (RL.extract (vi ad.2) (RL.bU zr pR (RL.kx 6 aq o zr zr (oN 0 o) o6 fun w o=>?_))))
  refine aI ad.2 (RL.ns (mv br ?_))
  have o:=o.freeze 12
  obtain⟨ah,cj,hb⟩:=bd hb
  refine RL.cl C2 (j1 N (i0:=12) o zr cj) ?_
  rintro _ w ⟨ar,rfl,o⟩
  refine mv (.tuple #[ar,(vi ah.2)]) (RL.extract ar (RL.extract (vi ah.2) (RL.bU zr pS (RL.kx 7 ar o zr zr (oN 0 o) o6 fun w o=>?_))))
  refine aI ah.2 (RL.nq (RC.sr (aX ab.2.1 (ic ab.2.1 0 (RL.nt ?_)))))
  obtain⟨aj,hj,hb⟩:=bd hb
  refine RC.jn (fun(aj:Int×Int)=>SH E V [(1,v1),(4,vp ai 0),(5,vp ae 0),(6,vi aj.1),(7,vi aj.2),(16,vp a9 0),(17,vi ad.2),(18,vi ah.2)] [rd v1 p1,raw 46 ai 4,bx 46 ae ab.1,bc 46 a9 [a0,ay,aq,ar],rd a0 ab.1.t,rd ay ab.1.l,own 27 aq ad.1,own 27 ar ah.1]) aj ?_ ?_
  ·refine dX hj (fun hj=>?_) fun hj=>?_
   rotate_left
   ·refine RC.skip ?_
    obtain rfl:=oi hj
    exact⟨rfl,o.sp 14 [9,10,11,7,5,4,1,0]⟩
   obtain⟨bw,ck,hj⟩:=bd hj
   obtain⟨bz,cm,hj⟩:=bd hj
   refine RC.zP E V mixed [1,0,0,1,0,0,1,1] [1,4] (fun(x:Value×Value)=>(fun ak al=>[(0,81,(vp ae 2)),(1,82,ak),(2,83,(vi bw)),(3,84,(vp ae 3)),(4,85,al),(5,86,(vi bz)),(6,6,(vi bw)),(7,7,(vi bz))]) x.1 x.2) [(1,v1),(4,vp ai 0),(5,vp ae 0),(16,vp a9 0),(17,vi ad.2),(18,vi ah.2)] [] (fun(D:Nat->Bool) (x:Value×Value)=>(fun ak al=>[bif D 0 then (rd ak ab.1.parts) else bB,bif D 1 then (rd al ab.1.qp) else bB,own 27 ar ah.1,own 27 aq ad.1,rd bu ab.1.qp,rd bt ab.1.parts,rd ay ab.1.l,rd a0 ab.1.t,Dn [a0,ay,bt,bu] ab.1,bc 46 a9 [a0,ay,aq,ar],rd cg ab.1,rd v1 p1,raw 46 ai 4,bx 46 ae ab.1,rd bq ao.1,rd br ao.2]) x.1 x.2) (fun x=>by kernel_rfl) ?_ ⟨fun _=>i4 gn pR,?_,?_,fun _=>i4 gn pS,?_,?_,fun _=>xl gn,fun _=>xl gn,trivial⟩ ?_
   ·have o:=((o.drew).bB).bB
    exact⟨(undef,undef),cA.none,(x0 zr),zt,o⟩
   ·rintro D U w hD an bj ⟨⟨ak,al⟩,hv,ha,_,o⟩
    obtain⟨O,rfl⟩:=hv.o1 0 an
    have o:=o.bR 0 hD
    refine RL.bI 13 o zr dL o6 fun cn o=>?_
    have o:=o.nw 0
    exact RL.ep (cn,al) 1 hv ha o
   ·rintro D U w hD an bj ⟨⟨ak,al⟩,hv,ha,_,o⟩
    obtain⟨O,rfl⟩:=hv.o1 1 an
    have o:=o.ec 0 (an.1 rfl)
    refine RL.cs C4 (iH N (i0:=0) o zr ck) fun w o=>?_
    have o:=o.cH 0 (D 1) (an.1 rfl) bB
    exact RL.ep (ak,al) 2 hv ha o
   ·rintro D U w hD an bj ⟨⟨ak,al⟩,hv,ha,_,o⟩
    obtain⟨O,rfl⟩:=hv.o1 3 an
    have o:=o.bR 1 hD
    refine RL.bI 13 o zr dM o6 fun cp o=>?_
    have o:=o.nw 1
    exact RL.ep (ak,cp) 4 hv ha o
   ·rintro D U w hD an bj ⟨⟨ak,al⟩,hv,ha,_,o⟩
    obtain⟨O,rfl⟩:=hv.o1 4 an
    have o:=o.ec 1 (an.1 rfl)
    refine RL.cs C4 (iH N (i0:=1) o zr cm) fun w o=>?_
    have o:=o.cH 1 (D 4) (an.1 rfl) bB
    exact RL.ep (ak,al) 5 hv ha o
   rintro D U w ba ⟨⟨ak,al⟩,hv,ha,_,o⟩
   have o:=(o.ec 0 (r9 ba 1)).ec 1 (r9 ba 4)
   obtain⟨O,rfl⟩:=(ac (hv.at 6 rfl (r9 ba 6)) (ac (hv.at 7 rfl (r9 ba 7)) ha)).pq
   obtain rfl:=oi hj
   exact⟨rfl,o.sp 16 [11,12,13,9,7,6,3,2]⟩
  rintro _ w ⟨O,rfl,o⟩
  refine aF (RC.seq (RC.sr (aX ad.2 (aX aj.1 (ic ad.2 aj.1 (jG (decide (ad.2<=aj.1)) (RL.g1 (vi ah.2) zr zr se (RL.g1 (vi aj.2) zr zr se ?_))))))))
  refine RL.g1 (vb (decide (ah.2<=aj.2))) zr zr (vB .leq) (RL.pick (b:=(decide (ad.2<=aj.1))) (v:=(vb ((decide (ad.2<=aj.1))&&(decide (ah.2<=aj.2))))) zt zr zr (lg true) (RL.nt (dX hb (fun hb=>?_) fun hb=>?_)))
  ·refine RC.sr (RL.b1 2 o zr pQ fun c9 o=>(RL.bD 2 o 0 zr pQ fun w o=>?_))
   refine RL.nt (RC.rt (dx ?_))
   obtain rfl:=oi hb
   exact⟨rfl,Cj 2 zr o zr zr pQ fun da o=>(o.pk 10 [0])⟩
  refine RC.sn (RC.region ?_)
  have o:=((o.freeze 6).freeze 7).vQ (i:=3) (x:=(⟨ab.1.t,ab.1.l,ad.1,ah.1⟩:aM)) rfl (fun M hs g=>⟨[a0],[ay,aq,ar],rfl,(n3 (g.sat 4 _ rfl).1),⟨[ay],[aq,ar],rfl,(n3 (g.sat 5 _ rfl).1),⟨[aq],[ar],rfl,(n3 (g.sat 6 _ rfl).1),(n3 (g.sat 7 _ rfl).1)⟩⟩⟩)
  refine RL.b1 3 o zr pQ fun db o=>(aX ad.2 (aX ah.2 (RL.zy (i:=3) (j:=0) zt o zr zr zr zr pQ fun w o=>?_)))
  refine aI ad.2 (aI ah.2 (RL.nil (bF ?_)))
  obtain rfl:=oi hb
  exact⟨rfl,o.sp 9 [1,2,3]⟩
 ·intro r U w hb hK
  obtain rfl:=oi hb
  exact hK
 rintro ab _ w hb ⟨O,rfl,o⟩
 cases hb
theorem mm {p0: (List aD)} {p1:aH} {res: (List Int)×(List Int)×Int} (j:Holds E w V) (h0:V[i0]? =some (rd v0 p0)) (h1:V[i1]? =some (rd v1 p1)) (o:fS N p0 p1=some res):
    Calls bE 5 [v0,v1].toArray w (eT (l7 E V res)):=by
 unfold fS at o
 refine enter Tryz.func5 zr zr ?_
 have j:=(j.dup (i0+0) h0).dup (i1+1) h1
 refine RC.sr (RL.cW 0 v1 j zr fun al w j=>?_)
 refine cT (.slice none 0 0) (cT (.slice none 0 0) (aI 0 (RL.nq (RC.sr (mv v0 (RL.b1 0 j zr lq fun an j=>?_))))))
 obtain⟨aa,ae,o⟩:=bd o
 refine RL.cs Ej (lD N (i0:=3) (i1:=0) j zr zr ae) fun w j=>(aI aa (RL.ns (aX aa (ic aa 0 (RL.nt (dX o (fun o=>?_) fun o=>?_))))))
 ·refine RC.sr (aX aa (cT (.slice none 0 0) (cT (.slice none 0 0) (aI aa (RL.nt (RC.rt ?_))))))
  obtain rfl:=oi o
  have j:=(j.uC Int).uC Int
  exact AD zr zr zr zr ⟨(.slice none 0 0),(.slice none 0 0),zr,j.pk 6 [1,0]⟩
 refine RC.sx (mv v0 (RL.b1 1 j zr lq fun af j=>(RL.d8 ([p1]: (List aH)) j [af] yK yL (fun M hs g=>⟨(g.sat 0 _ zr).1,zt⟩) fun ao w j=>?_)))
 have j:=j.freeze 0
 obtain⟨aq,ag,o⟩:=bd o
 refine RL.cl Ez (lF N (i0:=5) (i1:=0) j zr zr ag) fun ar w j=>(RL.alloc j A1.z fun au w j=>?_)
 refine RL.bD 0 j 1 zr pQ fun w j=>?_
 refine RL.nq (RC.v7 mixed ?_)
 have j:=j.drew
 refine RO.go (RL.bU zr pR (RO.nx (RL.bI 0 j zr dL o6 fun av j=>(RO.nx ?_))))
 obtain⟨ah,ai,o⟩:=bd o
 refine RL.bK 0 j iS ai fun aw j=>(RO.nx (RL.aZ 0 ah j lU fun ab j=>(RO.nx (RL.bU zr pS (RO.nx (RL.bI 3 j zr dM o6 fun ax j=>(RO.nx ?_)))))))
 obtain⟨aj,ak,o⟩:=bd o
 refine RL.bK 0 j iS ak fun ay j=>(RO.nx (RL.aZ 0 aj j lU fun ad j=>(RO.nx (cT ab (RO.nx (cT ad (RO.nx (aI 0 ?_))))))))
 refine RO.last (aF (RC.ret ?_))
 obtain rfl:=oi o
 exact AD zr zr zr zr ⟨ab,ad,zr,j.pk 14 [3,0]⟩
theorem qJ {p0: (List aD)} {p1:Part} {res: (List bT)} (j:Holds E w V) (h0:V[i0]? =some (rd v0 p0)) (h1:V[i1]? =some (rd v1 p1)) (o:lk N p0 p1=some res):
    Calls bE 79 [v0,v1].toArray w (eT (my E V res)):=by
 unfold lk at o
 refine enter Tryz.func79 zr zr ?_
 have j:=(j.dup (i0+0) h0).dup (i1+1) h1
 refine RC.sr (RL.cW 0 v1 j zr fun ag w j=>?_)
 refine cT (.slice none 0 0) (RL.ns (cT (.slice none 0 0) (RL.nq (RC.sr (mv v0 (mv v0 (RL.bU zr lu (RL.aV 0 j zr gB fY ?_))))))))
 obtain⟨aw,ak,o⟩:=bd o
 refine RL.cs AX (iv N (p1:=p1.cE) (i0:=2) j zr ak) fun w j=>?_
 obtain⟨ab,al,o⟩:=bd o
 refine RL.bK 2 j qA al fun ax j=>(RL.gS 0 zt j zr iC cF fun ay j=>(RL.aZ 0 ab.aP j ob fun ah j=>(RL.bG 0 ab.aP j pN (aX 0 (RL.nt (RC.f1 E V (fun(ad: (List bT)) (ae:Value)=>[bx 57 ag p1,rd ah ab.aP,own 59 ae ad]) (fun _ ae=>[(5,ae)]) (fun af _ _=>[(3,vp ag 0),(15,ah),(16,vi ab.aP.length),(17,vi af)]) o ?_ ?_ ?_))))))
 ·have j:=j.dV bT 59
  exact⟨(.slice none 0 0),j.sp 7 [4,1,0]⟩
 ·rintro hm af ad s' _ w hk ⟨aq,O,rfl,j⟩ o
  refine RC.seq (RC.bs ?_)
  obtain⟨aa,ar,o⟩:=bd o
  refine RL.bK 1 j mf ar fun az j=>(RL.aZ 0 aa j mg fun a0 j=>(RL.alloc j tw.z fun a1 w j=>?_))
  refine RL.bD 0 j 1 zr mg fun w j=>?_
  refine RL.nt (RC.region (mv aq (RL.bU zr lr (RL.aV 3 j zr gA fY (RL.bU zr kK (RL.aV 0 j zr ee fY ?_))))))
  have j:=(j.sc aT p1.Name).sc aT aa.Name
  refine RL.build (⟨p1.Name,aa.Name⟩:bT) trivial rfl j [(0,(str p1.Name)),(1,(str aa.Name))] rfl AY rfl (fun M hs g=>by have h:=x5 M;exact dT.cons (f:=fun(x:bT) y=>{x with Part:=y}) h qy (g.sat 1 _ rfl).1 fun _ h=>dT.cons (f:=fun(x:bT) y=>{x with bT:=y}) h qz (g.sat 0 _ rfl).1 fun _ h=>dT.nil h) fun au j=>?_
  refine RL.d8 ([(⟨p1.Name,aa.Name⟩:bT)]: (List bT)) j [au] rY wj (fun M hs g=>⟨(g.sat 0 _ zr).1,zt⟩) fun a2 w j=>?_
  have j:=j.freeze 0
  obtain⟨a3,av,o⟩:=bd o
  refine RL.app 9 0 zt zr j zr zr zr zr C5 av fun ai w j=>?_
  refine cT ai (RL.nil (bF (aF (RC.region (RL.inc hk hm (aX ((af+1:Nat):Int) (RL.nil ?_)))))))
  obtain rfl:=oi o
  exact⟨rfl,ai,j.sp 10 [7,8,9]⟩
 rintro ad _ w o ⟨aj,O,rfl,j⟩
 refine aF (RC.sr (mv aj (cT aj (RL.nt (RC.ret ?_)))))
 obtain rfl:=oi o
 exact bC (j.pk 3 [2])
theorem p4 {p0: (List aD)} {p1:aH} {res: (List bT)} (j:Holds E w V) (h0:V[i0]? =some (rd v0 p0)) (h1:V[i1]? =some (rd v1 p1)) (o:kI N p0 p1=some res):
    Calls bE 35 [v0,v1].toArray w (eT (my E V res)):=by
 unfold kI at o
 refine enter Tryz.func35 zr zr ?_
 have j:=(j.dup (i0+0) h0).dup (i1+1) h1
 refine RC.sr (RL.cW 0 v1 j zr fun a8 w j=>?_)
 refine cT (.slice none 0 0) (RL.ns (RL.b1 0 j zr lq fun a9 j=>?_))
 obtain⟨aa,a0,o⟩:=bd o
 refine RL.cl CF (nH N (i0:=0) j zr a0) fun ad w j=>(cT ad (RL.ns (cT (.slice none 0 0) (RL.nq (RC.sr (RL.bU zr iX (RL.bI 2 j zr cU oZ fun af j=>(RL.bG 0 p1.aK j rW ?_))))))))
 refine aX 0 (RL.nt (RC.f1 E V (fun(al: (List bT)) (an:Value)=>[rd v0 p0,mp ad aa,rd af p1.aK,own 59 an al]) (fun _ an=>[(6,an)]) (fun ag _ _=>[(0,v0),(5,ad),(16,af),(17,vi p1.aK.length),(18,vi ag)]) o ?_ ?_ ?_))
 ·have j:=j.dV bT 59
  exact⟨(.slice none 0 0),j.sp 7 [6,2,1,0]⟩
 ·rintro hm ag al s' _ w hk ⟨a1,O,rfl,j⟩ o
  refine RC.seq (RC.bs ?_)
  obtain⟨a2,a3,o⟩:=bd o
  refine RL.bK 2 j o4 a3 fun ba j=>(RL.aZ 0 a2 j m1 fun bb j=>(RL.alloc j uW.z fun bc w j=>?_))
  refine RL.bD 0 j 1 zr m1 fun w j=>?_
  refine RL.ns (mv v0 (RL.b1 0 j zr m1 fun bf j=>?_))
  obtain⟨ah,a4,o⟩:=bd o
  refine RL.cl EE (qJ N (i0:=4) (i1:=0) j zr zr a4) fun ai w j=>(RL.eW 0 ah j rX (aX 0 (RL.nt (RC.f1 E V (fun(ar: (List bT)) (au:Value)=>[rd v0 p0,mp ad aa,rd af p1.aK,own 59 ai ah,own 59 au ar]) (fun _ au=>[(0,v0),(5,ad),(6,au),(16,af),(17,vi p1.aK.length),(18,vi ag)]) (fun aj _ _=>[(24,ai),(25,vi ah.length),(26,vi aj)]) o ?_ ?_ ?_))))
  ·exact⟨a1,j.sp 9 [5,6,7,0,8]⟩
  ·rintro hm aj ar s' _ w hk ⟨aw,O,rfl,j⟩ o
   refine RC.seq (RC.bs ?_)
   obtain⟨ab,ax,o⟩:=bd o
   refine RL.cO 3 j zr zr rY ax (RL.l2 3 j ax jm fun bg j=>?_)
   refine RL.alloc j wj.z fun bh w j=>?_
   refine RL.bD 0 j 1 zr jm fun w j=>?_
   refine RL.ns (mv ad (RL.b1 0 j zr jm fun bj j=>(RL.vP 4 ab zt zr j zr (pK 0 j zr) zr BR (mv (.tuple #[(vi (ia aa ab (0:Int))),(vb (ka aa ab))]) (RL.extract (vi (ia aa ab (0:Int))) (RL.extract (vb (ka aa ab)) (aI (ia aa ab (0:Int)) (bY (ka aa ab) ?_))))))))
   refine RL.ns (jG (ka aa ab) (RL.not (ka aa ab) (RL.nt ?_)))
   obtain⟨av,hj,o⟩:=bd o
   refine RC.jn (fun(av: (List bT)) U w=>∃ak:Value,SH E V [(0,v0),(5,ad),(6,ak),(16,af),(17,vi p1.aK.length),(18,vi ag),(24,ai),(25,vi ah.length),(26,vi aj)] [rd v0 p0,mp ad aa,rd af p1.aK,own 59 ai ah,own 59 ak av] U w) av ?_ ?_
   ·refine dX hj (fun hj=>?_) fun hj=>?_
    rotate_left
    ·refine RC.skip ?_
     obtain rfl:=oi hj
     exact⟨rfl,aw,j.sp 8 [3,4,5,6,7]⟩
    refine RC.region (mv aw (RL.b1 1 j zr jm fun a5 j=>(RL.d8 ([ab]: (List bT)) j [a5] rY wj (fun M hs g=>⟨(g.sat 0 _ zr).1,zt⟩) fun bk w j=>?_)))
    have j:=j.freeze 0
    obtain⟨bl,a6,hj⟩:=bd hj
    refine RL.app 9 0 zt zr j zr zr zr zr C5 a6 fun ay w j=>?_
    refine cT ay (RL.nil ?_)
    obtain rfl:=oi hj
    exact⟨rfl,ay,j.sp 10 [5,6,7,8,9]⟩
   rintro _ w ⟨ak,O,rfl,j⟩
   refine bF (aF (RC.region (RL.inc hk hm (aX ((aj+1:Nat):Int) (RL.nil ?_)))))
   obtain rfl:=oi o
   exact⟨rfl,ak,j.sp 5 [0,1,2,3,4]⟩
  rintro ar _ w o ⟨a7,O,rfl,j⟩
  refine bF (aF (RC.region (RL.inc hk hm (aX ((ag+1:Nat):Int) (RL.nil ?_)))))
  obtain rfl:=oi o
  exact⟨rfl,a7,j.sp 5 [0,1,2,4]⟩
 rintro al _ w o ⟨az,O,rfl,j⟩
 refine aF (RC.sr (mv az (cT az (RL.nt (RC.ret ?_)))))
 obtain rfl:=oi o
 exact bC (j.pk 4 [3])
def r5 (E:World) (V:List HP) (res: (List bT)×Int) (v:Value) (w:World):Prop:=∃u0:Value,v = .tuple #[u0,(vi res.2)]/\Holds E w ([own 59 u0 res.1]++V)
theorem rl {p0: (List aD)} {p1:aH} {res: (List bT)×Int} (j:Holds E w V) (h0:V[i0]? =some (rd v0 p0)) (h1:V[i1]? =some (rd v1 p1)) (o:md N p0 p1=some res):
    Calls bE 13 [v0,v1].toArray w (eT (r5 E V res)):=by
 unfold md at o
 refine enter Tryz.func13 zr zr ?_
 have j:=(j.dup (i0+0) h0).dup (i1+1) h1
 refine RC.sr (RL.cW 0 v1 j zr fun af w j=>?_)
 refine cT (.slice none 0 0) (aI 0 (RL.nq (RC.sr (mv v0 (RL.b1 0 j zr lq fun ag j=>?_)))))
 obtain⟨aa,ad,o⟩:=bd o
 refine RL.cs E3 (kD N (i0:=3) (i1:=0) j zr zr ad) fun w j=>(aI aa (RL.ns (aX aa (ic aa 0 (RL.nt (dX o (fun o=>?_) fun o=>?_))))))
 ·refine RC.sr (aX aa (cT (.slice none 0 0) (aI aa (RL.nt (RC.rt ?_)))))
  obtain rfl:=oi o
  have j:=j.dV bT 59
  exact rR ⟨(.slice none 0 0),zr,j.pk 5 [0]⟩
 refine RC.sx (mv v0 (RL.b1 1 j zr lq fun ah j=>?_))
 obtain⟨ai,ae,o⟩:=bd o
 refine RL.cl EF (p4 N (i0:=4) (i1:=0) j zr zr ae) fun ab w j=>(cT ab (aI 0 (RL.nt (RC.ret ?_))))
 obtain rfl:=oi o
 exact rR ⟨ab,zr,j.pk 6 [0]⟩
theorem nu {res:Bool} (j:Holds E w V) (hb:gv N=some res):
    Calls bE 7 [].toArray w (eT (bA E V res)):=by
 unfold gv at hb
 refine enter Tryz.func7 zr zr (RC.sr (bY false (RL.ns ?_)))
 have j:=(j.sc aT ⟨[49]⟩).sc Int 6
 refine RL.build (⟨⟨[49]⟩,6,0⟩:aU) trivial rfl j [(0,(str ⟨[49]⟩)),(1,vi 6)] rfl EA rfl (fun M hs g=>by have h:=yF M;exact dT.cons (f:=fun(x:aU) y=>{x with Name:=y}) h uT (g.sat 1 _ rfl).1 fun _ h=>dT.cons (f:=fun(x:aU) y=>{x with Kind:=y}) h uU (g.sat 0 _ rfl).1 fun _ h=>dT.nil h) fun ak j=>?_
 refine RL.d8 ([(⟨⟨[49]⟩,6,0⟩:aU)]: (List aU)) j [ak] mf tw (fun M hs g=>⟨(g.sat 0 _ zr).1,zt⟩) fun al w j=>?_
 have j:=(j.sc aT ⟨[114]⟩).freeze 1
 refine RL.build (⟨⟨[114]⟩,([(⟨⟨[49]⟩,6,0⟩:aU)]: (List aU))⟩:aD) trivial rfl j [(0,(str ⟨[114]⟩)),(1,al)] rfl EB rfl (fun M hs g=>by have h:=xr M;exact dT.cons (f:=fun(x:aD) y=>{x with Name:=y}) h tt (g.sat 0 _ rfl).1 fun _ h=>dT.cons (f:=fun(x:aD) y=>{x with aP:=y}) h tu (g.sat 1 _ rfl).1 fun _ h=>dT.nil h) fun an j=>?_
 refine RL.d8 ([(⟨⟨[114]⟩,([(⟨⟨[49]⟩,6,0⟩:aU)]: (List aU))⟩:aD)]: (List aD)) j [an] qA xu (fun M hs g=>⟨(g.sat 0 _ zr).1,zt⟩) fun ai w j=>(cT ai (RL.ns (mv ai ?_)))
 have j:=(j.sc aT ⟨[97]⟩).sc aT ⟨[114]⟩
 refine RL.build (⟨⟨[97]⟩,⟨[114]⟩⟩:Part) trivial rfl j [(0,(str ⟨[97]⟩)),(1,(str ⟨[114]⟩))] rfl EC rfl (fun M hs g=>by have h:=BP M;exact dT.cons (f:=fun(x:Part) y=>{x with Name:=y}) h yC (g.sat 1 _ rfl).1 fun _ h=>dT.cons (f:=fun(x:Part) y=>{x with cE:=y}) h yD (g.sat 0 _ rfl).1 fun _ h=>dT.nil h) fun ao j=>?_
 refine RL.d8 ([(⟨⟨[97]⟩,⟨[114]⟩⟩:Part)]: (List Part)) j [ao] o4 uW (fun M hs g=>⟨(g.sat 0 _ zr).1,zt⟩) fun aq w j=>?_
 have j:=j.freeze 0
 refine RL.build (⟨([(⟨⟨[97]⟩,⟨[114]⟩⟩:Part)]: (List Part)),[]⟩:aH) trivial rfl j [(0,aq)] rfl ED rfl (fun M hs g=>by have h:=yE M;exact dT.cons (f:=fun(x:aH) y=>{x with aK:=y}) h uV (g.sat 0 _ rfl).1 fun _ h=>dT.nil h) fun au j=>?_
 have j:=j.freeze 5
 obtain⟨ab,ar,hb⟩:=bd hb
 refine RL.cl EG (rl N (i0:=5) (i1:=0) j zr zr ar) ?_
 rintro _ w ⟨af,rfl,j⟩
 refine mv (.tuple #[af,(vi ab.2)]) (RL.extract af (RL.extract (vi ab.2) (cT af (aI ab.2 (RL.nq ?_)))))
 obtain⟨ag,hj,hb⟩:=bd hb
 refine RC.jn (fun(ag:Bool)=>SH E V [(0,vb ag)] []) ag ?_ ?_
 ·refine RC.region (aX ab.2 (ic ab.2 0 (jG (ab.2==0) (iW hj (fun ad hj=>?_) fun ad hj=>?_))))
  rotate_left
  ·refine bS ad (bS ad (bS ad (iQ ad (vb false) (jG false (xp (xp (xp (xp ?_))))))))
   refine xp (RL.pick (b:=false) (v:=(vb false)) zt zr zr zr (bY false (RL.nil ?_)))
   obtain rfl:=oi hj
   exact⟨rfl,j.sp 13 []⟩
  refine RL.move af (cg ad) (RL.eW (hg:=(cg ad)) 0 ab.1 j rX (RL.kr (ab.1.length:Int) 1 (cg ad) (iQ ad (vb ((ab.1.length:Int)==1)) (jG ((ab.1.length:Int)==1) (iW hj (fun o hj=>?_) fun o hj=>?_)))))
  rotate_left
  ·refine bS o (bS o (bS o (bS o (bS o (iQ o (vb false) (bY false (RL.nil ?_)))))))
   obtain rfl:=oi hj
   exact⟨rfl,j.sp 13 []⟩
  refine RL.move af (cg o) ?_
  obtain⟨ah,aj,hj⟩:=bd hj
  refine RL.cO (hg:=(cg o)) 0 j zr zr rY aj (RL.l2 (hg:=(cg o)) 0 j aj jm fun av j=>?_)
  have j:=(j.sc aT ⟨[97]⟩).sc aT ⟨[49]⟩
  refine RL.build (⟨⟨[97]⟩,⟨[49]⟩⟩:bT) (cg o) rfl j [(0,(str ⟨[97]⟩)),(1,(str ⟨[49]⟩))] rfl AY rfl (fun M hs g=>by have h:=x5 M;exact dT.cons (f:=fun(x:bT) y=>{x with Part:=y}) h qy (g.sat 1 _ rfl).1 fun _ h=>dT.cons (f:=fun(x:bT) y=>{x with bT:=y}) h qz (g.sat 0 _ rfl).1 fun _ h=>dT.nil h) fun aw j=>?_
  refine RL.seq 3 0 ah (⟨⟨[97]⟩,⟨[49]⟩⟩:bT) (cg o) zr j zr zr zr zr zX zr (iQ o (vb (decide (ah= (⟨⟨[97]⟩,⟨[49]⟩⟩:bT)))) (bY (decide (ah= (⟨⟨[97]⟩,⟨[49]⟩⟩:bT))) (RL.nil ?_)))
  obtain rfl:=oi hj
  exact⟨rfl,j.sp 17 []⟩
 rintro _ w ⟨O,rfl,j⟩
 refine aF (RC.ret ?_)
 obtain rfl:=oi hb
 exact bC ⟨rfl,j.drop 0⟩
theorem ij {p0: (List aD)} {p1:aH} {res:Bool} (j:Holds E w V) (h0:V[i0]? =some (rd v0 p0)) (h1:V[i1]? =some (rd v1 p1)) (hb:cR N p0 p1=some res):
    Calls bE 3 [v0,v1].toArray w (eT (bA E V res)):=by
 unfold cR at hb
 refine enter Tryz.func3 zr zr ?_
 have j:=(j.dup (i0+0) h0).dup (i1+1) h1
 refine RC.sr (RL.cW 0 v1 j zr fun ay w j=>?_)
 refine bY false (RL.ns (mv v0 (RL.b1 0 j zr lq fun az j=>?_)))
 obtain⟨ae,ar,hb⟩:=bd hb
 refine RL.cl Ff (pX N (i0:=3) (i1:=0) j zr zr ar) ?_
 rintro _ w ⟨ah,ai,rfl,j⟩
 refine mv (.tuple #[ah,ai,(vi ae.2.2)]) (RL.extract ah (RL.extract ai (RL.extract (vi ae.2.2) (cT ah (cT ai (aI ae.2.2 (RL.ns (mv v0 ?_))))))))
 refine RL.b1 3 j zr lq fun a0 j=>?_
 obtain⟨af,au,hb⟩:=bd hb
 refine RL.cl Fg (mm N (i0:=6) (i1:=0) j zr zr au) ?_
 rintro _ w ⟨aj,ak,rfl,j⟩
 refine mv (.tuple #[aj,ak,(vi af.2.2)]) (RL.extract aj (RL.extract ak (RL.extract (vi af.2.2) (cT aj (cT ak (aI af.2.2 (RL.nq ?_)))))))
 obtain⟨al,o,hb⟩:=bd hb
 refine RC.jn (fun(al:Bool)=>SH E V [(4,vb al)] []) al ?_ ?_
 ·refine RC.region (aX ae.2.2 (aX af.2.2 (ic ae.2.2 af.2.2 (jG (ae.2.2==af.2.2) (iW o (fun aa o=>?_) fun aa o=>?_)))))
  rotate_left
  ·refine bS aa (bS aa (bS aa (iQ aa (vb false) (jG false (xp (xp (xp (RL.pick (b:=false) (v:=(vb false)) zt zr zr zr ?_))))))))
   refine jG false (xp (RL.pick (b:=false) (v:=(vb false)) zt zr zr zr (bY false (RL.nil ?_))))
   obtain rfl:=oi o
   exact⟨rfl,j.sp 9 []⟩
  refine RL.move ah (cg aa) (RL.move aj (cg aa) ?_)
  obtain⟨an,av,o⟩:=bd o
  refine RL.cs (hg:=(cg aa)) De (gy N (i0:=3) (i1:=0) j zr zr av) fun w j=>(iQ aa (vb an) (jG an (iW o (fun ab o=>?_) fun ab o=>?_)))
  rotate_left
  ·refine bS ab (bS ab (bS ab (iQ ab (vb false) (jG false (xp (RL.pick (b:=false) (v:=(vb false)) zt zr zr zr (bY false (RL.nil ?_))))))))
   obtain rfl:=oi o
   exact⟨rfl,j.sp 9 []⟩
  refine RL.move ai (cg ab) (RL.move ak (cg ab) ?_)
  obtain⟨ao,aw,o⟩:=bd o
  refine RL.cs (hg:=(cg ab)) De (gy N (i0:=4) (i1:=1) j zr zr aw) fun w j=>(iQ ab (vb ao) (jG ao (iW o (fun ag o=>?_) fun ag o=>?_)))
  rotate_left
  ·refine bS ag (iQ ag (vb false) (bY false (RL.nil ?_)))
   obtain rfl:=oi o
   exact⟨rfl,j.sp 9 []⟩
  obtain⟨aq,ax,o⟩:=bd o
  refine RL.cs (hg:=(cg ag)) Fh (nu N j ax) fun w j=>(iQ ag (vb aq) (bY aq (RL.nil ?_)))
  obtain rfl:=oi o
  exact⟨rfl,j.sp 9 []⟩
 rintro _ w ⟨O,rfl,j⟩
 refine aF (RC.ret ?_)
 obtain rfl:=oi hb
 exact bC ⟨rfl,j.drop 0⟩
end Go.Gk
