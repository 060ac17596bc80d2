/-
  Printed texts: Go functions as plain functions, and that they are. No statement of the seed is proved here.
-/
import Derived.Test.YtopjilpddngibaaGreatDoorG1
import Derived.Test.YtopjilpddngibaaGreatDoorA2
set_option linter.unusedVariables false
set_option linter.unusedSimpArgs false
set_option linter.unusedSectionVars false
set_option maxRecDepth 100000
set_option maxHeartbeats 40000000
namespace Go.Gk
open Go Go.Proofs
variable (N:Nat) {E w:World} {b0 i0 i1 i2:Nat} {p0 p0_2 p0_3 p1 res:Int} {v0 v0_0 v0_1 v1 v2:Value} {V:List HP}
def o9 (E:World) (V:List HP) (r:Int) (U:Nat->Value) (w:World):Prop:=gR bE 71 Tryz.f8 (aC E V r) .ret U w
theorem kD {p0: (List aD)} {p1:aH} (j:Holds E w V) (h0:V[i0]? =some (rd v0 p0)) (h1:V[i1]? =some (rd v1 p1)) (o:eH N p0 p1=some res):
    Calls bE 8 [v0,v1].toArray w (eT (aC E V res)):=by
 unfold eH at o
 refine enter Tryz.func8 zr zr ?_
 have j:=(j.dup (i0+0) h0).dup (i1+1) h1
 refine RC.sr (RL.cW 1 v0 j zr fun af w j=>?_)
 have j:=j.jv (i:=0) rfl
 refine RL.cW 1 v1 j zr fun ag w j=>?_
 have j:=j.jv (i:=0) rfl
 refine aI 0 (RL.nq (RC.sr (RL.aZ 1 p0 j xt fun a3 j=>?_)))
 obtain⟨aj,ar,o⟩:=bd o
 refine RL.cs Dx (nM N (i0:=0) j zr ar) fun w j=>(aI aj (RL.ns (aX aj (ic aj 0 (RL.nt (dX o (fun o=>?_) fun o=>?_))))))
 ·refine RC.sr (aX aj (aI aj (RL.nt (RC.rt ?_))))
  obtain rfl:=oi o
  exact bC ⟨rfl,j.drop 5⟩
 refine RC.ss (RC.sr (RL.aZ 2 p0 j xt fun a4 j=>(RL.gS 2 zt j zr iX cU fun a5 j=>(RL.aZ 0 p1.aK j oZ fun a6 j=>?_))))
 obtain⟨ak,au,o⟩:=bd o
 refine RL.cs DG (nO N (i0:=2) (i1:=0) j rfl rfl ⟨16,[],rfl,CC,fun w Γl v y0 r i j hi hr=>by obtain rfl:=j.pG (γ:=aT) hi;exact eg (l8 N (p0:=y0) j hr) fun _ _ h=>h⟩ au) fun w j=>(aI ak (RL.ns (aX ak (ic ak 0 (RL.nt (dX o (fun o=>?_) fun o=>?_))))))
 ·refine RC.sr (aX ak (aI ak (RL.nt (RC.rt ?_))))
  obtain rfl:=oi o
  exact bC ⟨rfl,j.drop 8⟩
 refine RC.ss (RC.sr (RL.gS 4 zt j zr ke dY fun a7 j=>(RL.aZ 0 p1.aY j q7 fun a8 j=>(RL.bG 0 p1.aY j tx (ic ((p1.aY.length:Int)) 1000 (RL.nt (dX o (fun o=>?_) fun o=>?_)))))))
 ·refine RC.sr (aI 2 (RL.nt (RC.rt ?_)))
  obtain rfl:=oi o
  exact bC ⟨rfl,j.drop 10⟩
 refine RC.sx (RL.makeMap (κ:=bT) (ν:=Bool) zt zr j fun ah w j=>(cT ah (RL.nq (RC.sr (RL.gS 7 zt j zr ke dY fun a9 j=>(RL.aZ 0 p1.aY j q7 fun al j=>(RL.bG 0 p1.aY j tx (aX 0 ?_))))))))
 refine RL.nt (RC.r0 E V (fun(ao: (List (bT×Bool)))=>[pt (vp af 0) p0,pt (vp ag 0) p1,mp ah ao,rd al p1.aY]) (fun _=>[]) (fun ab _=>[(2,vp af 0),(3,vp ag 0),(7,ah),(29,al),(30,vi p1.aY.length),(31,vi ab)]) (o9 E V) o ?_ ?_ ?_ ?_)
 ·exact j.sp 13 [10,9,2,0]
 ·rintro hm ab ao fl _ w hk ⟨O,rfl,j⟩ o
  refine RC.seq (RC.bs (aX (ab:Int) ?_))
  obtain⟨ad,ax,o⟩:=bd o
  refine RL.bK 3 j uX ax fun bb j=>(RL.aZ 0 ad j tz fun bc j=>(RL.alloc j zW.z fun bf w j=>?_))
  refine aI (ab:Int) (RL.bD 0 j 1 zr tz fun w j=>?_)
  refine RL.nq (RC.sr (RL.bU zr q8 (RL.aV 0 j zr mw fY ?_)))
  obtain⟨ay,az,o⟩:=bd o
  refine RL.cs CC (l8 N (p0:=ad.Name) j az) fun w j=>(RL.not ay (RL.nt (dX o (fun o=>?_) fun o=>?_)))
  ·refine RC.sr (aI 5 (RL.nt (RC.rt (dx (aO ?_)))))
   obtain rfl:=oi o
   exact⟨rfl,bC ⟨rfl,j.drop 7⟩⟩
  refine RC.ss (RC.sr (RL.bU zr mh (RL.bI 0 j zr i5 tA fun bg j=>(RL.bG 0 ad.aP j rX (ic ((ad.aP.length:Int)) 0 (RL.nt (dX o (fun o=>?_) fun o=>?_)))))))
  ·refine RC.sr (aI 9 (RL.nt (RC.rt (dx (aO ?_)))))
   obtain rfl:=oi o
   exact⟨rfl,bC ⟨rfl,j.drop 8⟩⟩
  refine RC.ss (RC.sr (RL.bU zr mh (RL.bI 1 j zr i5 tA fun bh j=>(RL.makeFunc zr [(vp af 0),(vp ag 0)] zr (mv ah ?_)))))
  have j:=j.pull 7
  obtain⟨ai,a0,o⟩:=bd o
  refine RL.cs DQ (mG N (i0:=0) j rfl ⟨18,[(vp af 0),(vp ag 0)],rfl,DO,fun w Γl v y0 r i j hi hr=>by exact eg (mF N (i0:=i) (i1:=Γl.length+5) (i2:=Γl.length+6) j hi qV qV hr) fun _ _ h=>h⟩ a0) fun w j=>(aI ai.1 (RL.ns (aX ai.1 (ic ai.1 0 (RL.nt (dX o (fun o=>?_) fun o=>?_))))))
  ·refine RC.sr (aX ai.1 (aI ai.1 (RL.nt (RC.rt (dx (aO ?_))))))
   obtain rfl:=oi o
   exact⟨rfl,bC ⟨rfl,j.drop 10⟩⟩
  refine RC.ss (RC.sr (RL.bU zr zY (RL.bI 3 j zr wh zZ fun bj j=>(RL.bG 0 ad.kQ j o5 (ic ((ad.kQ.length:Int)) 0 (RL.nt (dX o (fun o=>?_) fun o=>?_)))))))
  ·refine RC.sr (aI 3 (RL.nt (RC.rt (dx (aO ?_)))))
   obtain rfl:=oi o
   exact⟨rfl,bC ⟨rfl,j.drop 11⟩⟩
  refine RC.ss ?_
  obtain⟨aq,hj,o⟩:=bd o
  refine RC.jn (fun(aq:Bool)=>SH E V [(2,vp af 0),(3,vp ag 0),(7,ah),(29,al),(30,vi p1.aY.length),(31,vi ab),(69,vb aq)] [pt (vp af 0) p0,pt (vp ag 0) p1,mp ah ai.2,rd al p1.aY]) aq ?_ ?_
  ·refine RC.v7 mixed ?_
   have j:=j.drew
   refine RO.go (aX (ab:Int) (RO.nx (ic ((ab:Int)) 0 (RO.nx (jG (decide ((ab:Int)>0)) (iW hj (fun aa hj=>?_) fun aa hj=>?_))))))
   rotate_left
   ·refine RO.nx (bS aa (RO.nx (bS aa (RO.nx (bS aa (RO.nx (bS aa (RO.nx ?_))))))))
    refine bS aa (RO.nx (bS aa (RO.nx (bS aa (RO.nx (bS aa (RO.nx (bS aa ?_))))))))
    refine RO.nx (bS aa (RO.nx (iQ aa (vb false) (RO.last ?_))))
    obtain rfl:=oi hj
    exact⟨rfl,j.sp 11 [7,8,1,10]⟩
   refine RO.nx (RL.bU (hg:=(cg aa)) zr q8 (RO.nx (RL.aV (hg:=(cg aa)) 4 j zr mw fY (RO.nx (RL.gS 8 (cg aa) j zr ke dY fun bk j=>(RO.nx (RL.aZ (hg:=(cg aa)) 0 p1.aY j q7 fun bl j=>(RO.nx ?_))))))))
   refine RL.move (vi ab) (cg aa) (RO.nx (RL.gq (hg:=(cg aa)) (ab:Int) 1 (RO.nx ?_)))
   obtain⟨an,a1,hj⟩:=bd hj
   refine RL.bK (hg:=(cg aa)) 0 j uX a1 fun bm j=>(RO.nx (RL.gS 0 (cg aa) j zr q8 mw fun bn j=>(RO.nx (RL.bX (hg:=(cg aa)) an.Name 0 j fY (RO.nx (RL.lR ad.Name an.Name (cg aa) (RO.nx (iQ aa (vb (ad.Name.ks an.Name||ad.Name.iM an.Name)) ?_))))))))
   refine RO.last ?_
   obtain rfl:=oi hj
   exact⟨rfl,j.sp 15 [11,12,5,14]⟩
  rintro _ w ⟨O,rfl,j⟩
  refine aF (dX o (fun o=>?_) fun o=>?_)
  rotate_left
  ·refine RC.skip (bF (aF (RC.region (RL.inc hk hm (aX ((ab+1:Nat):Int) (RL.nil ?_))))))
   obtain rfl:=oi o
   exact⟨rfl,j.sp 4 [0,1,2,3]⟩
  refine RC.sr (aI 8 (RL.nt (RC.rb (aO ?_))))
  obtain rfl:=oi o
  exact⟨rfl,bC ⟨rfl,j.drop 4⟩⟩
 ·intro r U w o hK
  refine aO ?_
  obtain rfl:=oi o
  exact hK
 rintro ao _ w o ⟨O,rfl,j⟩
 refine aF (RC.sr (aI 0 (RL.nt (RC.ret ?_))))
 obtain rfl:=oi o
 exact bC ⟨rfl,j.drop 4⟩
def sU (E:World) (V:List HP) (res: (List (bT×Int))) (v:Value) (w:World):Prop:=Holds E w ([mp v res]++V)
theorem nH {p0:aH} {res: (List (bT×Int))} (o:Holds E w V) (h0:V[i0]? =some (rd v0 p0)) (hb:iP N p0=some res):
    Calls bE 20 [v0].toArray w (eT (sU E V res)):=by
 unfold iP at hb
 refine enter Tryz.func20 zr zr ?_
 have o:=o.dup (i0+0) h0
 refine RC.sr (RL.cW 0 v0 o zr fun ar w o=>?_)
 refine cT (.map none) (RL.ns (RL.makeMap (κ:=bT) (ν:=Int) zt zr o fun ad w o=>(cT ad (RL.nq (RC.sr (RL.bU zr ke (RL.bI 1 o zr dY q7 fun ae o=>(RL.bG 0 p0.aY o tx ?_))))))))
 refine aX 0 (RL.nt (RC.f0 E V (fun(ag: (List (bT×Int)))=>[mp ad ag,rd ae p0.aY]) (fun _=>[(3,ad)]) (fun ab _=>[(10,ae),(11,vi p0.aY.length),(12,vi ab)]) hb ?_ ?_ ?_))
 ·exact o.sp 4 [1,0]
 ·rintro hm ab ag s' _ w hk ⟨O,rfl,o⟩ hb
  refine RC.seq (RC.bs (aX (ab:Int) ?_))
  obtain⟨af,ao,hb⟩:=bd hb
  refine RL.bK 1 o uX ao fun au o=>(RL.aZ 0 af o tz fun av o=>(RL.alloc o zW.z fun aw w o=>?_))
  refine aI (ab:Int) (RL.bD 0 o 1 zr tz fun w o=>?_)
  refine RL.ns (RL.bU zr mh (RL.bI 0 o zr i5 tA fun al o=>(RL.bG 0 af.aP o rX (aX 0 (RL.nt (RC.f0 E V (fun(aj: (List (bT×Int)))=>[mp ad aj,rd ae p0.aY,rd al af.aP]) (fun _=>[(3,ad),(10,ae),(11,vi p0.aY.length),(12,vi ab)]) (fun ak _=>[(4,vi ab),(18,al),(19,vi af.aP.length),(20,vi ak)]) hb ?_ ?_ ?_))))))
  ·exact o.sp 6 [4,5,0]
  ·rintro hm ak aj s' _ w hk ⟨O,rfl,o⟩ hb
   refine RC.seq (RC.bs ?_)
   obtain⟨an,aq,hb⟩:=bd hb
   refine RL.bK 2 o rY aq fun ax o=>(RL.aZ 0 an o jm fun ay o=>(RL.alloc o wj.z fun az w o=>?_))
   refine RL.bD 0 o 1 zr jm fun w o=>?_
   refine RL.nt (RC.region (mv ad (RL.b1 0 o zr jm fun a0 o=>(aX (ab:Int) ?_))))
   have o:=o.sc Int (ab:Int)
   refine RL.mapUpdate (i:=5) (j:=0) (k:=an) zt o zr (pK 1 o zr) zr zr zr BR fun w o=>(RL.nil (bF (aF (RC.region (RL.inc hk hm (aX ((ak+1:Nat):Int) (RL.nil ?_)))))))
   obtain rfl:=oi hb
   exact⟨rfl,o.sp 8 [5,6,7]⟩
  rintro aj _ w hb ⟨O,rfl,o⟩
  refine bF (aF (RC.region (RL.inc hk hm (aX ((ab+1:Nat):Int) (RL.nil ?_)))))
  obtain rfl:=oi hb
  exact⟨rfl,o.sp 3 [0,1]⟩
 rintro ag _ w hb ⟨O,rfl,o⟩
 refine aF (RC.sr (mv ad (cT ad (RL.nt (RC.ret ?_)))))
 obtain rfl:=oi hb
 exact bC (o.pk 2 [0])
theorem pU {p0:aU} {res:Bool} (j:Holds E w V) (h0:V[i0]? =some (rd v0 p0)) (h1:V[i1]? =some (pt v1 p1)) (o:fX N p0 p1=some res):
    Calls bE 47 [v0,v1].toArray w (eT (bA E V res)):=by
 unfold fX at o
 refine enter Tryz.func47 zr zr ?_
 have j:=(j.dup (i0+0) h0).qW (i:=i1+1) h1
 refine RC.sr (RL.cW 1 v0 j zr fun aa w j=>?_)
 refine bY false (RL.ns (RL.bU zr jT (RL.aV 0 j zr dC iy (RL.bX p1 1 j iy (ic p0.aW p1 (bY (p0.aW==p1) (RL.nt (RC.ret ?_))))))))
 obtain rfl:=oi o
 exact bC ⟨rfl,j.drop 3⟩
theorem r4 {p0:aD} {p1:aT} (j:Holds E w V) (h0:V[i0]? =some (rd v0 p0)) (o:jO N p0 p1=some res):
    Calls bE 22 [v0,(str p1)].toArray w (eT (aC E V res)):=by
 unfold jO at o
 refine enter Tryz.func22 zr zr ?_
 have j:=j.dup (i0+0) h0
 refine RC.sr (RL.cW 0 v0 j zr fun ai w j=>?_)
 refine aI 0 (RL.ns (RL.b1 0 j zr lT fun aj j=>(mv (str p1) ?_)))
 obtain⟨aa,ae,o⟩:=bd o
 refine RL.cs CD (mE N (p1:=p1) (i0:=0) j zr ae) fun w j=>(aI aa (RL.nq (RC.sr (RL.bU zr iC (RL.bI 1 j zr cF ob fun ak j=>(aX aa ?_))))))
 obtain⟨ab,af,o⟩:=bd o
 refine RL.bK 0 j mf af fun al j=>(RL.gS 0 zt j zr jT dC fun an j=>(RL.bX ab.aW 0 j iy (RL.alloc j Bu.z fun ad w j=>?_)))
 have j:=j.sc Int ab.aW
 refine RL.bD 1 j 0 zr iy fun w j=>?_
 refine RL.ns (RL.aV (f:=(fun x=>x)) 1 j zr Fd.self iy (ic ab.aW 0 (RL.nt (dX o (fun o=>?_) fun o=>?_))))
 rotate_left
 ·refine RC.sx (aX aa (aI aa (RL.nt (RC.ret ?_))))
  obtain rfl:=oi o
  exact bC ⟨rfl,j.drop 8⟩
 refine RC.sr (RL.bU zr iC (RL.bI 6 j zr cF ob fun ao j=>?_))
 have j:=j.jv (i:=2) rfl
 refine RL.makeFunc zr [(vp ad 0)] zr ?_
 obtain⟨ag,ah,o⟩:=bd o
 refine RL.cs Cy (iu N (i0:=0) j rfl ⟨47,[(vp ad 0)],rfl,DT,fun w Γl v y0 r i j hi hr=>by exact eg (pU N (i0:=i) (i1:=Γl.length+2) j hi qV hr) fun _ _ h=>h⟩ ah) fun w j=>(aI ag (RL.nt (RC.rt ?_)))
 obtain rfl:=oi o
 exact bC ⟨rfl,j.drop 9⟩
def qI (E:World) (V:List HP) (b0:Nat) (res: (List aT)×(List aQ)×Int×Int) (v:Value) (w:World):Prop:=∃u0_0 u0_1:Value,v = .tuple #[]/\Holds E w ([bc 39 b0 [u0_0,u0_1,(vi res.2.2.1),(vi res.2.2.2)],own 9 u0_0 res.1,own 75 u0_1 res.2.1]++V)
theorem pV {p0_0: (List aT)} {p0_1: (List aQ)} {p1: (List aD)} {p2:aH} {res: (List aT)×(List aQ)×Int×Int} (j:Holds E w (bc 39 b0 [v0_0,v0_1,(vi p0_2),(vi p0_3)]::own 9 v0_0 p0_0::own 75 v0_1 p0_1::V)) (h1:V[i1]? =some (rd v1 p1)) (h2:V[i2]? =some (rd v2 p2)) (o:fi N p0_0 p0_1 p0_2 p0_3 p1 p2=some res):
    Calls bE 9 [(vp b0 0),v1,v2].toArray w (eT (qI E V b0 res)):=by
 unfold fi at o
 refine enter Tryz.func9 zr zr ?_
 have j:=(j.dup (i1+3) h1).dup (i2+4) h2
 refine RC.sr (RL.cW 0 v2 j zr fun aq w j=>?_)
 refine RL.ns (RL.b1 0 j zr lq fun b4 j=>?_)
 obtain⟨al,bm,o⟩:=bd o
 refine RL.cl CF (nH N (i0:=0) j zr bm) fun ar w j=>(cT ar (RL.nq (RC.sr (RL.bU zr iX (RL.bI 2 j zr cU oZ fun aw j=>(RL.bG 0 p2.aK j rW (aX 0 (RL.nt ?_))))))))
 refine RC.f2 E V (fun(ay: (List aT)×(List aQ)) (bb bf:Value)=>[bc 39 b0 [bb,bf,(vi p0_2),(vi p0_3)],own 9 bb ay.1,own 75 bf ay.2,rd v1 p1,bx 26 aq p2,mp ar al,rd aw p2.aK]) (fun _ _ _=>[(0,vp b0 0),(5,vp aq 0)]) (fun ah _ _ _=>[(1,v1),(6,ar),(18,aw),(19,vi p2.aK.length),(20,vi ah)]) o ?_ ?_ ?_
 ·exact⟨v0_0,v0_1,j.sp 9 [6,7,8,5,3,1,0]⟩
 ·rintro hm ah ay s' _ w hk ⟨a9,bg,O,rfl,j⟩ o
  refine RC.seq (RC.bs (aX (ah:Int) ?_))
  obtain⟨ab,bn,o⟩:=bd o
  refine RL.bK 6 j o4 bn fun b5 j=>(RL.aZ 0 ab j m1 fun b6 j=>(RL.alloc j uW.z fun a1 w j=>?_))
  refine aI (ah:Int) (RL.bD 0 j 1 zr m1 fun w j=>?_)
  refine RL.ns (mv v1 (mv v1 (RL.bU zr lu (RL.aV 0 j zr gB fY ?_))))
  obtain⟨b7,bo,o⟩:=bd o
  refine RL.cs AX (iv N (p1:=ab.cE) (i0:=6) j zr bo) fun w j=>?_
  obtain⟨av,bp,o⟩:=bd o
  refine RL.bK 6 j qA bp fun b8 j=>(RL.aZ 0 av j lT fun b9 j=>(RL.alloc j xu.z fun a2 w j=>?_))
  refine RL.bD 0 j 1 zr lT fun w j=>?_
  refine RL.nq ?_
  have j:=j.drew
  refine RC.zT (fun w=>Holds E w ([bc 39 b0 [a9,bg,(vi p0_2),(vi p0_3)]]++V)) mixed zr [1,1,1,1,1,0,0,2,2,0,0,2] [0,1,2,3,4,5,6,7,8,9,10,11] (j.pk 13 [6]) (DP.e1 (vp b0 0) zr (fun w=>RL.move (vp b0 0) zt DP.d1) (DP.e1 (vp b0 0) zr (fun w=>RL.move (vp b0 0) zt DP.d1) (DP.e1 (vp b0 0) zr (fun w=>RL.nilCheck zt zr zr DP.d1) (DP.e1 (vp b0 0) zr (fun w=>RL.bU zr xv DP.d1) (DP.Cs a9 zr zr (fun w j=>RL.ir 0 a9 j zZ DP.d1) (DP.e0 zr zr (RL.bU zr lu (eM zr ?_))))))))
  refine RL.aV 3 j zr gB fY (wg zr ?_)
  have j:=j.sc aT ab.cE
  refine RL.d8 ([ab.cE]: (List aT)) j [(str ab.cE)] jD DS (fun M hs g=>⟨(g.sat 0 _ zr).1,zt⟩) fun ca w j=>(DP.d2 (j.pk 15 [8]) (DP.e2 zr zr ?_))
  have j:=j.freeze 0
  obtain⟨bh,bq,o⟩:=bd o
  refine RL.app 9 0 zt zr j zr zr zr zr yH bq fun ax w j=>?_
  refine DP.d2 (j.pk 15 [8]) (DP.e0 zr zr (RL.nilCheck zt zr zr (eM zr (RL.bU zr xv (DP.d0 (DP.E0 zr zr (RL.kx 8 ax j zr zr (oN 9 j) zZ fun w j=>?_)))))))
  refine DP.d2 zt (DP.z (aF (RC.sr (RL.bU zr iC (RL.bI 2 j zr cF ob fun a3 j=>(RL.bG 0 av.aP j pN (aX 0 (RL.nt ?_))))))))
  refine RC.f1 E V (fun(a4: (List aQ)) (bj:Value)=>[bc 39 b0 [ax,bj,(vi p0_2),(vi p0_3)],own 75 bj a4,own 9 ax bh,rd v1 p1,bx 26 aq p2,mp ar al,bx 57 a1 ab,bx 52 a2 av,rd aw p2.aK,rd a3 av.aP]) (fun _ _=>[(0,vp b0 0),(1,v1),(5,vp aq 0),(6,ar),(18,aw),(19,vi p2.aK.length),(20,vi ah)]) (fun a5 _ _=>[(7,vi ah),(8,vp a1 0),(9,vp a2 0),(44,a3),(45,vi av.aP.length),(46,vi a5)]) o ?_ ?_ ?_
  ·exact⟨bg,j.sp 16 [9,11,10,12,13,14,6,3,15,0]⟩
  ·rintro hm a5 a4 s' _ w hk ⟨az,O,rfl,j⟩ o
   refine RC.seq (RC.bs ?_)
   obtain⟨ai,br,o⟩:=bd o
   refine RL.bK 9 j mf br fun cb j=>(RL.aZ 0 ai j mg fun cc j=>(RL.alloc j tw.z fun bk w j=>?_))
   refine RL.bD 0 j 1 zr mg fun w j=>?_
   refine RL.ns (aI (-1) (RL.nq (RC.sr (mv ar (RL.bU zr lr (RL.aV 9 j zr gA fY (RL.bU zr kK (RL.aV 0 j zr ee fY ?_))))))))
   have j:=(j.sc aT ab.Name).sc aT ai.Name
   refine RL.build (⟨ab.Name,ai.Name⟩:bT) trivial rfl j [(0,(str ab.Name)),(1,(str ai.Name))] rfl AY rfl (fun M hs g=>by have h:=x5 M;exact dT.cons (f:=fun(x:bT) y=>{x with Part:=y}) h qy (g.sat 1 _ rfl).1 fun _ h=>dT.cons (f:=fun(x:bT) y=>{x with bT:=y}) h qz (g.sat 0 _ rfl).1 fun _ h=>dT.nil h) fun cd j=>?_
   refine RL.vP 11 (⟨ab.Name,ai.Name⟩:bT) zt zr j zr (pK 0 j zr) zr BR (mv (.tuple #[(vi (ia al (⟨ab.Name,ai.Name⟩:bT) (0:Int))),(vb (ka al (⟨ab.Name,ai.Name⟩:bT)))]) (RL.extract (vi (ia al (⟨ab.Name,ai.Name⟩:bT) (0:Int))) (RL.extract (vb (ka al (⟨ab.Name,ai.Name⟩:bT))) (aI (ia al (⟨ab.Name,ai.Name⟩:bT) (0:Int)) (bY (ka al (⟨ab.Name,ai.Name⟩:bT)) (RL.ns (jG (ka al (⟨ab.Name,ai.Name⟩:bT)) (RL.nt ?_))))))))
   obtain⟨au,hj,o⟩:=bd o
   refine RC.jn (fun(au:Int)=>SH E V [(0,vp b0 0),(1,v1),(5,vp aq 0),(6,ar),(7,vi ah),(8,vp a1 0),(9,vp a2 0),(11,vp bk 0),(12,vi au),(18,aw),(19,vi p2.aK.length),(20,vi ah),(44,a3),(45,vi av.aP.length),(46,vi a5)] [bc 39 b0 [ax,az,(vi p0_2),(vi p0_3)],own 9 ax bh,own 75 az a4,rd v1 p1,bx 26 aq p2,mp ar al,bx 57 a1 ab,bx 52 a2 av,bx 49 bk ai,rd aw p2.aK,rd a3 av.aP]) au ?_ ?_
   ·refine dX hj (fun hj=>?_) fun hj=>?_
    rotate_left
    ·refine RC.skip ?_
     obtain rfl:=oi hj
     exact⟨rfl,j.sp 16 [6,8,7,9,10,11,12,13,3,14,15]⟩
    refine RC.region (mv (vp b0 0) (RL.nilCheck zt zr zr (RL.bU zr q9 (RL.ir 6 (vi p0_3) j iy (aX (ia al (⟨ab.Name,ai.Name⟩:bT) (0:Int)) (RL.gq p0_3 (ia al (⟨ab.Name,ai.Name⟩:bT) (0:Int)) (aI (IntKind.wrap .i64 (p0_3+ (ia al (⟨ab.Name,ai.Name⟩:bT) (0:Int)))) (RL.nil ?_))))))))
    obtain rfl:=oi hj
    exact⟨rfl,j.sp 16 [6,8,7,9,10,11,12,13,3,14,15]⟩
   rintro _ w ⟨O,rfl,j⟩
   refine aF ?_
   have j:=j.drew
   refine RC.zT (fun w=>Holds E w ([bc 39 b0 [ax,az,(vi p0_2),(vi p0_3)]]++V)) mixed zr [1,1,1,1,1,1,1,1,1,1,1,1,0,0,0,2,0,2,2,0,0,2] [0,1,2,3,4,5,6,7,8,9,10,11,12,13,14,15,16,17,18,19,20,21] (j.pk 11 [0]) (DP.e1 (vp b0 0) zr (fun w=>RL.move (vp b0 0) zt DP.d1) (DP.e1 (vp b0 0) zr (fun w=>RL.move (vp b0 0) zt DP.d1) (DP.e1 (vp b0 0) zr (fun w=>RL.nilCheck zt zr zr DP.d1) (DP.e1 (vp b0 1) zr (fun w=>RL.bU zr xw DP.d1) (DP.Cs az zr zr (fun w j=>RL.ir 0 az j BS DP.d1) (DP.e1 (vp b0 0) zr (fun w=>RL.move (vp b0 0) zt DP.d1) (DP.e1 (vp b0 0) zr (fun w=>RL.nilCheck zt zr zr DP.d1) (DP.e1 (vp b0 2) zr (fun w=>RL.bU zr uY DP.d1) ?_))))))))
   refine DP.Cs (vi p0_2) zr zr (fun w j=>RL.ir 0 (vi p0_2) j iy DP.d1) (DP.e1 (vi ah) zr (fun w=>RL.move (vi ah) zt DP.d1) (DP.e1 (vi (IntKind.wrap .i64 (p0_2+ (ah:Int)))) zr (fun w=>RL.gq p0_2 (ah:Int) DP.d1) (DP.e1 (vi au) zr (fun w=>RL.move (vi au) zt DP.d1) (DP.e0 zr zr (RL.b1 7 j zr lT fun cf j=>(eM zr (RL.bU zr kK (eM zr ?_))))))))
   refine RL.aV 9 j zr ee fY (wg zr ?_)
   obtain⟨a6,bt,o⟩:=bd o
   refine RL.cs DU (r4 N (p1:=ai.Name) (i0:=0) j zr bt) fun w j=>(DP.d2 (j.pk 12 [1]) (DP.e0 zr zr ?_))
   have j:=((j.sc Int (IntKind.wrap .i64 (p0_2+ (ah:Int)))).sc Int au).sc Int a6
   refine RL.build (⟨(IntKind.wrap .i64 (p0_2+ (ah:Int))),au,a6⟩:aQ) trivial rfl j [(0,(vi (IntKind.wrap .i64 (p0_2+ (ah:Int))))),(1,vi au),(2,vi a6)] rfl DV rfl (fun M hs g=>by have h:=tv M;exact dT.cons (f:=fun(x:aQ) y=>{x with part:=y}) h q4 (g.sat 2 _ rfl).1 fun _ h=>dT.cons (f:=fun(x:aQ) y=>{x with iZ:=y}) h q5 (g.sat 1 _ rfl).1 fun _ h=>dT.cons (f:=fun(x:aQ) y=>{x with mark:=y}) h q6 (g.sat 0 _ rfl).1 fun _ h=>dT.nil h) fun bu j=>?_
   refine wg zr (RL.d8 ([(⟨(IntKind.wrap .i64 (p0_2+ (ah:Int))),au,a6⟩:aQ)]: (List aQ)) j [bu] CG CH (fun M hs g=>⟨(g.sat 0 _ zr).1,zt⟩) fun cg w j=>(DP.d2 (j.pk 17 [6]) (DP.e2 zr zr ?_)))
   have j:=j.freeze 0
   obtain⟨ch,bw,o⟩:=bd o
   refine RL.app 8 0 zt zr j zr zr zr zr DW bw fun bl w j=>?_
   refine DP.d2 (j.pk 17 [6]) (DP.e0 zr zr (RL.nilCheck zt zr zr (eM zr (RL.bU zr xw (DP.d0 (DP.E0 zr zr (RL.kx 6 bl j zr zr (oN 8 j) BS fun w j=>?_)))))))
   refine DP.d2 zt (DP.z (bF (aF (RC.region (RL.inc hk hm (aX ((a5+1:Nat):Int) (RL.nil ?_)))))))
   obtain rfl:=oi o
   exact⟨rfl,bl,j.sp 17 [6,8,7,9,10,11,12,13,15,16]⟩
  rintro a4 _ w o ⟨bz,O,rfl,j⟩
  refine bF (aF (RC.region (RL.inc hk hm (aX ((ah+1:Nat):Int) (RL.nil ?_)))))
  obtain rfl:=oi o
  exact⟨rfl,ax,bz,j.sp 10 [0,2,1,3,4,5,8]⟩
 rintro ay _ w o ⟨an,ao,O,rfl,j⟩
 refine aF (RC.zP E V mixed [1,1,1,1,1,0,1,0,0,1,1,1,1,0,1,0,0,1,1,1,0,1,1,0] [7,15,20,23] (fun(x:Value×Value)=>(fun af ag=>[(0,90,(vp b0 0)),(1,91,(vp b0 0)),(2,92,(vp b0 0)),(3,93,(vp b0 0)),(4,94,(vp b0 2)),(5,95,(vi p0_2)),(6,96,(vp aq 0)),(7,97,af),(8,98,(vi p2.aK.length)),(9,99,(vi (IntKind.wrap .i64 (p0_2+ (p2.aK.length:Int))))),(10,100,(vp b0 0)),(11,101,(vp b0 0)),(12,102,(vp b0 3)),(13,103,(vi p0_3)),(14,104,(vp aq 1)),(15,105,ag),(16,106,(vi p2.aY.length)),(17,107,(vi (IntKind.wrap .i64 (p0_3+ (p2.aY.length:Int))))),(18,108,(vp b0 0)),(19,109,(vp b0 2)),(21,110,(vp b0 0)),(22,111,(vp b0 3))]) x.1 x.2) [(0,vp b0 0),(5,vp aq 0)] [] (fun(D:Nat->Bool) (x:Value×Value)=>(fun af ag=>[bif D 0 then (rd af p2.aK) else bB,bif D 1 then (rd ag p2.aY) else bB,bif D 3 then (bc 39 b0 [an,ao,(vi (IntKind.wrap .i64 (p0_2+ (p2.aK.length:Int)))),(vi (IntKind.wrap .i64 (p0_3+ (p2.aY.length:Int))))]) else (bif D 2 then (bc 39 b0 [an,ao,(vi (IntKind.wrap .i64 (p0_2+ (p2.aK.length:Int)))),(vi p0_3)]) else (bc 39 b0 [an,ao,(vi p0_2),(vi p0_3)])),own 9 an ay.1,own 75 ao ay.2,rd v1 p1,bx 26 aq p2,mp ar al,rd aw p2.aK]) x.1 x.2) (fun x=>by kernel_rfl) ?_ ⟨fun _=>lS gn,fun _=>lS gn,fun _=>lS gn,fun _=>yy gn,fun _=>i4 gn uY,?_,fun _=>i4 gn iX,?_,?_,fun _=>Cr gn rfl,fun _=>lS gn,fun _=>yy gn,fun _=>i4 gn q9,?_,fun _=>i4 gn ke,?_,?_,fun _=>Cr gn rfl,fun _=>yy gn,fun _=>i4 gn uY,?_,fun _=>yy gn,fun _=>i4 gn q9,?_,trivial⟩ ?_)
 ·have j:=((j.drew).bB).bB
  exact⟨(undef,undef),cA.none,(x0 zr),zt,j⟩
 ·rintro D U w hD ae aj ⟨⟨af,ag⟩,hv,ha,_,j⟩
  obtain⟨O,rfl⟩:=hv.o1 4 ae
  have j:=(j.bR 2 (nh aj hD 23)).bR 2 (nh aj hD 20)
  refine RL.ir 2 (vi p0_2) j iy ?_
  have j:=(j.fF 2 (D 20) (nh aj hD 20) (bc 39 b0 [an,ao,(vi (IntKind.wrap .i64 (p0_2+ (p2.aK.length:Int)))),(vi p0_3)])).fF 2 (D 23) (nh aj hD 23) (bc 39 b0 [an,ao,(vi (IntKind.wrap .i64 (p0_2+ (p2.aK.length:Int)))),(vi (IntKind.wrap .i64 (p0_3+ (p2.aY.length:Int))))])
  exact RL.ep (af,ag) 5 hv ha j
 ·rintro D U w hD ae aj ⟨⟨af,ag⟩,hv,ha,_,j⟩
  obtain⟨O,rfl⟩:=hv.o1 6 ae
  have j:=j.bR 0 hD
  refine RL.bI 6 j zr cU oZ fun b2 j=>?_
  have j:=j.nw 0
  exact RL.ep (b2,ag) 7 hv ha j
 ·rintro D U w hD ae aj ⟨⟨af,ag⟩,hv,ha,_,j⟩
  obtain⟨O,rfl⟩:=hv.o1 7 ae
  have j:=j.ec 0 (ae.1 rfl)
  refine RL.bG 0 p2.aK j rW ?_
  have j:=j.cH 0 (D 7) (ae.1 rfl) bB
  exact RL.ep (af,ag) 8 hv ha j
 ·rintro D U w hD ae aj ⟨⟨af,ag⟩,hv,ha,_,j⟩
  obtain⟨O,rfl⟩:=hv.o1 12 ae
  have j:=(j.bR 2 (nh aj hD 23)).bR 2 (nh aj hD 20)
  refine RL.ir 2 (vi p0_3) j iy ?_
  have j:=(j.fF 2 (D 20) (nh aj hD 20) (bc 39 b0 [an,ao,(vi (IntKind.wrap .i64 (p0_2+ (p2.aK.length:Int)))),(vi p0_3)])).fF 2 (D 23) (nh aj hD 23) (bc 39 b0 [an,ao,(vi (IntKind.wrap .i64 (p0_2+ (p2.aK.length:Int)))),(vi (IntKind.wrap .i64 (p0_3+ (p2.aY.length:Int))))])
  exact RL.ep (af,ag) 13 hv ha j
 ·rintro D U w hD ae aj ⟨⟨af,ag⟩,hv,ha,_,j⟩
  obtain⟨O,rfl⟩:=hv.o1 14 ae
  have j:=j.bR 1 hD
  refine RL.bI 6 j zr dY q7 fun b3 j=>?_
  have j:=j.nw 1
  exact RL.ep (af,b3) 15 hv ha j
 ·rintro D U w hD ae aj ⟨⟨af,ag⟩,hv,ha,_,j⟩
  obtain⟨O,rfl⟩:=hv.o1 15 ae
  have j:=j.ec 1 (ae.1 rfl)
  refine RL.bG 1 p2.aY j tx ?_
  have j:=j.cH 1 (D 15) (ae.1 rfl) bB
  exact RL.ep (af,ag) 16 hv ha j
 ·rintro D U w hD ae aj ⟨⟨af,ag⟩,hv,ha,_,j⟩
  obtain⟨O,rfl⟩:=hv.o2 19 9 ae
  have j:=(j.bR 2 (nh aj hD 23)).bR 2 hD
  refine RL.kx 2 (vi (IntKind.wrap .i64 (p0_2+ (p2.aK.length:Int)))) j zr zr zr iy fun w j=>?_
  have j:=(j.cH 2 true rfl (bc 39 b0 [an,ao,(vi p0_2),(vi p0_3)])).fF 2 (D 23) (nh aj hD 23) (bc 39 b0 [an,ao,(vi (IntKind.wrap .i64 (p0_2+ (p2.aK.length:Int)))),(vi (IntKind.wrap .i64 (p0_3+ (p2.aY.length:Int))))])
  exact RL.eo (af,ag) hv ha j
 ·rintro D U w hD ae aj ⟨⟨af,ag⟩,hv,ha,_,j⟩
  obtain⟨O,rfl⟩:=hv.o2 21 17 ae
  have j:=(j.bR 2 hD).ec 2 (ae.2.2.1 rfl)
  refine RL.kx 2 (vi (IntKind.wrap .i64 (p0_3+ (p2.aY.length:Int)))) j zr zr zr iy fun w j=>?_
  have j:=j.cH 2 true rfl (bif D 20 then (bc 39 b0 [an,ao,(vi (IntKind.wrap .i64 (p0_2+ (p2.aK.length:Int)))),(vi p0_3)]) else (bc 39 b0 [an,ao,(vi p0_2),(vi p0_3)]))
  exact RL.eo (af,ag) hv ha j
 rintro D U w ba ⟨⟨af,ag⟩,hv,ha,_,j⟩
 have j:=((j.ec 0 (r9 ba 7)).ec 1 (r9 ba 15)).ec 2 (r9 ba 23)
 obtain⟨O,rfl⟩:=ha.pq
 obtain rfl:=oi o
 refine zv ?_
 exact Dj zr ⟨an,ao,zr,j.pk 9 [2,3,4]⟩
theorem m9 {p0: (List aT)} {res: (List aT)} (j:Holds E w V) (h0:V[i0]? =some (rd v0 p0)) (o:iV N p0=some res):
    Calls bE 48 [v0].toArray w (eT (dQ E V res)):=by
 unfold iV at o
 refine enter Tryz.func48 zr zr ?_
 have j:=j.dup (i0+0) h0
 refine RC.sr (cT (.slice none 0 0) (RL.nq (RC.sr (mv v0 (RL.Bj 0 zt zr j zr zr zr o5 (RL.nt (RC.cond (b:=(zK v0)) zr (fun hc=>?_) (fun hc=>?_))))))))
 ·have hx:=j.Cl (i:=0) rfl hc
  rw [hx] at o
  replace o:some ([]: (List aT))=_:=o
  refine RC.sr (cT (.slice none 0 0) (RL.nt (RC.rt ?_)))
  obtain rfl:=oi o
  have j:=j.dV aT 9
  exact bC (j.pk 2 [0])
 refine RC.sx (RL.d8 ([]: (List aT)) j [] jD DS (fun M hs g=>zt) fun ae w j=>(mv v0 ?_))
 obtain⟨af,ab,o⟩:=bd o
 refine RL.app 0 1 zt zr j zr zr zr zr yH ab fun ad w j=>?_
 refine cT ad (RL.nt (RC.ret ?_))
 obtain rfl:=oi o
 exact bC (j.pk 2 [0])
theorem jE {p0 p1:aT} {p2: (pL 24)} {res:Bool} (j:Holds E w V) (h2:V[i2]? =some (pt v2 p2)) (o:eU N p0 p1 p2=some res):
    Calls bE 51 [(str p0),(str p1),v2].toArray w (eT (bA E V res)):=by
 unfold eU at o
 refine enter Tryz.func51 zr zr ?_
 have j:=j.qW (i:=i2+0) h2
 refine RC.sr (bY false (RL.ns (RL.bX p2 0 j BT (mv (str p0) (mv (str p1) ?_)))))
 obtain⟨aa,ab,o⟩:=bd o
 refine RL.xP (cap:=[]) zt zr wi zr [(str p0),(str p1)] zr (eg (dS N (p0:=p0) (p1:=p1) j ab) ?_)
 rintro _ w ⟨rfl,j⟩
 refine ic aa 0 (bY (aa==0) (RL.nt (RC.ret ?_)))
 obtain rfl:=oi o
 exact bC ⟨rfl,j.drop 1⟩
def kY (E:World) (V:List HP) (r: (List aT)) (U:Nat->Value) (w:World):Prop:=gR bE 66 Tryz.f50 (dQ E V r) .ret U w
theorem kL {p0: (List aT)} {p1:aT->aT->Option Bool} {res: (List aT)} (j:Holds E w (own 9 v0 p0::V)) (h1:zD bE E V v1 p1 (fun(r:Bool)=>Value.bool r)) (o:fT N p0 p1=some res):
    Calls bE 50 [v0,v1].toArray w (eT (dQ E V res)):=by
 unfold fT at o
 refine enter Tryz.func50 zr zr (RC.sr (cT (.slice none 0 0) (RL.nq (RC.sr (mv v0 (RL.eW 0 p0 j o5 (ic ((p0.length:Int)) 2 (RL.nt ?_))))))))
 refine dX o (fun o=>?_) fun o=>?_
 ·refine RC.sr (mv v0 (cT v0 (RL.nt (RC.rt ?_))))
  obtain rfl:=oi o
  exact bC (j.pk 1 [0])
 refine RC.ss (RC.sr (aI 1 (RL.nt (RC.i0 E V (fun(ab:Int)=>[own 9 v0 p0]) (fun _=>[(0,v0)]) (fun ab=>[(1,v1),(5,vi ab)]) (kY E V) o ?_ ?_ ?_ ?_))))
 ·exact j.sp 1 [0]
 ·rintro ab fl _ w ⟨O,rfl,j⟩ o
  refine RC.seq (RC.sr (aX ab (mv v0 (RL.eW 0 p0 j o5 (ic ab ((p0.length:Int)) (RL.nt (dX o (fun o=>?_) fun o=>?_)))))))
  rotate_left
  ·refine RC.ex ?_
   obtain rfl:=oi o
   exact⟨rfl,j.sp 1 [0]⟩
  refine RC.ss (RC.block (RC.seq (RC.Bo mixed [0,0,0,0,0,0,0,0,0,0,2] [0,1,2,3,4,5,6,7,8,9,10] ?_)))
  have j:=j.drew
  refine DP.e0 zr zr (mv v1 (eM zr (mv v0 (eM zr (aX ab (eM zr ?_))))))
  obtain⟨aq,aj,o⟩:=bd o
  refine RL.cO 0 j zr zr jD aj (eM zr (RL.l1 0 j aj fY (eM zr (mv v0 (eM zr (aX ab (eM zr (RL.gq ab 1 ?_))))))))
  refine eM zr ?_
  obtain⟨ar,ak,o⟩:=bd o
  refine RL.cO 0 j zr zr jD ak (eM zr (RL.l1 0 j ak fY (wg zr ?_)))
  have j:=(j.sc aT aq).sc aT ar
  obtain⟨a3,au,o⟩:=bd o
  refine RL.jL 1 0 j h1 3 au fun w j=>(DP.d2 zt (DP.z (aF (dX o (fun o=>?_) fun o=>?_))))
  rotate_left
  ·refine RC.skip (bF (aF (RC.region (aX ab (RL.gq ab 1 (aI (IntKind.wrap .i64 (ab+1)) (RL.nil ?_)))))))
   obtain rfl:=oi o
   exact⟨rfl,j.sp 3 [2]⟩
  refine RC.sr (mv v0 (aX ab ?_))
  obtain⟨a4,ae,o⟩:=bd o
  refine RL.view 2 ab j zr zr jD ae (cT (vw v0 (Int.toNat ab) 1) (RL.nq (RC.sr (aI 1 (RL.nt (RC.e0 E V (fun(aa: (List aT)×Int×Int)=>[own 9 v0 aa.1]) (fun aa=>[(0,v0),(5,vi aa.2.1)]) (fun aa=>[(1,v1),(6,(vw v0 (Int.toNat ab) 1)),(7,vi aa.2.2)]) o ?_ ?_ ?_))))))
  ·exact j.sp 3 [2]
  ·rintro aa fl _ w ⟨O,rfl,j⟩ o
   refine RC.seq (RC.sr (aX aa.2.2 (mv (vw v0 (Int.toNat ab) 1) (RL.uE 0 aa.1 zr j zr zr o5 (ic aa.2.2 ((((aa.1.length - Int.toNat ab):Nat):Int)) (RL.nt (dX o (fun o=>?_) fun o=>?_)))))))
   rotate_left
   ·refine RC.ex ?_
    obtain rfl:=oi o
    exact⟨rfl,j.sp 1 [0]⟩
   refine RC.ss (RC.block (RC.seq (RC.Bo mixed [0,0,0,0,0,0,0,0,0,0,2,0] [0,1,2,3,4,5,6,7,8,9,10,11] ?_)))
   have j:=j.drew
   refine DP.e0 zr zr (mv v1 (eM zr (mv (vw v0 (Int.toNat ab) 1) (eM zr (aX aa.2.2 (eM zr ?_))))))
   obtain⟨av,af,o⟩:=bd o
   refine RL.nF 0 ab j zr zr jD (kH ae) (bH af).1 (bH af).2 (eM zr (RL.fK (i:=0) (f:=(fun x=>x)) zt zr j zr (qY 0 j (bH af).2 0) zr (cX (bH af).2).2.1 Fd.self fY (eM zr (mv (vw v0 (Int.toNat ab) 1) (eM zr (aX aa.2.2 (eM zr (RL.gq aa.2.2 1 ?_))))))))
   refine eM zr ?_
   obtain⟨aw,ag,o⟩:=bd o
   refine RL.nF 0 ab j zr zr jD (kH ae) (bH ag).1 (bH ag).2 (eM zr (RL.fK (i:=0) (f:=(fun x=>x)) zt zr j zr (qY 0 j (bH ag).2 0) zr (cX (bH ag).2).2.1 Fd.self fY (wg zr ?_)))
   have j:=(j.sc aT av).sc aT aw
   obtain⟨ax,ay,o⟩:=bd o
   refine RL.jL 1 0 j h1 3 ay fun w j=>(Bp zr (RL.not ax (DP.d0 (DP.z (aF ?_)))))
   obtain⟨ah,hj,o⟩:=bd o
   refine RC.jn (fun(ah: (List aT)×Int)=>SH E V [(0,v0),(1,v1),(5,vi ah.2),(6,(vw v0 (Int.toNat ab) 1)),(7,vi aa.2.2)] [own 9 v0 ah.1]) ah ?_ ?_
   ·refine dX hj (fun hj=>?_) fun hj=>?_
    rotate_left
    ·refine RC.skip ?_
     obtain rfl:=oi hj
     exact⟨rfl,j.sp 3 [2]⟩
    refine RC.sr (mv v0 (aX aa.2.1 (mv (vw v0 (Int.toNat ab) 1) (aX aa.2.2 ?_))))
    obtain⟨az,ai,hj⟩:=bd hj
    refine RL.nF 2 ab j zr zr jD (kH ae) (bH ai).1 (bH ai).2 (RL.fK (i:=2) (f:=(fun x=>x)) zt zr j zr (qY 2 j (bH ai).2 0) zr (cX (bH ai).2).2.1 Fd.self fY ?_)
    obtain⟨a5,al,hj⟩:=bd hj
    refine RL.cO 2 j zr zr jD al ?_
    have j:=j.sc aT az
    refine RL.s1 3 0 j al fY fun w j=>?_
    refine RL.nt (RC.region (aX aa.2.1 (RL.gq aa.2.1 1 (aI (IntKind.wrap .i64 (aa.2.1+1)) (RL.nil ?_)))))
    obtain rfl:=oi hj
    exact⟨rfl,j.sp 4 [3]⟩
   rintro _ w ⟨O,rfl,j⟩
   refine bF (aF (RC.region (aX aa.2.2 (RL.gq aa.2.2 1 (aI (IntKind.wrap .i64 (aa.2.2+1)) (RL.nil ?_))))))
   obtain rfl:=oi o
   exact⟨rfl,j.sp 1 [0]⟩
  rintro aa _ w o ⟨O,rfl,j⟩
  refine aF (RC.sr (mv v0 (aX aa.2.1 ?_)))
  obtain⟨a6,an,o⟩:=bd o
  refine RL.view 0 aa.2.1 j zr zr jD an (RL.ql 0 j zr zr yH DB (uF an) fun w j=>(RL.ns (mv v0 (aX aa.2.1 ?_))))
  obtain⟨a7,a0,o⟩:=bd o
  refine RL.oM 0 j jD (.inr ⟨rfl,zr⟩) a0 fun a1 j=>(cT a1 (RL.nt (RC.rb (aO ?_))))
  obtain rfl:=oi o
  exact⟨rfl,bC (j.pk 1 [0])⟩
 ·intro r U w o hK
  refine aO ?_
  obtain rfl:=oi o
  exact hK
 rintro ab _ w o ⟨O,rfl,j⟩
 refine aF (RC.sr (mv v0 (cT v0 (RL.nt (RC.ret ?_)))))
 obtain rfl:=oi o
 exact bC (j.pk 1 [0])
theorem ig {p0: (List aT)} {p1:aT} {p2:aT->aT->Option Int} {res:Int×Bool} (o:Holds E w V) (h0:V[i0]? =some (rd v0 p0)) (h2:zD bE E V v2 p2 (fun(r:Int)=>Value.int .i64 r)) (hb:dW N p0 p1 p2=some res):
    Calls bE 52 [v0,(str p1),v2].toArray w (eT (bZ E V res)):=by
 unfold dW at hb
 refine enter Tryz.func52 zr zr ?_
 have o:=o.dup (i0+0) h0
 refine RC.sr (aI 0 (bY false (RL.ns (mv v0 (RL.bG 0 p0 o o5 (aI (p0.length:Int) (RL.ns (aX (p0.length:Int) ?_))))))))
 refine aI 0 (aI (p0.length:Int) (RL.nq (RC.e0 E V (fun(j:Int×Int)=>[rd v0 p0]) (fun j=>[(0,v0),(1,(str p1)),(2,v2),(8,vi p0.length),(9,vi j.1)]) (fun j=>[(10,vi j.2)]) hb ?_ ?_ ?_)))
 ·exact o.sp 1 [0]
 ·rintro j fl _ w ⟨O,rfl,o⟩ hb
  refine RC.seq (RC.sr (aX j.1 (aX j.2 (ic j.1 j.2 (RL.nt (dX hb (fun hb=>?_) fun hb=>?_))))))
  rotate_left
  ·refine RC.ex ?_
   obtain rfl:=oi hb
   exact⟨rfl,o.sp 1 [0]⟩
  refine RC.sn (RC.bs (aX j.1 (aX j.2 (RL.gq j.1 j.2 (RL.conv (IntKind.wrap .i64 (j.1+j.2)) ⟨_,zV⟩ pz (RL.bin (.int .u64 (IntKind.wrap .u64 (IntKind.wrap .i64 (j.1+j.2)))) (.int .u64 1) (.int .u64 (Int.fdiv (IntKind.wrap .u64 (IntKind.wrap .i64 (j.1+j.2))) 2)) zt zr zr zr (RL.conv (Int.fdiv (IntKind.wrap .u64 (IntKind.wrap .i64 (j.1+j.2))) 2) ⟨_,pz⟩ zV (aI (IntKind.wrap .i64 (Int.fdiv (IntKind.wrap .u64 (IntKind.wrap .i64 (j.1+j.2))) 2)) ?_))))))))
  refine RL.ns (mv v2 (mv v0 (aX (IntKind.wrap .i64 (Int.fdiv (IntKind.wrap .u64 (IntKind.wrap .i64 (j.1+j.2))) 2)) ?_)))
  obtain⟨ah,aj,hb⟩:=bd hb
  refine RL.bK 0 o jD aj fun ar o=>(RL.bX ah 0 o fY (mv (str p1) ?_))
  have o:=(o.sc aT ah).sc aT p1
  obtain⟨ak,al,hb⟩:=bd hb
  refine RL.jL 1 0 o h2 4 al fun w o=>(ic ak 0 (RL.nt ?_))
  obtain⟨ae,hj,hb⟩:=bd hb
  refine RC.jn (fun(ae:Int×Int)=>SH E V [(0,v0),(1,(str p1)),(2,v2),(8,vi p0.length),(9,vi ae.1),(10,vi ae.2)] [rd v0 p0]) ae ?_ ?_
  ·refine dX hj (fun hj=>?_) fun hj=>?_
   rotate_left
   ·refine RC.region (aX (IntKind.wrap .i64 (Int.fdiv (IntKind.wrap .u64 (IntKind.wrap .i64 (j.1+j.2))) 2)) (aI (IntKind.wrap .i64 (Int.fdiv (IntKind.wrap .u64 (IntKind.wrap .i64 (j.1+j.2))) 2)) (RL.nil ?_)))
    obtain rfl:=oi hj
    exact⟨rfl,o.sp 4 [3]⟩
   refine RC.region (aX (IntKind.wrap .i64 (Int.fdiv (IntKind.wrap .u64 (IntKind.wrap .i64 (j.1+j.2))) 2)) (RL.gq (IntKind.wrap .i64 (Int.fdiv (IntKind.wrap .u64 (IntKind.wrap .i64 (j.1+j.2))) 2)) 1 (aI (IntKind.wrap .i64 ((IntKind.wrap .i64 (Int.fdiv (IntKind.wrap .u64 (IntKind.wrap .i64 (j.1+j.2))) 2))+1)) (RL.nil ?_))))
   obtain rfl:=oi hj
   exact⟨rfl,o.sp 4 [3]⟩
  rintro _ w ⟨O,rfl,o⟩
  refine bF ?_
  obtain rfl:=oi hb
  exact⟨rfl,o.sp 1 [0]⟩
 rintro j _ w hb ⟨O,rfl,o⟩
 refine aF (RC.seq ?_)
 obtain⟨af,hj,hb⟩:=bd hb
 refine RC.jn (fun(af:Bool)=>SH E V [(6,vi j.1),(7,vb af)] []) af ?_ ?_
 ·refine RC.region (aX j.1 (aX j.1 (aX (p0.length:Int) (ic j.1 ((p0.length:Int)) (jG (decide (j.1< (p0.length:Int))) (iW hj (fun aa hj=>?_) fun aa hj=>?_))))))
  rotate_left
  ·refine bS aa (bS aa (bS aa (bS aa (bS aa (bS aa (bS aa (bS aa (iQ aa (vb false) ?_))))))))
   refine aI j.1 (bY false (RL.nil ?_))
   obtain rfl:=oi hj
   exact⟨rfl,o.sp 1 []⟩
  refine RL.move v2 (cg aa) (RL.move v0 (cg aa) (RL.move (vi j.1) (cg aa) ?_))
  obtain⟨ai,an,hj⟩:=bd hj
  refine RL.bK (hg:=(cg aa)) 0 o jD an fun au o=>(RL.bX (hg:=(cg aa)) ai 0 o fY (RL.move (str p1) (cg aa) ?_))
  have o:=(o.sc aT ai).sc aT p1
  obtain⟨ag,ao,hj⟩:=bd hj
  refine RL.jL (hg:=(cg aa)) 1 0 o h2 4 ao fun w o=>(RL.kr ag 0 (cg aa) (iQ aa (vb (ag==0)) (aI j.1 (bY (ag==0) (RL.nil ?_)))))
  obtain rfl:=oi hj
  exact⟨rfl,o.sp 4 []⟩
 rintro _ w ⟨O,rfl,o⟩
 refine aF (RC.ret ?_)
 obtain rfl:=oi hb
 exact rR ⟨rfl,o.drop 0⟩
theorem kE {p0: (List aT)} {res: (List Int)×Int} (o:Holds E w V) (h0:V[i0]? =some (rd v0 p0)) (hb:eI N p0=some res):
    Calls bE 23 [v0,(.func (.func 24) #[] #[])].toArray w (eT (gU E V res)):=by
 unfold eI at hb
 refine enter Tryz.func23 zr zr ?_
 have o:=o.dup (i0+0) h0
 refine RC.sr ?_
 have o:=o.sc (pL 24) ⟨⟩
 refine RL.cW 0 (.func (.func 24) #[] #[]) o zr fun ah w o=>?_
 have o:=o.jv (i:=0) rfl
 refine cT (.slice none 0 0) (aI 0 (RL.ns (mv v0 ?_)))
 obtain⟨a1,aq,hb⟩:=bd hb
 refine RL.cl DX (m9 N (i0:=2) o zr aq) fun aj w o=>(cT aj (RL.ns (mv aj (RL.bX (⟨⟩:pL 24) 1 o BT ?_))))
 obtain⟨a2,ar,hb⟩:=bd hb
 have o:=o.pull 0
 refine RL.cs DY (wE Tryz.lay49 aT rfl wi (fun o hi hj hr=>by obtain rfl:=o.pG (γ:=aT) hi;obtain rfl:=o.pG (γ:=aT) hj;exact dS N o hr) o ar) fun w o=>(RL.ns (mv aj (RL.makeFunc rfl [(vp ah 0)] rfl ?_)))
 have o:=o.pull 0
 obtain⟨a3,au,hb⟩:=bd hb
 refine RL.cl D0 (kL N o ⟨51,[(vp ah 0)],rfl,DZ,fun w Γl v v' y0 y1 r i j o hi hj hr=>by obtain rfl:=o.pG (γ:=aT) hi;obtain rfl:=o.pG (γ:=aT) hj;exact eg (jE N (p0:=y0) (p1:=y1) (i2:=Γl.length+2) o qV hr) fun _ _ h=>h⟩ au) fun al w o=>(cT al (RL.ns (mv v0 (RL.bG 5 p0 o o5 ?_))))
 obtain⟨a4,av,hb⟩:=bd hb
 refine RL.mk (p0.length:Int) zr o zr zr ra Cc av fun ab w o=>?_
 refine cT ab (RL.nq (RC.sr (mv v0 (RL.bG 6 p0 o o5 (aX 0 (RL.nt (RC.f1 E V (fun(ad: (List aT)×(List Int)) (ak:Value)=>[pt (vp ah 0) (⟨⟩:pL 24),own 3 ab ad.2,rd v0 p0,rd ak ad.1]) (fun _ ak=>[(6,ak),(7,ab)]) (fun ae _ _=>[(3,vp ah 0),(21,v0),(22,vi p0.length),(23,vi ae)]) hb ?_ ?_ ?_)))))))
 ·have o:=o.freeze 1
  exact⟨al,o.sp 7 [4,0,6,1]⟩
 ·rintro hm ae ad s' _ w hk ⟨an,O,rfl,o⟩ hb
  refine RC.seq (RC.bs (aX (ae:Int) ?_))
  obtain⟨ai,ay,hb⟩:=bd hb
  refine RL.bK 2 o jD ay fun a5 o=>(RL.bX ai 0 o fY (aI (ae:Int) (cT (str ai) (RL.nt (RC.region (mv ab (aX (ae:Int) (mv an ?_))))))))
  refine mv (str ai) (RL.bX (⟨⟩:pL 24) 1 o BT ?_)
  obtain⟨ag,az,hb⟩:=bd hb
  refine RL.cs D1 (ig N (p1:=ai) (i0:=4) o rfl ⟨24,[],rfl,wi,fun w Γl v v' y0 y1 r i j o hi hj hr=>by obtain rfl:=o.pG (γ:=aT) hi;obtain rfl:=o.pG (γ:=aT) hj;exact eg (dS N (p0:=y0) (p1:=y1) o hr) fun _ _ h=>h⟩ az) fun w o=>(mv (.tuple #[(vi ag.1),(vb ag.2)]) (RL.extract (vi ag.1) (RL.extract (vb ag.2) ?_)))
  obtain⟨a6,ao,hb⟩:=bd hb
  refine RL.cO 2 o zr zr jo ao ?_
  have o:=o.sc Int ag.1
  refine RL.s1 3 0 o ao iy fun w o=>?_
  refine RL.nil (bF (aF (RC.region (RL.inc hk hm (aX ((ae+1:Nat):Int) (RL.nil ?_))))))
  obtain rfl:=oi hb
  exact⟨rfl,an,o.sp 6 [2,3,4,5]⟩
 rintro ad _ w hb ⟨a0,O,rfl,o⟩
 refine aF (RC.sr (mv ab (mv a0 (RL.bG 3 ad.1 o o5 (cT ab (aI (ad.1.length:Int) (RL.nt (RC.ret ?_))))))))
 obtain rfl:=oi hb
 exact rR ⟨ab,zr,o.pk 4 [1]⟩
theorem mH {res:Bool} (o:Holds E w V) (j:hG N p0=some res):
    Calls bE 94 [(vi p0)].toArray w (eT (bA E V res)):=by
 unfold hG at j
 refine enter Tryz.func94 zr zr (RC.sr (bY false (RL.ns (aX p0 (aX p0 (ic p0 p0 (bY (p0 != p0) (RL.nt ?_))))))))
 refine RC.ret ?_
 obtain rfl:=oi j
 exact bC ⟨rfl,o.drop 0⟩
theorem pW (o:Holds E w V) (j:gT N p0 p1=some res):
    Calls bE 61 [(vi p0),(vi p1)].toArray w (eT (aC E V res)):=by
 unfold gT at j
 refine enter Tryz.func61 zr zr (RC.sr (aI 0 (RL.ns (aX p0 ?_))))
 obtain⟨ab,ad,j⟩:=bd j
 refine RL.cs CK (mH N (p0:=p0) o ad) fun w o=>(bY ab (RL.ns (aX p1 ?_)))
 obtain⟨aa,ae,j⟩:=bd j
 refine RL.cs CK (mH N (p0:=p1) o ae) fun w o=>(bY aa (RL.nq (RC.sr (jG ab (RL.nt (dX j (fun j=>?_) fun j=>?_))))))
 ·refine RC.seq (RC.sr (jG aa (RL.nt (dX j (fun j=>?_) fun j=>?_))))
  ·refine RC.sr (aI 0 (RL.nt (RC.rt (aO ?_))))
   obtain rfl:=oi j
   exact bC ⟨rfl,o.drop 0⟩
  refine RC.sx (aI (-1) (RL.nt (RC.rt ?_)))
  obtain rfl:=oi j
  exact bC ⟨rfl,o.drop 0⟩
 refine RC.ss (RC.sr (jG aa (RL.nt (dX j (fun j=>?_) fun j=>?_))))
 ·refine RC.sr (aI 1 (RL.nt (RC.rt ?_)))
  obtain rfl:=oi j
  exact bC ⟨rfl,o.drop 0⟩
 refine RC.ss (RC.sr (aX p0 (aX p1 (ic p0 p1 (RL.nt (dX j (fun j=>?_) fun j=>?_))))))
 ·refine RC.sr (aI (-1) (RL.nt (RC.rt ?_)))
  obtain rfl:=oi j
  exact bC ⟨rfl,o.drop 0⟩
 refine RC.ss (RC.sr (aX p0 (aX p1 (ic p0 p1 (RL.nt (dX j (fun j=>?_) fun j=>?_))))))
 ·refine RC.sr (aI 1 (RL.nt (RC.rt ?_)))
  obtain rfl:=oi j
  exact bC ⟨rfl,o.drop 0⟩
 refine RC.sx (aI 0 (RL.nt (RC.ret ?_)))
 obtain rfl:=oi j
 exact bC ⟨rfl,o.drop 0⟩
def ox (E:World) (V:List HP) (r:Int) (U:Nat->Value) (w:World):Prop:=gR bE 36 Tryz.f27 (aC E V r) .ret U w
theorem eQ {p0: (List Int)} {p1: (List Int)} (o:Holds E w V) (h0:V[i0]? =some (rd v0 p0)) (h1:V[i1]? =some (rd v1 p1)) (j:cJ N p0 p1=some res):
    Calls bE 27 [v0,v1].toArray w (eT (aC E V res)):=by
 unfold cJ at j
 refine enter Tryz.func27 zr zr ?_
 have o:=(o.dup (i0+0) h0).dup (i1+1) h1
 refine RC.sr (aI 0 (RL.nq (RC.sr (mv v0 (RL.bG 1 p0 o oc (aX 0 (RL.nt (RC.r0 E V (fun(af:Unit)=>[rd v0 p0,rd v1 p1]) (fun _=>[(0,v0),(1,v1)]) (fun aa _=>[(9,v0),(10,vi p0.length),(11,vi aa)]) (ox E V) j ?_ ?_ ?_ ?_))))))))
 ·exact o.sp 2 [1,0]
 ·rintro hm aa af fl _ w hk ⟨O,rfl,o⟩ j
  refine RC.seq (RC.bs (aX (aa:Int) ?_))
  obtain⟨ad,ai,j⟩:=bd j
  refine RL.bK 0 o jo ai fun ao o=>(RL.bX ad 0 o iy (aI (aa:Int) (aI ad (RL.nq (RC.sr (aX (aa:Int) (mv v1 (RL.bG 2 p1 o oc ?_))))))))
  refine ic ((aa:Int)) ((p1.length:Int)) (RL.nt (dX j (fun j=>?_) fun j=>?_))
  ·refine RC.sr (aI 1 (RL.nt (RC.rt (dx (aO ?_)))))
   obtain rfl:=oi j
   exact⟨rfl,bC ⟨rfl,o.drop 3⟩⟩
  refine RC.sx (mv v1 (aX (aa:Int) ?_))
  obtain⟨ae,aj,j⟩:=bd j
  refine RL.bK 2 o jo aj fun aq o=>(RL.bX ae 0 o iy (aI ae (RL.ns (aX ad (aX ae ?_)))))
  obtain⟨ab,ak,j⟩:=bd j
  refine RL.cs D4 (pW N (p0:=ad) (p1:=ae) o ak) fun w o=>(aI ab (RL.ns (aX ab (ic ab 0 (RL.nt (dX j (fun j=>?_) fun j=>?_))))))
  rotate_left
  ·refine RC.skip (bF (aF (RC.region (RL.inc hk hm (aX ((aa+1:Nat):Int) (RL.nil ?_))))))
   obtain rfl:=oi j
   exact⟨rfl,o.sp 4 [2,3]⟩
  refine RC.sr (aX ab (aI ab (RL.nt (RC.rb (aO ?_)))))
  obtain rfl:=oi j
  exact⟨rfl,bC ⟨rfl,o.drop 4⟩⟩
 ·intro r U w j hK
  refine aO ?_
  obtain rfl:=oi j
  exact hK
 rintro af _ w j ⟨O,rfl,o⟩
 refine aF (RC.seq (RC.sr (mv v0 (RL.bG 0 p0 o oc (mv v1 (RL.bG 1 p1 o oc (ic ((p0.length:Int)) ((p1.length:Int)) (RL.nt ?_))))))))
 refine dX j (fun j=>?_) fun j=>?_
 ·refine RC.sr (aI (-1) (RL.nt (RC.rt ?_)))
  obtain rfl:=oi j
  exact bC ⟨rfl,o.drop 2⟩
 refine RC.sx (aI 0 (RL.nt (RC.ret ?_)))
 obtain rfl:=oi j
 exact bC ⟨rfl,o.drop 2⟩
theorem pb {p0 p1:aB} (j:Holds E w V) (h0:V[i0]? =some (rd v0 p0)) (h1:V[i1]? =some (rd v1 p1)) (o:fH N p0 p1=some res):
    Calls bE 60 [v0,v1].toArray w (eT (aC E V res)):=by
 unfold fH at o
 refine enter Tryz.func60 zr zr ?_
 have j:=(j.dup (i0+0) h0).dup (i1+1) h1
 refine RC.sr (RL.cW 1 v0 j zr fun ad w j=>?_)
 have j:=j.jv (i:=0) rfl
 refine RL.cW 1 v1 j zr fun ae w j=>?_
 have j:=j.jv (i:=0) rfl
 refine aI 0 (RL.nq (RC.Bo mixed [0,0,2,0] [0,1,2,3] ?_))
 have j:=j.drew
 refine DP.e0 zr zr (RL.x4 (β:=Int) (fs:=[fun(x:aB)=>x.e0,fun(x:aB)=>x.e1]) [p0.e0,p0.e1] 1 zt zr j zr zr z2 ⟨fE,hU,zt⟩ zr zr fun af j=>(eM zr (RL.x4 (β:=Int) (fs:=[fun(x:aB)=>x.e0,fun(x:aB)=>x.e1]) [p1.e0,p1.e1] 1 zt zr j zr zr z2 ⟨fE,hU,zt⟩ zr zr fun ag j=>(wg zr ?_))))
 obtain⟨aa,ab,o⟩:=bd o
 refine RL.cs z4 (eQ N (i0:=1) (i1:=0) j zr zr ab) fun w j=>(Bp zr (aI aa (DP.d0 (DP.z (aF (RC.ret ?_))))))
 obtain rfl:=oi o
 exact bC ⟨rfl,j.drop 6⟩
theorem mI {p0: (List Int)} {us1:List RV} {p1: (List (List aB))} {res: (List (List Int))} (o:Holds E w (own 80 v1 us1::jl (XS 81 aB) us1 p1 none::V)) (h0:V[i0]? =some (rd v0 p0)) (hb:fB N p0 p1=some res):
    Calls bE 26 [v0,v1].toArray w (eT (jh E V res)):=by
 unfold fB at hb
 refine enter Tryz.func26 zr zr ?_
 have o:=o.dup (i0+2) h0
 refine RC.sr (cT (.slice none 0 0) (RL.ns (cT (.slice none 0 0) (RL.nq (RC.sr (mv v0 (RL.bG 0 p0 o oc (aX 0 ?_))))))))
 refine RL.nt (RC.f2 E V (fun(ad: (List (List aB))×(List (List Int))) (us125:List RV) (aj:Value)=>[own 80 v1 us125,jl (XS 81 aB) us125 ad.1 none,rd v0 p0,own 27 aj ad.2]) (fun _ _ aj=>[(5,aj)]) (fun ab _ _ _=>[(1,v1),(11,v0),(12,vi p0.length),(13,vi ab)]) hb ?_ ?_ ?_)
 ·have o:=o.dV (List Int) 27
  exact⟨us1,(.slice none 0 0),o.sp 4 [2,3,1,0]⟩
 ·rintro hm ab ad s' _ w hk ⟨us129,an,O,rfl,o⟩ hb
  refine RC.seq (RC.bs (aX (ab:Int) ?_))
  obtain⟨ae,a0,hb⟩:=bd hb
  refine RL.bK 2 o jo a0 fun a7 o=>(RL.bX ae 0 o iy (aI (ab:Int) (aI ae (RL.ns (mv v1 (aX (ab:Int) ?_))))))
  obtain⟨a8,ag,hb⟩:=bd hb
  have hl134:=o.fQ 2 rfl
  have hr135:=iN pr hl134 ag
  refine RL.cO 1 o zr zr yI hr135 ?_
  have hl136:=o.fQ 2 rfl
  have hr137:=iN pr hl136 ag
  refine RL.tL (jj:=(ab:Int)) 1 2 (pw 81 aB) pr zt zr o zr (qY 1 o hr137 0) zr zr ag yJ fun o=>?_
  obtain⟨a1,a2,hb⟩:=bd hb
  have o:=o.pull 0
  refine RL.cs D6 (A6 (α:=aB) Tryz.lay59 zr u3.B8 u3.sz D5 (fun o hi hj hr=>pb N o hi hj hr) o a2) fun w o=>?_
  have o:=(o.pull 0).vV (j:=4) (jj:=(ab:Int)) (pw 81 aB) pr (fun _=>rfl) rfl ag
  refine RL.ns (aX ae ?_)
  have o:=o.sc Int ae
  refine RL.d8 ([ae]: (List Int)) o [(vi ae)] jo Bu (fun M hs g=>⟨(g.sat 0 _ zr).1,zt⟩) fun au w o=>(cT au (RL.nq (RC.sr (mv v1 (aX (ab:Int) ?_)))))
  obtain⟨ao,ah,hb⟩:=bd hb
  have hl141:=o.fQ 6 rfl
  have hr142:=iN pr hl141 ah
  refine RL.cO 5 o zr zr yI hr142 ?_
  have hl143:=o.fQ 6 rfl
  have hr144:=iN pr hl143 ah
  refine RL.tL (jj:=(ab:Int)) 5 6 (pw 81 aB) pr zt zr o zr (qY 5 o hr144 0) zr zr ah yJ fun o=>(RL.eW 0 ao o AZ (aX 0 (RL.nt (RC.f1 E V (fun(ai: (List Int)) (aq:Value)=>[own 80 v1 us129,jl (XS 81 aB) us129 (ad.1.set (Int.toNat (ab:Int)) a1) (some (Int.toNat (ab:Int))),own 27 an ad.2,rd v0 p0,own 81 (us129.getD (Int.toNat (ab:Int)) pr).v ao,own 3 aq ai]) (fun _ aq=>[(1,v1),(5,an),(8,aq),(11,v0),(12,vi p0.length),(13,vi ab)]) (fun ar _ _=>[(28,(us129.getD (Int.toNat (ab:Int)) pr).v),(29,vi ao.length),(30,vi ar)]) hb ?_ ?_ ?_))))
  ·exact⟨au,o.sp 10 [6,7,9,8,0,1]⟩
  ·rintro hm ar ai s' _ w hk ⟨a4,O,rfl,o⟩ hb
   refine RC.seq (RC.bs ?_)
   obtain⟨af,av,hb⟩:=bd hb
   refine RL.cO 4 o zr zr rZ av (RL.l2 4 o av u3 fun a9 o=>?_)
   refine RL.alloc o wk.z fun ba w o=>?_
   refine RL.bD 0 o 1 zr u3 fun w o=>?_
   refine RL.nt (RC.region (mv a4 (RL.sH zt rf (RL.aV 0 o zr fE iy (RL.sH zt u4 (RL.aV 0 o zr hU iy ?_))))))
   have o:=(o.sc Int af.e0).sc Int af.e1
   refine RL.d8 ([af.e0,af.e1]: (List Int)) o [(vi af.e0),(vi af.e1)] jo Bu (fun M hs g=>⟨(g.sat 1 _ zr).1,⟨(g.sat 0 _ zr).1,zt⟩⟩) fun bb w o=>?_
   have o:=o.freeze 0
   obtain⟨bc,a5,hb⟩:=bd hb
   refine RL.app 10 0 zt zr o zr zr zr zr ra a5 fun aw w o=>?_
   refine cT aw (RL.nil (bF (aF (RC.region (RL.inc hk hm (aX ((ar+1:Nat):Int) (RL.nil ?_)))))))
   obtain rfl:=oi hb
   exact⟨rfl,aw,o.sp 11 [5,6,7,8,9,10]⟩
  rintro ai _ w hb ⟨ax,O,rfl,o⟩
  refine aF (RC.region (mv an (mv ax ?_)))
  have o:=o.freeze 5
  refine RL.d8 ([ai]: (List (List Int))) o [ax] iS wm (fun M hs g=>⟨(g.sat 5 _ zr).1,zt⟩) fun bf w o=>?_
  have o:=o.freeze 0
  obtain⟨bg,a6,hb⟩:=bd hb
  refine RL.app 3 0 zt zr o zr zr zr zr u5 a6 fun ay w o=>?_
  refine cT ay ?_
  have o:=(o.pull 5).vV (j:=2) (jj:=(ab:Int)) (pw 81 aB) pr (fun _=>rfl) rfl ah
  refine RL.nil (bF (aF (RC.region (RL.inc hk hm (aX ((ab+1:Nat):Int) (RL.nil ?_))))))
  obtain rfl:=oi hb
  exact⟨rfl,us129,ay,o.sp 7 [1,2,4,3]⟩
 rintro ad _ w hb ⟨us127,az,O,rfl,o⟩
 refine aF (RC.sr (mv az (cT az (RL.nt (RC.ret ?_)))))
 obtain rfl:=oi hb
 exact bC (o.pk 4 [3])
theorem pc {p0: (List (List Int))} {res: (List (List Int))} (j:Holds E w V) (h0:V[i0]? =some (rd v0 p0)) (o:kb N p0=some res):
    Calls bE 54 [v0].toArray w (eT (jh E V res)):=by
 unfold kb at o
 refine enter Tryz.func54 zr zr ?_
 have j:=j.dup (i0+0) h0
 refine RC.sr (cT (.slice none 0 0) (RL.nq (RC.sr (mv v0 (RL.Bj 0 zt zr j zr zr zr qB (RL.nt (RC.cond (b:=(zK v0)) zr (fun hc=>?_) (fun hc=>?_))))))))
 ·have hx:=j.Cl (i:=0) rfl hc
  rw [hx] at o
  replace o:some ([]: (List (List Int)))=_:=o
  refine RC.sr (cT (.slice none 0 0) (RL.nt (RC.rt ?_)))
  obtain rfl:=oi o
  have j:=j.dV (List Int) 27
  exact bC (j.pk 2 [0])
 refine RC.sx (RL.d8 ([]: (List (List Int))) j [] iS wm (fun M hs g=>zt) fun ae w j=>(mv v0 ?_))
 obtain⟨af,ab,o⟩:=bd o
 refine RL.app 0 1 zt zr j zr zr zr zr u5 ab fun ad w j=>?_
 refine cT ad (RL.nt (RC.ret ?_))
 obtain rfl:=oi o
 exact bC (j.pk 2 [0])
theorem jW {p0: (List Int)} {p1: (List Int)} {p2: (pL 27)} {res:Bool} (j:Holds E w V) (h0:V[i0]? =some (rd v0 p0)) (h1:V[i1]? =some (rd v1 p1)) (h2:V[i2]? =some (pt v2 p2)) (o:fb N p0 p1 p2=some res):
    Calls bE 57 [v0,v1,v2].toArray w (eT (bA E V res)):=by
 unfold fb at o
 refine enter Tryz.func57 zr zr ?_
 have j:=((j.dup (i0+0) h0).dup (i1+1) h1).qW (i:=i2+2) h2
 refine RC.sr (bY false (RL.ns (RL.bX p2 0 j BU (mv v0 (mv v1 ?_)))))
 obtain⟨aa,ab,o⟩:=bd o
 refine RL.xP (cap:=[]) zt zr z4 zr [v0,v1] zr (eg (eQ N (i0:=2) (i1:=1) j zr zr ab) ?_)
 rintro _ w ⟨rfl,j⟩
 refine ic aa 0 (bY (aa==0) (RL.nt (RC.ret ?_)))
 obtain rfl:=oi o
 exact bC ⟨rfl,j.drop 3⟩
def mj (E:World) (V:List HP) (r: (List (List Int))) (U:Nat->Value) (w:World):Prop:=gR bE 66 Tryz.f56 (jh E V r) .ret U w
theorem lW {p0: (List (List Int))} {p1: (List Int)->(List Int)->Option Bool} {res: (List (List Int))} (j:Holds E w (own 27 v0 p0::V)) (h1:zD bE E V v1 p1 (fun(r:Bool)=>Value.bool r)) (o:gL N p0 p1=some res):
    Calls bE 56 [v0,v1].toArray w (eT (jh E V res)):=by
 unfold gL at o
 refine enter Tryz.func56 zr zr (RC.sr (cT (.slice none 0 0) (RL.nq (RC.sr (mv v0 (RL.eW 0 p0 j qB (ic ((p0.length:Int)) 2 (RL.nt ?_))))))))
 refine dX o (fun o=>?_) fun o=>?_
 ·refine RC.sr (mv v0 (cT v0 (RL.nt (RC.rt ?_))))
  obtain rfl:=oi o
  exact bC (j.pk 1 [0])
 refine RC.ss (RC.sr (aI 1 (RL.nt (RC.i0 E V (fun(ab:Int)=>[own 27 v0 p0]) (fun _=>[(0,v0)]) (fun ab=>[(1,v1),(5,vi ab)]) (mj E V) o ?_ ?_ ?_ ?_))))
 ·exact j.sp 1 [0]
 ·rintro ab fl _ w ⟨O,rfl,j⟩ o
  refine RC.seq (RC.sr (aX ab (mv v0 (RL.eW 0 p0 j qB (ic ab ((p0.length:Int)) (RL.nt (dX o (fun o=>?_) fun o=>?_)))))))
  rotate_left
  ·refine RC.ex ?_
   obtain rfl:=oi o
   exact⟨rfl,j.sp 1 [0]⟩
  refine RC.ss (RC.block (RC.seq (RC.Bo mixed [0,0,0,0,0,0,0,0,0,0,2] [0,1,2,3,4,5,6,7,8,9,10] ?_)))
  have j:=j.drew
  refine DP.e0 zr zr (mv v1 (eM zr (mv v0 (eM zr (aX ab (eM zr ?_))))))
  obtain⟨ay,aj,o⟩:=bd o
  refine RL.cO 0 j zr zr iS aj (eM zr (RL.l2 0 j aj lU fun az j=>?_))
  refine eM zr (mv v0 (eM zr (aX ab (eM zr (RL.gq ab 1 (eM zr ?_))))))
  obtain⟨a0,ak,o⟩:=bd o
  refine RL.cO 1 j zr zr iS ak (eM zr (RL.l2 1 j ak lU fun a1 j=>?_))
  refine wg zr ?_
  obtain⟨a2,aq,o⟩:=bd o
  refine RL.jL 1 0 j h1 3 aq fun w j=>(DP.d2 zt (DP.z (aF (dX o (fun o=>?_) fun o=>?_))))
  rotate_left
  ·refine RC.skip (bF (aF (RC.region (aX ab (RL.gq ab 1 (aI (IntKind.wrap .i64 (ab+1)) (RL.nil ?_)))))))
   obtain rfl:=oi o
   exact⟨rfl,j.sp 3 [2]⟩
  refine RC.sr (mv v0 (aX ab ?_))
  obtain⟨a3,ae,o⟩:=bd o
  refine RL.view 2 ab j zr zr iS ae (cT (vw v0 (Int.toNat ab) 1) (RL.nq (RC.sr (aI 1 (RL.nt (RC.e0 E V (fun(aa: (List (List Int))×Int×Int)=>[own 27 v0 aa.1]) (fun aa=>[(0,v0),(5,vi aa.2.1)]) (fun aa=>[(1,v1),(6,(vw v0 (Int.toNat ab) 1)),(7,vi aa.2.2)]) o ?_ ?_ ?_))))))
  ·exact j.sp 3 [2]
  ·rintro aa fl _ w ⟨O,rfl,j⟩ o
   refine RC.seq (RC.sr (aX aa.2.2 (mv (vw v0 (Int.toNat ab) 1) (RL.uE 0 aa.1 zr j zr zr qB (ic aa.2.2 ((((aa.1.length - Int.toNat ab):Nat):Int)) (RL.nt (dX o (fun o=>?_) fun o=>?_)))))))
   rotate_left
   ·refine RC.ex ?_
    obtain rfl:=oi o
    exact⟨rfl,j.sp 1 [0]⟩
   refine RC.ss (RC.block (RC.seq (RC.Bo mixed [0,0,0,0,0,0,0,0,0,0,2,0] [0,1,2,3,4,5,6,7,8,9,10,11] ?_)))
   have j:=j.drew
   refine DP.e0 zr zr (mv v1 (eM zr (mv (vw v0 (Int.toNat ab) 1) (eM zr (aX aa.2.2 (eM zr ?_))))))
   obtain⟨a4,af,o⟩:=bd o
   refine RL.nF 0 ab j zr zr iS (kH ae) (bH af).1 (bH af).2 (eM zr (RL.qj (i:=0) (f:=(fun x=>x)) zt zr j zr (qY 0 j (bH af).2 0) zr (cX (bH af).2).2.1 Fd.self lU fun a5 j=>?_))
   refine eM zr (mv (vw v0 (Int.toNat ab) 1) (eM zr (aX aa.2.2 (eM zr (RL.gq aa.2.2 1 (eM zr ?_))))))
   obtain⟨a6,ag,o⟩:=bd o
   refine RL.nF 1 ab j zr zr iS (kH ae) (bH ag).1 (bH ag).2 (eM zr (RL.qj (i:=1) (f:=(fun x=>x)) zt zr j zr (qY 1 j (bH ag).2 0) zr (cX (bH ag).2).2.1 Fd.self lU fun a7 j=>?_))
   refine wg zr ?_
   obtain⟨ar,au,o⟩:=bd o
   refine RL.jL 1 0 j h1 3 au fun w j=>(Bp zr (RL.not ar (DP.d0 (DP.z (aF ?_)))))
   obtain⟨ah,hj,o⟩:=bd o
   refine RC.jn (fun(ah: (List (List Int))×Int)=>SH E V [(0,v0),(1,v1),(5,vi ah.2),(6,(vw v0 (Int.toNat ab) 1)),(7,vi aa.2.2)] [own 27 v0 ah.1]) ah ?_ ?_
   ·refine dX hj (fun hj=>?_) fun hj=>?_
    rotate_left
    ·refine RC.skip ?_
     obtain rfl:=oi hj
     exact⟨rfl,j.sp 3 [2]⟩
    refine RC.sr (mv v0 (aX aa.2.1 (mv (vw v0 (Int.toNat ab) 1) (aX aa.2.2 ?_))))
    obtain⟨a8,ai,hj⟩:=bd hj
    refine RL.nF 2 ab j zr zr iS (kH ae) (bH ai).1 (bH ai).2 (RL.qj (i:=2) (f:=(fun x=>x)) zt zr j zr (qY 2 j (bH ai).2 0) zr (cX (bH ai).2).2.1 Fd.self lU fun a9 j=>?_)
    obtain⟨ba,al,hj⟩:=bd hj
    refine RL.cO 3 j zr zr iS al (RL.s1 3 0 j al lU fun w j=>?_)
    refine RL.nt (RC.region (aX aa.2.1 (RL.gq aa.2.1 1 (aI (IntKind.wrap .i64 (aa.2.1+1)) (RL.nil ?_)))))
    obtain rfl:=oi hj
    exact⟨rfl,j.sp 4 [3]⟩
   rintro _ w ⟨O,rfl,j⟩
   refine bF (aF (RC.region (aX aa.2.2 (RL.gq aa.2.2 1 (aI (IntKind.wrap .i64 (aa.2.2+1)) (RL.nil ?_))))))
   obtain rfl:=oi o
   exact⟨rfl,j.sp 1 [0]⟩
  rintro aa _ w o ⟨O,rfl,j⟩
  refine aF (RC.sr (mv v0 (aX aa.2.1 ?_)))
  obtain⟨bb,an,o⟩:=bd o
  refine RL.view 0 aa.2.1 j zr zr iS an (RL.ql 0 j zr zr u5 CM (uF an) fun w j=>(RL.ns (mv v0 (aX aa.2.1 ?_))))
  obtain⟨bc,av,o⟩:=bd o
  refine RL.oM 0 j iS (.inr ⟨rfl,zr⟩) av fun aw j=>(cT aw (RL.nt (RC.rb (aO ?_))))
  obtain rfl:=oi o
  exact⟨rfl,bC (j.pk 1 [0])⟩
 ·intro r U w o hK
  refine aO ?_
  obtain rfl:=oi o
  exact hK
 rintro ab _ w o ⟨O,rfl,j⟩
 refine aF (RC.sr (mv v0 (cT v0 (RL.nt (RC.ret ?_)))))
 obtain rfl:=oi o
 exact bC (j.pk 1 [0])
theorem jr {p0: (List (List Int))} {p1: (List Int)} {p2: (List Int)->(List Int)->Option Int} {res:Int×Bool} (o:Holds E w V) (h0:V[i0]? =some (rd v0 p0)) (h1:V[i1]? =some (rd v1 p1)) (h2:zD bE E V v2 p2 (fun(r:Int)=>Value.int .i64 r)) (hb:eN N p0 p1 p2=some res):
    Calls bE 58 [v0,v1,v2].toArray w (eT (bZ E V res)):=by
 unfold eN at hb
 refine enter Tryz.func58 zr zr ?_
 have o:=(o.dup (i0+0) h0).dup (i1+1) h1
 refine RC.sr (aI 0 (bY false (RL.ns (mv v0 (RL.bG 1 p0 o qB (aI (p0.length:Int) (RL.ns (aX (p0.length:Int) ?_))))))))
 refine aI 0 (aI (p0.length:Int) (RL.nq (RC.e0 E V (fun(j:Int×Int)=>[rd v0 p0,rd v1 p1]) (fun j=>[(0,v0),(1,v1),(2,v2),(8,vi p0.length),(9,vi j.1)]) (fun j=>[(10,vi j.2)]) hb ?_ ?_ ?_)))
 ·exact o.sp 2 [1,0]
 ·rintro j fl _ w ⟨O,rfl,o⟩ hb
  refine RC.seq (RC.sr (aX j.1 (aX j.2 (ic j.1 j.2 (RL.nt (dX hb (fun hb=>?_) fun hb=>?_))))))
  rotate_left
  ·refine RC.ex ?_
   obtain rfl:=oi hb
   exact⟨rfl,o.sp 2 [0,1]⟩
  refine RC.sn (RC.bs (aX j.1 (aX j.2 (RL.gq j.1 j.2 (RL.conv (IntKind.wrap .i64 (j.1+j.2)) ⟨_,zV⟩ pz (RL.bin (.int .u64 (IntKind.wrap .u64 (IntKind.wrap .i64 (j.1+j.2)))) (.int .u64 1) (.int .u64 (Int.fdiv (IntKind.wrap .u64 (IntKind.wrap .i64 (j.1+j.2))) 2)) zt zr zr zr (RL.conv (Int.fdiv (IntKind.wrap .u64 (IntKind.wrap .i64 (j.1+j.2))) 2) ⟨_,pz⟩ zV (aI (IntKind.wrap .i64 (Int.fdiv (IntKind.wrap .u64 (IntKind.wrap .i64 (j.1+j.2))) 2)) ?_))))))))
  refine RL.ns (mv v2 (mv v0 (aX (IntKind.wrap .i64 (Int.fdiv (IntKind.wrap .u64 (IntKind.wrap .i64 (j.1+j.2))) 2)) ?_)))
  obtain⟨ah,ai,hb⟩:=bd hb
  refine RL.bK 0 o iS ai fun ar o=>(RL.aZ 0 ah o lU fun au o=>(mv v1 ?_))
  obtain⟨aj,ak,hb⟩:=bd hb
  refine RL.jL 0 3 o h2 4 ak fun w o=>(ic aj 0 (RL.nt ?_))
  obtain⟨ae,hj,hb⟩:=bd hb
  refine RC.jn (fun(ae:Int×Int)=>SH E V [(0,v0),(1,v1),(2,v2),(8,vi p0.length),(9,vi ae.1),(10,vi ae.2)] [rd v0 p0,rd v1 p1]) ae ?_ ?_
  ·refine dX hj (fun hj=>?_) fun hj=>?_
   rotate_left
   ·refine RC.region (aX (IntKind.wrap .i64 (Int.fdiv (IntKind.wrap .u64 (IntKind.wrap .i64 (j.1+j.2))) 2)) (aI (IntKind.wrap .i64 (Int.fdiv (IntKind.wrap .u64 (IntKind.wrap .i64 (j.1+j.2))) 2)) (RL.nil ?_)))
    obtain rfl:=oi hj
    exact⟨rfl,o.sp 4 [2,3]⟩
   refine RC.region (aX (IntKind.wrap .i64 (Int.fdiv (IntKind.wrap .u64 (IntKind.wrap .i64 (j.1+j.2))) 2)) (RL.gq (IntKind.wrap .i64 (Int.fdiv (IntKind.wrap .u64 (IntKind.wrap .i64 (j.1+j.2))) 2)) 1 (aI (IntKind.wrap .i64 ((IntKind.wrap .i64 (Int.fdiv (IntKind.wrap .u64 (IntKind.wrap .i64 (j.1+j.2))) 2))+1)) (RL.nil ?_))))
   obtain rfl:=oi hj
   exact⟨rfl,o.sp 4 [2,3]⟩
  rintro _ w ⟨O,rfl,o⟩
  refine bF ?_
  obtain rfl:=oi hb
  exact⟨rfl,o.sp 2 [0,1]⟩
 rintro j _ w hb ⟨O,rfl,o⟩
 refine aF (RC.seq ?_)
 obtain⟨af,hj,hb⟩:=bd hb
 refine RC.jn (fun(af:Bool)=>SH E V [(6,vi j.1),(7,vb af)] []) af ?_ ?_
 ·refine RC.region (aX j.1 (aX j.1 (aX (p0.length:Int) (ic j.1 ((p0.length:Int)) (jG (decide (j.1< (p0.length:Int))) (iW hj (fun aa hj=>?_) fun aa hj=>?_))))))
  rotate_left
  ·refine bS aa (bS aa (bS aa (bS aa (bS aa (bS aa (bS aa (bS aa (iQ aa (vb false) ?_))))))))
   refine aI j.1 (bY false (RL.nil ?_))
   obtain rfl:=oi hj
   exact⟨rfl,o.sp 2 []⟩
  refine RL.move v2 (cg aa) (RL.move v0 (cg aa) (RL.move (vi j.1) (cg aa) ?_))
  obtain⟨al,an,hj⟩:=bd hj
  refine RL.bK (hg:=(cg aa)) 0 o iS an fun av o=>(RL.aZ (hg:=(cg aa)) 0 al o lU fun aw o=>(RL.move v1 (cg aa) ?_))
  obtain⟨ag,ao,hj⟩:=bd hj
  refine RL.jL (hg:=(cg aa)) 0 3 o h2 4 ao fun w o=>(RL.kr ag 0 (cg aa) (iQ aa (vb (ag==0)) (aI j.1 (bY (ag==0) (RL.nil ?_)))))
  obtain rfl:=oi hj
  exact⟨rfl,o.sp 4 []⟩
 rintro _ w ⟨O,rfl,o⟩
 refine aF (RC.ret ?_)
 obtain rfl:=oi hb
 exact rR ⟨rfl,o.drop 0⟩
theorem iG {p0: (List (List Int))} {res: (List Int)×Int} (o:Holds E w V) (h0:V[i0]? =some (rd v0 p0)) (hb:ei N p0=some res):
    Calls bE 25 [v0,(.func (.func 27) #[] #[])].toArray w (eT (gU E V res)):=by
 unfold ei at hb
 refine enter Tryz.func25 zr zr ?_
 have o:=o.dup (i0+0) h0
 refine RC.sr ?_
 have o:=o.sc (pL 27) ⟨⟩
 refine RL.cW 0 (.func (.func 27) #[] #[]) o zr fun ah w o=>?_
 have o:=o.jv (i:=0) rfl
 refine cT (.slice none 0 0) (aI 0 (RL.ns (mv v0 ?_)))
 obtain⟨a2,aq,hb⟩:=bd hb
 refine RL.cl D7 (pc N (i0:=2) o zr aq) fun ai w o=>(cT ai (RL.ns (mv ai (RL.bX (⟨⟩:pL 27) 1 o BU ?_))))
 obtain⟨a3,ar,hb⟩:=bd hb
 have o:=o.pull 0
 refine RL.cs D8 (wE Tryz.lay55 (List Int) zr z4 (fun o hi hj hr=>eQ N o hi hj hr) o ar) fun w o=>(RL.ns (mv ai (RL.makeFunc zr [(vp ah 0)] zr ?_)))
 have o:=o.pull 0
 obtain⟨a4,au,hb⟩:=bd hb
 refine RL.cl Ea (lW N o ⟨57,[(vp ah 0)],rfl,D9,fun w Γl v v' y0 y1 r i j o hi hj hr=>by exact eg (jW N (i0:=i) (i1:=j) (i2:=Γl.length+2) o hi hj qV hr) fun _ _ h=>h⟩ au) fun ak w o=>(cT ak (RL.ns (mv v0 (RL.bG 5 p0 o qB ?_))))
 obtain⟨a5,av,hb⟩:=bd hb
 refine RL.mk (p0.length:Int) zr o zr zr ra Cc av fun ab w o=>?_
 refine cT ab (RL.nq (RC.sr (mv v0 (RL.bG 6 p0 o qB (aX 0 (RL.nt (RC.f1 E V (fun(ad: (List (List Int))×(List Int)) (aj:Value)=>[pt (vp ah 0) (⟨⟩:pL 27),own 3 ab ad.2,rd v0 p0,rd aj ad.1]) (fun _ aj=>[(6,aj),(7,ab)]) (fun ae _ _=>[(3,vp ah 0),(21,v0),(22,vi p0.length),(23,vi ae)]) hb ?_ ?_ ?_)))))))
 ·have o:=o.freeze 1
  exact⟨ak,o.sp 7 [4,0,6,1]⟩
 ·rintro hm ae ad s' _ w hk ⟨al,O,rfl,o⟩ hb
  refine RC.seq (RC.bs (aX (ae:Int) ?_))
  obtain⟨ay,az,hb⟩:=bd hb
  refine RL.bK 2 o iS az fun a6 o=>(RL.aZ 0 ay o lU fun an o=>(aI (ae:Int) (cT an (RL.nt (RC.region (mv ab (aX (ae:Int) (mv al ?_))))))))
  refine mv an (RL.bX (⟨⟩:pL 27) 2 o BU ?_)
  obtain⟨ag,a0,hb⟩:=bd hb
  refine RL.cs Eb (jr N (i0:=5) (i1:=0) o rfl rfl ⟨27,[],rfl,z4,fun w Γl v v' y0 y1 r i j o hi hj hr=>by exact eg (eQ N (i0:=i) (i1:=j) o hi hj hr) fun _ _ h=>h⟩ a0) fun w o=>(mv (.tuple #[(vi ag.1),(vb ag.2)]) (RL.extract (vi ag.1) (RL.extract (vb ag.2) ?_)))
  obtain⟨a7,ao,hb⟩:=bd hb
  refine RL.cO 3 o zr zr jo ao ?_
  have o:=o.sc Int ag.1
  refine RL.s1 4 0 o ao iy fun w o=>?_
  refine RL.nil (bF (aF (RC.region (RL.inc hk hm (aX ((ae+1:Nat):Int) (RL.nil ?_))))))
  obtain rfl:=oi hb
  exact⟨rfl,al,o.sp 7 [3,4,5,6]⟩
 rintro ad _ w hb ⟨a1,O,rfl,o⟩
 refine aF (RC.sr (mv ab (mv a1 (RL.bG 3 ad.1 o qB (cT ab (aI (ad.1.length:Int) (RL.nt (RC.ret ?_))))))))
 obtain rfl:=oi hb
 exact rR ⟨ab,zr,o.pk 4 [1]⟩
end Go.Gk
namespace Go.Gk
open Go Go.Proofs
variable (N:Nat) {E w:World} {b0 i0 i1 i2:Nat} {p0 p0_2 p0_3 p1 p2 res:Int} {v0 v0_0 v0_1 v1 v2:Value} {V:List HP}
def j8 (E:World) (V:List HP) (b0:Nat) (v0_0 v0_1:Value) (p0_2 p0_3:Int) (res: (List Int)×(List Int)) (v:Value) (w:World):Prop:=∃u0 u1:Value,v = .tuple #[u0,u1]/\Holds E w ([rd u0 res.1,rd u1 res.2,bc 39 b0 [v0_0,v0_1,(vi p0_2),(vi p0_3)]]++V)
def nQ (E:World) (V:List HP) (b0:Nat) (v0_0 v0_1:Value) (p0_2 p0_3:Int) (r: (List Int)×(List Int)) (U:Nat->Value) (w:World):Prop:=gR bE 123 Tryz.f10 (j8 E V b0 v0_0 v0_1 p0_2 p0_3 r) .ret U w
theorem na {p0_0: (List aT)} {p0_1: (List aQ)} {res: (List Int)×(List Int)} (o:Holds E w (bc 39 b0 [v0_0,v0_1,(vi p0_2),(vi p0_3)]::rd v0_0 p0_0::rd v0_1 p0_1::V)) (hb:d4 N p0_0 p0_1 p0_2 p0_3=some res):
    Calls bE 10 [(vp b0 0)].toArray w (eT (j8 E V b0 v0_0 v0_1 p0_2 p0_3 res)):=by
 unfold d4 at hb
 refine enter Tryz.func10 zr zr (RC.sr (cT (.slice none 0 0) (cT (.slice none 0 0) (RL.ns (mv (vp b0 0) (RL.nilCheck zt zr zr (RL.bU zr xv (RL.ir 0 v0_0 o zZ ?_))))))))
 obtain⟨bg,b1,hb⟩:=bd hb
 refine RL.cl D2 (kE N (i0:=1) o zr b1) ?_
 rintro _ w ⟨ba,rfl,o⟩
 refine mv (.tuple #[ba,(vi bg.2)]) (RL.extract ba (RL.extract (vi bg.2) (cT ba (aI bg.2 (RL.ns (mv (vp b0 0) (RL.nilCheck zt zr zr (RL.bU zr q9 ?_))))))))
 refine RL.ir 1 (vi p0_3) o iy ?_
 obtain⟨cr,b2,hb⟩:=bd hb
 refine RL.mk p0_3 zr o zr zr ra Cc b2 fun bo w o=>?_
 refine cT bo (RL.ns (mv (vp b0 0) (RL.nilCheck zt zr zr (RL.bU zr q9 (RL.ir 2 (vi p0_3) o iy (RL.min p0_3 1 zt zr zr zr (aI (if 1<p0_3 then 1 else p0_3) (RL.nt ?_))))))))
 refine RC.i2 E V (fun(aj: (List Int)×(List Int)×Int×Int) (bh bj:Value)=>[bc 39 b0 [v0_0,v0_1,(vi p0_2),(vi p0_3)],rd v0_0 p0_0,rd v0_1 p0_1,own 3 bh aj.1,own 3 bj aj.2.1]) (fun _ bh bj=>[(0,vp b0 0),(2,bh),(3,bj)]) (fun aj _ _=>[(4,vi aj.2.2.1),(5,vi aj.2.2.2)]) (nQ E V b0 v0_0 v0_1 p0_2 p0_3) hb ?_ ?_ ?_ ?_
 ·exact⟨ba,bo,o.sp 5 [2,3,4,1,0]⟩
 ·rintro aj fl _ w ⟨ax,az,O,rfl,o⟩ hb
  refine RC.block (RC.seq ?_)
  obtain⟨b3,b4,hb⟩:=bd hb
  obtain⟨b5,b6,hb⟩:=bd hb
  refine RC.zP E V mixed [1,1,1,0,0,1,1,1,0,0,1,1] [4,9] (fun(x:Value×(List RV)×Value×(List RV))=>(fun an us625 ao us628=>[(0,33,(vp b0 0)),(1,34,(vp b0 0)),(2,35,(vp b0 2)),(3,36,(vi p0_2)),(4,37,an),(5,38,(vp b0 0)),(6,39,(vp b0 0)),(7,40,(vp b0 3)),(8,41,(vi p0_3)),(9,42,ao),(10,6,an),(11,7,ao)]) x.1 x.2.1 x.2.2.1 x.2.2.2) [(0,vp b0 0),(2,ax),(3,az),(4,vi aj.2.2.1),(5,vi aj.2.2.2)] [] (fun(D:Nat->Bool) (x:Value×(List RV)×Value×(List RV))=>(fun an us625 ao us628=>[bif D 0 then (own 80 an us625) else bB,bif D 0 then (jl (XS 81 aB) us625 b3 none) else bB,bif D 1 then (own 80 ao us628) else bB,bif D 1 then (jl (XS 81 aB) us628 b5 none) else bB,bc 39 b0 [v0_0,v0_1,(vi p0_2),(vi p0_3)],rd v0_0 p0_0,rd v0_1 p0_1,own 3 ax aj.1,own 3 az aj.2.1]) x.1 x.2.1 x.2.2.1 x.2.2.2) (fun x=>by kernel_rfl) ?_ ⟨fun _=>lS gn,fun _=>yy gn,fun _=>i4 gn uY,?_,?_,fun _=>lS gn,fun _=>yy gn,fun _=>i4 gn q9,?_,?_,fun _=>xl gn,fun _=>xl gn,trivial⟩ ?_
  ·have o:=((((o.drew).bB).bB).bB).bB
   exact⟨(undef,[],undef,[]),cA.none,(x0 zr),zt,o⟩
  ·rintro D U w hD af ae ⟨⟨an,us625,ao,us628⟩,hv,ha,_,o⟩
   obtain⟨O,rfl⟩:=hv.o1 2 af
   refine RL.ir 4 (vi p0_2) o iy ?_
   exact RL.ep (an,us625,ao,us628) 3 hv ha o
  ·rintro D U w hD af ae ⟨⟨an,us625,ao,us628⟩,hv,ha,_,o⟩
   obtain⟨O,rfl⟩:=hv.o1 3 af
   have o:=(o.bR 0 hD).bR 1 hD
   refine RL.xW (β:=aB) (e':=81) p0_2 zt zr o zr zr CI Bv b4 fun bp w us630 o=>?_
   have o:=((o.pl 11 [0,1,4,5,6,7,8,9,10] rfl).cH 0 true rfl bB).cH 1 true rfl bB
   have hv:=hv.re 10 rfl (v':=bp) (fun h=>ft hD ((ae 10 _ rfl h).1 rfl))
   exact RL.ep (bp,us630,ao,us628) 4 hv ha o
  ·rintro D U w hD af ae ⟨⟨an,us625,ao,us628⟩,hv,ha,_,o⟩
   obtain⟨O,rfl⟩:=hv.o1 7 af
   refine RL.ir 4 (vi p0_3) o iy ?_
   exact RL.ep (an,us625,ao,us628) 8 hv ha o
  ·rintro D U w hD af ae ⟨⟨an,us625,ao,us628⟩,hv,ha,_,o⟩
   obtain⟨O,rfl⟩:=hv.o1 8 af
   have o:=(o.bR 2 hD).bR 3 hD
   refine RL.xW (β:=aB) (e':=81) p0_3 zt zr o zr zr CI Bv b6 fun bq w us632 o=>?_
   have o:=((o.pl 11 [2,3,0,1,6,7,8,9,10] rfl).cH 2 true rfl bB).cH 3 true rfl bB
   have hv:=hv.re 11 rfl (v':=bq) (fun h=>ft hD ((ae 11 _ rfl h).1 rfl))
   exact RL.ep (an,us625,bq,us632) 9 hv ha o
  rintro D U w aw ⟨⟨an,us625,ao,us628⟩,hv,ha,_,o⟩
  have o:=(((o.ec 0 (r9 aw 4)).ec 1 (r9 aw 4)).ec 2 (r9 aw 9)).ec 3 (r9 aw 9)
  obtain⟨O,rfl⟩:=(ac (hv.at 10 rfl (r9 aw 10)) (ac (hv.at 11 rfl (r9 aw 11)) ha)).pq
  refine aF (RC.seq (RC.sr (mv (vp b0 0) (RL.nilCheck zt zr zr (RL.bU zr xw (RL.ir 4 v0_1 o BS (RL.bG 6 p0_1 o D3 (aX 0 ?_))))))))
  refine RL.nt (RC.f2 E V (fun(al: (List (List aB))×(List (List aB))) (us809 us810:List RV)=>[bc 39 b0 [v0_0,v0_1,(vi p0_2),(vi p0_3)],rd v0_0 p0_0,rd v0_1 p0_1,own 3 ax aj.1,own 3 az aj.2.1,own 80 an us809,jl (XS 81 aB) us809 al.1 none,own 80 ao us810,jl (XS 81 aB) us810 al.2 none]) (fun _ _ _=>[(0,vp b0 0),(2,ax),(3,az),(4,vi aj.2.2.1),(5,vi aj.2.2.2),(6,an),(7,ao)]) (fun a7 _ _ _=>[(46,v0_1),(47,vi p0_1.length),(48,vi a7)]) hb ?_ ?_ ?_)
  ·exact⟨us625,us628,o.sp 9 [4,5,6,7,8,0,1,2,3]⟩
  ·rintro hm a7 al s' _ w hk ⟨us813,us814,O,rfl,o⟩ hb
   refine RC.seq (RC.bs ?_)
   obtain⟨ad,b9,hb⟩:=bd hb
   refine RL.bK 2 o CG b9 fun ca o=>(RL.aZ 0 ad o CJ fun cb o=>(RL.alloc o CH.z fun a1 w o=>?_))
   refine RL.bD 0 o 1 zr CJ fun w o=>?_
   refine RL.ns (aI (-1) (RL.nq (RC.sr (RL.bU zr uZ (RL.aV 0 o zr iR iy (ic ad.iZ 0 (RL.nt ?_)))))))
   obtain⟨ay,hj,hb⟩:=bd hb
   refine RC.jn (fun(ay: (List (List aB))×Int) U w=>∃(us847:List RV),SH E V [(0,vp b0 0),(2,ax),(3,az),(4,vi aj.2.2.1),(5,vi aj.2.2.2),(6,an),(7,ao),(9,vp a1 0),(10,vi ay.2),(46,v0_1),(47,vi p0_1.length),(48,vi a7)] [bc 39 b0 [v0_0,v0_1,(vi p0_2),(vi p0_3)],rd v0_0 p0_0,rd v0_1 p0_1,own 3 ax aj.1,own 3 az aj.2.1,own 80 an us813,jl (XS 81 aB) us813 al.1 none,own 80 ao us847,jl (XS 81 aB) us847 ay.1 none,bx 75 a1 ad] U w) ay ?_ ?_
   ·refine dX hj (fun hj=>?_) fun hj=>?_
    rotate_left
    ·refine RC.skip ?_
     obtain rfl:=oi hj
     exact⟨rfl,us814,o.sp 12 [3,4,5,6,7,8,9,10,11,0]⟩
    refine RC.sr (mv az (RL.bU zr uZ (RL.aV 0 o zr iR iy ?_)))
    obtain⟨br,bt,hj⟩:=bd hj
    refine RL.cO 7 o zr zr jo bt (RL.l1 7 o bt iy (aI br (RL.nt ?_)))
    obtain⟨cu,bb,hj⟩:=bd hj
    obtain⟨a2,bu,hj⟩:=bd hj
    obtain⟨a5,cc,hj⟩:=bd hj
    obtain⟨cv,bk,hj⟩:=bd hj
    refine RC.zP E V mixed [1,1,0,1,1,0,0,0,1,1,0,0,0,1,0,0,0,0,0,0] [15,16,17,19] (fun(x:Value×Value×Value)=>(fun ar aq ai=>[(0,60,ao),(1,61,(vp a1 1)),(2,62,(vi ad.iZ)),(3,63,ao),(4,64,(vp a1 1)),(5,65,(vi ad.iZ)),(6,66,(tn ao (Int.toNat ad.iZ) 1 0)),(7,67,(us814.getD (Int.toNat ad.iZ) pr).v),(8,68,ax),(9,69,(vp a1 0)),(10,70,(vi ad.part)),(11,71,(tn ax (Int.toNat ad.part) 1 0)),(12,72,(vi a2)),(13,73,(vp a1 2)),(14,74,(vi ad.mark)),(15,75,ar),(16,76,aq),(17,77,ai),(18,78,(tn ao (Int.toNat ad.iZ) 1 0))]) x.1 x.2.1 x.2.2) [(0,vp b0 0),(2,ax),(3,az),(4,vi aj.2.2.1),(5,vi aj.2.2.2),(6,an),(7,ao),(9,vp a1 0),(10,vi br),(46,v0_1),(47,vi p0_1.length),(48,vi a7)] [] (fun(D:Nat->Bool) (x:Value×Value×Value)=>(fun ar aq ai=>[bif D 0 then (rd ar (⟨a2,ad.mark⟩:aB)) else bB,bif D 2 then (rd aq ([(⟨a2,ad.mark⟩:aB)]: (List aB))) else (bif D 1 then (own 81 aq ([(⟨a2,ad.mark⟩:aB)]: (List aB))) else bB),bif D 3 then bB else (bif D 2 then (own 81 ai a5) else bB),bx 75 a1 ad,rd cb ad,pt ca ad,bc 39 b0 [v0_0,v0_1,(vi p0_2),(vi p0_3)],rd v0_0 p0_0,rd v0_1 p0_1,own 3 ax aj.1,own 3 az aj.2.1,own 80 an us813,jl (XS 81 aB) us813 al.1 none,bif D 3 then (own 80 ao (us814.set (Int.toNat ad.iZ) (rv ai))) else (own 80 ao us814),bif D 3 then (jl (XS 81 aB) (us814.set (Int.toNat ad.iZ) (rv ai)) (al.2.set (Int.toNat ad.iZ) a5) none) else (bif D 2 then (jl (XS 81 aB) us814 al.2 (some (Int.toNat ad.iZ))) else (jl (XS 81 aB) us814 al.2 none))]) x.1 x.2.1 x.2.2) (fun x=>by kernel_rfl) ?_ ⟨fun _=>lS gn,fun _=>i4 gn uZ,?_,fun _=>lS gn,fun _=>i4 gn uZ,?_,?_,?_,fun _=>lS gn,fun _=>i4 gn xx,?_,?_,?_,fun _=>i4 gn z1,?_,?_,?_,?_,?_,?_,trivial⟩ ?_
    ·have o:=(((o.drew).bB).bB).bB
     exact⟨(undef,undef,undef),cA.none,(x0 zr),zt,o⟩
    ·rintro D U w hD af ae ⟨⟨ar,aq,ai⟩,hv,ha,_,o⟩
     obtain⟨O,rfl⟩:=hv.o1 1 af
     refine RL.aV 3 o zr iR iy ?_
     exact RL.ep (ar,aq,ai) 2 hv ha o
    ·rintro D U w hD af ae ⟨⟨ar,aq,ai⟩,hv,ha,_,o⟩
     obtain⟨O,rfl⟩:=hv.o1 4 af
     refine RL.aV 3 o zr iR iy ?_
     exact RL.ep (ar,aq,ai) 5 hv ha o
    ·rintro D U w hD af ae ⟨⟨ar,aq,ai⟩,hv,ha,_,o⟩
     obtain⟨O,rfl⟩:=hv.o2 3 5 af
     have o:=((o.bR 13 (nh ae hD 19)).bR 14 (nh ae hD 19)).bR 14 (nf (fun h=>ft hD ((ae 7 _ rfl ((ae 17 _ rfl h).1 rfl)).1 rfl)))
     have hl864:=o.fQ 14 rfl
     have hr865:=iN pr hl864 bb
     refine RL.cO 13 o zr zr yI hr865 ?_
     have o:=(o.fF 13 (D 19) (nh ae hD 19) (own 80 ao (us814.set (Int.toNat ad.iZ) (rv ai)))).fF 14 (D 17) (nf (fun h=>ft hD ((ae 7 _ rfl ((ae 17 _ rfl h).1 rfl)).1 rfl))) (jl (XS 81 aB) us814 al.2 (some (Int.toNat ad.iZ)))
     have o:=o.fF 14 (D 19) (nh ae hD 19) (jl (XS 81 aB) (us814.set (Int.toNat ad.iZ) (rv ai)) (al.2.set (Int.toNat ad.iZ) a5) none)
     exact RL.ep (ar,aq,ai) 6 hv ha o
    ·rintro D U w hD af ae ⟨⟨ar,aq,ai⟩,hv,ha,_,o⟩
     obtain⟨O,rfl⟩:=hv.o1 6 af
     have o:=((o.bR 13 (nh ae hD 19)).bR 14 (nh ae hD 19)).bR 14 (nh ae hD 17)
     have hl866:=o.fQ 14 rfl
     have hr867:=iN pr hl866 bb
     refine RL.tM (jj:=ad.iZ) 13 14 (pw 81 aB) pr zt zr o zr (qY 13 o hr867 0) zr zr bb yJ ?_
     have o:=(o.fF 13 (D 19) (nh ae hD 19) (own 80 ao (us814.set (Int.toNat ad.iZ) (rv ai)))).fF 14 (D 17) (nh ae hD 17) (jl (XS 81 aB) us814 al.2 (some (Int.toNat ad.iZ)))
     have o:=o.fF 14 (D 19) (nh ae hD 19) (jl (XS 81 aB) (us814.set (Int.toNat ad.iZ) (rv ai)) (al.2.set (Int.toNat ad.iZ) a5) none)
     exact RL.ep (ar,aq,ai) 7 hv ha o
    ·rintro D U w hD af ae ⟨⟨ar,aq,ai⟩,hv,ha,_,o⟩
     obtain⟨O,rfl⟩:=hv.o1 9 af
     refine RL.aV 3 o zr kd iy ?_
     exact RL.ep (ar,aq,ai) 10 hv ha o
    ·rintro D U w hD af ae ⟨⟨ar,aq,ai⟩,hv,ha,_,o⟩
     obtain⟨O,rfl⟩:=hv.o2 8 10 af
     refine RL.cO 9 o zr zr jo bu ?_
     exact RL.ep (ar,aq,ai) 11 hv ha o
    ·rintro D U w hD af ae ⟨⟨ar,aq,ai⟩,hv,ha,_,o⟩
     obtain⟨O,rfl⟩:=hv.o1 11 af
     refine RL.l1 9 o bu iy ?_
     exact RL.ep (ar,aq,ai) 12 hv ha o
    ·rintro D U w hD af ae ⟨⟨ar,aq,ai⟩,hv,ha,_,o⟩
     obtain⟨O,rfl⟩:=hv.o1 13 af
     refine RL.aV 3 o zr mx iy ?_
     exact RL.ep (ar,aq,ai) 14 hv ha o
    ·rintro D U w hD af ae ⟨⟨ar,aq,ai⟩,hv,ha,_,o⟩
     obtain⟨O,rfl⟩:=hv.o2 12 14 af
     have o:=((o.bR 0 hD).sc Int a2).sc Int ad.mark
     refine RL.uI (⟨a2,ad.mark⟩:aB) trivial rfl o [(0,vi a2),(1,vi ad.mark)] rfl x6 rfl (fun M hs g=>by have h:=lp M;exact dT.cons (f:=fun(x:aB) y=>{x with e0:=y}) h km (g.sat 1 _ rfl).1 fun _ h=>dT.cons (f:=fun(x:aB) y=>{x with e1:=y}) h kn (g.sat 0 _ rfl).1 fun _ h=>dT.nil h) fun cd o=>?_
     have o:=(o.pl 18 [0,4,5,6,7,8,9,10,11,12,13,14,15,16,17] rfl).cH 0 true rfl bB
     exact RL.ep (cd,aq,ai) 15 hv ha o
    ·rintro D U w hD af ae ⟨⟨ar,aq,ai⟩,hv,ha,_,o⟩
     obtain⟨O,rfl⟩:=hv.o1 15 af
     have o:=((o.ec 0 (af.1 rfl)).bR 1 (nh ae hD 17)).bR 1 hD
     refine RL.d8 ([(⟨a2,ad.mark⟩:aB)]: (List aB)) o [ar] rZ wk (fun M hs g=>⟨(g.sat 0 _ zr).1,zt⟩) fun bw w o=>?_
     have o:=(((o.pl 16 [1,0,3,4,5,6,7,8,9,10,11,12,13,14,15] rfl).cH 0 (D 15) (af.1 rfl) bB).cH 1 true rfl bB).fF 1 (D 17) (nh ae hD 17) (rd bw ([(⟨a2,ad.mark⟩:aB)]: (List aB)))
     exact RL.ep (ar,bw,ai) 16 hv ha o
    ·rintro D U w hD af ae ⟨⟨ar,aq,ai⟩,hv,ha,_,o⟩
     obtain⟨O,rfl⟩:=hv.o2 7 16 af
     have o:=(((((((o.bR 1 hD).ec 1 (af.2.1 rfl)).bR 2 (nh ae hD 19)).bR 2 hD).bR 13 (nh ae hD 19)).bR 14 (nh ae hD 19)).bR 14 hD).uG (j:=14) (jj:=ad.iZ) (pw 81 aB) pr rfl bb
     have o:=o.freeze 2
     refine RL.app 0 2 zt zr o zr zr zr zr z3 cc fun bl w o=>?_
     have o:=((((o.pl 16 [1,2,0,4,5,6,7,8,9,10,11,12,13,14,15] rfl).cH 1 true rfl (bif D 16 then (own 81 aq ([(⟨a2,ad.mark⟩:aB)]: (List aB))) else bB)).cH 2 true rfl bB).fF 2 (D 19) (nh ae hD 19) bB).fF 13 (D 19) (nh ae hD 19) (own 80 ao (us814.set (Int.toNat ad.iZ) (rv bl)))
     have o:=(o.cH 14 true rfl (jl (XS 81 aB) us814 al.2 none)).fF 14 (D 19) (nh ae hD 19) (jl (XS 81 aB) (us814.set (Int.toNat ad.iZ) (rv bl)) (al.2.set (Int.toNat ad.iZ) a5) none)
     exact RL.ep (ar,aq,bl) 17 hv ha o
    ·rintro D U w hD af ae ⟨⟨ar,aq,ai⟩,hv,ha,_,o⟩
     obtain⟨O,rfl⟩:=hv.o2 0 2 af
     have o:=((o.bR 13 (nh ae hD 19)).bR 14 (nh ae hD 19)).ec 14 (af.2.2.2.2.2.2.2.2.2.2.2.2.2.2.2.2.2.2.2.1 rfl)
     have hl871:=o.fQ 14 rfl
     have hr872:=iN pr hl871 bk
     refine RL.cO 13 o zr zr yI hr872 ?_
     have o:=((o.fF 13 (D 19) (nh ae hD 19) (own 80 ao (us814.set (Int.toNat ad.iZ) (rv ai)))).cH 14 (D 17) (af.2.2.2.2.2.2.2.2.2.2.2.2.2.2.2.2.2.2.2.1 rfl) (jl (XS 81 aB) us814 al.2 none)).fF 14 (D 19) (nh ae hD 19) (jl (XS 81 aB) (us814.set (Int.toNat ad.iZ) (rv ai)) (al.2.set (Int.toNat ad.iZ) a5) none)
     exact RL.ep (ar,aq,ai) 18 hv ha o
    ·rintro D U w hD af ae ⟨⟨ar,aq,ai⟩,hv,ha,_,o⟩
     obtain⟨O,rfl⟩:=hv.o2 18 17 af
     have o:=((((o.bR 2 hD).ec 2 (af.2.1 rfl)).bR 13 hD).bR 14 hD).ec 14 (af.2.1 rfl)
     have hl873:=o.fQ 14 rfl
     have hr874:=iN pr hl873 bk
     refine RL.sG (jj:=ad.iZ) 13 14 2 (pw 81 aB) pr zt o zr zr (qY 13 o hr874 0) zr zr zr bk yJ fun w o=>?_
     have o:=((o.cH 2 true rfl (bif D 17 then (own 81 ai a5) else bB)).cH 13 true rfl (own 80 ao us814)).cH 14 true rfl (bif D 17 then (jl (XS 81 aB) us814 al.2 (some (Int.toNat ad.iZ))) else (jl (XS 81 aB) us814 al.2 none))
     exact RL.eo (ar,aq,ai) hv ha o
    rintro D U w aw ⟨⟨ar,aq,ai⟩,hv,ha,_,o⟩
    simp only [List.getD_cons_zero,List.getD_cons_succ,aw 15 (by decide),aw 17 (by decide),aw 19 (by decide),aw 19 (by decide),aw 19 (by decide),bJ] at o
    obtain⟨O,rfl⟩:=ha.pq
    obtain rfl:=oi hj
    exact⟨rfl,(us814.set (Int.toNat ad.iZ) (rv ai)),o.sp 15 [6,7,8,9,10,11,12,13,14,3]⟩
   rintro _ w ⟨us847,O,rfl,o⟩
   refine aF ?_
   obtain⟨cw,bf,hb⟩:=bd hb
   obtain⟨a6,cf,hb⟩:=bd hb
   obtain⟨cx,bm,hb⟩:=bd hb
   refine RC.zP E V mixed [1,1,0,1,1,0,0,0,1,0,1,0,0,0,0,0] [11,12,13,15] (fun(x:Value×Value×Value)=>(fun av au ak=>[(0,79,an),(1,80,(vp a1 0)),(2,81,(vi ad.part)),(3,82,an),(4,83,(vp a1 0)),(5,84,(vi ad.part)),(6,85,(tn an (Int.toNat ad.part) 1 0)),(7,86,(us813.getD (Int.toNat ad.part) pr).v),(8,87,(vp a1 2)),(9,88,(vi ad.mark)),(10,89,(vi ay.2)),(11,90,av),(12,91,au),(13,92,ak),(14,93,(tn an (Int.toNat ad.part) 1 0))]) x.1 x.2.1 x.2.2) [(0,vp b0 0),(2,ax),(3,az),(4,vi aj.2.2.1),(5,vi aj.2.2.2),(6,an),(7,ao),(9,vp a1 0),(10,vi ay.2),(46,v0_1),(47,vi p0_1.length),(48,vi a7)] [] (fun(D:Nat->Bool) (x:Value×Value×Value)=>(fun av au ak=>[bif D 0 then (rd av (⟨ad.mark,ay.2⟩:aB)) else bB,bif D 2 then (rd au ([(⟨ad.mark,ay.2⟩:aB)]: (List aB))) else (bif D 1 then (own 81 au ([(⟨ad.mark,ay.2⟩:aB)]: (List aB))) else bB),bif D 3 then bB else (bif D 2 then (own 81 ak a6) else bB),bc 39 b0 [v0_0,v0_1,(vi p0_2),(vi p0_3)],rd v0_0 p0_0,rd v0_1 p0_1,own 3 ax aj.1,own 3 az aj.2.1,bif D 3 then (own 80 an (us813.set (Int.toNat ad.part) (rv ak))) else (own 80 an us813),bif D 3 then (jl (XS 81 aB) (us813.set (Int.toNat ad.part) (rv ak)) (al.1.set (Int.toNat ad.part) a6) none) else (bif D 2 then (jl (XS 81 aB) us813 al.1 (some (Int.toNat ad.part))) else (jl (XS 81 aB) us813 al.1 none)),own 80 ao us847,jl (XS 81 aB) us847 ay.1 none,bx 75 a1 ad]) x.1 x.2.1 x.2.2) (fun x=>by kernel_rfl) ?_ ⟨fun _=>lS gn,fun _=>i4 gn xx,?_,fun _=>lS gn,fun _=>i4 gn xx,?_,?_,?_,fun _=>i4 gn z1,?_,fun _=>lS gn,?_,?_,?_,?_,?_,trivial⟩ ?_
   ·have o:=(((o.drew).bB).bB).bB
    exact⟨(undef,undef,undef),cA.none,(x0 zr),zt,o⟩
   ·rintro D U w hD af ae ⟨⟨av,au,ak⟩,hv,ha,_,o⟩
    obtain⟨O,rfl⟩:=hv.o1 1 af
    refine RL.aV 12 o zr kd iy ?_
    exact RL.ep (av,au,ak) 2 hv ha o
   ·rintro D U w hD af ae ⟨⟨av,au,ak⟩,hv,ha,_,o⟩
    obtain⟨O,rfl⟩:=hv.o1 4 af
    refine RL.aV 12 o zr kd iy ?_
    exact RL.ep (av,au,ak) 5 hv ha o
   ·rintro D U w hD af ae ⟨⟨av,au,ak⟩,hv,ha,_,o⟩
    obtain⟨O,rfl⟩:=hv.o2 3 5 af
    have o:=((o.bR 8 (nh ae hD 15)).bR 9 (nh ae hD 15)).bR 9 (nf (fun h=>ft hD ((ae 7 _ rfl ((ae 13 _ rfl h).1 rfl)).1 rfl)))
    have hl889:=o.fQ 9 rfl
    have hr890:=iN pr hl889 bf
    refine RL.cO 8 o zr zr yI hr890 ?_
    have o:=(o.fF 8 (D 15) (nh ae hD 15) (own 80 an (us813.set (Int.toNat ad.part) (rv ak)))).fF 9 (D 13) (nf (fun h=>ft hD ((ae 7 _ rfl ((ae 13 _ rfl h).1 rfl)).1 rfl))) (jl (XS 81 aB) us813 al.1 (some (Int.toNat ad.part)))
    have o:=o.fF 9 (D 15) (nh ae hD 15) (jl (XS 81 aB) (us813.set (Int.toNat ad.part) (rv ak)) (al.1.set (Int.toNat ad.part) a6) none)
    exact RL.ep (av,au,ak) 6 hv ha o
   ·rintro D U w hD af ae ⟨⟨av,au,ak⟩,hv,ha,_,o⟩
    obtain⟨O,rfl⟩:=hv.o1 6 af
    have o:=((o.bR 8 (nh ae hD 15)).bR 9 (nh ae hD 15)).bR 9 (nh ae hD 13)
    have hl891:=o.fQ 9 rfl
    have hr892:=iN pr hl891 bf
    refine RL.tM (jj:=ad.part) 8 9 (pw 81 aB) pr zt zr o zr (qY 8 o hr892 0) zr zr bf yJ ?_
    have o:=(o.fF 8 (D 15) (nh ae hD 15) (own 80 an (us813.set (Int.toNat ad.part) (rv ak)))).fF 9 (D 13) (nh ae hD 13) (jl (XS 81 aB) us813 al.1 (some (Int.toNat ad.part)))
    have o:=o.fF 9 (D 15) (nh ae hD 15) (jl (XS 81 aB) (us813.set (Int.toNat ad.part) (rv ak)) (al.1.set (Int.toNat ad.part) a6) none)
    exact RL.ep (av,au,ak) 7 hv ha o
   ·rintro D U w hD af ae ⟨⟨av,au,ak⟩,hv,ha,_,o⟩
    obtain⟨O,rfl⟩:=hv.o1 8 af
    refine RL.aV 12 o zr mx iy ?_
    exact RL.ep (av,au,ak) 9 hv ha o
   ·rintro D U w hD af ae ⟨⟨av,au,ak⟩,hv,ha,_,o⟩
    obtain⟨O,rfl⟩:=hv.o2 9 10 af
    have o:=((o.bR 0 hD).sc Int ad.mark).sc Int ay.2
    refine RL.uI (⟨ad.mark,ay.2⟩:aB) trivial rfl o [(0,vi ad.mark),(1,vi ay.2)] rfl x6 rfl (fun M hs g=>by have h:=lp M;exact dT.cons (f:=fun(x:aB) y=>{x with e0:=y}) h km (g.sat 1 _ rfl).1 fun _ h=>dT.cons (f:=fun(x:aB) y=>{x with e1:=y}) h kn (g.sat 0 _ rfl).1 fun _ h=>dT.nil h) fun cg o=>?_
    have o:=(o.pl 16 [0,4,5,6,7,8,9,10,11,12,13,14,15] rfl).cH 0 true rfl bB
    exact RL.ep (cg,au,ak) 11 hv ha o
   ·rintro D U w hD af ae ⟨⟨av,au,ak⟩,hv,ha,_,o⟩
    obtain⟨O,rfl⟩:=hv.o1 11 af
    have o:=((o.ec 0 (af.1 rfl)).bR 1 (nh ae hD 13)).bR 1 hD
    refine RL.d8 ([(⟨ad.mark,ay.2⟩:aB)]: (List aB)) o [av] rZ wk (fun M hs g=>⟨(g.sat 0 _ zr).1,zt⟩) fun bz w o=>?_
    have o:=(((o.pl 14 [1,0,3,4,5,6,7,8,9,10,11,12,13] rfl).cH 0 (D 11) (af.1 rfl) bB).cH 1 true rfl bB).fF 1 (D 13) (nh ae hD 13) (rd bz ([(⟨ad.mark,ay.2⟩:aB)]: (List aB)))
    exact RL.ep (av,bz,ak) 12 hv ha o
   ·rintro D U w hD af ae ⟨⟨av,au,ak⟩,hv,ha,_,o⟩
    obtain⟨O,rfl⟩:=hv.o2 7 12 af
    have o:=(((((((o.bR 1 hD).ec 1 (af.2.1 rfl)).bR 2 (nh ae hD 15)).bR 2 hD).bR 8 (nh ae hD 15)).bR 9 (nh ae hD 15)).bR 9 hD).uG (j:=9) (jj:=ad.part) (pw 81 aB) pr rfl bf
    have o:=o.freeze 2
    refine RL.app 0 2 zt zr o zr zr zr zr z3 cf fun bn w o=>?_
    have o:=((((o.pl 14 [1,2,0,4,5,6,7,8,9,10,11,12,13] rfl).cH 1 true rfl (bif D 12 then (own 81 au ([(⟨ad.mark,ay.2⟩:aB)]: (List aB))) else bB)).cH 2 true rfl bB).fF 2 (D 15) (nh ae hD 15) bB).fF 8 (D 15) (nh ae hD 15) (own 80 an (us813.set (Int.toNat ad.part) (rv bn)))
    have o:=(o.cH 9 true rfl (jl (XS 81 aB) us813 al.1 none)).fF 9 (D 15) (nh ae hD 15) (jl (XS 81 aB) (us813.set (Int.toNat ad.part) (rv bn)) (al.1.set (Int.toNat ad.part) a6) none)
    exact RL.ep (av,au,bn) 13 hv ha o
   ·rintro D U w hD af ae ⟨⟨av,au,ak⟩,hv,ha,_,o⟩
    obtain⟨O,rfl⟩:=hv.o2 0 2 af
    have o:=((o.bR 8 (nh ae hD 15)).bR 9 (nh ae hD 15)).ec 9 (af.2.2.2.2.2.2.2.2.2.2.2.2.2.2.2.1 rfl)
    have hl896:=o.fQ 9 rfl
    have hr897:=iN pr hl896 bm
    refine RL.cO 8 o zr zr yI hr897 ?_
    have o:=((o.fF 8 (D 15) (nh ae hD 15) (own 80 an (us813.set (Int.toNat ad.part) (rv ak)))).cH 9 (D 13) (af.2.2.2.2.2.2.2.2.2.2.2.2.2.2.2.1 rfl) (jl (XS 81 aB) us813 al.1 none)).fF 9 (D 15) (nh ae hD 15) (jl (XS 81 aB) (us813.set (Int.toNat ad.part) (rv ak)) (al.1.set (Int.toNat ad.part) a6) none)
    exact RL.ep (av,au,ak) 14 hv ha o
   ·rintro D U w hD af ae ⟨⟨av,au,ak⟩,hv,ha,_,o⟩
    obtain⟨O,rfl⟩:=hv.o2 14 13 af
    have o:=((((o.bR 2 hD).ec 2 (af.2.1 rfl)).bR 8 hD).bR 9 hD).ec 9 (af.2.1 rfl)
    have hl898:=o.fQ 9 rfl
    have hr899:=iN pr hl898 bm
    refine RL.sG (jj:=ad.part) 8 9 2 (pw 81 aB) pr zt o zr zr (qY 8 o hr899 0) zr zr zr bm yJ fun w o=>?_
    have o:=((o.cH 2 true rfl (bif D 13 then (own 81 ak a6) else bB)).cH 8 true rfl (own 80 an us813)).cH 9 true rfl (bif D 13 then (jl (XS 81 aB) us813 al.1 (some (Int.toNat ad.part))) else (jl (XS 81 aB) us813 al.1 none))
    exact RL.eo (av,au,ak) hv ha o
   rintro D U w aw ⟨⟨av,au,ak⟩,hv,ha,_,o⟩
   simp only [List.getD_cons_zero,List.getD_cons_succ,aw 11 (by decide),aw 13 (by decide),aw 15 (by decide),aw 15 (by decide),aw 15 (by decide),bJ] at o
   obtain⟨O,rfl⟩:=ha.pq
   refine bF (aF (RC.region (RL.inc hk hm (aX ((a7+1:Nat):Int) (RL.nil ?_)))))
   obtain rfl:=oi hb
   exact⟨rfl,(us813.set (Int.toNat ad.part) (rv ak)),us847,o.sp 13 [3,4,5,6,7,8,9,10,11]⟩
  rintro al _ w hb ⟨us811,us812,O,rfl,o⟩
  refine aF (RC.sr (mv ax (mv an ?_)))
  have o:=((o.freeze 3).pull 6).pull 6
  obtain⟨cy,ch,hb⟩:=bd hb
  refine RL.cl CL (mI N (i0:=3) o zr ch) fun cz w o=>?_
  have o:=o.freeze 0
  obtain⟨a3,cj,hb⟩:=bd hb
  refine RL.cl CN (iG N (i0:=0) o zr cj) ?_
  rintro _ w ⟨a8,rfl,o⟩
  refine mv (.tuple #[a8,(vi a3.2)]) (RL.extract a8 (RL.extract (vi a3.2) (cT a8 (aI a3.2 (RL.ns (mv az (mv ao ?_)))))))
  have o:=((o.freeze 6).pull 10).pull 10
  obtain⟨c0,ck,hb⟩:=bd hb
  refine RL.cl CL (mI N (i0:=6) o zr ck) fun c1 w o=>?_
  have o:=o.freeze 0
  obtain⟨a4,cm,hb⟩:=bd hb
  refine RL.cl CN (iG N (i0:=0) o zr cm) ?_
  rintro _ w ⟨a9,rfl,o⟩
  refine mv (.tuple #[a9,(vi a4.2)]) (RL.extract a9 (RL.extract (vi a4.2) (cT a9 (aI a4.2 (RL.nq (RC.sr (aX a3.2 (aX aj.2.2.1 ?_))))))))
  refine ic a3.2 aj.2.2.1 (jG (a3.2==aj.2.2.1) (RL.g1 (vi a4.2) zr zr se (RL.g1 (vi aj.2.2.2) zr zr se (RL.g1 (vb (a4.2==aj.2.2.2)) zr zr (vB .eql) (RL.pick (b:=(a3.2==aj.2.2.1)) (v:=(vb ((a3.2==aj.2.2.1)&&(a4.2==aj.2.2.2)))) zt zr zr (lg true) (RL.nt (dX hb (fun hb=>?_) fun hb=>?_)))))))
  ·refine RC.sr (mv ax (mv az (cT ax (cT az (RL.nt (RC.rt (dx ?_)))))))
   obtain rfl:=oi hb
   exact⟨rfl,rR ⟨ax,az,zr,o.pk 13 [7,8,4]⟩⟩
  refine RC.sn (RC.region (mv a8 (mv a9 (aX a3.2 (aX a4.2 (cT a8 (cT a9 (aI a3.2 ?_))))))))
  refine aI a4.2 (RL.nil (bF ?_))
  obtain rfl:=oi hb
  exact⟨rfl,a8,a9,o.sp 13 [4,5,6,2,0]⟩
 ·intro r U w hb hK
  obtain rfl:=oi hb
  exact hK
 rintro aj _ w hb ⟨cp,cq,O,rfl,o⟩
 obtain rfl:=oi hb
 have o:=(o.freeze 3).freeze 4
 refine zv ?_
 exact rR ⟨cp,cq,zr,o.pk 5 [3,4,0]⟩
theorem pX {p0: (List aD)} {p1:aH} {res: (List Int)×(List Int)×Int} (j:Holds E w V) (h0:V[i0]? =some (rd v0 p0)) (h1:V[i1]? =some (rd v1 p1)) (o:jg N p0 p1=some res):
    Calls bE 4 [v0,v1].toArray w (eT (l7 E V res)):=by
 unfold jg at o
 refine enter Tryz.func4 zr zr ?_
 have j:=(j.dup (i0+0) h0).dup (i1+1) h1
 refine RC.sr (RL.cW 0 v1 j zr fun ai w j=>?_)
 refine cT (.slice none 0 0) (cT (.slice none 0 0) (aI 0 (RL.nq (RC.sr (mv v0 (RL.b1 0 j zr lq fun aj j=>?_))))))
 obtain⟨ad,af,o⟩:=bd o
 refine RL.cs E3 (kD N (i0:=3) (i1:=0) j zr zr af) fun w j=>(aI ad (RL.ns (aX ad (ic ad 0 (RL.nt (dX o (fun o=>?_) fun o=>?_))))))
 ·refine RC.sr (aX ad (cT (.slice none 0 0) (cT (.slice none 0 0) (aI ad (RL.nt (RC.rt ?_))))))
  obtain rfl:=oi o
  have j:=(j.uC Int).uC Int
  exact AD zr zr zr zr ⟨(.slice none 0 0),(.slice none 0 0),zr,j.pk 6 [1,0]⟩
 refine RC.sx (RL.zH (zs:=[(.slice none 0 0),(.slice none 0 0),(.int .i64 0),(.int .i64 0)]) (cs:=[(.slice none 0 0),(.slice none 0 0),(vi 0),(vi 0)]) zt zr [] zr DR zt zr (RL.AU (cs:=[(.slice none 0 0),(.slice none 0 0),(vi 0),(vi 0)]) zt zr j zr (vU.all (⟨zr,zr,zr,zr,zt⟩:vU [(.slice none 0 0),(.slice none 0 0),(vi 0),(vi 0)])) fun ae w j=>?_))
 refine cT (vp ae 0) (RL.ns (mv (vp ae 0) (mv v0 (RL.b1 2 j zr lq fun ak j=>?_))))
 have j:=((((j.dV aT 9).dV aQ 75).pull 0).pull 2).pull 5
 obtain⟨al,ag,o⟩:=bd o
 refine RL.cl Fe (pV N (i1:=7) (i2:=2) j zr zr ag) ?_
 rintro _ w ⟨an,ao,rfl,j⟩
 refine RL.ns (mv (vp ae 0) ?_)
 have j:=((((j.freeze 1).freeze 2).dup 2 rfl).dup 2 rfl).pull 2
 obtain⟨aq,ah,o⟩:=bd o
 refine RL.cl Ec (na N j ah) ?_
 rintro _ w ⟨aa,ab,rfl,j⟩
 refine mv (.tuple #[aa,ab]) (RL.extract aa (RL.extract ab (cT aa (cT ab (RL.ns (mv aa (mv ab (cT aa ?_))))))))
 refine cT ab (aI 0 (RL.nt (RC.ret ?_)))
 obtain rfl:=oi o
 exact AD zr zr zr zr ⟨aa,ab,zr,j.pk 14 [0,1]⟩
theorem gD {res:Bool} (o:Holds E w V) (j:dt N p0 p1 p2=some res):
    Calls bE 96 [(vi p0),(vi p1),(vi p2)].toArray w (eT (bA E V res)):=by
 unfold dt at j
 refine enter Tryz.func96 zr zr (RC.sr (bY false (RL.ns (aX p1 (aX p0 (ic p1 p0 (jG (decide (p1<=p0)) (RL.g1 (vi p0) zr zr se ?_))))))))
 refine RL.g1 (vi p2) zr zr se (RL.g1 (vb (decide (p0<=p2))) zr zr (vB .leq) (RL.pick (b:=(decide (p1<=p0))) (v:=(vb ((decide (p1<=p0))&&(decide (p0<=p2))))) zt zr zr (lg true) (bY ((decide (p1<=p0))&&(decide (p0<=p2))) (RL.nt (RC.ret ?_)))))
 obtain rfl:=oi j
 exact bC ⟨rfl,o.drop 0⟩
def nb (E:World) (V:List HP) (r:Bool) (U:Nat->Value) (w:World):Prop:=gR bE 44 Tryz.f95 (bA E V r) .ret U w
theorem gE {p0:aT} {res:Bool} (hw:Holds E w V) (o:dI N p0=some res):
    Calls bE 95 [(str p0)].toArray w (eT (bA E V res)):=by
 unfold dI at o
 refine enter Tryz.func95 zr zr (RC.sr (bY false (RL.nq (RC.sr (mv (str p0) (RL.lens p0 rV (aX 0 (RL.nt ?_))))))))
 refine RC.r0 E V (fun(ag:Unit)=>[]) (fun _=>[(0,(str p0))]) (fun ad _=>[(6,vi p0.bQ.length),(7,vi ad)]) (nb E V) o ?_ ?_ ?_ ?_
 ·exact hw.sp 0 []
 ·rintro hm ad ag fl _ w hk ⟨O,rfl,hw⟩ o
  refine RC.seq (RC.bs (aX (ad:Int) (aI (ad:Int) (RL.ns (mv (str p0) (aX (ad:Int) ?_))))))
  obtain⟨j,ak,o⟩:=bd o
  refine RL.idxs p0 (ad:Int) j zr zr zr rV ak (cT (.int .u8 (j.toNat:Int)) (RL.nq ?_))
  obtain⟨af,hj,o⟩:=bd o
  refine RC.jn (fun(af:Bool)=>SH E V [(0,(str p0)),(6,vi p0.bQ.length),(7,vi ad),(39,vb af)] []) af ?_ ?_
  ·refine RC.region (mv (.int .u8 (j.toNat:Int)) (ic ((j.toNat:Int)) 97 (jG (decide ((j.toNat:Int)<97)) (RL.g1 (.int .u8 (j.toNat:Int)) zr zr se (RL.g1 (vb (decide ((j.toNat:Int)>122))) zr zr (vB .gtr) (RL.pick (b:=(decide ((j.toNat:Int)<97))) (v:=(vb ((decide ((j.toNat:Int)<97))||(decide ((j.toNat:Int)>122))))) zt zr zr (sq true zr) (jG ((decide ((j.toNat:Int)<97))||(decide ((j.toNat:Int)>122))) (RL.g1 (.int .u8 (j.toNat:Int)) zr zr se ?_))))))))
   refine RL.g1 (vb (decide ((j.toNat:Int)<65))) zr zr (vB .lss) (RL.g1 (vb (decide ((j.toNat:Int)<65))) zr zr se (RL.g2 (.int .u8 (j.toNat:Int)) zr zr se (RL.g2 (vb (decide ((j.toNat:Int)>90))) zr zr (vB .gtr) (RL.g1 (vb ((decide ((j.toNat:Int)<65))||(decide ((j.toNat:Int)>90)))) zr zr Dd (RL.pick (b:=((decide ((j.toNat:Int)<97))||(decide ((j.toNat:Int)>122)))) (v:=(vb (((decide ((j.toNat:Int)<97))||(decide ((j.toNat:Int)>122)))&&((decide ((j.toNat:Int)<65))||(decide ((j.toNat:Int)>90)))))) zt zr zr (lg true) (jG (((decide ((j.toNat:Int)<97))||(decide ((j.toNat:Int)>122)))&&((decide ((j.toNat:Int)<65))||(decide ((j.toNat:Int)>90)))) (RL.g1 (.int .u8 (j.toNat:Int)) zr zr se (RL.g1 (vb (decide ((j.toNat:Int)<48))) zr zr (vB .lss) ?_))))))))
   refine RL.g1 (vb (decide ((j.toNat:Int)<48))) zr zr se (RL.g2 (.int .u8 (j.toNat:Int)) zr zr se (RL.g2 (vb (decide ((j.toNat:Int)>57))) zr zr (vB .gtr) (RL.g1 (vb ((decide ((j.toNat:Int)<48))||(decide ((j.toNat:Int)>57)))) zr zr Dd (RL.pick (b:=(((decide ((j.toNat:Int)<97))||(decide ((j.toNat:Int)>122)))&&((decide ((j.toNat:Int)<65))||(decide ((j.toNat:Int)>90))))) (v:=(vb ((((decide ((j.toNat:Int)<97))||(decide ((j.toNat:Int)>122)))&&((decide ((j.toNat:Int)<65))||(decide ((j.toNat:Int)>90))))&&((decide ((j.toNat:Int)<48))||(decide ((j.toNat:Int)>57)))))) zt zr zr (lg true) (jG ((((decide ((j.toNat:Int)<97))||(decide ((j.toNat:Int)>122)))&&((decide ((j.toNat:Int)<65))||(decide ((j.toNat:Int)>90))))&&((decide ((j.toNat:Int)<48))||(decide ((j.toNat:Int)>57)))) (iW hj (fun ab hj=>?_) fun ab hj=>?_))))))
   rotate_left
   ·refine bS ab (bS ab (bS ab (iQ ab (vb false) (RL.nil ?_))))
    obtain rfl:=oi hj
    exact⟨rfl,hw.sp 0 []⟩
   refine RL.move (.int .u8 (j.toNat:Int)) (cg ab) ?_
   obtain⟨ah,al,hj⟩:=bd hj
   refine RL.cs (hg:=(cg ab)) Cx (kz N (p0:=⟨[95,43,45,35]⟩) (p1:=(j.toNat:Int)) hw al) fun w hw=>(RL.kr ah 0 (cg ab) (iQ ab (vb (decide (ah<0))) (RL.nil ?_)))
   obtain rfl:=oi hj
   exact⟨rfl,hw.sp 0 []⟩
  rintro _ w ⟨O,rfl,hw⟩
  refine aF (dX o (fun o=>?_) fun o=>?_)
  rotate_left
  ·refine RC.skip (bF (aF (RC.region (RL.inc hk hm (aX ((ad+1:Nat):Int) (RL.nil ?_))))))
   obtain rfl:=oi o
   exact⟨rfl,hw.sp 0 []⟩
  refine RC.sr (bY false (RL.nt (RC.rb (aO ?_))))
  obtain rfl:=oi o
  exact⟨rfl,bC ⟨rfl,hw.drop 0⟩⟩
 ·intro r U w o hK
  refine aO ?_
  obtain rfl:=oi o
  exact hK
 rintro ag _ w o ⟨O,rfl,hw⟩
 refine aF (RC.sr (mv (str p0) (RL.lens p0 rV ?_)))
 obtain⟨ao,aq,o⟩:=bd o
 refine RL.cs BV (gD N (p0:=(p0.bQ.length:Int)) (p1:=1) (p2:=40) hw aq) fun w hw=>(bY ao (RL.nt (RC.ret ?_)))
 obtain rfl:=oi o
 exact bC ⟨rfl,hw.drop 0⟩
def fV (E:World) (V:List HP) (r:Int) (U:Nat->Value) (w:World):Prop:=gR bE 99 Tryz.f62 (aC E V r) .ret U w
theorem lA {p0:aD} (j:Holds E w V) (h0:V[i0]? =some (rd v0 p0)) (o:ej N p0=some res):
    Calls bE 62 [v0].toArray w (eT (aC E V res)):=by
 unfold ej at o
 refine enter Tryz.func62 zr zr ?_
 have j:=j.dup (i0+0) h0
 refine RC.sr (RL.cW 0 v0 j zr fun ag w j=>?_)
 refine aI 0 (RL.nq (RC.bs (RL.bU zr oa (RL.aV 0 j zr fD fY ?_))))
 obtain⟨ay,a7,o⟩:=bd o
 refine RL.cs BW (gE N (p0:=p0.Name) j a7) fun w j=>(RL.not ay (bY (!ay) (RL.nt (dX o (fun o=>?_) fun o=>?_))))
 ·refine RC.sr (aI 5 (RL.nt (RC.rb (aO ?_))))
  obtain rfl:=oi o
  exact bC ⟨rfl,j.drop 2⟩
 refine RC.sr (RL.bU zr iC (RL.bI 0 j zr cF ob fun bj j=>(RL.bG 0 p0.aP j pN (ic ((p0.aP.length:Int)) 0 (bY ((p0.aP.length:Int)==0) (RL.nt (dX o (fun o=>?_) fun o=>?_)))))))
 ·refine RC.sr (aI 9 (RL.nt (RC.rb (aO ?_))))
  obtain rfl:=oi o
  exact bC ⟨rfl,j.drop 3⟩
 refine RC.sr (RL.bU zr iC (RL.bI 1 j zr cF ob fun bk j=>(RL.bG 0 p0.aP j pN (ic ((p0.aP.length:Int)) 200 (bY (decide ((p0.aP.length:Int)>200)) (RL.nt (dX o (fun o=>?_) fun o=>?_)))))))
 ·refine RC.sr (aI 2 (RL.nt (RC.rb (aO ?_))))
  obtain rfl:=oi o
  exact bC ⟨rfl,j.drop 4⟩
 refine RC.skip (bF (aF (RC.seq (RC.sr (RL.bU zr iC (RL.bI 2 j zr cF ob fun ar j=>(RL.bG 0 p0.aP j pN (aX 0 ?_))))))))
 refine RL.nt (RC.r0 E V (fun(az:Unit)=>[bx 52 ag p0,rd ar p0.aP]) (fun _=>[(1,vp ag 0)]) (fun ae _=>[(25,ar),(26,vi p0.aP.length),(27,vi ae)]) (fV E V) o ?_ ?_ ?_ ?_)
 ·exact j.sp 5 [3,0]
 ·rintro hm ae az fl _ w hk ⟨O,rfl,j⟩ o
  refine RC.seq (RC.bs (aX (ae:Int) ?_))
  obtain⟨af,a8,o⟩:=bd o
  refine RL.bK 1 j mf a8 fun bl j=>(RL.aZ 0 af j mg fun bm j=>(RL.alloc j tw.z fun bn w j=>?_))
  refine aI (ae:Int) (RL.bD 0 j 1 zr mg fun w j=>?_)
  refine RL.nt (RC.bs (RL.bU zr kK (RL.aV 0 j zr ee fY ?_)))
  obtain⟨a1,a9,o⟩:=bd o
  refine RL.cs BW (gE N (p0:=af.Name) j a9) fun w j=>(RL.not a1 (bY (!a1) (RL.nt (dX o (fun o=>?_) fun o=>?_))))
  ·refine RC.sr (aI 5 (RL.nt (RC.rb (dx (aO ?_)))))
   obtain rfl:=oi o
   exact⟨rfl,bC ⟨rfl,j.drop 5⟩⟩
  refine RC.sr (RL.bU zr pO (RL.aV 0 j zr gO iy ?_))
  obtain⟨a2,ba,o⟩:=bd o
  refine RL.cs BV (gD N (p0:=af.Kind) (p1:=1) (p2:=7) j ba) fun w j=>(RL.not a2 (bY (!a2) (RL.nt (dX o (fun o=>?_) fun o=>?_))))
  ·refine RC.sr (aI 4 (RL.nt (RC.rb (dx (aO ?_)))))
   obtain rfl:=oi o
   exact⟨rfl,bC ⟨rfl,j.drop 5⟩⟩
  refine RC.sr (RL.bU zr jT (RL.aV 0 j zr dC iy ?_))
  obtain⟨a3,bb,o⟩:=bd o
  refine RL.cs BV (gD N (p0:=af.aW) (p1:=0) (p2:=200) j bb) fun w j=>(RL.not a3 (bY (!a3) (RL.nt (dX o (fun o=>?_) fun o=>?_))))
  ·refine RC.sr (aI 1 (RL.nt (RC.rb (dx (aO ?_)))))
   obtain rfl:=oi o
   exact⟨rfl,bC ⟨rfl,j.drop 5⟩⟩
  refine RC.seq ?_
  obtain⟨av,hj,o⟩:=bd o
  refine RC.jn (fun(av:Bool)=>SH E V [(1,vp ag 0),(25,ar),(26,vi p0.aP.length),(27,vi ae),(47,vb av)] [bx 52 ag p0,rd ar p0.aP]) av ?_ ?_
  ·refine RC.v7 mixed ?_
   have j:=j.drew
   refine RO.go (aX (ae:Int) (RO.nx (ic ((ae:Int)) 0 (RO.nx (jG (decide ((ae:Int)>0)) (iW hj (fun ab hj=>?_) fun ab hj=>?_))))))
   rotate_left
   ·refine RO.nx (bS ab (RO.nx (bS ab (RO.nx (bS ab (RO.nx (bS ab (RO.nx ?_))))))))
    refine bS ab (RO.nx (bS ab (RO.nx (bS ab (RO.nx (bS ab (RO.nx (bS ab ?_))))))))
    refine RO.nx (bS ab (RO.nx (iQ ab (vb false) (RO.nx (bY false (RO.last ?_))))))
    obtain rfl:=oi hj
    exact⟨rfl,j.sp 5 [3,4]⟩
   refine RO.nx (RL.bU (hg:=(cg ab)) zr kK (RO.nx (RL.aV (hg:=(cg ab)) 0 j zr ee fY (RO.nx (RL.bU (hg:=(cg ab)) zr iC (RO.nx (RL.bI (hg:=(cg ab)) 3 j zr cF ob fun bo j=>(RO.nx ?_))))))))
   refine RL.move (vi ae) (cg ab) (RO.nx (RL.gq (hg:=(cg ab)) (ae:Int) 1 (RO.nx ?_)))
   obtain⟨ak,bc,hj⟩:=bd hj
   refine RL.bK (hg:=(cg ab)) 0 j mf bc fun bp j=>(RO.nx (RL.gS 0 (cg ab) j zr kK ee fun bq j=>(RO.nx (RL.bX (hg:=(cg ab)) ak.Name 0 j fY (RO.nx (RL.lR af.Name ak.Name (cg ab) (RO.nx (iQ ab (vb (af.Name.ks ak.Name||af.Name.iM ak.Name)) ?_))))))))
   refine RO.nx (bY (af.Name.ks ak.Name||af.Name.iM ak.Name) (RO.last ?_))
   obtain rfl:=oi hj
   exact⟨rfl,j.sp 8 [6,7]⟩
  rintro _ w ⟨O,rfl,j⟩
  refine aF (dX o (fun o=>?_) fun o=>?_)
  rotate_left
  ·refine RC.skip (bF (bF (aF (RC.region (RL.inc hk hm (aX ((ae+1:Nat):Int) (RL.nil ?_)))))))
   obtain rfl:=oi o
   exact⟨rfl,j.sp 2 [0,1]⟩
  refine RC.sr (aI 8 (RL.nt (RC.rb (dx (aO ?_)))))
  obtain rfl:=oi o
  exact⟨rfl,bC ⟨rfl,j.drop 2⟩⟩
 ·intro r U w o hK
  refine aO ?_
  obtain rfl:=oi o
  exact hK
 rintro az _ w o ⟨O,rfl,j⟩
 refine aF (RC.seq (RC.sr (RL.bU zr iC (RL.bI 0 j zr cF ob fun au j=>(RL.bG 0 p0.aP j pN (aX 0 (RL.nt (RC.r0 E V (fun(a4:Unit)=>[bx 52 ag p0,rd au p0.aP]) (fun _=>[]) (fun aj _=>[(1,vp ag 0),(64,au),(65,vi p0.aP.length),(66,vi aj)]) (fV E V) o ?_ ?_ ?_ ?_))))))))
 ·exact j.sp 3 [1,0]
 ·rintro hm aj a4 fl _ w hk ⟨O,rfl,j⟩ o
  refine RC.seq (RC.bs (aX (aj:Int) ?_))
  obtain⟨aa,bf,o⟩:=bd o
  refine RL.bK 1 j mf bf fun br j=>(RL.aZ 0 aa j mg fun bt j=>(RL.alloc j tw.z fun ah w j=>?_))
  refine aI (aj:Int) (RL.bD 0 j 1 zr mg fun w j=>?_)
  refine RL.ns (RL.bU zr iC (RL.bI 3 j zr cF ob fun bu j=>(aX (aj:Int) ?_)))
  obtain⟨aw,bg,o⟩:=bd o
  refine RL.cut 0 zr j zr zr mf (.inr ⟨rfl,zr⟩) bg fun a5 j=>(RL.bG 0 aw j pN (aX 0 (RL.nt (RC.r0 E V (fun(a6:Unit)=>[bx 52 ag p0,bx 49 ah aa,rd au p0.aP,rd a5 aw]) (fun _=>[(1,vp ag 0),(64,au),(65,vi p0.aP.length),(66,vi aj)]) (fun ax _=>[(6,vp ah 0),(74,a5),(75,vi aw.length),(76,vi ax)]) (fV E V) o ?_ ?_ ?_ ?_))))
  ·exact j.sp 7 [5,2,6,0]
  ·rintro hm ax a6 fl _ w hk ⟨O,rfl,j⟩ o
   refine RC.seq (RC.bs ?_)
   obtain⟨ad,bh,o⟩:=bd o
   refine RL.bK 3 j mf bh fun bw j=>(RL.aZ 0 ad j mg fun bz j=>(RL.alloc j tw.z fun al w j=>?_))
   refine RL.bD 0 j 1 zr mg fun w j=>?_
   refine RL.ns (RL.bU rfl jT (RL.aV 4 j rfl dC iy (ic aa.aW 0 (jG (decide (aa.aW>0)) (RL.gs true (decide (aa.aW>0)) (vp ah 2) rfl rfl rfl (kj jT) (RL.gs true (decide (aa.aW>0)) (vi aa.aW) rfl rfl rfl (fA 4 rfl j (fun h=>by exact(pF h:cv (true&&((decide (aa.aW>0))==true)) (vp ah 2)= (vp ah 2))) rfl dC iy) (RL.gs true (decide (aa.aW>0)) (vp al 2) rfl rfl rfl (kj jT) (RL.gs true (decide (aa.aW>0)) (vi ad.aW) rfl rfl rfl (fA 0 rfl j (fun h=>by exact(pF h:cv (true&&((decide (aa.aW>0))==true)) (vp al 2)= (vp al 2))) rfl dC iy) ?_))))))))
   refine RL.g1 (vb (aa.aW==ad.aW)) rfl rfl (vB .eql) (RL.pick (b:=(decide (aa.aW>0))) (v:=(vb ((decide (aa.aW>0))&&(aa.aW==ad.aW)))) trivial rfl rfl (lg true) (jG ((decide (aa.aW>0))&&(aa.aW==ad.aW)) (RL.gs true ((decide (aa.aW>0))&&(aa.aW==ad.aW)) (vp ah 1) rfl rfl rfl (kj pO) (RL.gs true ((decide (aa.aW>0))&&(aa.aW==ad.aW)) (vi aa.Kind) rfl rfl rfl (fA 4 rfl j (fun h=>by exact(pF h:cv (true&&(((decide (aa.aW>0))&&(aa.aW==ad.aW))==true)) (vp ah 1)= (vp ah 1))) rfl gO iy) (RL.gs true ((decide (aa.aW>0))&&(aa.aW==ad.aW)) (vp al 1) rfl rfl rfl (kj pO) (RL.gs true ((decide (aa.aW>0))&&(aa.aW==ad.aW)) (vi ad.Kind) rfl rfl rfl (fA 0 rfl j (fun h=>by exact(pF h:cv (true&&(((decide (aa.aW>0))&&(aa.aW==ad.aW))==true)) (vp al 1)= (vp al 1))) rfl gO iy) (RL.g1 (vb (aa.Kind != ad.Kind)) rfl rfl (vB .neq) (RL.pick (b:=((decide (aa.aW>0))&&(aa.aW==ad.aW))) (v:=(vb (((decide (aa.aW>0))&&(aa.aW==ad.aW))&&(aa.Kind != ad.Kind)))) trivial rfl rfl (lg true) ?_))))))))
   refine RL.nt (dX o (fun o=>?_) fun o=>?_)
   rotate_left
   ·refine RC.skip (bF (aF (RC.region (RL.inc hk hm (aX ((ax+1:Nat):Int) (RL.nil ?_))))))
    obtain rfl:=oi o
    exact⟨rfl,j.sp 7 [3,4,5,6]⟩
   refine RC.sr (aI 12 (RL.nt (RC.rb (aO ?_))))
   obtain rfl:=oi o
   exact⟨rfl,bC ⟨rfl,j.drop 7⟩⟩
  ·intro r U w o hK
   refine dx (aO ?_)
   obtain rfl:=oi o
   exact⟨rfl,hK⟩
  rintro a6 _ w o ⟨O,rfl,j⟩
  refine bF (aF (RC.region (RL.inc hk hm (aX ((aj+1:Nat):Int) (RL.nil ?_)))))
  obtain rfl:=oi o
  exact⟨rfl,j.sp 4 [0,2]⟩
 ·intro r U w o hK
  refine aO ?_
  obtain rfl:=oi o
  exact hK
 rintro a4 _ w o ⟨O,rfl,j⟩
 refine aF (RC.sr (aI 0 (RL.nt (RC.ret ?_))))
 obtain rfl:=oi o
 exact bC ⟨rfl,j.drop 2⟩
def lB (E:World) (V:List HP) (r:Int) (U:Nat->Value) (w:World):Prop:=gR bE 35 Tryz.f28 (aC E V r) .ret U w
theorem kZ {p0: (List aD)} (j:Holds E w V) (h0:V[i0]? =some (rd v0 p0)) (o:ea N p0=some res):
    Calls bE 28 [v0].toArray w (eT (aC E V res)):=by
 unfold ea at o
 refine enter Tryz.func28 zr zr ?_
 have j:=j.dup (i0+0) h0
 refine RC.sr (aI 0 (RL.nq (RC.sr (mv v0 (RL.bG 0 p0 j yG (ic ((p0.length:Int)) 200 (RL.nt (dX o (fun o=>?_) fun o=>?_))))))))
 ·refine RC.sr (aI 2 (RL.nt (RC.rt ?_)))
  obtain rfl:=oi o
  exact bC ⟨rfl,j.drop 1⟩
 refine RC.ss (RC.sr (mv v0 (RL.bG 0 p0 j yG (aX 0 (RL.nt (RC.r0 E V (fun(ai:Unit)=>[rd v0 p0]) (fun _=>[]) (fun ab _=>[(0,v0),(9,v0),(10,vi p0.length),(11,vi ab)]) (lB E V) o ?_ ?_ ?_ ?_))))))
 ·exact j.sp 1 [0]
 ·rintro hm ab ai fl _ w hk ⟨O,rfl,j⟩ o
  refine RC.seq (RC.bs (aX (ab:Int) ?_))
  obtain⟨af,al,o⟩:=bd o
  refine RL.bK 0 j qA al fun au j=>(RL.aZ 0 af j lT fun av j=>(RL.alloc j xu.z fun aw w j=>?_))
  refine aI (ab:Int) (RL.bD 0 j 1 zr lT fun w j=>?_)
  refine RL.nq (RC.sr (RL.b1 0 j zr lT fun ax j=>?_))
  obtain⟨ae,an,o⟩:=bd o
  refine RL.cs Ed (lA N (i0:=0) j zr an) fun w j=>(aI ae (RL.ns (aX ae (ic ae 0 (RL.nt (dX o (fun o=>?_) fun o=>?_))))))
  ·refine RC.sr (aX ae (aI ae (RL.nt (RC.rt (dx (aO ?_))))))
   obtain rfl:=oi o
   exact⟨rfl,bC ⟨rfl,j.drop 5⟩⟩
  refine RC.ss ?_
  obtain⟨ah,hj,o⟩:=bd o
  refine RC.jn (fun(ah:Bool)=>SH E V [(0,v0),(9,v0),(10,vi p0.length),(11,vi ab),(33,vb ah)] [rd v0 p0]) ah ?_ ?_
  ·refine RC.v7 mixed ?_
   have j:=j.drew
   refine RO.go (aX (ab:Int) (RO.nx (ic ((ab:Int)) 0 (RO.nx (jG (decide ((ab:Int)>0)) (iW hj (fun aa hj=>?_) fun aa hj=>?_))))))
   rotate_left
   ·refine RO.nx (bS aa (RO.nx (bS aa (RO.nx (bS aa (RO.nx (bS aa (RO.nx ?_))))))))
    refine bS aa (RO.nx (bS aa (RO.nx (bS aa (RO.nx (bS aa (RO.nx (bS aa ?_))))))))
    refine RO.nx (iQ aa (vb false) (RO.last ?_))
    obtain rfl:=oi hj
    exact⟨rfl,j.sp 5 [4]⟩
   refine RO.nx (RL.bU (hg:=(cg aa)) zr oa (RO.nx (RL.aV (hg:=(cg aa)) 1 j zr fD fY (RO.nx (RL.move v0 (cg aa) (RO.nx (RL.move (vi ab) (cg aa) (RO.nx ?_))))))))
   refine RL.gq (hg:=(cg aa)) (ab:Int) 1 (RO.nx ?_)
   obtain⟨ag,ao,hj⟩:=bd hj
   refine RL.bK (hg:=(cg aa)) 4 j qA ao fun ay j=>(RO.nx (RL.gS 0 (cg aa) j zr oa fD fun az j=>(RO.nx (RL.bX (hg:=(cg aa)) ag.Name 0 j fY (RO.nx (RL.lR af.Name ag.Name (cg aa) (RO.nx (iQ aa (vb (af.Name.ks ag.Name||af.Name.iM ag.Name)) ?_))))))))
   refine RO.last ?_
   obtain rfl:=oi hj
   exact⟨rfl,j.sp 7 [6]⟩
  rintro _ w ⟨O,rfl,j⟩
  refine aF (dX o (fun o=>?_) fun o=>?_)
  rotate_left
  ·refine RC.skip (bF (aF (RC.region (RL.inc hk hm (aX ((ab+1:Nat):Int) (RL.nil ?_))))))
   obtain rfl:=oi o
   exact⟨rfl,j.sp 1 [0]⟩
  refine RC.sr (aI 8 (RL.nt (RC.rb (aO ?_))))
  obtain rfl:=oi o
  exact⟨rfl,bC ⟨rfl,j.drop 1⟩⟩
 ·intro r U w o hK
  refine aO ?_
  obtain rfl:=oi o
  exact hK
 rintro ai _ w o ⟨O,rfl,j⟩
 refine aF (RC.sr (aI 0 (RL.nt (RC.ret ?_))))
 obtain rfl:=oi o
 exact bC ⟨rfl,j.drop 1⟩
def nc (E:World) (V:List HP) (r:Bool) (U:Nat->Value) (w:World):Prop:=gR bE 19 Tryz.f63 (bA E V r) .ret U w
theorem jA {p0:aT} {res:Bool} (o:Holds E w V) (j:ek N p0=some res):
    Calls bE 63 [(str p0)].toArray w (eT (bA E V res)):=by
 unfold ek at j
 refine enter Tryz.func63 zr zr (RC.sr (bY false (RL.nq (RC.sr (mv (str p0) ?_)))))
 obtain⟨aa,ah,j⟩:=bd j
 refine RL.cl CB (mD N (p0:=p0) (p1:=⟨[47]⟩) o ah) fun ae w o=>(RL.eW 0 aa o o5 (aX 0 (RL.nt (RC.r0 E V (fun(af:Unit)=>[own 9 ae aa]) (fun _=>[(0,(str p0))]) (fun ab _=>[(6,ae),(7,vi aa.length),(8,vi ab)]) (nc E V) j ?_ ?_ ?_ ?_))))
 ·exact o.sp 1 [0]
 ·rintro hm ab af fl _ w hk ⟨O,rfl,o⟩ j
  refine RC.seq (RC.bs ?_)
  obtain⟨ad,ag,j⟩:=bd j
  refine RL.cO 0 o zr zr jD ag (RL.l1 0 o ag fY (cT (str ad) (RL.ns (mv (str ad) ?_))))
  obtain⟨ak,al,j⟩:=bd j
  refine RL.cs BW (gE N (p0:=ad) o al) fun w o=>(RL.not ak (RL.nt (dX j (fun j=>?_) fun j=>?_)))
  rotate_left
  ·refine RC.skip (bF (aF (RC.region (RL.inc hk hm (aX ((ab+1:Nat):Int) (RL.nil ?_))))))
   obtain rfl:=oi j
   exact⟨rfl,o.sp 1 [0]⟩
  refine RC.sr (bY false (RL.nt (RC.rb (aO ?_))))
  obtain rfl:=oi j
  exact⟨rfl,bC ⟨rfl,o.drop 1⟩⟩
 ·intro r U w j hK
  refine aO ?_
  obtain rfl:=oi j
  exact hK
 rintro af _ w j ⟨O,rfl,o⟩
 refine aF (RC.sr (mv (str p0) (RL.lens p0 rV (ic ((p0.bQ.length:Int)) 200 (bY (decide ((p0.bQ.length:Int)<=200)) (RL.nt (RC.ret ?_)))))))
 obtain rfl:=oi j
 exact bC ⟨rfl,o.drop 1⟩
def nd (E:World) (V:List HP) (r:Int) (U:Nat->Value) (w:World):Prop:=gR bE 20 Tryz.f64 (aC E V r) .ret U w
theorem fh {p0: (List aD)} {p1:aT} (j:Holds E w V) (h0:V[i0]? =some (rd v0 p0)) (o:dJ N p0 p1=some res):
    Calls bE 64 [v0,(str p1)].toArray w (eT (aC E V res)):=by
 unfold dJ at o
 refine enter Tryz.func64 zr zr ?_
 have j:=j.dup (i0+0) h0
 refine RC.sr (aI 0 (RL.nq (RC.sr (mv v0 (RL.bG 0 p0 j yG (aX 0 (RL.nt (RC.r0 E V (fun(ab:Unit)=>[rd v0 p0]) (fun _=>[]) (fun aa _=>[(1,(str p1)),(7,v0),(8,vi p0.length),(9,vi aa)]) (nd E V) o ?_ ?_ ?_ ?_))))))))
 ·exact j.sp 1 [0]
 ·rintro hm aa ab fl _ w hk ⟨O,rfl,j⟩ o
  refine RC.seq (RC.bs (aX (aa:Int) ?_))
  obtain⟨ad,ag,o⟩:=bd o
  refine RL.bK 0 j qA ag fun aj j=>(RL.aZ 0 ad j lT fun ak j=>(RL.alloc j xu.z fun al w j=>?_))
  refine aI (aa:Int) (RL.bD 0 j 1 zr lT fun w j=>?_)
  refine RL.ns (RL.bU zr oa (RL.aV 0 j zr fD fY (mv (str p1) (RL.lR ad.Name p1 zt (RL.nt (dX o (fun o=>?_) fun o=>?_))))))
  rotate_left
  ·refine RC.skip (bF (aF (RC.region (RL.inc hk hm (aX ((aa+1:Nat):Int) (RL.nil ?_))))))
   obtain rfl:=oi o
   exact⟨rfl,j.sp 4 [3]⟩
  refine RC.sr (aX (aa:Int) (aI (aa:Int) (RL.nt (RC.rb (aO ?_)))))
  obtain rfl:=oi o
  exact⟨rfl,bC ⟨rfl,j.drop 4⟩⟩
 ·intro r U w o hK
  refine aO ?_
  obtain rfl:=oi o
  exact hK
 rintro ab _ w o ⟨O,rfl,j⟩
 refine aF (RC.sr (aI (-1) (RL.nt (RC.ret ?_))))
 obtain rfl:=oi o
 exact bC ⟨rfl,j.drop 1⟩
def ng (E:World) (V:List HP) (r:Int) (U:Nat->Value) (w:World):Prop:=gR bE 20 Tryz.f73 (aC E V r) .ret U w
theorem jB {p0: (List Part)} {p1:aT} (j:Holds E w V) (h0:V[i0]? =some (rd v0 p0)) (o:fc N p0 p1=some res):
    Calls bE 73 [v0,(str p1)].toArray w (eT (aC E V res)):=by
 unfold fc at o
 refine enter Tryz.func73 zr zr ?_
 have j:=j.dup (i0+0) h0
 refine RC.sr (aI 0 (RL.nq (RC.sr (mv v0 (RL.bG 0 p0 j rW (aX 0 (RL.nt (RC.r0 E V (fun(ab:Unit)=>[rd v0 p0]) (fun _=>[]) (fun aa _=>[(1,(str p1)),(7,v0),(8,vi p0.length),(9,vi aa)]) (ng E V) o ?_ ?_ ?_ ?_))))))))
 ·exact j.sp 1 [0]
 ·rintro hm aa ab fl _ w hk ⟨O,rfl,j⟩ o
  refine RC.seq (RC.bs (aX (aa:Int) ?_))
  obtain⟨ad,ag,o⟩:=bd o
  refine RL.bK 0 j o4 ag fun aj j=>(RL.aZ 0 ad j m1 fun ak j=>(RL.alloc j uW.z fun al w j=>?_))
  refine aI (aa:Int) (RL.bD 0 j 1 zr m1 fun w j=>?_)
  refine RL.ns (RL.bU zr lr (RL.aV 0 j zr gA fY (mv (str p1) (RL.lR ad.Name p1 zt (RL.nt (dX o (fun o=>?_) fun o=>?_))))))
  rotate_left
  ·refine RC.skip (bF (aF (RC.region (RL.inc hk hm (aX ((aa+1:Nat):Int) (RL.nil ?_))))))
   obtain rfl:=oi o
   exact⟨rfl,j.sp 4 [3]⟩
  refine RC.sr (aX (aa:Int) (aI (aa:Int) (RL.nt (RC.rb (aO ?_)))))
  obtain rfl:=oi o
  exact⟨rfl,bC ⟨rfl,j.drop 4⟩⟩
 ·intro r U w o hK
  refine aO ?_
  obtain rfl:=oi o
  exact hK
 rintro ab _ w o ⟨O,rfl,j⟩
 refine aF (RC.sr (aI (-1) (RL.nt (RC.ret ?_))))
 obtain rfl:=oi o
 exact bC ⟨rfl,j.drop 1⟩
def nR (E:World) (V:List HP) (r:Int) (U:Nat->Value) (w:World):Prop:=gR bE 21 Tryz.f74 (aC E V r) .ret U w
theorem jX {p0:aD} {p1:aT} (j:Holds E w V) (h0:V[i0]? =some (rd v0 p0)) (o:fm N p0 p1=some res):
    Calls bE 74 [v0,(str p1)].toArray w (eT (aC E V res)):=by
 unfold fm at o
 refine enter Tryz.func74 zr zr ?_
 have j:=j.dup (i0+0) h0
 refine RC.sr (RL.cW 0 v0 j zr fun aj w j=>?_)
 refine aI 0 (RL.nq (RC.sr (RL.bU zr iC (RL.bI 0 j zr cF ob fun ab j=>(RL.bG 0 p0.aP j pN (aX 0 (RL.nt (RC.r0 E V (fun(ad:Unit)=>[rd ab p0.aP]) (fun _=>[]) (fun aa _=>[(1,(str p1)),(8,ab),(9,vi p0.aP.length),(10,vi aa)]) (nR E V) o ?_ ?_ ?_ ?_))))))))
 ·exact j.sp 3 [0]
 ·rintro hm aa ad fl _ w hk ⟨O,rfl,j⟩ o
  refine RC.seq (RC.bs (aX (aa:Int) ?_))
  obtain⟨ae,ah,o⟩:=bd o
  refine RL.bK 0 j mf ah fun al j=>(RL.aZ 0 ae j mg fun an j=>(RL.alloc j tw.z fun ao w j=>?_))
  refine aI (aa:Int) (RL.bD 0 j 1 zr mg fun w j=>?_)
  refine RL.ns (RL.bU zr kK (RL.aV 0 j zr ee fY (mv (str p1) (RL.lR ae.Name p1 zt (RL.nt (dX o (fun o=>?_) fun o=>?_))))))
  rotate_left
  ·refine RC.skip (bF (aF (RC.region (RL.inc hk hm (aX ((aa+1:Nat):Int) (RL.nil ?_))))))
   obtain rfl:=oi o
   exact⟨rfl,j.sp 4 [3]⟩
  refine RC.sr (aX (aa:Int) (aI (aa:Int) (RL.nt (RC.rb (aO ?_)))))
  obtain rfl:=oi o
  exact⟨rfl,bC ⟨rfl,j.drop 4⟩⟩
 ·intro r U w o hK
  refine aO ?_
  obtain rfl:=oi o
  exact hK
 rintro ad _ w o ⟨O,rfl,j⟩
 refine aF (RC.sr (aI (-1) (RL.nt (RC.ret ?_))))
 obtain rfl:=oi o
 exact bC ⟨rfl,j.drop 1⟩
theorem mJ {p0: (List aD)} {p1:aH} {p2:bT} {res:Bool} (j:Holds E w V) (h0:V[i0]? =some (rd v0 p0)) (h1:V[i1]? =some (rd v1 p1)) (h2:V[i2]? =some (rd v2 p2)) (hb:gi N p0 p1 p2=some res):
    Calls bE 65 [v0,v1,v2].toArray w (eT (bA E V res)):=by
 unfold gi at hb
 refine enter Tryz.func65 zr zr ?_
 have j:=((j.dup (i0+0) h0).dup (i1+1) h1).dup (i2+2) h2
 refine RC.sr (RL.cW 1 v1 j zr fun aq w j=>?_)
 refine RL.cW 1 v2 j zr fun ag w j=>?_
 refine bY false (RL.ns (RL.bU zr iX (RL.bI 1 j zr cU oZ fun ar j=>(RL.bU zr m5 (RL.aV 1 j zr jR fY ?_)))))
 obtain⟨ad,ai,hb⟩:=bd hb
 refine RL.cs CP (jB N (p1:=p2.Part) (i0:=0) j zr ai) fun w j=>(aI ad (RL.nq ?_))
 obtain⟨ae,hj,hb⟩:=bd hb
 refine RC.jn (fun(ae:Bool)=>SH E V [(6,vb ae)] []) ae ?_ ?_
 ·have j:=j.drew
  refine RC.zT (fun w=>Holds E w ([bx 59 ag p2]++V)) mixed zr [0,0,0,1,0,0,0,0,0,0,0,2,0,0,1,1,2,0,0,0] [0,1,2,3,4,5,6,7,8,9,10,14,15,11,12,13,16,17,18,19] (j.pk 6 [1]) (DP.e0 zr zr (aX ad (eM zr (ic ad 0 (eM zr (jG (decide (ad>=0)) (DP.d0 (iW hj (fun o hj=>?_) fun o hj=>?_))))))))
  rotate_left
  ·refine DP.e1 undef zr (fun w=>bS o DP.d1) (DP.e0 zr zr (bS o (eM zr (bS o (eM zr (bS o (eM zr (bS o ?_))))))))
   refine eM zr (bS o (eM zr (bS o (eM zr (bS o (DP.d0 (DP.e1 undef zr (fun w=>bS o DP.d1) (DP.e1 undef zr (fun w=>bS o DP.d1) ?_))))))))
   refine DP.e2 zr zr (bS o (DP.d2 (j.pk 6 [1]) (DP.e0 zr zr (bS o (eM zr (bS o (wg zr (bS o ?_))))))))
   refine DP.d2 (j.pk 6 [1]) (DP.e0 zr zr (bS o (eM zr (iQ o (vb false) (eM zr (bY false (DP.d0 (DP.z ?_))))))))
   obtain rfl:=oi hj
   exact⟨rfl,j.sp 6 []⟩
  refine DP.e1 v0 zr (fun w=>RL.move v0 (cg o) DP.d1) (DP.e0 zr zr (RL.move v0 (cg o) (eM zr (RL.bU (hg:=(cg o)) zr iX (eM zr (RL.bI (hg:=(cg o)) 2 j zr cU oZ fun au j=>(eM zr (RL.move (vi ad) (cg o) ?_))))))))
  refine eM zr ?_
  obtain⟨ah,aj,hj⟩:=bd hj
  refine RL.bK (hg:=(cg o)) 0 j o4 aj fun av j=>(eM zr (RL.gS 0 (cg o) j zr lu gB fun aw j=>(eM zr (RL.bX (hg:=(cg o)) ah.cE 0 j fY (DP.d0 (DP.e1 (vp ag 1) zr (fun w=>RL.bU (hg:=(cg o)) zr pP DP.d1) (DP.Cs (str p2.bT) zr zr (fun w j=>RL.aV (hg:=(cg o)) 0 j zr ln fY DP.d1) (DP.e2 zr zr ?_))))))))
  obtain⟨ax,ak,hj⟩:=bd hj
  refine RL.cs (hg:=(cg o)) A0 (fh N (p1:=ah.cE) (i0:=8) j zr ak) fun w j=>(DP.d2 (j.pk 9 [4]) (DP.e0 zr zr ?_))
  obtain⟨al,an,hj⟩:=bd hj
  refine RL.bK (hg:=(cg o)) 8 j qA an fun ay j=>(eM zr (RL.aZ (hg:=(cg o)) 0 al j lT fun az j=>(wg zr ?_)))
  obtain⟨af,ao,hj⟩:=bd hj
  refine RL.cs (hg:=(cg o)) CQ (jX N (p1:=p2.bT) (i0:=0) j zr ao) fun w j=>(DP.d2 (j.pk 11 [6]) (DP.e0 zr zr (RL.kr af 0 (cg o) (eM zr (iQ o (vb (decide (af>=0))) (eM zr (bY (decide (af>=0)) (DP.d0 ?_))))))))
  refine DP.z ?_
  obtain rfl:=oi hj
  exact⟨rfl,j.sp 11 []⟩
 rintro _ w ⟨O,rfl,j⟩
 refine aF (RC.ret ?_)
 obtain rfl:=oi hb
 exact bC ⟨rfl,j.drop 0⟩
theorem mK {p0 p1:bT} {res:Bool} (j:Holds E w V) (h0:V[i0]? =some (rd v0 p0)) (h1:V[i1]? =some (rd v1 p1)) (hb:gj N p0 p1=some res):
    Calls bE 66 [v0,v1].toArray w (eT (bA E V res)):=by
 unfold gj at hb
 refine enter Tryz.func66 zr zr ?_
 have j:=(j.dup (i0+0) h0).dup (i1+1) h1
 refine RC.sr (RL.cW 1 v0 j zr fun o w j=>?_)
 refine RL.cW 1 v1 j zr fun aa w j=>?_
 refine bY false (RL.ns (RL.bU zr m5 (RL.aV 1 j zr jR fY (RL.bU zr m5 (RL.aV 0 j zr jR fY (RL.lR p0.Part p1.Part zt (jG (p0.Part.ks p1.Part) (RL.gs true (p0.Part.ks p1.Part) (vp o 0) zr zr zr (kj m5) ?_))))))))
 refine RL.gs true (p0.Part.ks p1.Part) (str p0.Part) rfl rfl rfl (fA 1 rfl j (fun h=>by exact(pF h:cv (true&&((p0.Part.ks p1.Part)==false)) (vp o 0)= (vp o 0))) rfl jR fY) (RL.gs true (p0.Part.ks p1.Part) (vp aa 0) rfl rfl rfl (kj m5) (RL.gs true (p0.Part.ks p1.Part) (str p1.Part) rfl rfl rfl (fA 0 rfl j (fun h=>by exact(pF h:cv (true&&((p0.Part.ks p1.Part)==false)) (vp aa 0)= (vp aa 0))) rfl jR fY) (RL.g1 (vb (p0.Part.iM p1.Part)) rfl rfl (Dt .eql) (RL.g1 (vb (p0.Part.iM p1.Part)) rfl rfl se (RL.g2 (vp o 1) rfl rfl (kj pP) (RL.g2 (str p0.bT) rfl rfl (fA 1 rfl j (fun h=>by exact(pF h:cv ((true&&((p0.Part.ks p1.Part)==false))&&((p0.Part.iM p1.Part)==true)) (vp o 1)= (vp o 1))) rfl ln fY) (RL.g2 (vp aa 1) rfl rfl (kj pP) (RL.g2 (str p1.bT) rfl rfl (fA 0 rfl j (fun h=>by exact(pF h:cv ((true&&((p0.Part.ks p1.Part)==false))&&((p0.Part.iM p1.Part)==true)) (vp aa 1)= (vp aa 1))) rfl ln fY) ?_))))))))
 refine RL.g2 (vb (p0.bT.ks p1.bT)) zr zr (Dt .lss) (RL.g1 (vb ((p0.Part.iM p1.Part)&&(p0.bT.ks p1.bT))) zr zr Fc (RL.pick (b:=(p0.Part.ks p1.Part)) (v:=(vb ((p0.Part.ks p1.Part)||((p0.Part.iM p1.Part)&&(p0.bT.ks p1.bT))))) zt zr zr (sq true zr) (bY ((p0.Part.ks p1.Part)||((p0.Part.iM p1.Part)&&(p0.bT.ks p1.bT))) (RL.nt (RC.ret ?_)))))
 obtain rfl:=oi hb
 exact bC ⟨rfl,j.drop 4⟩
def pY (E:World) (V:List HP) (r:Int) (U:Nat->Value) (w:World):Prop:=gR bE 19 Tryz.f135 (aC E V r) .ret U w
theorem pd {p0: (List bT)} {p1:bT} (j:Holds E w V) (h0:V[i0]? =some (rd v0 p0)) (h1:V[i1]? =some (rd v1 p1)) (o:kc N p0 p1=some res):
    Calls bE 135 [v0,v1].toArray w (eT (aC E V res)):=by
 unfold kc at o
 refine enter Tryz.func135 zr zr ?_
 have j:=(j.dup (i0+0) h0).dup (i1+1) h1
 refine RC.sr (RL.cW 0 v1 j zr fun ab w j=>?_)
 refine aI 0 (RL.nq (RC.sr (mv v0 (RL.bG 2 p0 j rX (aX 0 (RL.nt (RC.r0 E V (fun(ad:Unit)=>[rd v0 p0,bx 59 ab p1]) (fun _=>[]) (fun aa _=>[(0,v0),(3,vp ab 0),(7,vi p0.length),(8,vi aa)]) (pY E V) o ?_ ?_ ?_ ?_)))))))
 ·exact j.sp 3 [2,0]
 ·rintro hm aa ad fl _ w hk ⟨O,rfl,j⟩ o
  refine RC.seq (RC.bs (aX (aa:Int) (aI (aa:Int) (RL.nq (RC.v7 mixed ?_)))))
  have j:=j.drew
  refine RO.go (RL.b1 1 j zr jm fun ak j=>(RO.nx (mv v0 (RO.nx (aX (aa:Int) (RO.nx ?_))))))
  obtain⟨ae,ah,o⟩:=bd o
  refine RL.bK 1 j rY ah fun al j=>(RO.nx (RL.aZ 0 ae j jm fun an j=>(RO.nx (RL.seq 2 0 p1 ae zt zr j zr zr zr zr zX zr (RO.last (aF (dX o (fun o=>?_) fun o=>?_)))))))
  rotate_left
  ·refine RC.skip (bF (aF (RC.region (RL.inc hk hm (aX ((aa+1:Nat):Int) (RL.nil ?_))))))
   obtain rfl:=oi o
   exact⟨rfl,j.sp 5 [3,4]⟩
  refine RC.sr (aX (aa:Int) (aI (aa:Int) (RL.nt (RC.rb (aO ?_)))))
  obtain rfl:=oi o
  exact⟨rfl,bC ⟨rfl,j.drop 5⟩⟩
 ·intro r U w o hK
  refine aO ?_
  obtain rfl:=oi o
  exact hK
 rintro ad _ w o ⟨O,rfl,j⟩
 refine aF (RC.sr (aI (-1) (RL.nt (RC.ret ?_))))
 obtain rfl:=oi o
 exact bC ⟨rfl,j.drop 2⟩
theorem jY {p0: (List bT)} {p1:bT} {res:Bool} (j:Holds E w V) (h0:V[i0]? =some (rd v0 p0)) (h1:V[i1]? =some (rd v1 p1)) (o:eJ N p0 p1=some res):
    Calls bE 97 [v0,v1].toArray w (eT (bA E V res)):=by
 unfold eJ at o
 refine enter Tryz.func97 zr zr ?_
 have j:=(j.dup (i0+0) h0).dup (i1+1) h1
 refine RC.sr (RL.cW 0 v1 j zr fun ad w j=>?_)
 refine bY false (RL.ns (mv v0 (RL.b1 0 j zr jm fun ae j=>?_)))
 obtain⟨aa,ab,o⟩:=bd o
 refine RL.cs CR (pd N (i0:=3) (i1:=0) j zr zr ab) fun w j=>(ic aa 0 (bY (decide (aa>=0)) (RL.nt (RC.ret ?_))))
 obtain rfl:=oi o
 exact bC ⟨rfl,j.drop 4⟩
def ni (E:World) (V:List HP) (r:Bool) (U:Nat->Value) (w:World):Prop:=gR bE 18 Tryz.f67 (bA E V r) .ret U w
theorem mL {p0: (List Net)} {p1:bT} {res:Bool} (j:Holds E w V) (h0:V[i0]? =some (rd v0 p0)) (h1:V[i1]? =some (rd v1 p1)) (o:fe N p0 p1=some res):
    Calls bE 67 [v0,v1].toArray w (eT (bA E V res)):=by
 unfold fe at o
 refine enter Tryz.func67 zr zr ?_
 have j:=(j.dup (i0+0) h0).dup (i1+1) h1
 refine RC.sr (RL.cW 0 v1 j zr fun ab w j=>?_)
 refine bY false (RL.nq (RC.sr (mv v0 (RL.bG 2 p0 j tx (aX 0 (RL.nt (RC.r0 E V (fun(ad:Unit)=>[bx 59 ab p1,rd v0 p0]) (fun _=>[]) (fun aa _=>[(3,vp ab 0),(7,v0),(8,vi p0.length),(9,vi aa)]) (ni E V) o ?_ ?_ ?_ ?_)))))))
 ·exact j.sp 3 [0,2]
 ·rintro hm aa ad fl _ w hk ⟨O,rfl,j⟩ o
  refine RC.seq (RC.bs ?_)
  obtain⟨ag,ah,o⟩:=bd o
  refine RL.bK 1 j uX ah fun al j=>(RL.aZ 0 ag j tz fun an j=>(RL.alloc j zW.z fun ao w j=>?_))
  refine RL.bD 0 j 1 zr tz fun w j=>?_
  refine RL.ns (RL.bU zr mh (RL.bI 0 j zr i5 tA fun aq j=>(RL.b1 4 j zr jm fun ar j=>?_)))
  obtain⟨au,ai,o⟩:=bd o
  refine RL.cs CT (jY N (i0:=1) (i1:=0) j zr zr ai) fun w j=>(RL.nt (dX o (fun o=>?_) fun o=>?_))
  rotate_left
  ·refine RC.skip (bF (aF (RC.region (RL.inc hk hm (aX ((aa+1:Nat):Int) (RL.nil ?_))))))
   obtain rfl:=oi o
   exact⟨rfl,j.sp 7 [5,6]⟩
  refine RC.sr (bY true (RL.nt (RC.rb (aO ?_))))
  obtain rfl:=oi o
  exact⟨rfl,bC ⟨rfl,j.drop 7⟩⟩
 ·intro r U w o hK
  refine aO ?_
  obtain rfl:=oi o
  exact hK
 rintro ad _ w o ⟨O,rfl,j⟩
 refine aF (RC.sr (bY false (RL.nt (RC.ret ?_))))
 obtain rfl:=oi o
 exact bC ⟨rfl,j.drop 2⟩
end Go.Gk
