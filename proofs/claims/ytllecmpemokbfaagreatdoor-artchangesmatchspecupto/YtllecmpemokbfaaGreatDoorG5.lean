/-
  Printed texts: Go functions as plain functions, and that they are. No statement of the seed is proved here.
-/
import Derived.Test.YtllecmpemokbfaaGreatDoorG1
import Derived.Test.YtllecmpemokbfaaGreatDoorG4
import Derived.Test.YtllecmpemokbfaaGreatDoorA2
set_option linter.unusedVariables false
set_option linter.unusedSimpArgs false
set_option linter.unusedSectionVars false
set_option maxRecDepth 100000
set_option maxHeartbeats 4000000
namespace Go.Gk
open Go Go.Proofs
variable (N:Nat) {E w:World} {i0 i1 i2:Nat} {p0 p1 p2 res:Int} {v0 v1 v2:Value} {V:List HP}
def Bq (E:World) (V:List HP) (res: ((List (List aG))×(List aG)×(List bJ)×(List cU))) (v:Value) (w:World):Prop:=∃u0_0 u0_1 u0_2 u0_3:Value,v= (.agg ([u0_0,u0_1,u0_2,u0_3]:List Value).toArray)/\Holds E w ([own 23 u0_0 res.1,own 51 u0_1 res.2.1,own 46 u0_2 res.2.2.1,own 49 u0_3 res.2.2.2]++V)
theorem vf {p0:fu} {res: ((List (List aG))×(List aG)×(List bJ)×(List cU))} (j:Holds E w V) (h0:V[i0]? =some (rd v0 p0)) (o:np N p0=some res):
    Calls bD 24 [v0].toArray w (gm (Bq E V res)):=by
 unfold np at o
 refine enter Tryz.func24 zr zr ?_
 have j:=j.dup (i0+0) h0
 refine RC.sr (RL.dA 0 v0 j zr fun ab w j=>?_)
 refine RL.pP j HF fun an w j=>?_
 refine RL.ns (RL.aX zr fB (RL.aV 1 j zr dX lk fun av j=>?_))
 obtain⟨al,aw,o⟩:=bd o
 refine RL.call zt zr L1 [av] zr (aC (rB N (i0:=0) j zr aw) ?_)
 rintro aa w j
 refine RL.aX zr fB ?_
 obtain⟨cs,hcs,j⟩:=j.Eb (i:=3) rfl
 obtain⟨a3,ag,ad,ae,rfl⟩:=ID hcs
 have j:=(((j.mN (i:=0) (k:=0) (f:=fun x=>x.aI) rfl dX rfl rfl rfl).mN (i:=1) (k:=1) (f:=fun x=>x.bZ) rfl nV rfl rfl rfl).mN (i:=2) (k:=2) (f:=fun x=>x.aR) rfl hU rfl rfl rfl).mN (i:=3) (k:=3) (f:=fun x=>x.bI) rfl lC rfl rfl rfl
 refine RL.gW 8 aa j zr zr (eM 5 j) lk fun w j=>?_
 refine RL.nq (RC.sr (RL.aX zr fB (RL.cA 8 aa j lk (RL.fY 5 al j oN (mv (vi 0) (RL.nt ?_))))))
 obtain⟨ah,hN,o⟩:=bd o
 refine RC.fold (fun(af:Nat) (ah: (List (List aG)))=>SH E V [(1,vp ab 0),(2,vp an 0),(10,vi al.length),(11,vi af)] [bc 27 ab [aa,ag,ad,ae],own 23 aa ah,rd ag p0.bZ,rd ad p0.aR,rd ae p0.bI,bc 27 an [(.slice none 0 0),(.slice none 0 0),(.slice none 0 0),(.slice none 0 0)]]) (fun(ah: (List (List aG)))=>SH E V [(1,vp ab 0),(2,vp an 0)] [bc 27 ab [aa,ag,ad,ae],own 23 aa ah,rd ag p0.bZ,rd ad p0.aR,rd ae p0.bI,bc 27 an [(.slice none 0 0),(.slice none 0 0),(.slice none 0 0),(.slice none 0 0)]]) hN ?_ ?_ ?_ ?_
 ·exact j.sp 10 [8,5,2,1,0,7]
 ·rintro hm ah _ w ⟨O,rfl,j⟩
  refine RC.sr (ic ((al.length:Int)) ((al.length:Int)) (RL.nq (RC.eZ r5 (RC.ex ?_))))
  exact⟨rfl,j.sp 6 [0,1,2,3,4,5]⟩
 ·rintro hm af ah s' _ w hk ⟨O,rfl,j⟩ o
  refine RC.sr (ic ((af:Int)) ((al.length:Int)) (RL.nq (RC.eY (rZ hk) (RC.ss (RC.bs (mv (vi af) (aP (vi af) (RL.nt ?_))))))))
  have j:=j.drew
  refine RC.Dw (fun w=>Holds E w ([bc 27 ab [aa,ag,ad,ae]]++V)) mixed zr [1,1,1,0,0,0,0,0,2,0,2] [0,1,2,3,4,5,6,7,8,9,10] (j.pk 6 [0]) (DP.e1 (vp ab 0) zr (fun w=>RL.aX zr fB DP.d1) (DP.He aa zr (fun w j=>RL.cA 0 aa j lk DP.d1) (DP.e1 (vi af) zr (fun w=>RL.move (vi af) zt DP.d1) (DP.e0 zr (RL.aX zr fB (bW zr (RL.cA 0 aa j lk (bW zr ?_))))))))
  refine mv (vi af) (bW zr ?_)
  obtain⟨a4,ao,o⟩:=bd o
  refine RL.bX 1 j zr zr oz ao (bW zr (RL.ld (f:=(fun x=>x)) 1 j (kJ 1 j ao 0) (bE ao).2.1 Fd.self nL fun ay j=>?_))
  refine r6 zr ?_
  obtain⟨a5,az,o⟩:=bd o
  refine RL.call zt zr IQ [ay] zr (aC (mf N (i0:=0) j zr az) ?_)
  rintro a6 w j
  refine DP.d2 (j.pk 8 [2]) (DP.e0 zr ?_)
  obtain⟨a7,aq,o⟩:=bd o
  refine RL.bX 3 j zr zr oz aq (r6 zr ?_)
  have j:=j.freeze 0
  refine RL.gp (f:=(fun _ y=>y)) 3 0 j (kJ 3 j aq 0) (bE aq).2.1 zr Fs.self nL fun w j=>?_
  refine DP.d2 (j.pk 8 [2]) (DP.z (bQ (aJ (RC.region (RL.inc hk hm (mv (vi ((af+1:Nat):Int)) (RL.nil ?_)))))))
  obtain rfl:=oi o
  exact⟨rfl,j.sp 8 [2,3,4,5,6,7]⟩
 rintro _ w ⟨O,rfl,j⟩
 refine aJ (RC.seq ?_)
 have j:=j.drew
 refine RC.Dw (fun w=>Holds E w ([bc 27 ab [aa,ag,ad,ae]]++V)) mixed zr [0,0,2,1,1,2,1,1,2,1,2,0,2,0,2] [0,1,3,4,6,7,2,9,5,8,10,11,12,13,14] (j.pk 6 [0]) (DP.e0 zr (RL.aX zr tE (bW zr (RL.cA 0 ag j nL (DP.d0 (DP.e1 (vp ab 2) zr (fun w=>RL.aX zr jm DP.d1) (DP.He ad zr (fun w j=>RL.cA 0 ad j o4 DP.d1) (DP.e1 (vp ab 3) zr (fun w=>RL.aX zr o6 DP.d1) ?_))))))))
 refine DP.He ae zr (fun w j=>RL.cA 0 ae j yl DP.d1) (DP.e2 zr ?_)
 obtain⟨a8,a0,o⟩:=bd o
 refine RL.call zt zr IQ [ag] zr (aC (mf N (i0:=2) j zr a0) ?_)
 rintro ai w j
 refine DP.d2 (j.pk 7 [1]) (DP.e1 (vp ab 1) zr (fun w=>RL.aX zr tE DP.d1) (DP.e2 zr ?_))
 obtain⟨a9,a1,o⟩:=bd o
 refine RL.call zt zr L3 [ad] zr (aC (tT N (i0:=4) j zr a1) ?_)
 rintro aj w j
 refine DP.d2 (j.pk 8 [2]) (DP.e2 zr ?_)
 obtain⟨ba,a2,o⟩:=bd o
 refine RL.call zt zr L5 [ae] zr (aC (tU N (i0:=6) j zr a2) ?_)
 rintro ak w j
 refine DP.d2 (j.pk 9 [3]) (DP.La zr zr (RL.gW 3 ai j zr zr (eM 2 j) nL fun w j=>?_))
 refine yv zr (RL.aX zr jm (r6 zr (RL.gW 3 aj j zr zr (eM 1 j) o4 fun w j=>?_)))
 refine yv zr (RL.aX zr o6 (r6 zr (RL.gW 3 ak j zr zr (eM 0 j) yl fun w j=>?_)))
 refine DP.d2 zt (DP.z (aJ (RC.sr (RL.Cf (cs:=[aa,ai,aj,ak]) 3 zt zr j zr zr eJ zr (RL.xn 8 [aa,ai,aj,ak] j zr zr zr (v8.all (⟨(eM 4 j),(eM 2 j),(eM 1 j),(eM 0 j),zt⟩:v8 [aa,ai,aj,ak])) eJ zr zr fun w j=>?_)))))
 refine RL.nt (RC.ret ?_)
 obtain rfl:=oi o
 exact Jr (i:=8) (cs:=[aa,ai,aj,ak]) zr j zr zr eJ zr ⟨aa,ai,aj,ak,zr,j.pk 9 [4,2,1,0]⟩
theorem rC {p0:fu} {p2: (List aG)} {res:fu×Int} (j:Holds E w V) (h0:V[i0]? =some (rd v0 p0)) (h2:V[i2]? =some (rd v2 p2)) (o:kh N p0 p1 p2=some res):
    Calls bD 10 [v0,(vi p1),v2,(.func (.func 11) #[] #[])].toArray w (gm (fC E V res)):=by
 unfold kh at o
 refine enter Tryz.func10 zr zr ?_
 have j:=(j.dup (i0+0) h0).dup (i2+1) h2
 refine RC.sr (RL.dA 1 v0 j zr fun bj w j=>?_)
 refine RL.alloc j yP.z fun bk w j=>?_
 refine aP (vi 0) (RL.nq (RC.sr (RL.aV (f:=(fun x=>x)) 1 j zr Fd.self eJ fun ao j=>?_)))
 obtain⟨ad,aq,o⟩:=bd o
 refine RL.call zt zr HE [ao] zr (aC (lr N (i0:=0) j zr aq) ?_)
 rintro _ w ⟨rfl,j⟩
 refine aP (vi ad) (RL.ns (mv (vi ad) (ic ad 0 (RL.nt (dW o (fun hc o=>?_) fun hc o=>?_)))))
 ·refine RC.sr (RL.mQ [(.slice none 0 0),(.slice none 0 0),(.slice none 0 0),(.slice none 0 0)] [(.slice none 0 0),(.slice none 0 0),(.slice none 0 0),(.slice none 0 0)] [] vz (mv (vi ad) ?_))
  have j:=((((j.cO (List aG)).cO aG).cO bJ).cO cU).mR (cs:=[(.slice none 0 0),(.slice none 0 0),(.slice none 0 0),(.slice none 0 0)]) (x:=(⟨([]: (List (List aG))),([]: (List aG)),([]: (List bJ)),([]: (List cU))⟩:fu)) (fun M hs g=>⟨[(.slice none 0 0)],[(.slice none 0 0),(.slice none 0 0),(.slice none 0 0)],rfl,(cB (g.sat 3 _ rfl).1),⟨[(.slice none 0 0)],[(.slice none 0 0),(.slice none 0 0)],rfl,(cB (g.sat 2 _ rfl).1),⟨[(.slice none 0 0)],[(.slice none 0 0)],rfl,(cB (g.sat 1 _ rfl).1),(cB (g.sat 0 _ rfl).1)⟩⟩⟩) rfl
  refine RL.aY 6 j 0 zr eJ fun w j=>?_
  refine aP (vi ad) (RL.nt (RC.rt ?_))
  obtain rfl:=oi o
  exact kB 6 j eJ fun ar j=>⟨ar,zr,j.pk 11 [0]⟩
 refine RC.ss (RC.sr (mv (vi p1) (RL.aX zr fB (RL.aV 2 j zr dX lk fun bl j=>(RL.bA 0 p0.aI j oN (RL.gQ (p0.aI.length:Int) 1 ?_))))))
 obtain⟨au,av,o⟩:=bd o
 refine RL.call zt zr E8 [(vi p1),(vi 0),(vi (IntKind.wrap .i64 ((p0.aI.length:Int) - 1)))] zr (aC (jD N (p0:=p1) (p1:=0) (p2:=(IntKind.wrap .i64 ((p0.aI.length:Int) - 1))) j av) ?_)
 rintro _ w ⟨rfl,j⟩
 refine RL.not au (RL.nt (dW o (fun hc o=>?_) fun hc o=>?_))
 ·refine RC.sr (RL.mQ [(.slice none 0 0),(.slice none 0 0),(.slice none 0 0),(.slice none 0 0)] [(.slice none 0 0),(.slice none 0 0),(.slice none 0 0),(.slice none 0 0)] [] vz ?_)
  have j:=((((j.cO (List aG)).cO aG).cO bJ).cO cU).mR (cs:=[(.slice none 0 0),(.slice none 0 0),(.slice none 0 0),(.slice none 0 0)]) (x:=(⟨([]: (List (List aG))),([]: (List aG)),([]: (List bJ)),([]: (List cU))⟩:fu)) (fun M hs g=>⟨[(.slice none 0 0)],[(.slice none 0 0),(.slice none 0 0),(.slice none 0 0)],rfl,(cB (g.sat 3 _ rfl).1),⟨[(.slice none 0 0)],[(.slice none 0 0),(.slice none 0 0)],rfl,(cB (g.sat 2 _ rfl).1),⟨[(.slice none 0 0)],[(.slice none 0 0)],rfl,(cB (g.sat 1 _ rfl).1),(cB (g.sat 0 _ rfl).1)⟩⟩⟩) rfl
  refine RL.aY 7 j 0 zr eJ fun w j=>?_
  refine aP (vi 9) (RL.nt (RC.rt ?_))
  obtain rfl:=oi o
  exact kB 7 j eJ fun aw j=>⟨aw,zr,j.pk 12 [0]⟩
 refine RC.ss (RC.sr (mv v2 ?_))
 obtain⟨ae,ax,o⟩:=bd o
 refine RL.call zt zr HB [v2] zr (aC (kj N (i0:=4) j zr ax) ?_)
 rintro _ w ⟨rfl,j⟩
 refine aP (vi ae) (RL.ns (mv (vi ae) (ic ae 0 (RL.nt (dW o (fun hc o=>?_) fun hc o=>?_)))))
 ·refine RC.sr (RL.mQ [(.slice none 0 0),(.slice none 0 0),(.slice none 0 0),(.slice none 0 0)] [(.slice none 0 0),(.slice none 0 0),(.slice none 0 0),(.slice none 0 0)] [] vz (mv (vi ae) ?_))
  have j:=((((j.cO (List aG)).cO aG).cO bJ).cO cU).mR (cs:=[(.slice none 0 0),(.slice none 0 0),(.slice none 0 0),(.slice none 0 0)]) (x:=(⟨([]: (List (List aG))),([]: (List aG)),([]: (List bJ)),([]: (List cU))⟩:fu)) (fun M hs g=>⟨[(.slice none 0 0)],[(.slice none 0 0),(.slice none 0 0),(.slice none 0 0)],rfl,(cB (g.sat 3 _ rfl).1),⟨[(.slice none 0 0)],[(.slice none 0 0),(.slice none 0 0)],rfl,(cB (g.sat 2 _ rfl).1),⟨[(.slice none 0 0)],[(.slice none 0 0)],rfl,(cB (g.sat 1 _ rfl).1),(cB (g.sat 0 _ rfl).1)⟩⟩⟩) rfl
  refine RL.aY 7 j 0 zr eJ fun w j=>?_
  refine aP (vi ae) (RL.nt (RC.rt ?_))
  obtain rfl:=oi o
  exact kB 7 j eJ fun ay j=>⟨ay,zr,j.pk 12 [0]⟩
 refine RC.sx (mv (.func (.func 11) #[] #[]) (RL.aX zr fB (RL.aV 3 j zr dX lk fun bm j=>(mv (vi p1) ?_))))
 obtain⟨az,a0,o⟩:=bd o
 refine RL.bP 0 j oz a0 fun bn j=>(RL.bF 0 az j nL fun a1 j=>?_)
 obtain⟨bo,a2,o⟩:=bd o
 refine RL.call zt zr Bc [a1] zr (aC (iF N (i0:=0) j zr a2) ?_)
 rintro a3 w j
 refine mv v2 ?_
 obtain⟨bp,a4,o⟩:=bd o
 refine RL.call zt zr Bc [v2] zr (aC (iF N (i0:=8) j zr a4) ?_)
 rintro a5 w j
 have j:=(j.freeze 1).freeze 0
 obtain⟨bq,a6,o⟩:=bd o
 refine RL.yD [] zr L0 zr [a3,a5] zr (aC (yp N (i0:=1) (i1:=0) j zr zr a6) ?_)
 rintro a7 w j
 have j:=j.freeze 0
 obtain⟨ab,a8,o⟩:=bd o
 refine RL.call zt zr Kp [a7] zr (aC (qH N (i0:=0) j zr a8) ?_)
 rintro _ w ⟨ai,rfl,j⟩
 refine mv (.tuple #[ai,(vi ab.2)]) (RL.extract ai (RL.extract (vi ab.2) (aP ai (aP (vi ab.2) (RL.nq (RC.sr (mv (vi ab.2) (ic ab.2 0 ?_))))))))
 refine RL.nt (dW o (fun hc o=>?_) fun hc o=>?_)
 ·refine RC.sr (RL.mQ [(.slice none 0 0),(.slice none 0 0),(.slice none 0 0),(.slice none 0 0)] [(.slice none 0 0),(.slice none 0 0),(.slice none 0 0),(.slice none 0 0)] [] vz (mv (vi ab.2) ?_))
  have j:=((((j.cO (List aG)).cO aG).cO bJ).cO cU).mR (cs:=[(.slice none 0 0),(.slice none 0 0),(.slice none 0 0),(.slice none 0 0)]) (x:=(⟨([]: (List (List aG))),([]: (List aG)),([]: (List bJ)),([]: (List cU))⟩:fu)) (fun M hs g=>⟨[(.slice none 0 0)],[(.slice none 0 0),(.slice none 0 0),(.slice none 0 0)],rfl,(cB (g.sat 3 _ rfl).1),⟨[(.slice none 0 0)],[(.slice none 0 0),(.slice none 0 0)],rfl,(cB (g.sat 2 _ rfl).1),⟨[(.slice none 0 0)],[(.slice none 0 0)],rfl,(cB (g.sat 1 _ rfl).1),(cB (g.sat 0 _ rfl).1)⟩⟩⟩) rfl
  refine RL.aY 14 j 0 zr eJ fun w j=>?_
  refine aP (vi ab.2) (RL.nt (RC.rt ?_))
  obtain rfl:=oi o
  exact kB 14 j eJ fun a9 j=>⟨a9,zr,j.pk 19 [0]⟩
 refine RC.sx (RL.aV (f:=(fun x=>x)) 10 j zr Fd.self eJ fun ba j=>?_)
 obtain⟨aj,bb,o⟩:=bd o
 refine RL.call zt zr Kq [ba] zr (aC (vf N (i0:=0) j zr bb) ?_)
 rintro _ w ⟨ak,al,af,ag,rfl,j⟩
 refine RL.pP j HF fun br w j=>?_
 refine RL.xn 0 [ak,al,af,ag] j zr zr zr (v8.all (⟨(eM 1 j),(eM 2 j),(eM 3 j),(eM 4 j),zt⟩:v8 [ak,al,af,ag])) eJ zr zr fun w j=>?_
 refine RL.ns (RL.aX zr fB (RL.cA 0 ak j lk (mv (vi p1) (mv ai ?_))))
 obtain⟨bs,an,o⟩:=bd o
 refine RL.bX 1 j zr zr oz an ?_
 have j:=j.freeze 6
 refine RL.gp (f:=(fun _ y=>y)) 1 6 j (kJ 1 j an 0) (bE an).2.1 zr Fs.self nL fun w j=>?_
 refine RL.nq (RC.sr ?_)
 have j:=((((j.freeze 1).freeze 2).freeze 3).freeze 4).v7 (i:=0) (x:=(⟨(aj.1.set (Int.toNat p1) ab.1),aj.2.1,aj.2.2.1,aj.2.2.2⟩:fu)) rfl (fun M hs g=>⟨[ak],[al,af,ag],rfl,(cB (g.sat 1 _ rfl).1),⟨[al],[af,ag],rfl,(cB (g.sat 2 _ rfl).1),⟨[af],[ag],rfl,(cB (g.sat 3 _ rfl).1),(cB (g.sat 4 _ rfl).1)⟩⟩⟩)
 refine RL.aV (f:=(fun x=>x)) 0 j zr Fd.self eJ fun bc j=>?_
 obtain⟨ah,bf,o⟩:=bd o
 refine RL.call zt zr HE [bc] zr (aC (lr N (i0:=0) j zr bf) ?_)
 rintro _ w ⟨rfl,j⟩
 refine aP (vi ah) (RL.ns (mv (vi ah) (ic ah 0 (RL.nt (dW o (fun hc o=>?_) fun hc o=>?_)))))
 rotate_left
 ·refine RC.sx (RL.aV (f:=(fun x=>x)) 1 j zr Fd.self eJ fun bt j=>(RL.aY 17 j 0 zr eJ fun w j=>?_))
  refine aP (vi 0) (RL.nt (RC.ret ?_))
  obtain rfl:=oi o
  exact kB 17 j eJ fun bg j=>⟨bg,zr,j.pk 22 [0]⟩
 refine RC.sr (RL.mQ [(.slice none 0 0),(.slice none 0 0),(.slice none 0 0),(.slice none 0 0)] [(.slice none 0 0),(.slice none 0 0),(.slice none 0 0),(.slice none 0 0)] [] vz (mv (vi ah) ?_))
 have j:=((((j.cO (List aG)).cO aG).cO bJ).cO cU).mR (cs:=[(.slice none 0 0),(.slice none 0 0),(.slice none 0 0),(.slice none 0 0)]) (x:=(⟨([]: (List (List aG))),([]: (List aG)),([]: (List bJ)),([]: (List cU))⟩:fu)) (fun M hs g=>⟨[(.slice none 0 0)],[(.slice none 0 0),(.slice none 0 0),(.slice none 0 0)],rfl,(cB (g.sat 3 _ rfl).1),⟨[(.slice none 0 0)],[(.slice none 0 0),(.slice none 0 0)],rfl,(cB (g.sat 2 _ rfl).1),⟨[(.slice none 0 0)],[(.slice none 0 0)],rfl,(cB (g.sat 1 _ rfl).1),(cB (g.sat 0 _ rfl).1)⟩⟩⟩) rfl
 refine RL.aY 21 j 0 zr eJ fun w j=>?_
 refine aP (vi ah) (RL.nt (RC.rt ?_))
 obtain rfl:=oi o
 exact kB 21 j eJ fun bh j=>⟨bh,zr,j.pk 26 [0]⟩
theorem yZ {p0:fu} {p2: (List aG)} {res:fu×Int} (j:Holds E w V) (h0:V[i0]? =some (rd v0 p0)) (h2:V[i2]? =some (rd v2 p2)) (o:oI N p0 p1 p2=some res):
    Calls bD 4 [v0,(vi p1),v2].toArray w (gm (fC E V res)):=by
 unfold oI at o
 refine enter Tryz.func4 zr zr ?_
 have j:=(j.dup (i0+0) h0).dup (i2+1) h2
 refine RC.sr (RL.dA 1 v0 j zr fun ag w j=>?_)
 refine RL.alloc j yP.z fun ah w j=>?_
 refine aP (vi 0) (RL.ns (RL.aV (f:=(fun x=>x)) 1 j zr Fd.self eJ fun ab j=>(mv (vi p1) (mv v2 ?_))))
 obtain⟨aa,ad,o⟩:=bd o
 refine RL.call zt zr Kr [ab,(vi p1),v2,(.func (.func 11) #[] #[])] zr (aC (rC N (p1:=p1) (i0:=0) (i2:=3) j zr zr ad) ?_)
 rintro _ w ⟨ae,rfl,j⟩
 refine RL.extract ae (RL.extract (vi aa.2) (RL.aY 2 j 0 zr eJ fun w j=>?_))
 refine aP (vi aa.2) (RL.nt (RC.ret ?_))
 obtain rfl:=oi o
 exact kB 2 j eJ fun af j=>⟨af,zr,j.pk 7 [0]⟩
theorem rD {res:Bool} (o:Holds E w V) (j:mb N p0 p1 p2=some res):
    Calls bD 129 [(vi p0),(vi p1),(vi p2)].toArray w (gm (aS E V res)):=by
 unfold mb at j
 refine enter Tryz.func129 zr zr (RC.sr (aP (vb false) (RL.ns (mv (vi p0) (mv (vi p1) (ic p0 p1 (mv (vb (decide (p0>=p1))) (RL.gs true (decide (p0>=p1)) (vi p0) zr zr zr cE ?_))))))))
 refine RL.gs true (decide (p0>=p1)) (vi p2) rfl rfl rfl cE (RL.gs true (decide (p0>=p1)) (vb (decide (p0<=p2))) rfl rfl rfl (dK .leq .i64 p0 p2 rfl (fun h=>by exact(cG h:cv (true&&((decide (p0>=p1))==true)) (vi p0)= (vi p0))) (fun h=>by exact(cG h:cv (true&&((decide (p0>=p1))==true)) (vi p2)= (vi p2))) rfl) (RL.pick (decide (p0>=p1)) (vb ((decide (p0>=p1))&&(decide (p0<=p2)))) (gr true) (aP (vb ((decide (p0>=p1))&&(decide (p0<=p2)))) (RL.nt (RC.ret ?_)))))
 obtain rfl:=oi j
 exact bM ⟨rfl,o.drop 0⟩
theorem dV {res:Bool} (o:Holds E w V) (j:cJ N p0=some res):
    Calls bD 85 [(vi p0)].toArray w (gm (aS E V res)):=by
 unfold cJ at j
 refine enter Tryz.func85 zr zr (RC.sr (aP (vb false) (RL.ns (mv (vi p0) ?_))))
 obtain⟨aa,ab,j⟩:=bd j
 refine RL.call zt zr Ks [(vi p0),(vi (-1000000)),(vi 1000000)] zr (aC (rD N (p0:=p0) (p1:=(-1000000)) (p2:=1000000) o ab) ?_)
 rintro _ w ⟨rfl,o⟩
 refine aP (vb aa) (RL.nt (RC.ret ?_))
 obtain rfl:=oi j
 exact bM ⟨rfl,o.drop 0⟩
def pZ (E:World) (V:List HP) (r:Int) (U:Nat->Value) (w:World):Prop:=l6 bD 52 Tryz.f61 (aU E V r) .ret U w
theorem pE {p0: (List aG)} (o:Holds E w V) (h0:V[i0]? =some (rd v0 p0)) (hb:gI N p0=some res):
    Calls bD 61 [v0].toArray w (gm (aU E V res)):=by
 unfold gI at hb
 refine enter Tryz.func61 zr zr ?_
 have o:=o.dup (i0+0) h0
 refine RC.sr (aP (vi 0) (RL.nq (RC.sr (mv v0 (RL.bA 0 p0 o mS (ic ((p0.length:Int)) 2000 (RL.nt (dW hb (fun hc hb=>?_) fun hc hb=>?_))))))))
 ·refine RC.sr (aP (vi 2) (RL.nt (RC.rt ?_)))
  obtain rfl:=oi hb
  exact bM ⟨rfl,o.drop 1⟩
 refine RC.ss (RC.sr (aP (vi 0) (RL.nt ?_)))
 obtain⟨az,hN,hb⟩:=bd hb
 refine RC.iter (fun(ad:Int)=>SH E V [(0,v0),(3,vi ad)] [rd v0 p0]) (fun(ad:Int)=>SH E V [] [rd v0 p0]) (pZ E V) hN ?_ ?_ ?_ ?_
 ·exact o.sp 1 [0]
 ·rintro ad fl _ w ⟨O,rfl,o⟩ hb
  refine RC.seq (RC.sr (mv (vi ad) (mv v0 (RL.bA 0 p0 o mS (ic ad ((p0.length:Int)) (RL.nt (dW hb (fun hc hb=>?_) fun hc hb=>?_)))))))
  rotate_left
  ·refine RC.ex ?_
   obtain rfl:=oi hb
   exact⟨rfl,o.sp 1 [0]⟩
  refine RC.ss (RC.bs (mv v0 (mv (vi ad) ?_)))
  obtain⟨j,ar,hb⟩:=bd hb
  refine RL.bP 0 o jt ar fun a1 o=>(RL.bF 0 j o hZ fun a2 o=>(RL.alloc o oe.z fun ah w o=>?_))
  refine RL.aY 0 o 1 zr hZ fun w o=>?_
  refine RL.nq (RC.seq ?_)
  obtain⟨aj,hj,hb⟩:=bd hb
  refine RC.jn (fun(aj:Bool)=>SH E V [(0,v0),(3,vi ad),(4,vp ah 0),(39,vb aj)] [rd v0 p0,bx 51 ah j]) aj ?_ ?_
  ·refine RC.region (RL.aX zr iD (RL.aL 0 o zr dM cF ?_))
   obtain⟨an,au,hj⟩:=bd hj
   refine RL.call zt zr z5 [(vi j.X0)] zr (aC (dV N (p0:=j.X0) o au) ?_)
   rintro _ w ⟨rfl,o⟩
   refine RL.not an (mv (vb (!an)) (gu hj (fun ae hj=>?_) fun ae hj=>?_))
   ·refine bN ae (bN ae (bN ae (bN ae (gD ae (vb true) (mv (vb true) (jX (jX (jX ?_))))))))
    refine jX (RL.pick true (vb true) zr (mv (vb true) (jX (jX (jX (jX (RL.pick true (vb true) zr (RL.nil ?_))))))))
    obtain rfl:=oi hj
    exact⟨rfl,o.sp 4 [3,0]⟩
   refine RL.aX (hg:=(cg ae)) zr il (RL.aL (hg:=(cg ae)) 0 o zr dG cF ?_)
   obtain⟨ak,av,hj⟩:=bd hj
   refine RL.call (cg ae) zr z5 [(vi j.Y0)] zr (aC (dV N (p0:=j.Y0) o av) ?_)
   rintro _ w ⟨rfl,o⟩
   refine RL.not (hg:=(cg ae)) ak (gD ae (vb (!ak)) (mv (vb (!ak)) (gu hj (fun af hj=>?_) fun af hj=>?_)))
   ·refine bN af (bN af (bN af (bN af (gD af (vb true) (mv (vb true) (jX (jX (jX ?_))))))))
    refine jX (RL.pick true (vb true) zr (RL.nil ?_))
    obtain rfl:=oi hj
    exact⟨rfl,o.sp 4 [3,0]⟩
   refine RL.aX (hg:=(cg af)) zr jl (RL.aL (hg:=(cg af)) 0 o zr eG cF ?_)
   obtain⟨al,aw,hj⟩:=bd hj
   refine RL.call (cg af) zr z5 [(vi j.X1)] zr (aC (dV N (p0:=j.X1) o aw) ?_)
   rintro _ w ⟨rfl,o⟩
   refine RL.not (hg:=(cg af)) al (gD af (vb (!al)) (mv (vb (!al)) (gu hj (fun ag hj=>?_) fun ag hj=>?_)))
   ·refine bN ag (bN ag (bN ag (bN ag (gD ag (vb true) (RL.nil ?_)))))
    obtain rfl:=oi hj
    exact⟨rfl,o.sp 4 [3,0]⟩
   refine RL.aX (hg:=(cg ag)) zr kT (RL.aL (hg:=(cg ag)) 0 o zr fV cF ?_)
   obtain⟨ao,ax,hj⟩:=bd hj
   refine RL.call (cg ag) zr z5 [(vi j.Y1)] zr (aC (dV N (p0:=j.Y1) o ax) ?_)
   rintro _ w ⟨rfl,o⟩
   refine RL.not (hg:=(cg ag)) ao (gD ag (vb (!ao)) (RL.nil ?_))
   obtain rfl:=oi hj
   exact⟨rfl,o.sp 4 [3,0]⟩
  rintro _ w ⟨O,rfl,o⟩
  refine aJ (dW hb (fun hc hb=>?_) fun hc hb=>?_)
  ·refine RC.sr (aP (vi 1) (RL.nt (RC.rt (nS (bL ?_)))))
   obtain rfl:=oi hb
   exact⟨rfl,bM ⟨rfl,o.drop 2⟩⟩
  refine RC.sx (RL.aX rfl jl (RL.aL 1 o rfl eG cF (RL.aX rfl iD (RL.aL 1 o rfl dM cF (ic j.X1 j.X0 (mv (vb (decide (j.X1<=j.X0))) (RL.gs true (decide (j.X1<=j.X0)) (vp ah 3) rfl rfl rfl (dP kT) (RL.gs true (decide (j.X1<=j.X0)) (vi j.Y1) rfl rfl rfl (bT 1 rfl o (fun h=>by exact(cG h:cv (true&&((decide (j.X1<=j.X0))==false)) (vp ah 3)= (vp ah 3))) rfl fV cF) ?_))))))))
  refine RL.gs true (decide (j.X1<=j.X0)) (vp ah 1) rfl rfl rfl (dP il) (RL.gs true (decide (j.X1<=j.X0)) (vi j.Y0) rfl rfl rfl (bT 1 rfl o (fun h=>by exact(cG h:cv (true&&((decide (j.X1<=j.X0))==false)) (vp ah 1)= (vp ah 1))) rfl dG cF) (RL.gs true (decide (j.X1<=j.X0)) (vb (decide (j.Y1<=j.Y0))) rfl rfl rfl (dK .leq .i64 j.Y1 j.Y0 rfl (fun h=>by exact(cG h:cv (true&&((decide (j.X1<=j.X0))==false)) (vi j.Y1)= (vi j.Y1))) (fun h=>by exact(cG h:cv (true&&((decide (j.X1<=j.X0))==false)) (vi j.Y0)= (vi j.Y0))) rfl) (RL.pick (decide (j.X1<=j.X0)) (vb ((decide (j.X1<=j.X0))||(decide (j.Y1<=j.Y0)))) (nz true) (RL.nt (dW hb (fun hc hb=>?_) fun hc hb=>?_)))))
  ·refine RC.sr (aP (vi 13) (RL.nt (RC.rb (bL ?_))))
   obtain rfl:=oi hb
   exact⟨rfl,bM ⟨rfl,o.drop 2⟩⟩
  refine RC.skip (bQ (aJ (RC.region (mv (vi ad) (RL.gQ ad 1 (aP (vi (IntKind.wrap .i64 (ad+1))) (RL.nil ?_)))))))
  obtain rfl:=oi hb
  exact⟨rfl,o.sp 2 [0]⟩
 ·intro r U w e hK
  subst e
  refine bL ?_
  obtain rfl:=oi hb
  exact hK
 rintro ad _ w rfl ⟨O,rfl,o⟩
 rw [Fo.dQ] at hb
 refine aJ (RC.sr (aP (vi 0) (RL.nt (RC.ret ?_))))
 obtain rfl:=oi hb
 exact bM ⟨rfl,o.drop 1⟩
theorem nF {p0 p1:aG} {res:Bool} (j:Holds E w V) (h0:V[i0]? =some (rd v0 p0)) (h1:V[i1]? =some (rd v1 p1)) (hb:gY N p0 p1=some res):
    Calls bD 62 [v0,v1].toArray w (gm (aS E V res)):=by
 unfold gY at hb
 refine enter Tryz.func62 zr zr ?_
 have j:=(j.dup (i0+0) h0).dup (i1+1) h1
 refine RC.sr (RL.dA 1 v0 j zr fun o w j=>?_)
 refine RL.dA 1 v1 j zr fun aa w j=>?_
 refine aP (vb false) (RL.ns (RL.aX zr il (RL.aL 1 j zr dG cF (RL.aX zr il (RL.aL 0 j zr dG cF (ic p0.Y0 p1.Y0 (mv (vb (decide (p0.Y0<p1.Y0))) (RL.gs true (decide (p0.Y0<p1.Y0)) (vp o 1) zr zr zr (dP il) ?_))))))))
 refine RL.gs true (decide (p0.Y0<p1.Y0)) (vi p0.Y0) rfl rfl rfl (bT 1 rfl j (fun h=>by exact(cG h:cv (true&&((decide (p0.Y0<p1.Y0))==false)) (vp o 1)= (vp o 1))) rfl dG cF) (RL.gs true (decide (p0.Y0<p1.Y0)) (vp aa 1) rfl rfl rfl (dP il) (RL.gs true (decide (p0.Y0<p1.Y0)) (vi p1.Y0) rfl rfl rfl (bT 0 rfl j (fun h=>by exact(cG h:cv (true&&((decide (p0.Y0<p1.Y0))==false)) (vp aa 1)= (vp aa 1))) rfl dG cF) (RL.gs true (decide (p0.Y0<p1.Y0)) (vb (p0.Y0==p1.Y0)) rfl rfl rfl (dK .eql .i64 p0.Y0 p1.Y0 rfl (fun h=>by exact(cG h:cv (true&&((decide (p0.Y0<p1.Y0))==false)) (vi p0.Y0)= (vi p0.Y0))) (fun h=>by exact(cG h:cv (true&&((decide (p0.Y0<p1.Y0))==false)) (vi p1.Y0)= (vi p1.Y0))) rfl) (RL.gs true (decide (p0.Y0<p1.Y0)) (vb (p0.Y0==p1.Y0)) rfl rfl rfl (cE (hx:=fun h=>by exact(cG h:cv (true&&((decide (p0.Y0<p1.Y0))==false)) (vb (p0.Y0==p1.Y0))= (vb (p0.Y0==p1.Y0))))) (RL.gs (true&&((decide (p0.Y0<p1.Y0))==false)) (p0.Y0==p1.Y0) (vp o 0) rfl rfl rfl (dP iD) (RL.gs (true&&((decide (p0.Y0<p1.Y0))==false)) (p0.Y0==p1.Y0) (vi p0.X0) rfl rfl rfl (bT 1 rfl j (fun h=>by exact(cG h:cv ((true&&((decide (p0.Y0<p1.Y0))==false))&&((p0.Y0==p1.Y0)==true)) (vp o 0)= (vp o 0))) rfl dM cF) (RL.gs (true&&((decide (p0.Y0<p1.Y0))==false)) (p0.Y0==p1.Y0) (vp aa 0) rfl rfl rfl (dP iD) (RL.gs (true&&((decide (p0.Y0<p1.Y0))==false)) (p0.Y0==p1.Y0) (vi p1.X0) rfl rfl rfl (bT 0 rfl j (fun h=>by exact(cG h:cv ((true&&((decide (p0.Y0<p1.Y0))==false))&&((p0.Y0==p1.Y0)==true)) (vp aa 0)= (vp aa 0))) rfl dM cF) ?_))))))))
 refine RL.gs (true&&((decide (p0.Y0<p1.Y0))==false)) (p0.Y0==p1.Y0) (vb (decide (p0.X0<p1.X0))) rfl rfl rfl (dK .lss .i64 p0.X0 p1.X0 rfl (fun h=>by exact(cG h:cv ((true&&((decide (p0.Y0<p1.Y0))==false))&&((p0.Y0==p1.Y0)==true)) (vi p0.X0)= (vi p0.X0))) (fun h=>by exact(cG h:cv ((true&&((decide (p0.Y0<p1.Y0))==false))&&((p0.Y0==p1.Y0)==true)) (vi p1.X0)= (vi p1.X0))) rfl) (RL.gs true (decide (p0.Y0<p1.Y0)) (vb ((p0.Y0==p1.Y0)&&(decide (p0.X0<p1.X0)))) rfl rfl rfl (kF (p0.Y0==p1.Y0) rfl (fun h=>by exact(cG h:cv (true&&((decide (p0.Y0<p1.Y0))==false)) (vb (p0.Y0==p1.Y0))= (vb (p0.Y0==p1.Y0)))) (fun h=>by exact gr (h:=h) (true&&((decide (p0.Y0<p1.Y0))==false)))) (RL.pick (decide (p0.Y0<p1.Y0)) (vb ((decide (p0.Y0<p1.Y0))||((p0.Y0==p1.Y0)&&(decide (p0.X0<p1.X0))))) (nz true) (aP (vb ((decide (p0.Y0<p1.Y0))||((p0.Y0==p1.Y0)&&(decide (p0.X0<p1.X0))))) (RL.nt (RC.ret ?_)))))
 obtain rfl:=oi hb
 exact bM ⟨rfl,j.drop 4⟩
theorem ig {p0: (List Int)} {res: (List Int)} (j:Holds E w V) (h0:V[i0]? =some (rd v0 p0)) (hb:eW N p0 p1=some res):
    Calls bD 130 [v0,(vi p1)].toArray w (gm (po E V res)):=by
 unfold eW at hb
 refine enter Tryz.func130 zr zr ?_
 have j:=j.dup (i0+0) h0
 refine RC.sr (aP (.slice none 0 0) (RL.ns (mv v0 (RL.bA 0 p0 j nr (aP (vi 0) (aP (vi p0.length) (RL.nq ?_)))))))
 obtain⟨ay,hN,hb⟩:=bd hb
 refine RC.iter (fun(o:Int×Int)=>SH E V [(0,v0),(1,vi p1),(5,vi o.1),(6,vi o.2)] [rd v0 p0]) (fun(o:Int×Int)=>SH E V [(0,v0),(1,vi p1),(5,vi o.1)] [rd v0 p0]) (fun(r:Empty) _ _=>r.elim) hN ?_ ?_ ?_ ?_
 ·exact j.sp 1 [0]
 ·rintro o fl _ w ⟨O,rfl,j⟩ hb
  refine RC.seq (RC.sr (mv (vi o.1) (mv (vi o.2) (ic o.1 o.2 (RL.nt (dW hb (fun hc hb=>?_) fun hc hb=>?_))))))
  rotate_left
  ·refine RC.ex ?_
   obtain rfl:=oi hb
   exact⟨rfl,j.sp 1 [0]⟩
  refine RC.sn (RC.bs (mv (vi o.1) (mv (vi o.2) (RL.gQ o.1 o.2 (RL.quo (IntKind.wrap .i64 (o.1+o.2)) 2 (aP (vi (IntKind.wrap .i64 (Int.tdiv (IntKind.wrap .i64 (o.1+o.2)) 2))) (RL.ns (mv v0 ?_))))))))
  refine mv (vi (IntKind.wrap .i64 (Int.tdiv (IntKind.wrap .i64 (o.1+o.2)) 2))) ?_
  obtain⟨ai,an,hb⟩:=bd hb
  refine RL.bP 0 j fG an fun a0 j=>(RL.bG ai 0 j cF (mv (vi p1) (ic ai p1 (RL.nt ?_))))
  obtain⟨af,hj,hb⟩:=bd hb
  refine RC.jn (fun(af:Int×Int)=>SH E V [(0,v0),(1,vi p1),(5,vi af.1),(6,vi af.2)] [rd v0 p0]) af ?_ ?_
  ·refine dW hj (fun hc hj=>?_) fun hc hj=>?_
   rotate_left
   ·refine RC.region (mv (vi (IntKind.wrap .i64 (Int.tdiv (IntKind.wrap .i64 (o.1+o.2)) 2))) (aP (vi (IntKind.wrap .i64 (Int.tdiv (IntKind.wrap .i64 (o.1+o.2)) 2))) (RL.nil ?_)))
    obtain rfl:=oi hj
    exact⟨rfl,j.sp 2 [1]⟩
   refine RC.region (mv (vi (IntKind.wrap .i64 (Int.tdiv (IntKind.wrap .i64 (o.1+o.2)) 2))) (RL.gQ (IntKind.wrap .i64 (Int.tdiv (IntKind.wrap .i64 (o.1+o.2)) 2)) 1 (aP (vi (IntKind.wrap .i64 ((IntKind.wrap .i64 (Int.tdiv (IntKind.wrap .i64 (o.1+o.2)) 2))+1))) (RL.nil ?_))))
   obtain rfl:=oi hj
   exact⟨rfl,j.sp 2 [1]⟩
  rintro _ w ⟨O,rfl,j⟩
  refine bQ ?_
  obtain rfl:=oi hb
  exact⟨rfl,j.sp 1 [0]⟩
 ·intro r _ _ _ _
  exact r.elim
 rintro o _ w rfl ⟨O,rfl,j⟩
 rw [Fo.dQ] at hb
 refine aJ (RC.seq (RC.seq ?_))
 obtain⟨ag,hj,hb⟩:=bd hb
 refine RC.jn (fun(ag:Bool)=>SH E V [(0,v0),(1,vi p1),(5,vi o.1),(38,vb ag)] [rd v0 p0]) ag ?_ ?_
 ·refine RC.region (mv (vi o.1) (mv v0 (RL.bA 0 p0 j nr (ic o.1 ((p0.length:Int)) (mv (vb (decide (o.1< (p0.length:Int)))) (gu hj (fun ab hj=>?_) fun ab hj=>?_))))))
  rotate_left
  ·refine bN ab (bN ab (bN ab (bN ab (bN ab (bN ab (gD ab (vb false) (RL.nil ?_)))))))
   obtain rfl:=oi hj
   exact⟨rfl,j.sp 1 [0]⟩
  refine RL.move v0 (cg ab) (RL.move (vi o.1) (cg ab) ?_)
  obtain⟨ah,ao,hj⟩:=bd hj
  refine RL.bP (hg:=(cg ab)) 0 j fG ao fun a1 j=>(RL.bG (hg:=(cg ab)) ah 0 j cF (RL.move (vi p1) (cg ab) (RL.lA ah p1 (cg ab) (gD ab (vb (ah==p1)) (RL.nil ?_)))))
  obtain rfl:=oi hj
  exact⟨rfl,j.sp 2 [1]⟩
 rintro _ w ⟨O,rfl,j⟩
 refine aJ (dW hb (fun hc hb=>?_) fun hc hb=>?_)
 ·refine RC.sr (mv v0 (aP v0 (RL.nt (RC.rt ?_))))
  obtain rfl:=oi hb
  exact bM (j.pk 1 [0])
 refine RC.sx (aP (.slice none 0 0) (RL.ns (mv (.slice none 0 0) (mv v0 (mv (vi o.1) ?_)))))
 obtain⟨a2,aq,hb⟩:=bd hb
 refine RL.cut (hl:= .inr ⟨rfl,zr⟩) 0 j fG (.inl zr) aq fun a3 j=>?_
 have j:=j.cX Int 3
 obtain⟨a4,ar,hb⟩:=bd hb
 refine RL.app 0 1 j uM ar fun aj w j=>?_
 refine aP aj (RL.ns (mv aj (mv (vi p1) ?_)))
 have j:=j.sc Int p1
 refine RL.eX ([p1]: (List Int)) j [(vi p1)] fG Gh (fun M hs g=>⟨(g.sat 0 _ zr).1,zt⟩) fun a5 w j=>?_
 have j:=j.freeze 0
 obtain⟨a6,au,hb⟩:=bd hb
 refine RL.app 2 0 j uM au fun ak w j=>?_
 refine aP ak (RL.ns (mv ak (mv v0 (mv (vi o.1) ?_))))
 obtain⟨a7,av,hb⟩:=bd hb
 refine RL.cut 4 j fG (.inr ⟨rfl,zr⟩) av fun a8 j=>?_
 obtain⟨a9,aw,hb⟩:=bd hb
 refine RL.app 3 0 j uM aw fun ax w j=>?_
 refine aP ax (RL.nt (RC.ret ?_))
 obtain rfl:=oi hb
 have j:=j.freeze 3
 exact bM (j.pk 6 [3])
theorem mZ {p0: (List aG)} {res: (List Int)} (j:Holds E w V) (h0:V[i0]? =some (rd v0 p0)) (o:gE N p0=some res):
    Calls bD 86 [v0].toArray w (gm (po E V res)):=by
 unfold gE at o
 refine enter Tryz.func86 zr zr ?_
 have j:=j.dup (i0+0) h0
 refine RC.sr (aP (.slice none 0 0) (RL.ns (aP (.slice none 0 0) (RL.nq (RC.sr (aP (vi 0) (RL.nt ?_)))))))
 obtain⟨ar,hN,o⟩:=bd o
 refine RC.iter (fun(aa: (List Int)×Int) U w=>∃ag:Value,SH E V [(0,v0),(3,ag),(4,vi aa.2)] [rd v0 p0,rd ag aa.1] U w) (fun(aa: (List Int)×Int) U w=>∃ab:Value,SH E V [(3,ab)] [rd v0 p0,rd ab aa.1] U w) (fun(r:Empty) _ _=>r.elim) hN ?_ ?_ ?_ ?_
 ·have j:=j.cO Int
  exact⟨(.slice none 0 0),j.sp 2 [1,0]⟩
 ·rintro aa fl _ w ⟨ad,O,rfl,j⟩ o
  refine RC.seq (RC.sr (mv (vi aa.2) (mv v0 (RL.bA 0 p0 j mS (ic aa.2 ((p0.length:Int)) (RL.nt (dW o (fun hc o=>?_) fun hc o=>?_)))))))
  rotate_left
  ·refine RC.ex ?_
   obtain rfl:=oi o
   exact⟨rfl,ad,j.sp 2 [0,1]⟩
  refine RC.ss (RC.block (RC.xq mixed [0,0,0,0,0,0,2,1,1,1,1,1,2,0] [0,1,2,3,4,5,7,8,9,10,11,6,12,13] ?_))
  have j:=j.drew
  refine DP.e0 zr (mv ad (bW zr (mv v0 (bW zr (mv (vi aa.2) (bW zr ?_))))))
  obtain⟨ae,ak,o⟩:=bd o
  refine RL.bP 0 j jt ak fun av j=>(bW zr (RL.eT 0 j zr il dG fun aw j=>(bW zr (RL.bG ae.Y0 0 j cF (DP.d0 (DP.e1 v0 zr (fun w=>RL.move v0 zt DP.d1) (DP.e1 (vi aa.2) zr (fun w=>RL.move (vi aa.2) zt DP.d1) ?_)))))))
  obtain⟨af,al,o⟩:=bd o
  refine DP.vv 2 zr j jt al fun ax j=>(DP.Cr 0 zr zt j zr kT fV fun ay j=>(DP.qz af.Y1 0 zr j cF fun a68 az j=>(DP.e2 zr ?_)))
  obtain⟨a0,an,o⟩:=bd o
  refine RL.call zt zr Ao [ad,(vi ae.Y0)] zr (aC (ig N (p1:=ae.Y0) (i0:=6) j zr an) ?_)
  rintro ao w j
  refine DP.d2 (⟨zt,j.iu 1⟩) (DP.e2 zr ?_)
  obtain⟨a1,aq,o⟩:=bd o
  refine RL.call zt zr Ao [ao,(vi af.Y1)] zr (aC (ig N (p1:=af.Y1) (i0:=0) j zr aq) ?_)
  rintro ah w j
  refine DP.d2 (⟨zt,j.iu 2⟩) (DP.e0 zr (aP ah (DP.d0 ?_)))
  have j:=j.pl 9 [0,1,3,4,5,6,7,8]
  refine DP.z (bQ (aJ (RC.region (mv (vi aa.2) (RL.gQ aa.2 1 (aP (vi (IntKind.wrap .i64 (aa.2+1))) (RL.nil ?_)))))))
  obtain rfl:=oi o
  exact⟨rfl,ah,j.sp 8 [6,0]⟩
 ·intro r _ _ _ _
  exact r.elim
 rintro aa _ w rfl ⟨ab,O,rfl,j⟩
 rw [Fo.dQ] at o
 refine aJ (RC.sr (mv ab (aP ab (RL.nt (RC.ret ?_)))))
 obtain rfl:=oi o
 exact bM (j.pk 2 [1])
theorem nG {p0: (List aF)} {p1:aF} {res: (List aF)} (j:Holds E w V) (h0:V[i0]? =some (rd v0 p0)) (h1:V[i1]? =some (rd v1 p1)) (o:gZ N p0 p1=some res):
    Calls bD 132 [v0,v1].toArray w (gm (ln E V res)):=by
 unfold gZ at o
 refine enter Tryz.func132 zr zr ?_
 have j:=(j.dup (i0+0) h0).dup (i1+1) h1
 refine RC.sr (RL.dA 0 v1 j zr fun ag w j=>?_)
 refine aP (.slice none 0 0) (RL.ns (aP (.slice none 0 0) (RL.ns (aP (vi 0) (RL.nq ?_)))))
 obtain⟨bc,hN,o⟩:=bd o
 refine RC.iter (fun(ab: (List aF)×Int) U w=>∃av:Value,SH E V [(0,v0),(3,vp ag 0),(5,av),(6,vi ab.2)] [rd v0 p0,bx 166 ag p1,own 166 av ab.1] U w) (fun(ab: (List aF)×Int) U w=>∃ah:Value,SH E V [(0,v0),(3,vp ag 0),(5,ah),(6,vi ab.2)] [rd v0 p0,bx 166 ag p1,own 166 ah ab.1] U w) (fun(r:Empty) _ _=>r.elim) hN ?_ ?_ ?_ ?_
 ·have j:=j.cX aF 166
  exact⟨(.slice none 0 0),j.sp 4 [3,1,0]⟩
 ·rintro ab fl _ w ⟨aj,O,rfl,j⟩ o
  refine RC.seq (RC.seq ?_)
  obtain⟨an,hj,o⟩:=bd o
  refine RC.jn (fun(an:Bool)=>SH E V [(0,v0),(3,vp ag 0),(5,aj),(6,vi ab.2),(20,vb an)] [rd v0 p0,bx 166 ag p1,own 166 aj ab.1]) an ?_ ?_
  ·refine RC.yk mixed ?_
   have j:=j.drew
   refine RO.go (mv (vi ab.2) (RO.nx (mv v0 (RO.nx (RL.bA 0 p0 j va (RO.nx (ic ab.2 ((p0.length:Int)) (RO.nx ?_))))))))
   refine mv (vb (decide (ab.2< (p0.length:Int)))) (gu hj (fun ad hj=>?_) fun ad hj=>?_)
   rotate_left
   ·refine RO.nx (bN ad (RO.nx (bN ad (RO.nx (bN ad (RO.nx (bN ad (RO.nx ?_))))))))
    refine bN ad (RO.nx (bN ad (RO.nx (bN ad (RO.nx (bN ad (RO.nx (gD ad (vb false) ?_))))))))
    refine RO.last ?_
    obtain rfl:=oi hj
    exact⟨rfl,j.sp 3 [0,1,2]⟩
   refine RO.nx (RL.move v0 (cg ad) (RO.nx (RL.move (vi ab.2) (cg ad) (RO.nx ?_))))
   obtain⟨ao,a0,hj⟩:=bd hj
   refine RL.bP (hg:=(cg ad)) 0 j oj a0 fun bf j=>(RO.nx (RL.eT (hg:=(cg ad)) 0 j zr pB dU fun bg j=>(RO.nx (RL.bG (hg:=(cg ad)) ao.to 0 j cF (RO.nx (RL.aX (hg:=(cg ad)) zr pC (RO.nx (RL.aL (hg:=(cg ad)) 3 j zr dT cF ?_))))))))
   refine RO.nx (RL.lA ao.to p1.from_ (cg ad) (RO.nx (gD ad (vb (decide (ao.to<p1.from_))) (RO.last ?_))))
   obtain rfl:=oi hj
   exact⟨rfl,j.sp 5 [2,3,4]⟩
  rintro _ w ⟨O,rfl,j⟩
  refine aJ (dW o (fun hc o=>?_) fun hc o=>?_)
  rotate_left
  ·refine RC.ex ?_
   obtain rfl:=oi o
   exact⟨rfl,aj,j.sp 3 [0,1,2]⟩
  refine RC.sn (RC.bs (mv aj (mv v0 (mv (vi ab.2) ?_))))
  obtain⟨aw,a1,o⟩:=bd o
  refine RL.bP 0 j oj a1 fun bh j=>(RL.bF 0 aw j Ew fun a2 j=>(RL.eX ([aw]: (List aF)) j [a2] oj Ig (fun M hs g=>⟨(g.sat 0 _ zr).1,zt⟩) fun bj w j=>?_))
  have j:=j.freeze 0
  obtain⟨bk,a3,o⟩:=bd o
  refine RL.app 5 0 j Gu a3 fun ax w j=>?_
  refine aP ax (RL.nt (RC.region (mv (vi ab.2) (RL.gQ ab.2 1 (aP (vi (IntKind.wrap .i64 (ab.2+1))) (RL.nil (bQ ?_)))))))
  obtain rfl:=oi o
  exact⟨rfl,ax,j.sp 6 [3,4,5]⟩
 ·intro r _ _ _ _
  exact r.elim
 rintro ab _ w rfl ⟨ah,O,rfl,j⟩
 rw [Fo.dQ] at o
 refine aJ (RC.seq ?_)
 obtain⟨bl,hN,o⟩:=bd o
 refine RC.iter (fun(aa:aF×Int)=>SH E V [(0,v0),(3,vp ag 0),(5,ah),(6,vi aa.2)] [rd v0 p0,bx 166 ag aa.1,own 166 ah ab.1]) (fun(aa:aF×Int)=>SH E V [(0,v0),(3,vp ag 0),(5,ah),(6,vi aa.2)] [rd v0 p0,bx 166 ag aa.1,own 166 ah ab.1]) (fun(r:Empty) _ _=>r.elim) hN ?_ ?_ ?_ ?_
 ·exact j.sp 3 [0,1,2]
 ·rintro aa fl _ w ⟨O,rfl,j⟩ o
  refine RC.seq (RC.seq ?_)
  obtain⟨ar,hj,o⟩:=bd o
  refine RC.jn (fun(ar:Bool)=>SH E V [(0,v0),(3,vp ag 0),(5,ah),(6,vi aa.2),(43,vb ar)] [rd v0 p0,bx 166 ag aa.1,own 166 ah ab.1]) ar ?_ ?_
  ·refine RC.yk mixed ?_
   have j:=j.drew
   refine RO.go (mv (vi aa.2) (RO.nx (mv v0 (RO.nx (RL.bA 0 p0 j va (RO.nx (ic aa.2 ((p0.length:Int)) (RO.nx ?_))))))))
   refine mv (vb (decide (aa.2< (p0.length:Int)))) (gu hj (fun ae hj=>?_) fun ae hj=>?_)
   rotate_left
   ·refine RO.nx (bN ae (RO.nx (bN ae (RO.nx (bN ae (RO.nx (bN ae (RO.nx ?_))))))))
    refine bN ae (RO.nx (bN ae (RO.nx (bN ae (RO.nx (bN ae (RO.nx (gD ae (vb false) ?_))))))))
    refine RO.last ?_
    obtain rfl:=oi hj
    exact⟨rfl,j.sp 3 [0,1,2]⟩
   refine RO.nx (RL.move v0 (cg ae) (RO.nx (RL.move (vi aa.2) (cg ae) (RO.nx ?_))))
   obtain⟨au,a4,hj⟩:=bd hj
   refine RL.bP (hg:=(cg ae)) 0 j oj a4 fun bm j=>(RO.nx (RL.eT (hg:=(cg ae)) 0 j zr pC dT fun bn j=>(RO.nx (RL.bG (hg:=(cg ae)) au.from_ 0 j cF (RO.nx (RL.aX (hg:=(cg ae)) zr pB (RO.nx (RL.aL (hg:=(cg ae)) 3 j zr dU cF ?_))))))))
   refine RO.nx (RL.lA au.from_ aa.1.to (cg ae) (RO.nx (gD ae (vb (decide (au.from_<=aa.1.to))) (RO.last ?_))))
   obtain rfl:=oi hj
   exact⟨rfl,j.sp 5 [2,3,4]⟩
  rintro _ w ⟨O,rfl,j⟩
  refine aJ (dW o (fun hc o=>?_) fun hc o=>?_)
  rotate_left
  ·refine RC.ex ?_
   obtain rfl:=oi o
   exact⟨rfl,j.sp 3 [0,1,2]⟩
  refine RC.sn (RC.block (RC.seq (RC.xq mixed [0,0,0,0,0,0,0,0,0,0,1,1,1,1,1,1,0,2,0,2] [0,1,2,3,4,5,6,7,8,9,10,11,12,13,14,15,16,17,18,19] ?_)))
  have j:=j.drew
  refine DP.e0 zr (RL.aX zr pC (bW zr (RL.aL 1 j zr dT cF (bW zr (mv v0 (bW zr (mv (vi aa.2) (bW zr ?_))))))))
  obtain⟨ak,a5,o⟩:=bd o
  refine RL.bP 0 j oj a5 fun bo j=>(bW zr (RL.eT 0 j zr pC dT fun bp j=>(bW zr (RL.bG ak.from_ 0 j cF (bW zr (RL.min aa.1.from_ ak.from_ (bW zr (RL.aX zr pB ?_))))))))
  refine bW zr (RL.aL 3 j zr dU cF (DP.d0 (DP.e1 v0 zr (fun w=>RL.move v0 zt DP.d1) (DP.e1 (vi aa.2) zr (fun w=>RL.move (vi aa.2) zt DP.d1) ?_))))
  obtain⟨ai,a6,o⟩:=bd o
  refine DP.vv 2 zr j oj a6 fun bq j=>(DP.Cr 0 zr zt j zr pB dU fun br j=>(DP.qz ai.to 0 zr j cF fun a135 bt j=>(DP.e1 (vi (if aa.1.to<ai.to then ai.to else aa.1.to)) zr (fun w=>RL.max aa.1.to ai.to DP.d1) (DP.e0 zr (RL.aX zr pC (r6 zr ?_))))))
  have j:=j.sc Int (if ak.from_<aa.1.from_ then ak.from_ else aa.1.from_)
  refine RL.vV 7 j zr zr zr 0 zr kP cF fun w j=>?_
  refine DP.d2 (⟨zt,j.iu 1⟩) (DP.e0 zr (RL.aX zr pB (r6 zr ?_)))
  have j:=j.sc Int (if aa.1.to<ai.to then ai.to else aa.1.to)
  refine RL.vV 8 j zr zr zr 0 zr kQ cF fun w j=>?_
  refine DP.d2 (⟨zt,j.iu 2⟩) ?_
  have j:=j.pl 10 [0,1,3,4,5,6,7,8,9]
  refine DP.z (aJ (RC.region (mv (vi aa.2) (RL.gQ aa.2 1 (aP (vi (IntKind.wrap .i64 (aa.2+1))) (RL.nil (bQ ?_)))))))
  obtain rfl:=oi o
  exact⟨rfl,j.sp 9 [6,7,8]⟩
 ·intro r _ _ _ _
  exact r.elim
 rintro aa _ w rfl ⟨O,rfl,j⟩
 rw [Fo.dQ] at o
 refine aJ (RC.sr (mv ah (RL.aV (f:=(fun x=>x)) 1 j zr Fd.self Ew fun a7 j=>(RL.eX ([aa.1]: (List aF)) j [a7] oj Ig (fun M hs g=>⟨(g.sat 0 _ zr).1,zt⟩) fun bu w j=>?_))))
 have j:=j.freeze 0
 obtain⟨bw,a8,o⟩:=bd o
 refine RL.app 4 0 j Gu a8 fun ay w j=>?_
 refine aP ay (RL.ns (mv ay (mv v0 (mv (vi aa.2) ?_))))
 obtain⟨bz,a9,o⟩:=bd o
 refine RL.cut 2 j oj (.inr ⟨rfl,zr⟩) a9 fun b0 j=>?_
 obtain⟨b1,ba,o⟩:=bd o
 refine RL.app 5 0 j Gu ba fun bb w j=>?_
 refine aP bb (RL.nt (RC.ret ?_))
 obtain rfl:=oi o
 exact bM (j.pk 6 [5])
theorem mi {p0: (List aG)} {res: (List aF)} (j:Holds E w V) (h0:V[i0]? =some (rd v0 p0)) (hb:iC N p0 p1=some res):
    Calls bD 88 [v0,(vi p1)].toArray w (gm (ln E V res)):=by
 unfold iC at hb
 refine enter Tryz.func88 zr zr ?_
 have j:=j.dup (i0+0) h0
 refine RC.sr (aP (.slice none 0 0) (RL.ns (aP (.slice none 0 0) (RL.nq (RC.sr (aP (vi 0) (RL.nt ?_)))))))
 obtain⟨a1,hN,hb⟩:=bd hb
 refine RC.iter (fun(aa: (List aF)×Int) U w=>∃aq:Value,SH E V [(0,v0),(1,vi p1),(5,aq),(6,vi aa.2)] [rd v0 p0,own 166 aq aa.1] U w) (fun(aa: (List aF)×Int) U w=>∃af:Value,SH E V [(5,af)] [rd v0 p0,own 166 af aa.1] U w) (fun(r:Empty) _ _=>r.elim) hN ?_ ?_ ?_ ?_
 ·have j:=j.cX aF 166
  exact⟨(.slice none 0 0),j.sp 2 [1,0]⟩
 ·rintro aa fl _ w ⟨ae,O,rfl,j⟩ hb
  refine RC.seq (RC.sr (mv (vi aa.2) (mv v0 (RL.bA 0 p0 j mS (ic aa.2 ((p0.length:Int)) (RL.nt (dW hb (fun hc hb=>?_) fun hc hb=>?_)))))))
  rotate_left
  ·refine RC.ex ?_
   obtain rfl:=oi hb
   exact⟨rfl,ae,j.sp 2 [0,1]⟩
  refine RC.ss (RC.block (RC.seq ?_))
  obtain⟨ak,o,hb⟩:=bd hb
  refine RC.jn (fun(ak:Bool)=>SH E V [(0,v0),(1,vi p1),(5,ae),(6,vi aa.2),(28,vb ak)] [rd v0 p0,own 166 ae aa.1]) ak ?_ ?_
  ·refine RC.region (mv v0 (mv (vi aa.2) ?_))
   obtain⟨al,av,o⟩:=bd o
   refine RL.bP 0 j jt av fun a3 j=>(RL.eT 0 j zr il dG fun a4 j=>(RL.bG al.Y0 0 j cF (mv (vi p1) (ic al.Y0 p1 (mv (vb (decide (al.Y0<=p1))) (gu o (fun ab o=>?_) fun ab o=>?_))))))
   rotate_left
   ·refine bN ab (bN ab (bN ab (bN ab (bN ab (bN ab (bN ab (gD ab (vb false) (RL.nil ?_))))))))
    obtain rfl:=oi o
    exact⟨rfl,j.sp 4 [2,3]⟩
   refine RL.move (vi p1) (cg ab) (RL.move v0 (cg ab) (RL.move (vi aa.2) (cg ab) ?_))
   obtain⟨an,aw,o⟩:=bd o
   refine RL.bP (hg:=(cg ab)) 2 j jt aw fun a5 j=>(RL.eT (hg:=(cg ab)) 0 j zr kT fV fun a6 j=>(RL.bG (hg:=(cg ab)) an.Y1 0 j cF (RL.lA p1 an.Y1 (cg ab) (gD ab (vb (decide (p1<an.Y1))) (RL.nil ?_)))))
   obtain rfl:=oi o
   exact⟨rfl,j.sp 6 [4,5]⟩
  rintro _ w ⟨O,rfl,j⟩
  refine aJ ?_
  obtain⟨ao,o,hb⟩:=bd hb
  refine RC.jn (fun(ao: (List aF)) U w=>∃ag:Value,SH E V [(0,v0),(1,vi p1),(5,ag),(6,vi aa.2)] [rd v0 p0,own 166 ag ao] U w) ao ?_ ?_
  ·refine dW o (fun hc o=>?_) fun hc o=>?_
   rotate_left
   ·refine RC.skip ?_
    obtain rfl:=oi o
    exact⟨rfl,ae,j.sp 2 [0,1]⟩
   refine RC.xq mixed [0,0,0,0,0,0,0,0,0,0,0,0,2,0] [0,1,2,3,4,5,6,7,8,9,10,11,12,13] ?_
   have j:=j.drew
   refine DP.e0 zr (mv ae (bW zr (mv v0 (bW zr (mv (vi aa.2) (bW zr ?_))))))
   obtain⟨ah,ax,o⟩:=bd o
   refine RL.bP 0 j jt ax fun a7 j=>(bW zr (RL.eT 0 j zr iD dM fun a8 j=>(bW zr (RL.bG ah.X0 0 j cF (bW zr (mv v0 (bW zr (mv (vi aa.2) ?_))))))))
   refine bW zr ?_
   obtain⟨ai,ay,o⟩:=bd o
   refine RL.bP 2 j jt ay fun a9 j=>(bW zr (RL.eT 0 j zr jl eG fun ba j=>(bW zr (RL.bG ai.X1 0 j cF (bW zr ?_)))))
   have j:=(j.sc Int ah.X0).sc Int ai.X1
   refine RL.build (⟨ah.X0,ai.X1⟩:aF) trivial rfl j [(0,vi ah.X0),(1,vi ai.X1)] rfl Ie rfl (fun M hs g=>by have h:=oM M;exact dB.cons (f:=fun(x:aF) y=>{x with from_:=y}) h kP (g.sat 1 _ rfl).1 fun _ h=>dB.cons (f:=fun(x:aF) y=>{x with to:=y}) h kQ (g.sat 0 _ rfl).1 fun _ h=>dB.nil h) fun az j=>?_
   refine r6 zr ?_
   have j:=j.freeze 8
   obtain⟨bb,a0,o⟩:=bd o
   refine RL.call zt zr Ih [ae,az] zr (aC (nG N (i0:=8) (i1:=0) j zr zr a0) ?_)
   rintro ar w j
   refine yv zr (aP ar (DP.d0 (DP.z ?_)))
   obtain rfl:=oi o
   exact⟨rfl,ar,j.sp 10 [8,0]⟩
  rintro _ w ⟨ag,O,rfl,j⟩
  refine bQ (aJ (RC.region (mv (vi aa.2) (RL.gQ aa.2 1 (aP (vi (IntKind.wrap .i64 (aa.2+1))) (RL.nil ?_))))))
  obtain rfl:=oi hb
  exact⟨rfl,ag,j.sp 2 [0,1]⟩
 ·intro r _ _ _ _
  exact r.elim
 rintro aa _ w rfl ⟨af,O,rfl,j⟩
 rw [Fo.dQ] at hb
 refine aJ (RC.sr (mv af (aP af (RL.nt (RC.ret ?_)))))
 obtain rfl:=oi hb
 exact bM (j.pk 2 [1])
def qs (E:World) (V:List HP) (r:Bool) (U:Nat->Value) (w:World):Prop:=l6 bD 26 Tryz.f131 (aS E V r) .ret U w
theorem p4 {p0: (List aF)} {p1: (List aF)} {res:Bool} (j:Holds E w V) (h0:V[i0]? =some (rd v0 p0)) (h1:V[i1]? =some (rd v1 p1)) (o:jf N p0 p1=some res):
    Calls bD 131 [v0,v1].toArray w (gm (aS E V res)):=by
 unfold jf at o
 refine enter Tryz.func131 zr zr ?_
 have j:=(j.dup (i0+0) h0).dup (i1+1) h1
 refine RC.sr (aP (vb false) (RL.nq (RC.sr (mv v0 (RL.bA 1 p0 j va (mv v1 (RL.bA 0 p1 j va (ic ((p0.length:Int)) ((p1.length:Int)) ?_))))))))
 refine RL.nt (dW o (fun hc o=>?_) fun hc o=>?_)
 ·refine RC.sr (aP (vb false) (RL.nt (RC.rt ?_)))
  obtain rfl:=oi o
  exact bM ⟨rfl,j.drop 2⟩
 refine RC.ss (RC.sr (aP (vi 0) (RL.nt ?_)))
 obtain⟨aj,hN,o⟩:=bd o
 refine RC.iter (fun(aa:Int)=>SH E V [(0,v0),(1,v1),(5,vi aa)] [rd v0 p0,rd v1 p1]) (fun(aa:Int)=>SH E V [] [rd v0 p0,rd v1 p1]) (qs E V) hN ?_ ?_ ?_ ?_
 ·exact j.sp 2 [1,0]
 ·rintro aa fl _ w ⟨O,rfl,j⟩ o
  refine RC.seq (RC.sr (mv (vi aa) (mv v0 (RL.bA 0 p0 j va (ic aa ((p0.length:Int)) (RL.nt (dW o (fun hc o=>?_) fun hc o=>?_)))))))
  rotate_left
  ·refine RC.ex ?_
   obtain rfl:=oi o
   exact⟨rfl,j.sp 2 [0,1]⟩
  refine RC.ss (RC.block (RC.seq (RC.yk mixed ?_)))
  have j:=j.drew
  refine RO.go (mv v0 (RO.nx (mv (vi aa) (RO.nx ?_))))
  obtain⟨ad,ag,o⟩:=bd o
  refine RL.bP 0 j oj ag fun al j=>(RO.nx (RL.bF 0 ad j Ew fun an j=>(RO.nx (mv v1 (RO.nx (mv (vi aa) (RO.nx ?_)))))))
  obtain⟨ae,ah,o⟩:=bd o
  refine RL.bP 3 j oj ah fun ao j=>(RO.nx (RL.bF 0 ae j Ew fun aq j=>(RO.nx (RL.Jl 2 0 ad ae zr j zr zr zr zr I2 zr (RO.last (aJ (dW o (fun hc o=>?_) fun hc o=>?_)))))))
  ·refine RC.sr (aP (vb false) (RL.nt (RC.rb (bL ?_))))
   obtain rfl:=oi o
   exact⟨rfl,bM ⟨rfl,j.drop 6⟩⟩
  refine RC.skip (bQ (aJ (RC.region (mv (vi aa) (RL.gQ aa 1 (aP (vi (IntKind.wrap .i64 (aa+1))) (RL.nil ?_)))))))
  obtain rfl:=oi o
  exact⟨rfl,j.sp 6 [4,5]⟩
 ·intro r U w e hK
  subst e
  refine bL ?_
  obtain rfl:=oi o
  exact hK
 rintro aa _ w rfl ⟨O,rfl,j⟩
 rw [Fo.dQ] at o
 refine aJ (RC.sr (aP (vb true) (RL.nt (RC.ret ?_))))
 obtain rfl:=oi o
 exact bM ⟨rfl,j.drop 2⟩
def rE (E:World) (V:List HP) (res: (List aK)) (v:Value) (w:World):Prop:=Holds E w ([own 119 v res]++V)
theorem m0 {p0: (List aK)} {p1:aK} {res: (List aK)} (j:Holds E w (own 119 v0 p0::V)) (h1:V[i1]? =some (rd v1 p1)) (hb:fO N p0 p1=some res):
    Calls bD 87 [v0,v1].toArray w (gm (rE E V res)):=by
 unfold fO at hb
 refine enter Tryz.func87 zr zr ?_
 have j:=j.dup (i1+1) h1
 refine RC.sr (RL.dA 0 v1 j zr fun ak w j=>?_)
 refine aP (.slice none 0 0) (RL.nq (RC.sr (RL.aX zr uu (RL.aV 0 j zr fW Ap fun aw j=>(RL.bA 0 p1.iK j va (ic ((p1.iK.length:Int)) 0 (RL.nt (dW hb (fun hc hb=>?_) fun hc hb=>?_))))))))
 ·refine RC.sr (mv v0 (aP v0 (RL.nt (RC.rt ?_))))
  obtain rfl:=oi hb
  exact bM (j.pk 4 [3])
 refine RC.ss (RC.sr (mv v0 (RL.fY 3 p0 j Ij (aP (vi p0.length) (RL.nq ?_)))))
 obtain⟨ai,hj,hb⟩:=bd hb
 refine RC.jn (fun(ai:Bool)=>SH E V [(0,v0),(3,vp ak 0),(5,vi p0.length),(36,vb ai)] [own 119 v0 p0,bx 119 ak p1]) ai ?_ ?_
 ·refine RC.xq mixed [0,0,0,0,0,0,0,0,0,0,0,0,0,0,0,0,0,0,0,0,0,0,2,0] [0,1,2,3,4,5,6,7,8,9,10,11,12,13,14,15,16,17,18,19,20,21,22,23] ?_
  have j:=j.drew
  refine DP.e0 zr (mv (vi p0.length) (bW zr (ic ((p0.length:Int)) 0 (bW zr (mv (vb (decide ((p0.length:Int)>0))) (DP.d0 (gu hj (fun o hj=>?_) fun o hj=>?_)))))))
  rotate_left
  ·refine DP.e0 zr (bN o (bW zr (bN o (bW zr (bN o (bW zr (bN o (bW zr ?_))))))))
   refine bN o (bW zr (bN o (bW zr (bN o (bW zr (bN o (bW zr (bN o ?_))))))))
   refine bW zr (gD o (vb false) (bW zr (mv (vb false) (bW zr (jX (bW zr (jX (bW zr ?_))))))))
   refine jX (bW zr (jX (bW zr (jX (bW zr (jX (bW zr (jX ?_))))))))
   refine bW zr (jX (r6 zr (jX (yv zr (RL.pick false (vb false) zr (DP.d0 (DP.z ?_)))))))
   obtain rfl:=oi hj
   exact⟨rfl,j.sp 4 [3,1]⟩
  refine DP.e0 zr (RL.move v0 (cg o) (bW zr (RL.move (vi p0.length) (cg o) (bW zr (RL.gQ (hg:=(cg o)) (p0.length:Int) 1 (bW zr ?_))))))
  obtain⟨aj,ae,hj⟩:=bd hj
  refine RL.bX (hg:=(cg o)) 3 j zr zr wy ae (bW zr (RL.nk (α:=aK) (cg o) (kJ 3 j ae 0) yy (bW zr (RL.eH (hg:=(cg o)) 3 j (kJ 3 j ae 1) (bE ae).2.1 kR cF (bW zr (RL.aX (hg:=(cg o)) zr Ex (bW zr (RL.aL (hg:=(cg o)) 1 j zr nB cF ?_))))))))
  refine bW zr (RL.lA aj.to p1.from_ (cg o) (bW zr (gD o (vb (aj.to==p1.from_)) (bW zr (mv (vb (aj.to==p1.from_)) (DP.d0 (gu hj (fun aa hj=>?_) fun aa hj=>?_)))))))
  rotate_left
  ·refine DP.e0 zr (bN aa (bW zr (bN aa (bW zr (bN aa (bW zr (bN aa (bW zr ?_))))))))
   refine bN aa (bW zr (bN aa (bW zr (bN aa (bW zr (bN aa (r6 zr (bN aa ?_))))))))
   refine yv zr (gD aa (vb false) (DP.d0 (DP.z ?_)))
   obtain rfl:=oi hj
   exact⟨rfl,j.sp 4 [3,1]⟩
  refine DP.e0 zr (RL.move v0 (cg aa) (bW zr (RL.move (vi p0.length) (cg aa) (bW zr (RL.gQ (hg:=(cg aa)) (p0.length:Int) 1 (bW zr ?_))))))
  obtain⟨ax,af,hj⟩:=bd hj
  refine RL.bX (hg:=(cg aa)) 3 j zr zr wy af (bW zr (RL.nk (α:=aK) (cg aa) (kJ 3 j af 0) uu (bW zr (RL.ld (hg:=(cg aa)) 3 j (kJ 3 j af 2) (bE af).2.1 fW Ap fun al j=>?_))))
  refine bW zr (RL.aX (hg:=(cg aa)) zr uu (bW zr (RL.aV (hg:=(cg aa)) 2 j zr fW Ap fun an j=>(r6 zr ?_))))
  obtain⟨ao,aq,hj⟩:=bd hj
  refine RL.call (cg aa) zr Kv [al,an] zr (aC (p4 N (i0:=1) (i1:=0) j zr zr aq) ?_)
  rintro _ w ⟨rfl,j⟩
  refine yv zr (gD aa (vb ao) (DP.d0 (DP.z ?_)))
  obtain rfl:=oi hj
  exact⟨rfl,j.sp 6 [5,3]⟩
 rintro _ w ⟨O,rfl,j⟩
 refine aJ (dW hb (fun hc hb=>?_) fun hc hb=>?_)
 rotate_left
 ·refine RC.sx (mv v0 (RL.aV (f:=(fun x=>x)) 1 j zr Fd.self Kw fun ar j=>(RL.eX ([p1]: (List aK)) j [ar] wy Kx (fun M hs g=>⟨(g.sat 0 _ zr).1,zt⟩) fun ay w j=>?_)))
  have j:=j.freeze 0
  obtain⟨az,au,hb⟩:=bd hb
  refine RL.app 2 0 j Ky au fun av w j=>?_
  refine aP av (RL.nt (RC.ret ?_))
  obtain rfl:=oi hb
  exact bM (j.pk 4 [2])
 refine RC.sr (mv v0 (mv (vi p0.length) (RL.gQ (p0.length:Int) 1 (RL.aX zr yy (RL.aL 1 j zr kR cF ?_)))))
 obtain⟨a0,ag,hb⟩:=bd hb
 refine RL.bX 0 j zr zr wy ag (RL.nk (α:=aK) zt (kJ 0 j ag 0) yy ?_)
 have j:=j.sc Int p1.to
 refine RL.gp 1 0 j (kJ 1 j ag 1) (bE ag).2.1 zr kS cF fun w j=>?_
 refine RL.ns (mv v0 (aP v0 (RL.nt (RC.rt ?_))))
 obtain rfl:=oi hb
 exact bM (j.pk 3 [1])
theorem om {p0: (List aK)} {res: (List aG)} (j:Holds E w V) (h0:V[i0]? =some (rd v0 p0)) (o:iU N p0=some res):
    Calls bD 89 [v0].toArray w (gm (eN E V res)):=by
 unfold iU at o
 refine enter Tryz.func89 zr zr ?_
 have j:=j.dup (i0+0) h0
 refine RC.sr (aP (.slice none 0 0) (RL.ns (aP (.slice none 0 0) (RL.nq (RC.sr (aP (vi 0) (RL.nt ?_)))))))
 obtain⟨a7,hN,o⟩:=bd o
 refine RC.iter (fun(aa: (List aG)×Int) U w=>∃ao:Value,SH E V [(0,v0),(3,ao),(4,vi aa.2)] [rd v0 p0,own 51 ao aa.1] U w) (fun(aa: (List aG)×Int) U w=>∃ad:Value,SH E V [(3,ad)] [rd v0 p0,own 51 ad aa.1] U w) (fun(r:Empty) _ _=>r.elim) hN ?_ ?_ ?_ ?_
 ·have j:=j.cX aG 51
  exact⟨(.slice none 0 0),j.sp 2 [1,0]⟩
 ·rintro aa fl _ w ⟨aq,O,rfl,j⟩ o
  refine RC.seq (RC.sr (mv (vi aa.2) (mv v0 (RL.bA 0 p0 j Ij (ic aa.2 ((p0.length:Int)) (RL.nt (dW o (fun hc o=>?_) fun hc o=>?_)))))))
  rotate_left
  ·refine RC.ex ?_
   obtain rfl:=oi o
   exact⟨rfl,aq,j.sp 2 [0,1]⟩
  refine RC.ss (RC.bs (aP (vi 0) (RL.nt ?_)))
  obtain⟨a8,hN,o⟩:=bd o
  refine RC.iter (fun(ab: (List aG)×Int) U w=>∃ar:Value,SH E V [(0,v0),(3,ar),(4,vi aa.2),(5,vi ab.2)] [rd v0 p0,own 51 ar ab.1] U w) (fun(ab: (List aG)×Int) U w=>∃ai:Value,SH E V [(0,v0),(3,ai),(4,vi aa.2)] [rd v0 p0,own 51 ai ab.1] U w) (fun(r:Empty) _ _=>r.elim) hN ?_ ?_ ?_ ?_
  ·exact⟨aq,j.sp 2 [0,1]⟩
  ·rintro ab fl _ w ⟨al,O,rfl,j⟩ o
   refine RC.seq (RC.sr (mv (vi ab.2) (mv v0 (mv (vi aa.2) ?_))))
   obtain⟨an,aw,o⟩:=bd o
   refine RL.bP 0 j wy aw fun a9 j=>(RL.eT 0 j zr uu fW fun ba j=>(RL.bF 0 an.iK j Ap fun bb j=>(RL.bA 0 an.iK j va (ic ab.2 ((an.iK.length:Int)) (RL.nt (dW o (fun hc o=>?_) fun hc o=>?_))))))
   rotate_left
   ·refine RC.ex ?_
    obtain rfl:=oi o
    exact⟨rfl,al,j.sp 5 [3,4]⟩
   refine RC.ss (RC.block (RC.xq mixed [1,0,0,0,0,0,0,0,0,0,0,0,0,0,0,0,0,0,0,0,0,0,0,0,0,0,0,0,0,0,2,2,0] [0,1,2,3,4,5,6,7,8,9,10,11,12,13,14,15,16,17,18,19,20,21,22,23,24,25,26,27,28,29,30,31,32] ?_))
   have j:=j.drew
   refine DP.e1 al zr (fun w=>RL.move al zt DP.d1) (DP.e0 zr (mv v0 (bW zr (mv (vi aa.2) (bW zr ?_)))))
   obtain⟨ax,ay,o⟩:=bd o
   refine RL.bP 3 j wy ay fun bc j=>(bW zr (RL.eT 0 j zr uu fW fun bf j=>(bW zr (RL.bF 0 ax.iK j Ap fun bg j=>(bW zr (mv (vi ab.2) (bW zr ?_)))))))
   obtain⟨ae,az,o⟩:=bd o
   refine RL.bP 0 j oj az fun bh j=>(bW zr (RL.eT 0 j zr pC dT fun bj j=>(bW zr (RL.bG ae.from_ 0 j cF (bW zr (mv v0 (bW zr (mv (vi aa.2) ?_))))))))
   refine bW zr ?_
   obtain⟨af,a0,o⟩:=bd o
   refine RL.bP 8 j wy a0 fun bk j=>(bW zr (RL.eT 0 j zr Ex nB fun bl j=>(bW zr (RL.bG af.from_ 0 j cF (bW zr (mv v0 (bW zr (mv (vi aa.2) ?_))))))))
   refine bW zr ?_
   obtain⟨a1,a2,o⟩:=bd o
   refine RL.bP 10 j wy a2 fun bm j=>(bW zr (RL.eT 0 j zr uu fW fun bn j=>(bW zr (RL.bF 0 a1.iK j Ap fun bo j=>(bW zr (mv (vi ab.2) (bW zr ?_)))))))
   obtain⟨ag,a3,o⟩:=bd o
   refine RL.bP 0 j oj a3 fun bp j=>(bW zr (RL.eT 0 j zr pB dU fun bq j=>(bW zr (RL.bG ag.to 0 j cF (bW zr (mv v0 (bW zr (mv (vi aa.2) ?_))))))))
   refine bW zr ?_
   obtain⟨ah,a4,o⟩:=bd o
   refine RL.bP 15 j wy a4 fun br j=>(bW zr (RL.eT 0 j zr yy kR fun bt j=>(bW zr (RL.bG ah.to 0 j cF (bW zr ?_)))))
   have j:=(((j.sc Int ae.from_).sc Int af.from_).sc Int ag.to).sc Int ah.to
   refine RL.build (⟨ae.from_,af.from_,ag.to,ah.to⟩:aG) trivial rfl j [(0,vi ae.from_),(1,vi af.from_),(2,vi ag.to),(3,vi ah.to)] rfl Cw rfl (fun M hs g=>by have h:=sm M;exact dB.cons (f:=fun(x:aG) y=>{x with X0:=y}) h ot (g.sat 3 _ rfl).1 fun _ h=>dB.cons (f:=fun(x:aG) y=>{x with Y0:=y}) h pK (g.sat 2 _ rfl).1 fun _ h=>dB.cons (f:=fun(x:aG) y=>{x with X1:=y}) h ou (g.sat 1 _ rfl).1 fun _ h=>dB.cons (f:=fun(x:aG) y=>{x with Y1:=y}) h pL (g.sat 0 _ rfl).1 fun _ h=>dB.nil h) fun a5 j=>?_
   refine r6 zr (RL.eX ([(⟨ae.from_,af.from_,ag.to,ah.to⟩:aG)]: (List aG)) j [a5] jt oe (fun M hs g=>⟨(g.sat 0 _ zr).1,zt⟩) fun bu w j=>(Hf zr ?_))
   have j:=j.freeze 0
   obtain⟨bw,a6,o⟩:=bd o
   refine RL.app 24 0 j yQ a6 fun au w j=>?_
   refine yv zr (aP au (DP.d0 (DP.z (bQ (aJ (RC.region (mv (vi ab.2) (RL.gQ ab.2 1 ?_))))))))
   refine aP (vi (IntKind.wrap .i64 (ab.2+1))) (RL.nil ?_)
   obtain rfl:=oi o
   exact⟨rfl,au,j.sp 25 [23,24]⟩
  ·intro r _ _ _ _
   exact r.elim
  rintro ab _ w rfl ⟨ai,O,rfl,j⟩
  rw [Fo.dQ] at o
  refine bQ (aJ (RC.region (mv (vi aa.2) (RL.gQ aa.2 1 (aP (vi (IntKind.wrap .i64 (aa.2+1))) (RL.nil ?_))))))
  obtain rfl:=oi o
  exact⟨rfl,ai,j.sp 2 [0,1]⟩
 ·intro r _ _ _ _
  exact r.elim
 rintro aa _ w rfl ⟨ad,O,rfl,j⟩
 rw [Fo.dQ] at o
 refine aJ (RC.sr (mv ad (aP ad (RL.nt (RC.ret ?_)))))
 obtain rfl:=oi o
 exact bM (j.pk 2 [1])
theorem jO {p0: (List aG)} {res: (List aG)} (j:Holds E w V) (h0:V[i0]? =some (rd v0 p0)) (o:eP N p0=some res):
    Calls bD 63 [v0].toArray w (gm (eN E V res)):=by
 unfold eP at o
 refine enter Tryz.func63 zr zr ?_
 have j:=j.dup (i0+0) h0
 refine RC.sr (aP (.slice none 0 0) (RL.ns (mv v0 ?_)))
 obtain⟨ae,al,o⟩:=bd o
 refine RL.call zt zr Ku [v0] zr (aC (mZ N (i0:=0) j zr al) ?_)
 rintro ab w j
 refine aP ab (RL.ns (aP (.slice none 0 0) (RL.nq (RC.sr (aP (vi 1) (RL.nt ?_))))))
 obtain⟨a2,hN,o⟩:=bd o
 refine RC.iter (fun(aa: (List aK)×Int) U w=>∃aj:Value,SH E V [(0,v0),(3,ab),(4,aj),(5,vi aa.2)] [rd v0 p0,rd ab ae,own 119 aj aa.1] U w) (fun(aa: (List aK)×Int) U w=>∃ad:Value,SH E V [(4,ad)] [rd v0 p0,rd ab ae,own 119 ad aa.1] U w) (fun(r:Empty) _ _=>r.elim) hN ?_ ?_ ?_ ?_
 ·have j:=j.cX aK 119
  exact⟨(.slice none 0 0),j.sp 3 [2,1,0]⟩
 ·rintro aa fl _ w ⟨af,O,rfl,j⟩ o
  refine RC.seq (RC.sr (mv (vi aa.2) (mv ab (RL.bA 1 ae j nr (ic aa.2 ((ae.length:Int)) (RL.nt (dW o (fun hc o=>?_) fun hc o=>?_)))))))
  rotate_left
  ·refine RC.ex ?_
   obtain rfl:=oi o
   exact⟨rfl,af,j.sp 3 [0,1,2]⟩
  refine RC.ss (RC.block (RC.xq mixed [1,1,1,1,1,1,1,1,1,1,0,0,0,0,0,0,2,0,2,0] [0,1,2,3,4,5,6,7,8,9,10,11,12,13,14,15,16,17,18,19] ?_))
  have j:=j.drew
  refine DP.e1 af zr (fun w=>RL.move af zt DP.d1) (DP.e1 ab zr (fun w=>RL.move ab zt DP.d1) (DP.e1 (vi aa.2) zr (fun w=>RL.move (vi aa.2) zt DP.d1) (DP.e1 (vi (IntKind.wrap .i64 (aa.2 - 1))) zr (fun w=>RL.gQ aa.2 1 DP.d1) ?_)))
  obtain⟨ag,aq,o⟩:=bd o
  refine DP.vv 1 zr j fG aq fun a4 j=>(DP.qz ag 0 zr j cF fun a72 a5 j=>(DP.e1 ab zr (fun w=>RL.move ab zt DP.d1) (DP.e1 (vi aa.2) zr (fun w=>RL.move (vi aa.2) zt DP.d1) ?_)))
  obtain⟨ah,ar,o⟩:=bd o
  refine DP.vv 3 zr j fG ar fun a6 j=>(DP.qz ah 0 zr j cF fun a76 a7 j=>(DP.e0 zr (mv v0 (bW zr (mv ab (bW zr (mv (vi aa.2) (bW zr ?_))))))))
  refine RL.gQ aa.2 1 (bW zr ?_)
  obtain⟨ai,au,o⟩:=bd o
  refine RL.bP 5 j fG au fun a8 j=>(bW zr (RL.bG ai 0 j cF (r6 zr ?_)))
  obtain⟨av,aw,o⟩:=bd o
  refine RL.call zt zr I1 [v0,(vi ai)] zr (aC (mi N (p1:=ai) (i0:=5) j zr aw) ?_)
  rintro ax w j
  refine DP.d2 (⟨⟨zt,j.iu 4⟩,j.iu 2⟩) (DP.e0 zr ?_)
  have j:=((j.sc Int ag).sc Int ah).freeze 2
  refine RL.build (⟨ag,ah,av⟩:aK) trivial rfl j [(0,vi ag),(1,vi ah),(2,ax)] rfl Ii rfl (fun M hs g=>by have h:=oL M;exact dB.cons (f:=fun(x:aK) y=>{x with from_:=y}) h nC (g.sat 1 _ rfl).1 fun _ h=>dB.cons (f:=fun(x:aK) y=>{x with to:=y}) h kS (g.sat 0 _ rfl).1 fun _ h=>dB.cons (f:=fun(x:aK) y=>{x with iK:=y}) h nD (g.sat 2 _ rfl).1 fun _ h=>dB.nil h) fun ay j=>?_
  refine r6 zr ?_
  have j:=j.pull 11
  obtain⟨a9,az,o⟩:=bd o
  refine RL.call zt zr Kz [af,ay] zr (aC (m0 N (i1:=0) j zr az) ?_)
  rintro ak w j
  refine DP.d2 (⟨⟨zt,j.iu 8⟩,j.iu 6⟩) (DP.e0 zr (aP ak (DP.d0 ?_)))
  have j:=j.pl 13 [0,1,2,3,4,5,7,9,10,11,12]
  refine DP.z (bQ (aJ (RC.region (mv (vi aa.2) (RL.gQ aa.2 1 (aP (vi (IntKind.wrap .i64 (aa.2+1))) (RL.nil ?_)))))))
  obtain rfl:=oi o
  exact⟨rfl,ak,j.sp 11 [8,9,0]⟩
 ·intro r _ _ _ _
  exact r.elim
 rintro aa _ w rfl ⟨ad,O,rfl,j⟩
 rw [Fo.dQ] at o
 refine aJ (RC.sr (mv ad ?_))
 have j:=j.freeze 2
 obtain⟨ba,a0,o⟩:=bd o
 refine RL.call zt zr KA [ad] zr (aC (om N (i0:=2) j zr a0) ?_)
 rintro a1 w j
 refine aP a1 (RL.nt (RC.ret ?_))
 obtain rfl:=oi o
 exact bM (j.pk 4 [0])
def qt (E:World) (V:List HP) (r:Bool) (U:Nat->Value) (w:World):Prop:=l6 bD 26 Tryz.f15 (aS E V r) .ret U w
theorem jP {p0: (List aG)} {p1: (List aG)} {res:Bool} (j:Holds E w V) (h0:V[i0]? =some (rd v0 p0)) (h1:V[i1]? =some (rd v1 p1)) (o:dL N p0 p1=some res):
    Calls bD 15 [v0,v1].toArray w (gm (aS E V res)):=by
 unfold dL at o
 refine enter Tryz.func15 zr zr ?_
 have j:=(j.dup (i0+0) h0).dup (i1+1) h1
 refine RC.sr (aP (vb false) (RL.nq (RC.sr (mv v0 (RL.bA 1 p0 j mS (mv v1 (RL.bA 0 p1 j mS (ic ((p0.length:Int)) ((p1.length:Int)) ?_))))))))
 refine RL.nt (dW o (fun hc o=>?_) fun hc o=>?_)
 ·refine RC.sr (aP (vb false) (RL.nt (RC.rt ?_)))
  obtain rfl:=oi o
  exact bM ⟨rfl,j.drop 2⟩
 refine RC.ss (RC.sr (aP (vi 0) (RL.nt ?_)))
 obtain⟨aj,hN,o⟩:=bd o
 refine RC.iter (fun(aa:Int)=>SH E V [(0,v0),(1,v1),(5,vi aa)] [rd v0 p0,rd v1 p1]) (fun(aa:Int)=>SH E V [] [rd v0 p0,rd v1 p1]) (qt E V) hN ?_ ?_ ?_ ?_
 ·exact j.sp 2 [1,0]
 ·rintro aa fl _ w ⟨O,rfl,j⟩ o
  refine RC.seq (RC.sr (mv (vi aa) (mv v0 (RL.bA 0 p0 j mS (ic aa ((p0.length:Int)) (RL.nt (dW o (fun hc o=>?_) fun hc o=>?_)))))))
  rotate_left
  ·refine RC.ex ?_
   obtain rfl:=oi o
   exact⟨rfl,j.sp 2 [0,1]⟩
  refine RC.ss (RC.block (RC.seq (RC.yk mixed ?_)))
  have j:=j.drew
  refine RO.go (mv v0 (RO.nx (mv (vi aa) (RO.nx ?_))))
  obtain⟨ad,ag,o⟩:=bd o
  refine RL.bP 0 j jt ag fun al j=>(RO.nx (RL.bF 0 ad j hZ fun an j=>(RO.nx (mv v1 (RO.nx (mv (vi aa) (RO.nx ?_)))))))
  obtain⟨ae,ah,o⟩:=bd o
  refine RL.bP 3 j jt ah fun ao j=>(RO.nx (RL.bF 0 ae j hZ fun aq j=>(RO.nx (RL.Jl 2 0 ad ae zr j zr zr zr zr Gj zr (RO.last (aJ (dW o (fun hc o=>?_) fun hc o=>?_)))))))
  ·refine RC.sr (aP (vb false) (RL.nt (RC.rb (bL ?_))))
   obtain rfl:=oi o
   exact⟨rfl,bM ⟨rfl,j.drop 6⟩⟩
  refine RC.skip (bQ (aJ (RC.region (mv (vi aa) (RL.gQ aa 1 (aP (vi (IntKind.wrap .i64 (aa+1))) (RL.nil ?_)))))))
  obtain rfl:=oi o
  exact⟨rfl,j.sp 6 [4,5]⟩
 ·intro r U w e hK
  subst e
  refine bL ?_
  obtain rfl:=oi o
  exact hK
 rintro aa _ w rfl ⟨O,rfl,j⟩
 rw [Fo.dQ] at o
 refine aJ (RC.sr (aP (vb true) (RL.nt (RC.ret ?_))))
 obtain rfl:=oi o
 exact bM ⟨rfl,j.drop 2⟩
def pF (E:World) (V:List HP) (r:Int) (U:Nat->Value) (w:World):Prop:=l6 bD 32 Tryz.f29 (aU E V r) .ret U w
theorem jo {p0: (List aG)} (o:Holds E w V) (h0:V[i0]? =some (rd v0 p0)) (j:eA N p0=some res):
    Calls bD 29 [v0].toArray w (gm (aU E V res)):=by
 unfold eA at j
 refine enter Tryz.func29 zr zr ?_
 have o:=o.dup (i0+0) h0
 refine RC.sr (aP (vi 0) (RL.nq (RC.sr (mv v0 ?_))))
 obtain⟨ad,ae,j⟩:=bd j
 refine RL.call zt zr L6 [v0] zr (aC (pE N (i0:=0) o zr ae) ?_)
 rintro _ w ⟨rfl,o⟩
 refine aP (vi ad) (RL.ns (mv (vi ad) (ic ad 0 (RL.nt (dW j (fun hc j=>?_) fun hc j=>?_)))))
 ·refine RC.sr (mv (vi ad) (aP (vi ad) (RL.nt (RC.rt ?_))))
  obtain rfl:=oi j
  exact bM ⟨rfl,o.drop 1⟩
 refine RC.ss (RC.sr (aP (vi 1) (RL.nt ?_)))
 obtain⟨ax,hN,j⟩:=bd j
 refine RC.iter (fun(aa:Int)=>SH E V [(0,v0),(4,vi aa)] [rd v0 p0]) (fun(aa:Int)=>SH E V [(0,v0)] [rd v0 p0]) (pF E V) hN ?_ ?_ ?_ ?_
 ·exact o.sp 1 [0]
 ·rintro aa fl _ w ⟨O,rfl,o⟩ j
  refine RC.seq (RC.sr (mv (vi aa) (mv v0 (RL.bA 0 p0 o mS (ic aa ((p0.length:Int)) (RL.nt (dW j (fun hc j=>?_) fun hc j=>?_)))))))
  rotate_left
  ·refine RC.ex ?_
   obtain rfl:=oi j
   exact⟨rfl,o.sp 1 [0]⟩
  refine RC.ss (RC.block (RC.seq (RC.xq mixed [0,0,0,0,0,0,0,0,0,2,0] [0,1,2,3,4,5,6,7,8,9,10] ?_)))
  have o:=o.drew
  refine DP.e0 zr (mv v0 (bW zr (mv (vi aa) (bW zr (RL.gQ aa 1 (bW zr ?_))))))
  obtain⟨ag,ah,j⟩:=bd j
  refine RL.bP 0 o jt ah fun az o=>(bW zr (RL.bF 0 ag o hZ fun ai o=>(bW zr (mv v0 (bW zr (mv (vi aa) (bW zr ?_)))))))
  obtain⟨aj,ak,j⟩:=bd j
  refine RL.bP 2 o jt ak fun a0 o=>(bW zr (RL.bF 0 aj o hZ fun al o=>(r6 zr ?_)))
  obtain⟨an,ao,j⟩:=bd j
  refine RL.call zt zr Kt [ai,al] zr (aC (nF N (i0:=2) (i1:=0) o zr zr ao) ?_)
  rintro _ w ⟨rfl,o⟩
  refine yv zr (RL.not an (DP.d0 (DP.z (aJ (dW j (fun hc j=>?_) fun hc j=>?_)))))
  ·refine RC.sr (aP (vi 8) (RL.nt (RC.rb (bL ?_))))
   obtain rfl:=oi j
   exact⟨rfl,bM ⟨rfl,o.drop 5⟩⟩
  refine RC.skip (bQ (aJ (RC.region (mv (vi aa) (RL.gQ aa 1 (aP (vi (IntKind.wrap .i64 (aa+1))) (RL.nil ?_)))))))
  obtain rfl:=oi j
  exact⟨rfl,o.sp 5 [4]⟩
 ·intro r U w e hK
  subst e
  refine bL ?_
  obtain rfl:=oi j
  exact hK
 rintro aa _ w rfl ⟨O,rfl,o⟩
 rw [Fo.dQ] at j
 refine aJ (RC.seq (RC.sr (mv v0 (mv v0 ?_))))
 obtain⟨a1,ar,j⟩:=bd j
 refine RL.call zt zr I3 [v0] zr (aC (jO N (i0:=0) o zr ar) ?_)
 rintro au w o
 have o:=o.freeze 0
 obtain⟨av,aw,j⟩:=bd j
 refine RL.call zt zr I4 [v0,au] zr (aC (jP N (i0:=1) (i1:=0) o zr zr aw) ?_)
 rintro _ w ⟨rfl,o⟩
 refine RL.not av (RL.nt (dW j (fun hc j=>?_) fun hc j=>?_))
 ·refine RC.sr (aP (vi 3) (RL.nt (RC.rt ?_)))
  obtain rfl:=oi j
  exact bM ⟨rfl,o.drop 2⟩
 refine RC.sx (aP (vi 0) (RL.nt (RC.ret ?_)))
 obtain rfl:=oi j
 exact bM ⟨rfl,o.drop 2⟩
theorem fX {res:Bool} (o:Holds E w V) (j:cP N p0 p1 p2=some res):
    Calls bD 28 [(vi p0),(vi p1),(vi p2)].toArray w (gm (aS E V res)):=by
 unfold cP at j
 refine enter Tryz.func28 zr zr (RC.sr (aP (vb false) (RL.ns (mv (vi p0) (mv (vi p1) (ic p0 p1 (mv (vb (decide (p0>=p1))) (RL.gs true (decide (p0>=p1)) (vi p0) zr zr zr cE ?_))))))))
 refine RL.gs true (decide (p0>=p1)) (vi p2) rfl rfl rfl cE (RL.gs true (decide (p0>=p1)) (vb (decide (p0<=p2))) rfl rfl rfl (dK .leq .i64 p0 p2 rfl (fun h=>by exact(cG h:cv (true&&((decide (p0>=p1))==true)) (vi p0)= (vi p0))) (fun h=>by exact(cG h:cv (true&&((decide (p0>=p1))==true)) (vi p2)= (vi p2))) rfl) (RL.pick (decide (p0>=p1)) (vb ((decide (p0>=p1))&&(decide (p0<=p2)))) (gr true) (aP (vb ((decide (p0>=p1))&&(decide (p0<=p2)))) (RL.nt (RC.ret ?_)))))
 obtain rfl:=oi j
 exact bM ⟨rfl,o.drop 0⟩
theorem m6 {p0:jy} {res:Bool} (j:Holds E w V) (h0:V[i0]? =some (rd v0 p0)) (hb:fP N p0=some res):
    Calls bD 126 [v0].toArray w (gm (aS E V res)):=by
 unfold fP at hb
 refine enter Tryz.func126 zr zr ?_
 have j:=j.dup (i0+0) h0
 refine RC.sr (RL.dA 0 v0 j zr fun ai w j=>?_)
 refine aP (vb false) (RL.nq ?_)
 obtain⟨ad,o,hb⟩:=bd hb
 refine RC.jn (fun(ad:Bool)=>SH E V [(2,vb ad)] []) ad ?_ ?_
 ·refine RC.region (RL.aX zr xv (RL.aL 0 j zr ov cF ?_))
  obtain⟨af,ag,o⟩:=bd o
  refine RL.call zt zr z5 [(vi p0.X)] zr (aC (dV N (p0:=p0.X) j ag) ?_)
  rintro _ w ⟨rfl,j⟩
  refine mv (vb af) (gu o (fun aa o=>?_) fun aa o=>?_)
  rotate_left
  ·refine bN aa (bN aa (bN aa (gD aa (vb false) (aP (vb false) (RL.nil ?_)))))
   obtain rfl:=oi o
   exact⟨rfl,j.sp 2 []⟩
  refine RL.aX (hg:=(cg aa)) zr xw (RL.aL (hg:=(cg aa)) 0 j zr ox cF ?_)
  obtain⟨ae,ah,o⟩:=bd o
  refine RL.call (cg aa) zr z5 [(vi p0.Y)] zr (aC (dV N (p0:=p0.Y) j ah) ?_)
  rintro _ w ⟨rfl,j⟩
  refine gD aa (vb ae) (aP (vb ae) (RL.nil ?_))
  obtain rfl:=oi o
  exact⟨rfl,j.sp 2 []⟩
 rintro _ w ⟨O,rfl,j⟩
 refine aJ (RC.ret ?_)
 obtain rfl:=oi hb
 exact bM ⟨rfl,j.drop 0⟩
end Go.Gk
