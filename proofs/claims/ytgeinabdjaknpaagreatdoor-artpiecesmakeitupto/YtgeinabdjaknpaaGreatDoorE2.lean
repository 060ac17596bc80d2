/-
  Helping texts: plain functions and plain laws. No statement of the seed is proved here.
-/
import Derived.Test.YtgeinabdjaknpaaGreatDoorE1
import Derived.Test.YtgeinabdjaknpaaGreatDoorA2
set_option linter.unusedVariables false
set_option linter.unusedSimpArgs false
set_option linter.unusedSectionVars false
namespace Go.Gk
open Go Classical
section
variable {N:Nat}
def ov (n:Nat) (h:gk):Nat:=if h.bD=true then n+h.Number.toNat else h.Number.toNat
structure DL (bs:List bD) (n m:Nat) (h:gk):Prop where
  num: ∃k:Nat,h.Number= ((k:Nat):Int)∧(h.bD=true→k<m∧tM bs k=true)∧(h.bD=false→k<n)
theorem Cu {bs:List bD} {pcs:List aD} {l:cT} {h:gk} (hh:vd bs pcs l=some h):DL bs pcs.length bs.length h:=by
  unfold vd at hh
  cases hf:bs.findIdx? (oS l) with
  | some k=>
    rw [hf] at hh
    injection hh with hh;subst hh
    obtain⟨hk,hp,_⟩:=List.findIdx?_eq_some_iff_getElem.1 hf
    refine⟨k,rfl,fun _=>⟨hk,?_⟩,fun h=>by cases h⟩
    unfold oS at hp
    unfold tM
    rw [List.getElem?_eq_getElem hk]
    rw [Bool.and_eq_true] at hp
    exact hp.1
  | none=>
    rw [hf] at hh
    dsimp only at hh
    rw [Option.map_eq_some_iff] at hh
    obtain⟨k,hk,rfl⟩:=hh
    obtain⟨hk,_⟩:=List.findIdx?_eq_some_iff_getElem.1 hk
    exact⟨k,rfl,fun h=>(by cases h),fun _=>hk⟩
def zi (bs:List bD) (pcs:List aD) (r:Nat→Nat) (l:cT):Option Nat:=(vd bs pcs l).map fun h=>gi bs pcs.length (pcs.length+bs.length) r (r (ov pcs.length h))
def CC (bs:List bD) (pcs:List aD) (r:Nat→Nat) (l:cT):Int:=match zi bs pcs r l with | some g=>((g:Nat):Int) | none=> -1
def fq (gs:List bT) (lg:cT→Option Nat) (ls:List cT):List bT:=gs.mapIdx (fun g x=>{x with eY:=(ls.filter (fun l=>decide (lg l=some g))).map tJ})
theorem gz {gs:List bT} {lg:cT→Option Nat} {ls:List cT} {g:Nat}: (fq gs lg ls)[g]? = (gs[g]?).map fun x=>{x with eY:=(ls.filter (fun l=>decide (lg l=some g))).map tJ}:=by
  unfold fq;rw [List.getElem?_mapIdx]
theorem ve (gs:List bT) (lg:cT→Option Nat) (ls:List cT): (fq gs lg ls).length=gs.length:=by unfold fq;rw [List.length_mapIdx]
theorem tN {gs:List bT} {lg:cT→Option Nat} {ls:List cT} {l:cT} (h:lg l=none):fq gs lg (ls++[l])=fq gs lg ls:=by
  apply List.ext_getElem?
  intro g
  rw [gz,gz]
  congr 2
  funext x
  rw [List.filter_append]
  simp [h]
theorem vf {gs:List bT} {lg:cT→Option Nat} {ls:List cT} {l:cT} {k:Nat} {x:bT} (h:lg l=some k) (hx: (fq gs lg ls)[k]? =some x):
    (fq gs lg ls).set k {x with eY:=x.eY++[tJ l]}=fq gs lg (ls++[l]):=by
  apply List.ext_getElem?
  intro g
  have hk:=(List.getElem?_eq_some_iff.1 hx).1
  rw [List.getElem?_set]
  by_cases e:k=g
  · subst e
    rw [if_pos rfl,if_pos hk,gz]
    rw [gz,Option.map_eq_some_iff] at hx
    obtain⟨y,hy,rfl⟩:=hx
    rw [hy,List.filter_append]
    simp [h]
  · rw [if_neg e,gz,gz]
    congr 2
    funext x
    rw [List.filter_append]
    have: ¬(lg l=some g):=by rw [h];intro h';injection h' with h';exact e h'
    simp [this]
theorem DM {bs:List bD} {n t:Nat} {r:Nat→Nat} {i:Nat} (hi:i<n) (ht:i<t):AA bs n (cls t r (r i))=true:=by
  unfold AA
  rw [decide_eq_true_eq]
  have:i∈gP n (cls t r (r i)):=List.mem_filter.2 ⟨nK.2 ⟨ht,rfl⟩,by simpa using hi⟩
  have:=List.length_pos_of_mem this
  omega
theorem DN {bs:List bD} {n t:Nat} {r:Nat→Nat} {j:Nat} (hp:tM bs j=true) (ht:n+j<t):AA bs n (cls t r (r (n+j)))=true:=by
  unfold AA
  rw [decide_eq_true_eq]
  have:j∈gB bs n (cls t r (r (n+j))):=List.mem_map.2 ⟨n+j,List.mem_filter.2 ⟨nK.2 ⟨ht,rfl⟩,by simp [hp]⟩,by omega⟩
  have:=List.length_pos_of_mem this
  omega
structure xE (bs:List bD) (ls:List cT) (pcs:List aD) (r:Nat→Nat) (gs:List bT) (ofP ofB tr:List Int) (tt:List gk):Prop where
  conn:DI pcs.length bs.length (k8 bs pcs) r
  gs:gs=fq (mj bs pcs.length (pcs.length+bs.length) r (aZ (pcs.length+bs.length) r)) (zi bs pcs r) ls
  of:DK bs pcs.length bs.length r (aZ (pcs.length+bs.length) r) ofP ofB
  tr:tr=ls.map (CC bs pcs r)
  tt:tt=ls.map (fun l=>(vd bs pcs l).getD ⟨false,0⟩)
theorem AE {bs:List bD} {pcs:List aD} (hp:pcs.length≤1073741824): ∀l∈k8 bs pcs,l.length≤1073741824∧∀x∈l,∃i:Nat,i<pcs.length∧x= ((i:Nat):Int):=by
  intro l hl
  unfold k8 at hl
  obtain⟨b,_,rfl⟩:=List.mem_map.1 hl
  have:=t9 (jl b) pcs pcs.length
  refine⟨by rw [kN];omega,fun x hx=>?_⟩
  obtain⟨i,hi,rfl⟩:=Ax.1 hx
  exact⟨i,(y7.1 hi).1,rfl⟩
theorem vg {bs:List bD} {ls:List cT} {pcs:List aD} (hb:jC bs) (hp:pcs.length≤1000000000) (hr: ∀p∈pcs,p.dQ.length≤1073741824) (hl:ls.length≤1073741824) (hN:4398046511104≤N):
    Ok (cO N bs ls pcs (k8 bs pcs) [] [] [] []) (fun x=>∃r,xE bs ls pcs r x.1 x.2.1 x.2.2.1 x.2.2.2.1 x.2.2.2.2):=by
  have hbl:=hb.len
  unfold cO
  rw [wrap_add (by omega)]
  obtain⟨up0,u1,u2⟩:=wk (N:=N) (n:=pcs.length+bs.length) (by omega)
  refine Ok.eq u1 ?_
  refine Ok.bind (y8 (n:=pcs.length) (m:=bs.length) (by unfold k8;simp) (AE (by omega)) (by omega) (by omega) u2 hN) ?_
  rintro up1 ⟨r,v1,v2⟩
  refine Ok.eq (px 0 (by omega)) (Ok.eq (px 0 (by omega)) ?_)
  obtain⟨up2,w1,_⟩:=Bx (N:=N) v1 (by omega) (by omega)
  refine Ok.eq w1 ?_
  refine Ok.bind (wB (bs:=bs) (n:=pcs.length) (m:=bs.length) (r:=r) rfl (by omega) (by omega) (op:=List.replicate pcs.length 0) (ob:=List.replicate bs.length 0) (by simp) (by simp) rfl) ?_
  rintro⟨gs,ofP,ofB⟩ ⟨e1,I⟩
  dsimp only at e1 I ⊢
  subst e1
  have hgl: (mj bs pcs.length (pcs.length+bs.length) r (aZ (pcs.length+bs.length) r)).length≤pcs.length+bs.length:=by
    rw [p9]
    have:=qc bs pcs.length (pcs.length+bs.length) r (aZ (pcs.length+bs.length) r)
    have:=kn (pcs.length+bs.length) r
    omega
  refine Ok.bind (Ok.iz (fun(k:Nat) (st:List bT×List Int×List Int×List Int×List gk)=>st= (fq (mj bs pcs.length (pcs.length+bs.length) r (aZ (pcs.length+bs.length) r)) (zi bs pcs r) (ls.take k),ofP,ofB,(ls.take k).map (CC bs pcs r),(ls.take k).map (fun l=>(vd bs pcs l).getD ⟨false,0⟩))) (by omega) ?_ (fun k st hk e=>?_)) ?_
  · congr 1
    unfold fq
    apply List.ext_getElem?
    intro g
    rw [List.getElem?_mapIdx]
    unfold mj
    rw [List.getElem?_map]
    cases (live bs pcs.length (pcs.length+bs.length) r (aZ (pcs.length+bs.length) r))[g]? <;> rfl
  · subst e
    dsimp only
    have hts:ls.take (k+1)=ls.take k++[ls[k]]:=List.take_succ_eq_append_getElem hk
    refine Ok.idx hk (Ok.eq (Az hb (by omega) hr _) ?_)
    dsimp only
    refine Ok.bind (P:=fun x=>x= (fq (mj bs pcs.length (pcs.length+bs.length) r (aZ (pcs.length+bs.length) r)) (zi bs pcs r) (ls.take k++[ls[k]]),CC bs pcs r ls[k])) ?_ ?_
    · cases hh:vd bs pcs ls[k] with
      | none=>
        refine Ok.ret ?_
        have h1:zi bs pcs r ls[k]=none:=by unfold zi;rw [hh];rfl
        rw [tN h1]
        unfold CC;rw [h1]
      | some h=>
        have h1:zi bs pcs r ls[k]=some (gi bs pcs.length (pcs.length+bs.length) r (r (ov pcs.length h))):=by unfold zi;rw [hh];rfl
        have h2:CC bs pcs r ls[k]= ((gi bs pcs.length (pcs.length+bs.length) r (r (ov pcs.length h)):Nat):Int):=by unfold CC;rw [h1]
        obtain⟨q,q1,q2,q3⟩:=(Cu hh).num
        have hix:ov pcs.length h<pcs.length+bs.length∧AA bs pcs.length (cls (pcs.length+bs.length) r (r (ov pcs.length h)))=true∧dI N ofP ofB h=some ((gi bs pcs.length (pcs.length+bs.length) r (r (ov pcs.length h)):Nat):Int):=by
          unfold dI ov
          rw [q1,Int.toNat_natCast]
          cases hbo:h.bD with
          | true=>
            obtain⟨q4,q5⟩:=q2 hbo
            rw [cond_true,if_pos rfl]
            refine⟨by omega,DN q5 (by omega),?_⟩
            have:=I.bo q q4 (fA.2 ⟨by have:=v2.le (pcs.length+q) (by omega);omega,v2.rr _ (by omega)⟩)
            rw [if_pos q5] at this
            rw [gu this,aB]
          | false=>
            have q4:=q3 hbo
            rw [cond_false,if_neg (by simp)]
            refine⟨by omega,DM q4 (by omega),?_⟩
            have:=I.pc q q4 (fA.2 ⟨by have:=v2.le q (by omega);omega,v2.rr _ (by omega)⟩)
            rw [gu this,aB]
        obtain⟨i1,i2,i3⟩:=hix
        have hgi:=DJ (r:=r) (t:=pcs.length+bs.length) (bs:=bs) (n:=pcs.length) (h:=r (ov pcs.length h)) (fA.2 ⟨by have:=v2.le _ i1;omega,v2.rr _ i1⟩) i2
        have hgx:gi bs pcs.length (pcs.length+bs.length) r (r (ov pcs.length h))< (fq (mj bs pcs.length (pcs.length+bs.length) r (aZ (pcs.length+bs.length) r)) (zi bs pcs r) (ls.take k)).length:=by
          rw [ve,p9];exact hgi.1
        rw [h2]
        dsimp only [Option.getD,Option.isSome]
        rw [cond_true]
        refine Ok.eq i3 ?_
        generalize gi bs pcs.length (pcs.length+bs.length) r (r (ov pcs.length h))=g at *
        refine Ok.idx hgx (Ok.eq (q6 _) ?_)
        have hpl: ((fq (mj bs pcs.length (pcs.length+bs.length) r (aZ (pcs.length+bs.length) r)) (zi bs pcs r) (ls.take k))[g]).eY.length≤ls.length:=by
          have:=gz (gs:=mj bs pcs.length (pcs.length+bs.length) r (aZ (pcs.length+bs.length) r)) (lg:=zi bs pcs r) (ls:=ls.take k) (g:=g)
          rw [List.getElem?_eq_getElem hgx] at this
          have:=this.symm
          rw [Option.map_eq_some_iff] at this
          obtain⟨y,_,hy⟩:=this
          rw [←hy,List.length_map]
          have:=List.length_filter_le (fun l=>decide (zi bs pcs r l=some g)) (ls.take k)
          rw [List.length_take] at this;omega
        refine Ok.app (by simp;omega) (Ok.idx hgx (Ok.ret ?_))
        rw [Int.toNat_natCast]
        congr 1
        exact vf h1 (List.getElem?_eq_getElem hgx)
    · rintro _ rfl
      dsimp only
      refine Ok.app (by simp;omega) (Ok.app (by simp;omega) (Ok.ret ?_))
      rw [hts,List.map_append,List.map_append];rfl
  · rintro st rfl
    dsimp only
    rw [List.take_length]
    exact Ok.ret ⟨r,v2,rfl,I,rfl,rfl⟩
end
end Go.Gk
namespace Go.Gk
open Go Classical
section
variable {N:Nat}
theorem q9 {p:aD}: ∀{dP:List (List (List aA))} {k:Nat},p∈pcsOf k dP→∃(i:Nat) (ps:List (List aA)) (q:List aA),dP[i]? =some ps∧q∈ps∧p= ⟨((k+i:Nat):Int),q,aI q⟩
  | [],k,h=>by cases h
  | ps::dP,k,h=>by
    rcases List.mem_append.1 h with h | h
    · obtain⟨q,hq,rfl⟩:=List.mem_map.1 h
      exact⟨0,ps,q,rfl,hq,rfl⟩
    · obtain⟨i,ps',q,h1,h2,h3⟩:=q9 h
      refine⟨i+1,ps',q,by simpa using h1,h2,?_⟩
      rw [h3,show k+1+i=k+ (i+1) by omega]
structure kh (a:jQ):Prop where
  wP:0<a.aJ.length∧a.aJ.length≤16
  Fv: ∀r∈a.aJ,fP r=0
  out:fP a.bY=0
  many:a.bY.length+ (a.aJ.map List.length).sum≤2000
  AF:jk a=0
  Fw:kM a=0
theorem kh.gb {a:jQ} (h:kh a):jC a.aT:=⟨(ly h.AF).1,fun b hb=>⟨((ly h.AF).2 b hb).1,((ly h.AF).2 b hb).2.1⟩⟩
theorem kh.cs {a:jQ} (h:kh a): ∀r∈a.aJ,r.length≤2000∧∀x∈r,wN x:=fun r hr=>tc (k6.1 (h.Fv r hr)).1
structure qd (a:jQ) (jF:List (List aA)) (dP:List (List (List aA))) (p:aD) (i:Nat) (r:List aC) (s:List aA) (ps:List (List aA)) (u:Nat→Nat) (j k:Nat):Prop where
  FN:a.aJ[i]? =some r
  jF:jF[i]? =some s
  dP:dP[i]? =some ps
  dr:nI r (ka a.aT ((i:Nat):Int)) s
  pt:mf s u ps
  at_:ps[j]? =some p.Set
  head: (aZ (aI s).length u)[j]? =some k
  set:lU (iQ (aI s) (aI s).length u k) p.Set
  lim:oW (lT r++lT (ka a.aT ((i:Nat):Int))) (iG r++iG (ka a.aT ((i:Nat):Int))) (p.Set.map aW)
  qe:p.aU= ((i:Nat):Int)
  DO:p.dQ=aI p.Set
theorem wC {a:jQ} {jF:List (List aA)} {dP:List (List (List aA))} (hg:kh a) (hD:q8 a.aJ a.aT a.aJ.length jF dP) {p:aD} (hp:p∈pcsOf 0 dP): ∃i r s ps u j k,qd a jF dP p i r s ps u j k:=by
  obtain⟨i,ps,q,h1,h2,rfl⟩:=q9 hp
  have hil:i<a.aJ.length:=by have:=(List.getElem?_eq_some_iff.1 h1).1;rw [hD.xB] at this;exact this
  have hc:a.aJ[i]? =some a.aJ[i]:=List.getElem?_eq_getElem hil
  have hd:jF[i]? =some (jF[i]'(by rw [hD.len];exact hil)):=List.getElem?_eq_getElem _
  have hdr:=hD.dr i _ _ hil hc hd
  obtain⟨u,hu⟩:=hD.pt i _ ps hil hd h1
  obtain⟨sx,sy⟩:=hdr.small (hg.cs _ (List.getElem_mem hil)).2 (fun x hx=>(p5 hg.gb _ x hx).1)
  obtain⟨j,k,g1,g2,g3,g4⟩:=tf hu hdr.can hdr.lim sx sy h2
  exact⟨i,_,_,ps,u,j,k,hc,hd,h1,hdr,hu,g1,g2,g3,g4,by rw [Nat.zero_add],rfl⟩
theorem qd.wx {a:jQ} {jF:List (List aA)} {dP:List (List (List aA))} (hg:kh a) {p:aD} {i:Nat} {r:List aC} {s:List aA} {ps:List (List aA)} {u:Nat→Nat} {j k:Nat} (h:qd a jF dP p i r s ps u j k):
    p.Set.length≤5000∧(∀b∈p.Set,b.Xs.length≤5000)∧p.dQ.length≤5000*5000:=by
  have h1:=(hg.cs r (List.mem_of_getElem? h.FN)).1
  have h2:=q7 hg.gb ((i:Nat):Int)
  rw [h.DO]
  exact nJ (A:=5000) h.set.can h.lim (by rw [List.length_append,gD,gD];omega) (by rw [List.length_append,fp,fp];omega)
def ye (a0 a1 b0 b1:Int):Bool:=decide (b0<a1)&&decide (a0<b1)
def AG (a b:aC):Bool:=ye a.X0 a.X1 b.X0 b.X1&&ye a.Y0 a.Y1 b.Y0 b.Y1
theorem tg {a0 a1 b0 b1:Int} (h1: -1000000≤a0∧a0≤1000000) (h2: -1000000≤a1∧a1≤1000000) (h3: -1000000≤b0∧b0≤1000000) (h4: -1000000≤b1∧b1≤1000000): ∃n,gI N a0 a1 b0 b1=some n∧0≤n∧(n=0↔ye a0 a1 b0 b1=true):=by
  unfold gI ye
  have e1:IntKind.wrap .i64 (b0 - a1)=b0 - a1:=cS (by omega) (by omega)
  have e2:IntKind.wrap .i64 (a0 - b1)=a0 - b1:=cS (by omega) (by omega)
  have e3:IntKind.wrap .i64 (b0 - a1+1)=b0 - a1+1:=cS (by omega) (by omega)
  have e4:IntKind.wrap .i64 (a0 - b1+1)=a0 - b1+1:=cS (by omega) (by omega)
  rw [e1,e2,e3,e4]
  refine⟨_,rfl,?_,?_⟩
  · repeat' split
    all_goals omega
  · rw [Bool.and_eq_true,decide_eq_true_eq,decide_eq_true_eq]
    repeat' split
    all_goals omega
theorem Cv {a b:aC} (h1:cA a=true) (h2:cA b=true): ∃n,lz N a b=some n∧(n=0↔AG a b=true):=by
  have b1:=eV h1
  have b2:=eV h2
  obtain⟨n,n1,n2,n3⟩:=tg (N:=N) (a0:=a.X0) (a1:=a.X1) (b0:=b.X0) (b1:=b.X1) (by omega) (by omega) (by omega) (by omega)
  obtain⟨m,m1,m2,m3⟩:=tg (N:=N) (a0:=a.Y0) (a1:=a.Y1) (b0:=b.Y0) (b1:=b.Y1) (by omega) (by omega) (by omega) (by omega)
  unfold lz AG
  rw [n1,aB,m1,aB]
  refine⟨_,rfl,?_⟩
  rw [Bool.and_eq_true,←n3,←m3]
  split <;> omega
def ra (x y:bD):Bool:=(decide (x.bN≤y.To)&&decide (y.bN≤x.To))&&AG (rR x) (rR y)
def th (a:jQ):Prop:=∃(i k:Nat) (x y:bD),k<i∧a.aT[i]? =some x∧a.aT[k]? =some y∧ra x y=true
noncomputable def za (r:List aC):Option Int:=if fP r≠0 then some (fP r) else none
noncomputable def xF (a:jQ):Int:=if 2000<a.bY.length+ (a.aJ.map List.length).sum then 2 else if jk a≠0 then jk a else if kM a≠0 then kM a else if th a then 12 else 0
noncomputable def BA (a:jQ):Int:=match a.aJ.findSome? za with | some e=>e | none=>if fP a.bY≠0 then fP a.bY else xF a
noncomputable def gF (a:jQ):Int:=if a.aJ.length=0 then 9 else if 16<a.aJ.length then 2 else BA a
def DW (jF:List (List aA)) (dP:List (List (List aA))):Prop:=(∀s∈jF,(aI s).length≤2000)∧(pcsOf 0 dP).length≤2000
abbrev ti:=(List (List aC))×(List aC)×(List bD)×(List cT)×(List (List aA))×(List aD)×(List (List Int))×(List bT)×(List Int)×(List Int)×(List Int)×(List gk)
def BO (a:jQ) (x:Option ti×Int):Prop:=
  (gF a≠0∧x= (none,gF a))∨(gF a=0∧kh a∧¬th a∧∃jF dP,q8 a.aJ a.aT a.aJ.length jF dP∧
    ((¬DW jF dP∧x= (none,2))∨(DW jF dP∧∃r gs ofP ofB tr tt,xE a.aT a.bH (pcsOf 0 dP) r gs ofP ofB tr tt∧
      x= (some (a.aJ,a.bY,a.aT,a.bH,jF,pcsOf 0 dP,k8 a.aT (pcsOf 0 dP),gs,ofP,ofB,tr,tt),0))))
structure tj (a:jQ):Prop where
  cs:a.aJ.length≤1048576
  each: ∀r∈a.aJ,r.length≤1048576
  out:a.bY.length≤1048576
  bs:a.aT.length≤1048576
  ls:a.bH.length≤1048576
  nm:td a
theorem wD {a:jQ} (h:bk a≤1048576):tj a:=by
  rw [Ah] at h
  have h1:=qA a.aJ
  have h2:=qA a.bY
  have h3:=qA a.aT
  have h4:=qA a.bH
  refine⟨by omega,fun r hr=>?_,by omega,by omega,by omega,fun x hx=>?_⟩
  · have:=xo hr
    have:=qA r;omega
  · have:=xo hx
    rw [xX,Ae,Ae] at this;omega
theorem zb {a:jQ} (hs:tj a) (hN:4398046511104≤N):Ok (dX N a) (BO a):=by
  unfold dX
  have pe: ∀e:Int,e≠0→gF a=e→Ok (some ((none:Option ti),e)) (BO a):=fun e he h=>Ok.ret (.inl ⟨by rw [h];exact he,by rw [h]⟩)
  have c1:=hs.cs
  refine Ok.bif (fun h=>?_) (fun h=>?_)
  · have:a.aJ.length=0:=by have:=beq_iff_eq.1 h;omega
    exact pe 9 (by omega) (by unfold gF;rw [if_pos this])
  have h0: ¬a.aJ.length=0:=by rw [beq_eq_false_iff_ne] at h;omega
  refine Ok.bif (fun h=>?_) (fun h=>?_)
  · have h1:16<a.aJ.length:=by have:=of_decide_eq_true h;omega
    exact pe 2 (by omega) (by unfold gF;rw [if_neg h0,if_pos h1])
  have h1: ¬16<a.aJ.length:=by have:=of_decide_eq_false h;omega
  have pe1:gF a=BA a:=by unfold gF;rw [if_neg h0,if_neg h1]
  have hso:=hs.out
  have sumle: ∀k,k≤a.aJ.length→((a.aJ.take k).map List.length).sum≤k*1048576:=by
    intro k
    induction k with
    | zero=>intro _;simp
    | succ k ih=>
      intro hk
      have:=ih (by omega)
      have h2:=hs.each _ (List.getElem_mem (show k<a.aJ.length by omega))
      rw [List.take_succ_eq_append_getElem (by omega),List.map_append,List.sum_append]
      simp only [List.map_cons,List.map_nil,List.sum_cons,List.sum_nil]
      rw [Nat.add_mul];omega
  refine Ok.bind (Ok.nM (Go:=fun s:Int=>s= ((a.bY.length+ (a.aJ.map List.length).sum:Nat):Int)∧∀r∈a.aJ,fP r=0) (Rt:=fun x:Option ti×Int=>∃e,e≠0∧x= (none,e)∧a.aJ.findSome? za=some e)
    (fun(k:Nat) (s:Int)=>s= ((a.bY.length+ ((a.aJ.take k).map List.length).sum:Nat):Int)∧∀r∈a.aJ.take k,fP r=0) (by omega) ⟨by simp,fun r hr=>by simp at hr⟩ (fun k s hk hI=>?_) (fun s hI=>by rw [List.take_length] at hI;exact hI)) ?_
  · obtain⟨e,hI⟩:=hI
    subst e
    have hkx:a.aJ[k]? =some a.aJ[k]:=List.getElem?_eq_getElem hk
    have hts:a.aJ.take (k+1)=a.aJ.take k++[a.aJ[k]]:=List.take_succ_eq_append_getElem hk
    have he:=hs.each _ (List.getElem_mem hk)
    refine Ok.ix hkx (Ok.eq (kL (by omega) hN) ?_)
    refine Ok.bif (fun h=>Ok.rt ?_) (fun h=>Ok.nx ?_)
    · have h:fP a.aJ[k]≠0:=by simpa using h
      refine⟨_,h,rfl,?_⟩
      rw [List.findSome?_eq_some_iff]
      refine⟨a.aJ.take k,a.aJ[k],a.aJ.drop (k+1),?_,by unfold za;rw [if_pos h],fun r hr=>by unfold za;rw [if_neg (by simpa using hI r hr)]⟩
      rw [←List.drop_eq_getElem_cons hk,List.take_append_drop]
    · have h:fP a.aJ[k]=0:=by simpa using h
      have:=sumle k (by omega)
      have hk16:k*1048576≤16*1048576:=Nat.mul_le_mul_right _ (by omega)
      refine⟨?_,fun r hr=>?_⟩
      · rw [wrap_add (by omega),hts,List.map_append,List.sum_append]
        simp only [List.map_cons,List.map_nil,List.sum_cons,List.sum_nil]
        congr 1
        omega
      · rw [hts] at hr
        rcases List.mem_append.1 hr with hr | hr
        · exact hI r hr
        · simp at hr;subst hr;exact h
  intro o ho
  refine Ok.cs ho ?_ ?_
  rotate_left
  · rintro x ⟨e,he,rfl,hf⟩
    exact pe e he (by rw [pe1];unfold BA;rw [hf])
  rintro s ⟨rfl,hreg⟩
  have DS:a.aJ.findSome? za=none:=List.findSome?_eq_none_iff.2 fun r hr=>by unfold za;rw [if_neg (by simpa using hreg r hr)]
  have pe2:gF a=if fP a.bY≠0 then fP a.bY else xF a:=by rw [pe1];unfold BA;rw [DS]
  refine Ok.eq (kL (by omega) hN) ?_
  refine Ok.bif (fun h=>?_) (fun h=>?_)
  · have h:fP a.bY≠0:=by simpa using h
    exact pe _ h (by rw [pe2,if_pos h])
  have hout:fP a.bY=0:=by simpa using h
  have pe3:gF a=xF a:=by rw [pe2,if_neg (by simpa using hout)]
  refine Ok.bif (fun h=>?_) (fun h=>?_)
  · have h:2000<a.bY.length+ (a.aJ.map List.length).sum:=by have:=of_decide_eq_true h;omega
    exact pe 2 (by omega) (by rw [pe3];unfold xF;rw [if_pos h])
  have hmany: ¬2000<a.bY.length+ (a.aJ.map List.length).sum:=by have:=of_decide_eq_false h;omega
  have hbs:=hs.bs
  have hls:=hs.ls
  refine Ok.eq (tI (by omega) (by omega) (by omega)) ?_
  refine Ok.bif (fun h=>?_) (fun h=>?_)
  · have h:jk a≠0:=by simpa using h
    exact pe _ h (by rw [pe3];unfold xF;rw [if_neg hmany,if_pos h])
  have hbo:jk a=0:=by simpa using h
  refine Ok.eq (tK (by omega) (by omega) hs.nm (by omega)) ?_
  refine Ok.bif (fun h=>?_) (fun h=>?_)
  · have h:kM a≠0:=by simpa using h
    exact pe _ h (by rw [pe3];unfold xF;rw [if_neg hmany,if_neg (by simpa using hbo),if_pos h])
  have hla:kM a=0:=by simpa using h
  have hg:kh a:=⟨by omega,hreg,hout,by omega,hbo,hla⟩
  have pe4:gF a=if th a then 12 else 0:=by rw [pe3];unfold xF;rw [if_neg hmany,if_neg (by simpa using hbo),if_neg (by simpa using hla)]
  refine Ok.bind (Ok.nM (Go:=fun _:Unit=>¬th a) (Rt:=fun x:Option ti×Int=>x= (none,12)∧th a)
    (fun(k:Nat) (_:Unit)=>∀(i j:Nat) (x y:bD),i<k→j<i→a.aT[i]? =some x→a.aT[j]? =some y→¬ra x y=true) (by omega) (fun i j x y h=>by omega) (fun k s hk hI=>?_) (fun s hI=>?_)) ?_
  · have hkx:a.aT[k]? =some a.aT[k]:=List.getElem?_eq_getElem hk
    refine Ok.ix hkx (Ok.eq (pr _ k (by omega)) ?_)
    have hgk:=hg.gb.ok _ (List.getElem_mem hk)
    refine Ok.bind (Ok.nM (Go:=fun _:Unit=>∀(j:Nat) (y:bD),j<k→a.aT[j]? =some y→¬ra a.aT[k] y=true) (Rt:=fun x:Option ti×Int=>x= (none,12)∧th a)
      (fun(t:Nat) (_:Unit)=>∀(j:Nat) (y:bD),j<t→a.aT[j]? =some y→¬ra a.aT[k] y=true) (by rw [List.length_take];omega) (fun j y h=>by omega) (fun t s ht hI2=>?_) (fun s hI2 j y hj hy=>hI2 j y (by rw [List.length_take];omega) hy)) ?_
    · have htk:t<k:=by rw [List.length_take] at ht;omega
      have htx: (a.aT.take k)[t]? =some a.aT[t]:=by rw [List.getElem?_take_of_lt htk];exact List.getElem?_eq_getElem (by omega)
      have hgt:=hg.gb.ok _ (List.getElem_mem (show t<a.aT.length by omega))
      refine Ok.ix htx ?_
      refine Ok.eq (x:=ra a.aT[k] a.aT[t]) ?_ ?_
      · unfold ra
        cases hc: (decide (a.aT[k].bN≤a.aT[t].To)&&decide (a.aT[t].bN≤a.aT[k].To)) with
        | false=>rfl
        | true=>
          obtain⟨n,n1,n2⟩:=Cv (N:=N) hgk.2 hgt.2
          rw [cond_true,iX hgk.1,aB,iX hgt.1,aB,n1,aB,Bool.true_and]
          congr 1
          rw [Bool.eq_iff_iff,beq_iff_eq];exact n2
      · refine Ok.bif (fun h=>Ok.rt ⟨rfl,k,t,_,_,htk,hkx,List.getElem?_eq_getElem (by omega),h⟩) (fun h=>Ok.nx fun j y hj hy=>?_)
        by_cases e:j<t
        · exact hI2 j y e hy
        · have:j=t:=by omega
          subst this
          rw [List.getElem?_eq_getElem (by omega)] at hy;injection hy with hy
          rw [←hy,h];simp
    · intro o ho
      refine Ok.cs ho (fun s hI2=>Ok.nx fun i j x y hi hj hx hy=>?_) (fun x hx=>Ok.rt hx)
      by_cases e:i<k
      · exact hI i j x y e hj hx hy
      · have:i=k:=by omega
        subst this
        rw [hkx] at hx;injection hx with hx
        rw [←hx];exact hI2 j y hj hy
  · rintro⟨i,j,x,y,hj,hx,hy,hc⟩
    exact hI i j x y (List.getElem?_eq_some_iff.1 hx).1 hj hx hy hc
  intro o ho
  refine Ok.cs ho ?_ ?_
  rotate_left
  · rintro x ⟨rfl,hc⟩
    exact pe 12 (by omega) (by rw [pe4,if_pos hc])
  intro _ hncl
  have pe5:gF a=0:=by rw [pe4,if_neg hncl]
  refine Ok.bind (xC (N:=N) (by omega) hg.cs hg.gb hN) ?_
  rintro⟨okk,jF,pcs⟩ ⟨dP,D,e1,e2⟩
  dsimp only at D e1 e2 ⊢
  subst e1
  refine Ok.bif (fun h=>Ok.ret (.inr ⟨pe5,hg,hncl,jF,dP,D, .inl ⟨fun hf=>?_,rfl⟩⟩)) (fun h=>?_)
  · have:=e2.2 hf
    rw [this] at h;cases h
  · have hf:DW jF dP:=e2.1 (by cases okk <;> simp_all)
    have hpr: ∀p∈pcsOf 0 dP,p.dQ.length≤1073741824:=fun p hp=>by
      obtain⟨i,r,s,ps,u,j,k,hP⟩:=wC hg D hp
      have:=(hP.wx hg).2.2;omega
    have hf2:=hf.2
    refine Ok.eq (Ay hg.gb (by omega) hpr) ?_
    refine Ok.bind (vg (N:=N) hg.gb (by omega) hpr (by omega) hN) ?_
    rintro⟨gs,ofP,ofB,tr,tt⟩ ⟨r,hC⟩
    exact Ok.ret (.inr ⟨pe5,hg,hncl,jF,dP,D, .inr ⟨hf,r,gs,ofP,ofB,tr,tt,hC,rfl⟩⟩)
end
end Go.Gk
namespace Go.Gk
open Go Classical
section
variable {N:Nat}
theorem yf {w:Nat} {g:Nat→Nat} {a:Nat}: ∀{ks:List Nat},ks.Nodup→a∈ks→(ks.map (fun k=>(if a=k then w else 0)+g k)).sum=w+ (ks.map g).sum
  | [],_,h=>by cases h
  | k::ks,hn,h=>by
    have hn':=List.nodup_cons.1 hn
    simp only [List.map_cons,List.sum_cons]
    by_cases e:a=k
    · subst e
      rw [if_pos rfl]
      have:ks.map (fun k=>(if a=k then w else 0)+g k)=ks.map g:=List.map_congr_left fun x hx=>by
        rw [if_neg (fun e=>hn'.1 (by rw [e];exact hx)),Nat.zero_add]
      rw [this];omega
    · rw [if_neg e,yf hn'.2 (by rcases List.mem_cons.1 h with h | h;exact absurd h e;exact h)];omega
theorem wE {α:Type} {ks:List Nat} (hn:ks.Nodup) (f:α→Nat) (w:α→Nat): ∀{l:List α},(∀x∈l,f x∈ks)→(ks.map (fun k=>((l.filter (fun x=>decide (f x=k))).map w).sum)).sum= (l.map w).sum
  | [],_=>by
    have: ∀ks:List Nat,(ks.map (fun _=>0)).sum=0:=fun ks=>by
      induction ks with
      | nil=>rfl
      | cons k ks ih=>simp only [List.map_cons,List.sum_cons,ih]
    simpa using this ks
  | x::l,h=>by
    have ih:=wE hn f w (l:=l) fun y hy=>h y (List.mem_cons_of_mem _ hy)
    have: (ks.map (fun k=>(((x::l).filter (fun x=>decide (f x=k))).map w).sum))=ks.map (fun k=>(if f x=k then w x else 0)+ ((l.filter (fun x=>decide (f x=k))).map w).sum):=List.map_congr_left fun k _=>by
      rw [List.filter_cons]
      by_cases e:f x=k
      · rw [if_pos (by simpa using e),if_pos e,List.map_cons,List.sum_cons]
      · rw [if_neg (by simpa using e),if_neg e,Nat.zero_add]
    rw [this,yf hn (h x (by simp)),ih,List.map_cons,List.sum_cons]
def qf (l:List aC):Int:=l.foldl (fun s x=>IntKind.wrap .i64 (s+ (IntKind.wrap .i64 ((IntKind.wrap .i64 (x.X1 - x.X0))* (IntKind.wrap .i64 (x.Y1 - x.Y0)))))) 0
theorem ue {l:List aC} (hl:l.length≤4611686018427387904):iq N l=some (qf l):=by
  refine Ok.get ?_
  unfold iq
  refine Ok.bind (Ok.iz (fun k s=>s=qf (l.take k)) (by omega) rfl (fun k s hk e=>?_)) (fun s e=>Ok.ret (by rw [e,List.take_length]))
  subst e
  refine Ok.idx hk (Ok.ret ?_)
  unfold qf
  rw [List.take_succ_eq_append_getElem hk,List.foldl_append];rfl
def rS (s:List aA):bU:=match s with | b::_=>⟨b.Xs.headD 0,b.Y0⟩ | []=>⟨0,0⟩
theorem AH {s:List aA} (hc:cE (s.map aW)) (hne:s≠[]):gC N s=some (rS s):=by
  cases s with
  | nil=>exact absurd rfl hne
  | cons b t=>
    have hb:=(hc.each (aW b) (by simp)).2.1
    unfold gC rS
    rw [u5,aB]
    have hx:b.Xs≠[]:=hb
    cases hbx:b.Xs with
    | nil=>exact absurd hbx hx
    | cons x xs=>
      rw [u5,aB,aB]
      show some _=some (⟨b.Xs.headD 0,b.Y0⟩:bU)
      rw [hbx];rfl
theorem qd.ne {a:jQ} {jF:List (List aA)} {dP:List (List (List aA))} {p:aD} {i:Nat} {r:List aC} {s:List aA} {ps:List (List aA)} {u:Nat→Nat} {j k:Nat} (h:qd a jF dP p i r s ps u j k):p.Set≠[]:=by
  intro e
  have hh:=fA.1 (List.mem_of_getElem? h.head)
  have hx: (aI s)[k]? =some (aI s)[k]:=List.getElem?_eq_getElem hh.1
  have hm: (aI s)[k]∈iQ (aI s) (aI s).length u k:=ji.2 ⟨k,hh.1,hh.2,hx⟩
  obtain⟨b,hb,q,hq,hr⟩:=km (List.mem_of_getElem? hx)
  have hbm:aW b∈s.map aW:=List.mem_map.2 ⟨b,hb,rfl⟩
  have hq1:=xu (h.dr.can.each _ hbm).2.2.1 q hq
  have hb1:=(h.dr.can.each _ hbm).1
  have hc:=h.set.cover q.1 b.Y0
  rw [e] at hc
  have:oN (iQ (aI s) (aI s).length u k) q.1 b.Y0=true:=fS.2 ⟨_,hm,by rw [hr];exact⟨⟨Int.le_refl _,hq1⟩,Int.le_refl _,hb1⟩⟩
  rw [this] at hc
  cases hc
def toldOf (pcs:List aD):List Piece:=pcs.map fun p=>⟨p.aU,rS p.Set,qf p.dQ⟩
structure vh (a:jQ) (jF:List (List aA)) (dP:List (List (List aA))) (r:Nat→Nat) (gs:List bT) (ofP ofB tr:List Int) (tt:List gk):Prop where
  wF:kh a
  FO: ¬th a
  dr:q8 a.aJ a.aT a.aJ.length jF dP
  wP:DW jF dP
  FP:xE a.aT a.bH (pcsOf 0 dP) r gs ofP ofB tr tt
inductive Cw (N:Nat) (a:jQ):Prop
  | err (e:Int) (he:e≠0) (h:dX N a=some (none,e))
  | ok {jF:List (List aA)} {dP:List (List (List aA))} {r:Nat→Nat} {gs:List bT} {ofP ofB tr:List Int} {tt:List gk} (b:vh a jF dP r gs ofP ofB tr tt)
    (h:dX N a=some (some (a.aJ,a.bY,a.aT,a.bH,jF,pcsOf 0 dP,k8 a.aT (pcsOf 0 dP),gs,ofP,ofB,tr,tt),0))
theorem opened {a:jQ} (hs:tj a) (hN:4398046511104≤N):Cw N a:=by
  obtain⟨x,hx,hI⟩:=zb (N:=N) hs hN
  rcases hI with ⟨he,rfl⟩ | ⟨_,hg,hcl,jF,dP,D,⟨_,rfl⟩ | ⟨hf,r,gs,ofP,ofB,tr,tt,hC,rfl⟩⟩
  · exact .err _ he hx
  · exact .err 2 (by omega) hx
  · exact .ok ⟨hg,hcl,D,hf,hC⟩ hx
theorem zc {a:jQ} {jF:List (List aA)} {dP:List (List (List aA))} {r:Nat→Nat} {gs:List bT} {ofP ofB tr:List Int} {tt:List gk} (b:vh a jF dP r gs ofP ofB tr tt)
    (h:dX N a=some (some (a.aJ,a.bY,a.aT,a.bH,jF,pcsOf 0 dP,k8 a.aT (pcsOf 0 dP),gs,ofP,ofB,tr,tt),0)):iD N a=some (toldOf (pcsOf 0 dP),0):=by
  refine Ok.get ?_
  unfold iD
  refine Ok.eq h ?_
  have hf:=b.wP.2
  show Ok ((iz (pcsOf 0 dP).length _ []).bind _) _
  refine Ok.bind (Ok.iz (fun k s=>s=toldOf ((pcsOf 0 dP).take k)) (by omega) rfl (fun k s hk e=>?_)) (fun s e=>Ok.ret (by rw [e,List.take_length]))
  subst e
  have hkx: (pcsOf 0 dP)[k]? =some (pcsOf 0 dP)[k]:=List.getElem?_eq_getElem hk
  obtain⟨i,r',s,ps,u,j,k',hP⟩:=wC b.wF b.dr (List.getElem_mem hk)
  have hsz:=hP.wx b.wF
  refine Ok.ix hkx (Ok.eq (AH hP.set.can hP.ne) (Ok.eq (ue (by omega)) (Ok.app (by unfold toldOf;simp;omega) (Ok.ret ?_))))
  unfold toldOf
  rw [List.take_succ_eq_append_getElem hk,List.map_append];rfl
end
end Go.Gk
namespace Go.Gk
open Go Classical
def oT (M L:Nat) (f:Int→Bool):Nat:=((List.range L).map (fun i=>if f (((i:Nat):Int) - ((M:Nat):Int))=true then 1 else 0)).sum
def wG (M L:Nat) (f:Int→Int→Bool):Nat:=((List.range L).map (fun j=>oT M L (fun x=>f x (((j:Nat):Int) - ((M:Nat):Int))))).sum
theorem dW (n:Nat) (g:Nat→Nat): ((List.range (n+1)).map g).sum= ((List.range n).map g).sum+g n:=by
  rw [List.range_succ,List.map_append,List.sum_append];simp
theorem sum_add (g h:Nat→Nat): ∀n,((List.range n).map (fun i=>g i+h i)).sum= ((List.range n).map g).sum+ ((List.range n).map h).sum
  | 0=>rfl
  | n+1=>by rw [dW,dW,dW,sum_add g h n];omega
theorem rf (M:Nat) {a b:Int} (hab:a≤b): ∀L:Nat,oT M L (fun x=>decide (a≤x)&&decide (x<b))= (min b (((L:Nat):Int) - ((M:Nat):Int)) - max a (-((M:Nat):Int))).toNat
  | 0=>by unfold oT;simp;omega
  | L+1=>by
    have ih:=rf M hab L
    unfold oT at ih ⊢
    rw [dW,ih]
    by_cases h:a≤((L:Nat):Int) - ((M:Nat):Int)∧((L:Nat):Int) - ((M:Nat):Int)<b
    · rw [if_pos (by dsimp only;rw [decide_eq_true h.1,decide_eq_true h.2];rfl)];omega
    · rw [if_neg (by dsimp only;rw [Bool.and_eq_true,decide_eq_true_eq,decide_eq_true_eq];exact h)];omega
theorem tk (M L:Nat) {f:Int→Bool} (h: ∀x,f x=false):oT M L f=0:=by
  unfold oT
  have: ∀n,((List.range n).map (fun i=>if f (((i:Nat):Int) - ((M:Nat):Int))=true then 1 else 0)).sum=0:=by
    intro n
    induction n with
    | zero=>rfl
    | succ n ih=>rw [dW,ih,h];rfl
  exact this L
theorem BB (M L:Nat) {f g:Int→Bool} (h: ∀x,¬(f x=true∧g x=true)):oT M L (fun x=>f x||g x)=oT M L f+oT M L g:=by
  unfold oT
  rw [←sum_add]
  congr 1
  refine List.map_congr_left fun i _=>?_
  have:=h (((i:Nat):Int) - ((M:Nat):Int))
  cases hf:f (((i:Nat):Int) - ((M:Nat):Int)) <;> cases hg:g (((i:Nat):Int) - ((M:Nat):Int)) <;> simp_all
theorem BC (M L:Nat) {f g:Int→Int→Bool} (h: ∀x y,¬(f x y=true∧g x y=true)):wG M L (fun x y=>f x y||g x y)=wG M L f+wG M L g:=by
  unfold wG
  rw [←sum_add]
  congr 1
  exact List.map_congr_left fun i _=>BB M L fun x=>h x _
def AJ (r:aC) (x y:Int):Bool:=(decide (r.X0≤x)&&decide (x<r.X1))&&(decide (r.Y0≤y)&&decide (y<r.Y1))
def aN (r:aC):Nat:=(r.X1 - r.X0).toNat* (r.Y1 - r.Y0).toNat
theorem zd {M:Nat} {r:aC} (hx:r.X0≤r.X1) (hy:r.Y0≤r.Y1) (h1: -((M:Nat):Int)≤r.X0) (h2:r.X1≤((M:Nat):Int)) (h3: -((M:Nat):Int)≤r.Y0) (h4:r.Y1≤((M:Nat):Int)):wG M (2*M) (AJ r)=aN r:=by
  have row: ∀y,oT M (2*M) (fun x=>AJ r x y)=if (decide (r.Y0≤y)&&decide (y<r.Y1))=true then (r.X1 - r.X0).toNat else 0:=by
    intro y
    by_cases h: (decide (r.Y0≤y)&&decide (y<r.Y1))=true
    · rw [if_pos h]
      have e: (fun x=>AJ r x y)=fun x=>decide (r.X0≤x)&&decide (x<r.X1):=by funext x;unfold AJ;rw [h,Bool.and_true]
      rw [e,rf M hx]
      have: (((2*M:Nat):Nat):Int)=2* ((M:Nat):Int):=by omega
      rw [this];congr 1;omega
    · rw [if_neg h]
      refine tk M _ fun x=>?_
      unfold AJ
      rw [Bool.not_eq_true] at h
      rw [h,Bool.and_false]
  unfold wG
  simp only [row]
  have key: ∀n,((List.range n).map (fun j=>if (decide (r.Y0≤((j:Nat):Int) - ((M:Nat):Int))&&decide (((j:Nat):Int) - ((M:Nat):Int)<r.Y1))=true then (r.X1 - r.X0).toNat else 0)).sum= (r.X1 - r.X0).toNat*oT M n (fun y=>decide (r.Y0≤y)&&decide (y<r.Y1)):=by
    intro n
    induction n with
    | zero=>simp [oT]
    | succ n ih=>
      unfold oT at ih ⊢
      rw [dW,dW,ih,Nat.mul_add]
      congr 1
      split <;> simp
  rw [key,rf M hy]
  unfold aN
  congr 1
  have: (((2*M:Nat):Nat):Int)=2* ((M:Nat):Int):=by omega
  rw [this];congr 1;omega
def wH (a b:aC):Prop:=∀x y,¬(AJ a x y=true∧AJ b x y=true)
theorem AK (r:aC) (l:List aC) (x y:Int):oN (r::l) x y= (AJ r x y||oN l x y):=rfl
theorem yg {r:aC} {x y:Int}:AJ r x y=true↔(r.X0≤x∧x<r.X1)∧r.Y0≤y∧y<r.Y1:=by unfold AJ;simp
theorem tl {M:Nat}: ∀{l:List aC},l.Pairwise wH→(∀r∈l,r.X0<r.X1∧r.Y0<r.Y1∧ -((M:Nat):Int)≤r.X0∧r.X1≤((M:Nat):Int)∧ -((M:Nat):Int)≤r.Y0∧r.Y1≤((M:Nat):Int))→wG M (2*M) (oN l)= (l.map aN).sum
  | [],_,_=>by
    unfold wG
    have: ∀n,((List.range n).map (fun j=>oT M (2*M) (fun x=>oN [] x (((j:Nat):Int) - ((M:Nat):Int))))).sum=0:=by
      intro n
      induction n with
      | zero=>rfl
      | succ n ih=>rw [dW,ih,tk M (2*M) (f:=fun x=>oN [] x (((n:Nat):Int) - ((M:Nat):Int))) (fun x=>rfl)]
    rw [this];rfl
  | r::l,hp,h=>by
    have hp':=List.pairwise_cons.1 hp
    have e:oN (r::l)=fun x y=>AJ r x y||oN l x y:=by funext x y;exact AK r l x y
    have hr:=h r (by simp)
    rw [e,BC _ _ (fun x y ⟨h1,h2⟩=>by
      obtain⟨q,hq,h3⟩:=fS.1 h2
      exact hp'.1 q hq x y ⟨h1,yg.2 h3⟩),zd (by omega) (by omega) hr.2.2.1 hr.2.2.2.1 hr.2.2.2.2.1 hr.2.2.2.2.2,tl hp'.2 (fun q hq=>h q (List.mem_cons_of_mem _ hq)),List.map_cons,List.sum_cons]
theorem AL {M:Nat} {l m:List aC} (hl:l.Pairwise wH) (hm:m.Pairwise wH) (h1: ∀r∈l,r.X0<r.X1∧r.Y0<r.Y1∧ -((M:Nat):Int)≤r.X0∧r.X1≤((M:Nat):Int)∧ -((M:Nat):Int)≤r.Y0∧r.Y1≤((M:Nat):Int))
    (h2: ∀r∈m,r.X0<r.X1∧r.Y0<r.Y1∧ -((M:Nat):Int)≤r.X0∧r.X1≤((M:Nat):Int)∧ -((M:Nat):Int)≤r.Y0∧r.Y1≤((M:Nat):Int)) (h: ∀x y,oN l x y=oN m x y): (l.map aN).sum= (m.map aN).sum:=by
  rw [←tl (M:=M) hl h1,←tl (M:=M) hm h2]
  congr 1
  funext x y;exact h x y
theorem qg: ∀{xs:List Int},iY xs→(prs xs).Pairwise (fun p q=>p.2<q.1)
  | [],_=>List.Pairwise.nil
  | [a],_=>List.Pairwise.nil
  | a::b::l,h=>by
    unfold prs
    rw [List.pairwise_cons]
    exact⟨fun q hq=>h.tail.head q.1 (u4 q hq).1,qg h.tail.tail⟩
def vj (a b:aC):Prop:=a.Y1≤b.Y0∨(a.Y0=b.Y0∧a.Y1=b.Y1∧a.X1<b.X0)
theorem vj.apart {a b:aC} (h:vj a b):wH a b:=fun x y ⟨h1,h2⟩=>by
  rw [yg] at h1 h2
  rcases h with h | h <;> omega
theorem jm: ∀{s:List aA},cE (s.map aW)→(aI s).Pairwise vj
  | [],_=>List.Pairwise.nil
  | b::s,h=>by
    rw [iV,List.pairwise_append]
    refine⟨?_,jm h.tail,fun x hx y hy=>?_⟩
    · unfold iH
      rw [List.pairwise_map]
      exact List.Pairwise.imp (fun hpq=> .inr ⟨rfl,rfl,hpq⟩) (qg (h.each (aW b) (by simp)).2.2.1)
    · unfold iH at hx
      obtain⟨p,_,rfl⟩:=List.mem_map.1 hx
      obtain⟨c,hc,q,_,rfl⟩:=km hy
      exact .inl (h.sJ (aW c) (List.mem_map.2 ⟨c,hc,rfl⟩))
theorem nL {s:List aA} (h:cE (s.map aW)): ∀r∈aI s,r.X0<r.X1∧r.Y0<r.Y1:=fun r hr=>by
  obtain⟨b,hb,p,hp,rfl⟩:=km hr
  have hc:=h.each (aW b) (List.mem_map.2 ⟨b,hb,rfl⟩)
  exact⟨xu hc.2.2.1 p hp,hc.1⟩
theorem wI {s:List aA} (h:cE (s.map aW)): (aI s).Nodup:=by
  have h1:=jm h
  have h2:=nL h
  refine List.Pairwise.imp_of_mem (fun{a b} ha hb hab e=>?_) h1
  subst e
  have:=h2 a ha
  rcases hab with h | h <;> omega
theorem AM {s:List aA} (h:cE (s.map aW)):CB (aI s):=fun k a b ha hb hbad=>by
  have:=List.pairwise_iff_getElem.1 (jm h) k (k+1) (List.getElem?_eq_some_iff.1 ha).1 (List.getElem?_eq_some_iff.1 hb).1 (by omega)
  rw [(List.getElem?_eq_some_iff.1 ha).2,(List.getElem?_eq_some_iff.1 hb).2] at this
  have h2:=nL h a (List.mem_of_getElem? ha)
  rcases this with h | h <;> rcases hbad with h3 | h3 <;> omega
theorem rh: ∀{xs:List Int},xs.length % 2=0→∀c∈xs,∃p∈prs xs,c=p.1∨c=p.2
  | [],_,c,hc=>by cases hc
  | [a],h,_,_=>by simp at h
  | a::b::l,h,c,hc=>by
    unfold prs
    rcases List.mem_cons.1 hc with rfl | hc
    · exact⟨(c,b),by simp, .inl rfl⟩
    · rcases List.mem_cons.1 hc with rfl | hc
      · exact⟨(a,c),by simp, .inr rfl⟩
      · obtain⟨p,hp,h2⟩:=rh (by simp at h;omega) c hc
        exact⟨p,List.mem_cons_of_mem _ hp,h2⟩
theorem wJ {s:List aA} (h:cE (s.map aW)):lU (aI s) s:=by
  refine⟨h,fun x y=>(kl h x y).symm,fun b hb=>?_⟩
  obtain⟨c,hc,rfl⟩:=List.mem_map.1 hb
  have hcc:=h.each _ hb
  have mem: ∀p∈prs c.Xs,(⟨p.1,c.Y0,p.2,c.Y1⟩:aC)∈aI s:=fun p hp=>by
    unfold aI iH
    exact List.mem_flatMap.2 ⟨c,hc,List.mem_map.2 ⟨p,hp,rfl⟩⟩
  have hne: ∃x,x∈c.Xs:=by
    cases hx:c.Xs with
    | nil=>exact absurd hx hcc.2.1
    | cons x l=>exact⟨x,by simp⟩
  obtain⟨x,hx⟩:=hne
  obtain⟨p,hp,_⟩:=rh hcc.2.2.2 x hx
  refine⟨gj.2 ⟨_,mem p hp, .inl rfl⟩,gj.2 ⟨_,mem p hp, .inr rfl⟩,fun c' hc'=>?_⟩
  obtain⟨q,hq,h2⟩:=rh hcc.2.2.2 c' hc'
  exact kG.2 ⟨_,mem q hq,h2⟩
theorem ry {s:List aA} (h:cE (s.map aW)) (hl: (aI s).length≤2000) (hr: ∀r∈aI s,cA r=true):fP (aI s)=0:=
  k6.2 ⟨iJ.2 ⟨hl,fun r hm=>⟨hr r hm,nL h r hm⟩⟩,AM h,s,wJ h,rfl⟩
def jZ (s:List Bd):Nat:=(s.map (fun b=>b.xs.length / 2)).sum
theorem nr (s t:List Bd):jZ (s++t)=jZ s+jZ t:=by unfold jZ;rw [List.map_append,List.sum_append]
theorem ze (s:List Bd) (b:Bd):jZ (pushB s b)≤jZ s+b.xs.length / 2:=by
  unfold pushB
  split
  · omega
  · split
    · rename_i c hc
      have hsp:=me hc
      have e:jZ s=jZ s.dropLast+c.xs.length / 2:=by
        conv=>lhs;rw [hsp,nr]
        simp [jZ]
      split
      · rw [nr,e];simp [jZ]
      · rw [nr];simp [jZ]
    · simp [jZ]
structure Fx (t:List Bd):Prop where
  each: ∀b∈t,b.y0<b.y1∧iY b.xs∧b.xs.length % 2=0
  ord:t.Pairwise (fun b c=>b.y1≤c.y0)
theorem fold_push: ∀(t out:List Bd),Fx t→cE out→(∀c∈out,∀b∈t,c.y1≤b.y0)→cE (t.foldl pushB out)∧jZ (t.foldl pushB out)≤jZ out+jZ t∧
    ∀y,rowAt (t.foldl pushB out) y=if (∃b∈t,b.y0≤y∧y<b.y1) then rowAt t y else rowAt out y
  | [],out,_,hc,_=>⟨hc,by simp [jZ],fun y=>by simp⟩
  | b::t,out,hl,hc,ho=>by
    have hb:=hl.each b (by simp)
    have hord:=List.pairwise_cons.1 hl.ord
    have ho1: ∀c∈out,c.y1≤b.y0:=fun c h=>ho c h b (by simp)
    have h1:=qS hc ho1 hb.2.1 hb.2.2
    have htop:=qT ho1 (show b.y0≤b.y1 by omega)
    obtain⟨f1,f2,f3⟩:=fold_push t (pushB out b) ⟨fun c hcm=>hl.each c (List.mem_cons_of_mem _ hcm),hord.2⟩ h1 (fun c hcm d hd=>by have:=htop c hcm;have:=hord.1 d hd;omega)
    refine⟨f1,?_,fun y=>?_⟩
    · have:=ze out b
      have e:jZ (b::t)=b.xs.length / 2+jZ t:=by simp [jZ]
      rw [List.foldl_cons,e];omega
    · rw [List.foldl_cons,f3 y,qR ho1 (fun c hcm=>(hc.each c hcm).1) (fun h=>absurd h (by omega)),hL]
      by_cases hy:b.y0≤y∧y<b.y1
      · have hn: ¬∃c∈t,c.y0≤y∧y<c.y1:=fun⟨c,hcm,h⟩=>by have:=hord.1 c hcm;omega
        rw [if_neg hn,if_pos hy,if_pos ⟨b,by simp,hy⟩,if_pos hy]
      · rw [if_neg hy]
        by_cases h: ∃c∈t,c.y0≤y∧y<c.y1
        · obtain⟨c,hcm,h⟩:=h
          rw [if_pos ⟨c,hcm,h⟩,if_pos ⟨c,List.mem_cons_of_mem _ hcm,h⟩,if_neg hy]
        · rw [if_neg h,if_neg hy,if_neg (show ¬∃c∈b::t,c.y0≤y∧y<c.y1 from fun⟨c,hcm,h2⟩=>by
            rcases List.mem_cons.1 hcm with rfl | hcm
            · exact hy h2
            · exact h ⟨c,hcm,h2⟩)]
noncomputable def kb (C:List aC) (b:aA):Bd:=⟨b.Y0,b.Y1,kY ((prs b.Xs).filter (fun p=>decide ((⟨p.1,b.Y0,p.2,b.Y1⟩:aC)∈C)))⟩
theorem zf {l m:List (Int×Int)} (h:l.Sublist m): (kY l).Sublist (kY m):=by
  induction h with
  | slnil=>exact List.Sublist.refl _
  | cons a _ ih=>rw [jB];exact(ih.cons _).cons _
  | cons_cons a _ ih=>rw [jB,jB];exact(ih.cons_cons _).cons_cons _
theorem tm (l:List (Int×Int)): (kY l).length % 2=0∧(kY l).length / 2=l.length:=by rw [yO];omega
theorem ug {s p:List aA} {C:List aC} (hs:cE (s.map aW)) (hp:cE (p.map aW)) (hC: ∀r∈C,r∈aI s) (hcov: ∀x y,oV (p.map aW) x y=oN C x y): (aI p).length≤C.length:=by
  have hinc: ∀b∈s,iY (kb C b).xs:=fun b hb=>by
    have h1:=ya hs b hb
    have h2:=zf (List.filter_sublist (l:=prs b.Xs) (p:=fun p=>decide ((⟨p.1,b.Y0,p.2,b.Y1⟩:aC)∈C)))
    rw [pS (jO hs b hb)] at h2
    exact List.Pairwise.sublist h2 h1
  have hlow:Fx (s.map (kb C)):=by
    refine⟨fun b hb=>?_,?_⟩
    · obtain⟨c,hc,rfl⟩:=List.mem_map.1 hb
      exact⟨(hs.each (aW c) (List.mem_map.2 ⟨c,hc,rfl⟩)).1,hinc c hc,(tm _).1⟩
    · have:=hs.ord
      rw [List.pairwise_map] at this ⊢
      exact List.Pairwise.imp (fun h=>h.1) this
  obtain⟨f1,f2,f3⟩:=fold_push (s.map (kb C)) [] hlow cE.nil (fun c hc=>by cases hc)
  have hrow: ∀{t:List aA},(∀b∈t,b∈s)→∀x y,jv (rowAt (t.map (kb C)) y) x=true→oN C x y=true:=by
    intro t ht x y h
    induction t with
    | nil=>cases h
    | cons b t ih=>
      rw [List.map_cons,hL] at h
      split at h
      · rename_i hy
        have hbm:=ht b (by simp)
        have h1:=hinc b hbm
        have h:jv (kY ((prs b.Xs).filter (fun p=>decide ((⟨p.1,b.Y0,p.2,b.Y1⟩:aC)∈C)))) x=true:=h
        rw [pQ h1,sN] at h
        obtain⟨q,hq,h2⟩:=h
        have hq:=List.mem_filter.1 hq
        exact fS.2 ⟨_,of_decide_eq_true hq.2,h2,hy⟩
      · exact ih (fun c hc=>ht c (List.mem_cons_of_mem _ hc)) h
  have hrow2: ∀x y,oN C x y=true→jv (rowAt (s.map (kb C)) y) x=true:=by
    intro x y h
    obtain⟨r,hr,h1,h2⟩:=fS.1 h
    obtain⟨b,hb,q,hq,rfl⟩:=km (hC r hr)
    dsimp only at h1 h2
    have key: ∀{t:List aA},(∀c∈t,c∈s)→cE (t.map aW)→b∈t→rowAt (t.map (kb C)) y= (kb C b).xs:=by
      intro t ht hc hbt
      induction t with
      | nil=>cases hbt
      | cons c t ih=>
        rw [List.map_cons,hL]
        by_cases hy:c.Y0≤y∧y<c.Y1
        · rw [if_pos (show (kb C c).y0≤y∧y< (kb C c).y1 from hy)]
          rcases List.mem_cons.1 hbt with rfl | hbt
          · rfl
          · have:=hc.sJ (aW b) (List.mem_map.2 ⟨b,hbt,rfl⟩)
            have e1: (aW c).y1=c.Y1:=rfl
            have e2: (aW b).y0=b.Y0:=rfl
            omega
        · rw [if_neg (show ¬((kb C c).y0≤y∧y< (kb C c).y1) from hy)]
          rcases List.mem_cons.1 hbt with rfl | hbt
          · exact absurd h2 hy
          · exact ih (fun d hd=>ht d (List.mem_cons_of_mem _ hd)) hc.tail hbt
    rw [key (fun c hc=>hc) hs hb]
    have h1':=hinc b hb
    show jv (kY ((prs b.Xs).filter (fun p=>decide ((⟨p.1,b.Y0,p.2,b.Y1⟩:aC)∈C)))) x=true
    rw [pQ h1',sN]
    exact⟨q,List.mem_filter.2 ⟨hq,decide_eq_true hr⟩,h1⟩
  have hsame:p.map aW= (s.map (kb C)).foldl pushB []:=sL hp f1 fun x y=>by
    rw [hcov,Bool.eq_iff_iff]
    have e:rowAt ((s.map (kb C)).foldl pushB []) y=rowAt (s.map (kb C)) y:=by
      rw [f3]
      by_cases h: ∃b∈s.map (kb C),b.y0≤y∧y<b.y1
      · rw [if_pos h]
      · rw [if_neg h]
        exact(gx fun b hb=>by
          have: ¬(b.y0≤y∧y<b.y1):=fun h2=>h ⟨b,hb,h2⟩
          omega).symm
    unfold oV
    rw [e]
    exact⟨hrow2 x y,hrow (fun b hb=>hb) x y⟩
  have hc1: (aI p).length=jZ (p.map aW):=by
    have: ∀p:List aA,(aI p).length=jZ (p.map aW):=fun p=>by
      induction p with
      | nil=>rfl
      | cons b p ih=>rw [iV,List.length_append,ir,ih];unfold jZ;rw [List.map_cons,List.map_cons,List.sum_cons];rfl
    exact this p
  have hc2: ∀s:List aA,jZ (s.map (kb C))= ((aI s).filter (fun r=>decide (r∈C))).length:=fun s=>by
    induction s with
    | nil=>rfl
    | cons b s ih=>
      rw [iV,List.filter_append,List.length_append,←ih]
      unfold jZ
      rw [List.map_cons,List.map_cons,List.sum_cons]
      congr 1
      show (kY _).length / 2=_
      rw [(tm _).2]
      unfold iH
      rw [List.filter_map,List.length_map];rfl
  have hc3: ((aI s).filter (fun r=>decide (r∈C))).length≤C.length:=eN (List.Nodup.sublist List.filter_sublist (wI hs)) fun r hr=>of_decide_eq_true (List.mem_filter.1 hr).2
  rw [hc1,hsame]
  have e0:jZ ([]:List Bd)=0:=rfl
  have:=hc2 s
  omega
end Go.Gk
namespace Go.Gk
open Go Classical
section
variable {N:Nat}
theorem qh (l:List Nat) (k:Nat): (l.take k).sum≤l.sum:=by
  conv=>rhs;rw [←List.take_append_drop k l,List.sum_append]
  omega
theorem vk (hN:16≤N):cM N=some true:=by
  have:=yX (N:=N - 16)
  rwa [show N - 16+16=N by omega] at this
theorem ow {all:List aC} (w:aC→Nat): ∀(c:List Nat),((c.filterMap (fun i=>all[i]?)).map w).sum= (c.map (fun i=>(all[i]?).elim 0 w)).sum
  | []=>rfl
  | i::c=>by
    rw [List.map_cons,List.sum_cons,←ow w c]
    cases h:all[i]? with
    | none=>rw [List.filterMap_cons_none (f:=fun i=>all[i]?) h];simp
    | some x=>rw [List.filterMap_cons_some (f:=fun i=>all[i]?) h,List.map_cons,List.sum_cons];rfl
theorem yh {all:List aC} {u:Nat→Nat} (h: ∀i,i<all.length→u i∈aZ all.length u) (w:aC→Nat): ((aZ all.length u).map (fun k=>((iQ all all.length u k).map w).sum)).sum= (all.map w).sum:=by
  have e: (fun k=>((iQ all all.length u k).map w).sum)=fun k=>(((List.range all.length).filter (fun x=>decide (u x=k))).map (fun i=>(all[i]?).elim 0 w)).sum:=by
    funext k;unfold iQ;rw [ow];rfl
  rw [e,wE (iW _ _) u _ (fun x hx=>h x (List.mem_range.1 hx))]
  have: ∀m,m≤all.length→((List.range m).map (fun i=>(all[i]?).elim 0 w)).sum= ((all.take m).map w).sum:=by
    intro m
    induction m with
    | zero=>intro _;rfl
    | succ m ih=>
      intro hm
      rw [dW,ih (by omega),List.take_succ_eq_append_getElem (by omega),List.map_append,List.sum_append,List.getElem?_eq_getElem (by omega)]
      simp
  rw [this _ (Nat.le_refl _),List.take_length]
theorem tn: ∀{l m:List Nat},l.length=m.length→(∀(j x y:Nat),l[j]? =some x→m[j]? =some y→x≤y)→l.sum≤m.sum
  | [],[],_,_=>Nat.le_refl _
  | [],_::_,h,_=>by simp at h
  | _::_,[],h,_=>by simp at h
  | a::l,b::m,h,hle=>by
    have h1:=hle 0 a b rfl rfl
    have h2:=tn (l:=l) (m:=m) (by simpa using h) fun j x y hx hy=>hle (j+1) x y (by simpa using hx) (by simpa using hy)
    rw [List.sum_cons,List.sum_cons];omega
def n9 (l:List aC):Nat:=(l.map aN).sum
theorem AO {r:aC} (h:cA r=true):aN r≤4000000000000:=by
  have:=eV h
  have h1: (r.X1 - r.X0).toNat≤2000000:=by omega
  have h2: (r.Y1 - r.Y0).toNat≤2000000:=by omega
  have:=Nat.mul_le_mul h1 h2
  unfold aN;omega
theorem yi: ∀{l:List aC},(∀r∈l,cA r=true)→n9 l≤l.length*4000000000000
  | [],_=>Nat.le_refl _
  | r::l,h=>by
    have h1:=AO (h r (by simp))
    have h2:=yi (l:=l) fun x hx=>h x (List.mem_cons_of_mem _ hx)
    unfold n9 at *
    rw [List.map_cons,List.sum_cons,List.length_cons,Nat.add_mul];omega
theorem DQ {r:aC} (h:cA r=true) (hx:r.X0<r.X1) (hy:r.Y0<r.Y1):IntKind.wrap .i64 ((IntKind.wrap .i64 (r.X1 - r.X0))* (IntKind.wrap .i64 (r.Y1 - r.Y0)))= ((aN r:Nat):Int):=by
  have hb:=eV h
  have hn:=AO h
  rw [cS (x:=r.X1 - r.X0) (by omega) (by omega),cS (x:=r.Y1 - r.Y0) (by omega) (by omega)]
  have e: (r.X1 - r.X0)* (r.Y1 - r.Y0)= ((aN r:Nat):Int):=by
    unfold aN
    rw [Int.natCast_mul,Int.toNat_of_nonneg (by omega),Int.toNat_of_nonneg (by omega)]
  rw [e,sO (by omega)]
theorem wK {l:List aC} (h: ∀r∈l,cA r=true∧r.X0<r.X1∧r.Y0<r.Y1) (hl:l.length≤2000):qf l= ((n9 l:Nat):Int):=by
  have key: ∀(l:List aC) (acc:Nat),(∀r∈l,cA r=true∧r.X0<r.X1∧r.Y0<r.Y1)→acc+l.length*4000000000000≤4000000000000000000→
      l.foldl (fun(s:Int) (x:aC)=>IntKind.wrap .i64 (s+ (IntKind.wrap .i64 ((IntKind.wrap .i64 (x.X1 - x.X0))* (IntKind.wrap .i64 (x.Y1 - x.Y0)))))) ((acc:Nat):Int)= ((acc+n9 l:Nat):Int):=by
    intro l
    induction l with
    | nil=>intro acc _ _;rfl
    | cons r l ih=>
      intro acc h hb
      have hr:=h r (by simp)
      have hn:=AO hr.1
      rw [List.length_cons,Nat.add_mul] at hb
      rw [List.foldl_cons,DQ hr.1 hr.2.1 hr.2.2,wrap_add (by omega),ih (acc+aN r) (fun x hx=>h x (List.mem_cons_of_mem _ hx)) (by omega)]
      unfold n9
      rw [List.map_cons,List.sum_cons];congr 1;omega
  have:=key l 0 h (by have:l.length*4000000000000≤2000*4000000000000:=Nat.mul_le_mul_right _ hl;omega)
  unfold qf
  rw [Nat.zero_add] at this
  exact this
theorem rT {r hs:List aC} {s:List aA} (h1: ∀x∈r,cA x=true) (h2: ∀x∈hs,cA x=true) (hc:cE (s.map aW)) (hl:oW (lT r++lT hs) (iG r++iG hs) (s.map aW)): ∀q∈aI s,cA q=true∧q.X0<q.X1∧q.Y0<q.Y1:=by
  intro q hq
  have hp:=nL hc q hq
  obtain⟨b,hb,p,hpm,rfl⟩:=km hq
  have hll:=hl (aW b) (List.mem_map.2 ⟨b,hb,rfl⟩)
  have hm:=u4 p hpm
  have bx: ∀c∈lT r++lT hs,-1000000≤c∧c≤1000000:=fun c hcm=>by
    rcases List.mem_append.1 hcm with h | h
    · obtain⟨x,hx,h⟩:=kG.1 h
      have:=eV (h1 x hx)
      rcases h with rfl | rfl <;> omega
    · obtain⟨x,hx,h⟩:=kG.1 h
      have:=eV (h2 x hx)
      rcases h with rfl | rfl <;> omega
  have by': ∀c∈iG r++iG hs,-1000000≤c∧c≤1000000:=fun c hcm=>by
    rcases List.mem_append.1 hcm with h | h
    · obtain⟨x,hx,h⟩:=gj.1 h
      have:=eV (h1 x hx)
      rcases h with rfl | rfl <;> omega
    · obtain⟨x,hx,h⟩:=gj.1 h
      have:=eV (h2 x hx)
      rcases h with rfl | rfl <;> omega
  have g1:=bx _ (hll.2.2 p.1 hm.1)
  have g2:=bx _ (hll.2.2 p.2 hm.2)
  have g3:=by' _ hll.1
  have g4:=by' _ hll.2.1
  exact⟨s9 ⟨g1,g3,g2,g4⟩,hp⟩
structure kO (r hs:List aC) (s:List aA) (u:Nat→Nat) (ps:List (List aA)):Prop where
  r1: ∀x∈r,cA x=true
  r2: ∀x∈hs,cA x=true
  k1: ∀x∈r,wN x
  k2: ∀x∈hs,wN x
  dr:nI r hs s
  pt:mf s u ps
  wP: (aI s).length≤2000
theorem kO.part {r hs:List aC} {s:List aA} {u:Nat→Nat} {ps:List (List aA)} (h:kO r hs s u ps) {p:List aA} (hp:p∈ps):cE (p.map aW)∧(aI p).length≤2000∧∀q∈aI p,cA q=true∧q.X0<q.X1∧q.Y0<q.Y1:=by
  obtain⟨sx,sy⟩:=h.dr.small h.k1 h.k2
  obtain⟨j,k,g1,g2,g3,g4⟩:=tf h.pt h.dr.can h.dr.lim sx sy hp
  have:=ug h.dr.can g3.can (fun x hx=>by
    obtain⟨i,_,_,hi⟩:=ji.1 hx
    exact List.mem_of_getElem? hi) g3.cover
  have h2:=sX (aI s) (aI s).length u k
  have:=h.wP
  exact⟨g3.can,by omega,rT h.r1 h.r2 g3.can g4⟩
theorem kO.aZ {r hs:List aC} {s:List aA} {u:Nat→Nat} {ps:List (List aA)} (h:kO r hs s u ps): ∀i,i< (aI s).length→u i∈Gk.aZ (aI s).length u:=fun i hi=>fA.2 ⟨by have:=h.pt.join.le i hi;omega,h.pt.join.rr i hi⟩
theorem kO.total {r hs:List aC} {s:List aA} {u:Nat→Nat} {ps:List (List aA)} (h:kO r hs s u ps): (ps.map (fun p=>(aI p).length)).sum≤(aI s).length:=by
  have h1:=yh h.aZ (fun _=>1)
  have one: ∀l:List aC,(l.map (fun _=>1)).sum=l.length:=fun l=>by
    induction l with
    | nil=>rfl
    | cons x l ih=>simp only [List.map_cons,List.sum_cons,ih,List.length_cons];omega
  simp only [one] at h1
  rw [←h1]
  refine tn (by simp [h.pt.len]) fun j x y hx hy=>?_
  rw [List.getElem?_map,Option.map_eq_some_iff] at hx hy
  obtain⟨p,hp,rfl⟩:=hx
  obtain⟨k,hk,rfl⟩:=hy
  have hs:=h.pt.each j k p hk hp
  exact ug h.dr.can hs.can (fun x hx=>by
    obtain⟨i,_,_,hi⟩:=ji.1 hx
    exact List.mem_of_getElem? hi) hs.cover
theorem zg {all:List aC} {n:Nat} {u:Nat→Nat} {k:Nat} (h:all.Pairwise vj): (iQ all n u k).Pairwise wH:=by
  unfold iQ
  rw [List.pairwise_filterMap]
  refine List.Pairwise.imp (fun{i j} hij x hx y hy=>?_) (ud n u k)
  have h1:=List.pairwise_iff_getElem.1 h
  rcases Nat.lt_trichotomy i j with e | e | e
  · have:=h1 i j (List.getElem?_eq_some_iff.1 hx).1 (List.getElem?_eq_some_iff.1 hy).1 e
    rw [(List.getElem?_eq_some_iff.1 hx).2,(List.getElem?_eq_some_iff.1 hy).2] at this
    exact this.apart
  · exact absurd e hij
  · have:=h1 j i (List.getElem?_eq_some_iff.1 hy).1 (List.getElem?_eq_some_iff.1 hx).1 e
    rw [(List.getElem?_eq_some_iff.1 hx).2,(List.getElem?_eq_some_iff.1 hy).2] at this
    exact fun a b ⟨h2,h3⟩=>this.apart a b ⟨h3,h2⟩
theorem kO.DR {r hs:List aC} {s:List aA} {u:Nat→Nat} {ps:List (List aA)} (h:kO r hs s u ps): (ps.map (fun p=>n9 (aI p))).sum=n9 (aI s):=by
  have h1:=yh h.aZ aN
  unfold n9
  rw [←h1]
  congr 1
  apply List.ext_getElem?
  intro j
  rw [List.getElem?_map,List.getElem?_map]
  by_cases hj:j<ps.length
  · have hp:ps[j]? =some ps[j]:=List.getElem?_eq_getElem hj
    have hk: (Gk.aZ (aI s).length u)[j]? =some ((Gk.aZ (aI s).length u)[j]'(by rw [←h.pt.len];exact hj)):=List.getElem?_eq_getElem _
    have hs:=h.pt.each j _ _ hk hp
    rw [hp,hk]
    simp only [Option.map_some,Option.some.injEq]
    have hb: ∀q:aC,cA q=true→q.X0<q.X1∧q.Y0<q.Y1→q.X0<q.X1∧q.Y0<q.Y1∧ -((1000000:Nat):Int)≤q.X0∧q.X1≤((1000000:Nat):Int)∧ -((1000000:Nat):Int)≤q.Y0∧q.Y1≤((1000000:Nat):Int):=fun q h1 h2=>by
      have:=eV h1
      omega
    refine AL (M:=1000000) (List.Pairwise.imp (fun h=>h.apart) (jm hs.can)) (zg (jm h.dr.can)) (fun q hq=>?_) (fun q hq=>?_) (fun x y=>by rw [kl hs.can,hs.cover])
    · have:=(h.part (List.getElem_mem hj)).2.2 q hq
      exact hb q this.1 this.2
    · obtain⟨i,_,_,hi⟩:=ji.1 hq
      have:=rT h.r1 h.r2 h.dr.can h.dr.lim q (List.mem_of_getElem? hi)
      exact hb q this.1 this.2
  · rw [List.getElem?_eq_none (by omega),List.getElem?_eq_none (by rw [←h.pt.len];omega)];rfl
theorem wL {ps:List (List aA)} {x y:Int}:oN (ps.flatMap aI) x y=true↔∃p∈ps,oN (aI p) x y=true:=by
  rw [fS]
  constructor
  · rintro⟨r,hr,h⟩
    obtain⟨p,hp,hrp⟩:=List.mem_flatMap.1 hr
    exact⟨p,hp,fS.2 ⟨r,hrp,h⟩⟩
  · rintro⟨p,hp,h⟩
    obtain⟨r,hr,h⟩:=fS.1 h
    exact⟨r,List.mem_flatMap.2 ⟨p,hp,hr⟩,h⟩
theorem kO.cover {r hs:List aC} {s:List aA} {u:Nat→Nat} {ps:List (List aA)} (h:kO r hs s u ps) (x y:Int):oN (ps.flatMap aI) x y=oV (s.map aW) x y:=by
  rw [←kl h.dr.can,Bool.eq_iff_iff,wL]
  constructor
  · rintro⟨p,hp,hc⟩
    obtain⟨j,hj⟩:=List.getElem?_of_mem hp
    have hjl:=(List.getElem?_eq_some_iff.1 hj).1
    have hk: (Gk.aZ (aI s).length u)[j]? =some ((Gk.aZ (aI s).length u)[j]'(by rw [←h.pt.len];exact hjl)):=List.getElem?_eq_getElem _
    have hs:=h.pt.each j _ _ hk hj
    rw [kl hs.can,hs.cover] at hc
    obtain⟨q,hq,h2⟩:=fS.1 hc
    obtain⟨i,_,_,hi⟩:=ji.1 hq
    exact fS.2 ⟨q,List.mem_of_getElem? hi,h2⟩
  · intro hc
    obtain⟨q,hq,h2⟩:=fS.1 hc
    obtain⟨i,hi⟩:=List.getElem?_of_mem hq
    have hil:=(List.getElem?_eq_some_iff.1 hi).1
    obtain⟨j,hj⟩:=List.getElem?_of_mem (h.aZ i hil)
    have hjl:j<ps.length:=by rw [h.pt.len];exact(List.getElem?_eq_some_iff.1 hj).1
    have hs:=h.pt.each j _ _ hj (List.getElem?_eq_getElem hjl)
    refine⟨_,List.getElem_mem hjl,?_⟩
    rw [kl hs.can,hs.cover]
    exact fS.2 ⟨q,ji.2 ⟨i,hil,rfl,hi⟩,h2⟩
theorem uh: ∀(dP:List (List (List aA))) (k i:Nat) (ps:List (List aA)),dP[i]? =some ps→(pcsOf k dP).filter (fun p=>p.aU==((k+i:Nat):Int))=ps.map (fun p=>(⟨((k+i:Nat):Int),p,aI p⟩:aD))
  | [],k,i,ps,h=>by simp at h
  | qs::dP,k,i,ps,h=>by
    have none_of: ∀(dP:List (List (List aA))) (m k:Nat),k<m→(pcsOf m dP).filter (fun p=>p.aU==((k:Nat):Int))= []:=fun dP m k hk=>by
      rw [List.filter_eq_nil_iff]
      intro p hp
      obtain⟨i,_,_,_,_,rfl⟩:=q9 hp
      simp;omega
    unfold pcsOf
    rw [List.filter_append]
    cases i with
    | zero=>
      simp at h;subst h
      rw [Nat.add_zero,none_of dP (k+1) k (by omega),List.append_nil,List.filter_eq_self]
      intro p hp
      obtain⟨q,_,rfl⟩:=List.mem_map.1 hp
      simp
    | succ i=>
      have h:dP[i]? =some ps:=by simpa using h
      have:=uh dP (k+1) i ps h
      rw [show k+ (i+1)=k+1+i by omega,this]
      have e: (qs.map (fun p=>(⟨((k:Nat):Int),p,aI p⟩:aD))).filter (fun p=>p.aU==((k+1+i:Nat):Int))= []:=by
        rw [List.filter_eq_nil_iff]
        intro p hp
        obtain⟨q,_,rfl⟩:=List.mem_map.1 hp
        simp;omega
      rw [e];rfl
theorem yj {l:List aC} (h:fP l=0) (hN:4398046511104≤N):jw N l=some (qf l,0):=by
  have hl:=(tc (k6.1 h).1).1
  unfold jw
  rw [kL (by omega) hN,aB,h,show ((0:Int) != 0)=false by rfl,cond_false,ue (by omega),aB]
theorem tp {l:List aC} (hl:l.length≤1073741824) (hN:4398046511104≤N):dJ N l l=some true:=by
  refine Ok.get ?_
  unfold dJ
  rw [show (((l.length:Nat):Int) != ((l.length:Nat):Int))=false by simp,cond_false]
  refine Ok.bind (Ok.itr (Go:=fun _=>True) (Rt:=fun _=>False) (fun s=>∃k:Nat,s= ((k:Nat):Int)) (fun s=>l.length - s.toNat) ?_ ⟨0,rfl⟩ (by simp;omega)) (fun o ho=>Ok.cs ho (fun _ _=>Ok.ret rfl) (fun r hr=>hr.elim))
  rintro s ⟨k,rfl⟩
  refine Ok.bif (fun h=>?_) (fun _=>Ok.br trivial)
  have hk:k<l.length:=by have:=of_decide_eq_true h;omega
  refine Ok.idx hk (Ok.idx hk ?_)
  rw [show (!decide (l[k]=l[k]))=false by simp,cond_false,eQ (by omega)]
  exact Ok.nx ⟨⟨k+1,rfl⟩,by simp only [Int.toNat_natCast];omega⟩
theorem zh {l:List aC} {s:List aA} (h0:gE l=0) (hc:cE (s.map aW)) (hcov: ∀x y,oN l x y=oV (s.map aW) x y) (hf: (aI s).length≤2000) (hN:4398046511104≤N):jd N l=some (aI s,0):=by
  refine Ok.get ?_
  obtain⟨hl,hok⟩:=tc h0
  unfold jd
  refine Ok.eq (ot (by omega)) ?_
  rw [h0,show ((0:Int) != 0)=false by rfl,cond_false]
  refine Ok.bind (kH (N:=N) (by omega) hok (by omega)) (fun t ht=>?_)
  have e:t=s:=wv ht.can hc fun x y=>by rw [ht.cover,hcov]
  subst e
  obtain⟨z1,z2,z3⟩:=ht.wx
  refine Ok.eq (x:=(aI t,0)) ?_ (Ok.ret rfl)
  unfold jc
  rw [x5 (by omega) (fun b hb=>by have:=z2 b hb;omega) (by omega),aB,decide_eq_false (by omega),cond_false,nd (jO hc) (by omega) (fun b hb=>by have:=z2 b hb;omega) (by omega),aB]
section
variable {a:jQ} {jF:List (List aA)} {dP:List (List (List aA))} {r:Nat→Nat} {gs:List bT} {ofP ofB tr:List Int} {tt:List gk}
theorem rz (b:vh a jF dP r gs ofP ofB tr tt) {i:Nat} (hi:i<a.aJ.length): ∃s ps u,jF[i]? =some s∧dP[i]? =some ps∧kO a.aJ[i] (ka a.aT ((i:Nat):Int)) s u ps:=by
  have hd:jF[i]? =some (jF[i]'(by rw [b.dr.len];exact hi)):=List.getElem?_eq_getElem _
  have hp:dP[i]? =some (dP[i]'(by rw [b.dr.xB];exact hi)):=List.getElem?_eq_getElem _
  have hdr:=b.dr.dr i _ _ hi (List.getElem?_eq_getElem hi) hd
  obtain⟨u,hu⟩:=b.dr.pt i _ _ hi hd hp
  have hreg:=k6.1 (b.wF.Fv _ (List.getElem_mem hi))
  exact⟨_,_,u,hd,hp,fun x hx=>((iJ.1 hreg.1).2 x hx).1,fun x hx=>(p5 b.wF.gb _ x hx).2,(tc hreg.1).2,fun x hx=>(p5 b.wF.gb _ x hx).1,hdr,hu,b.wP.1 _ (List.mem_of_getElem? hd)⟩
theorem xG (b:vh a jF dP r gs ofP ofB tr tt) (hN:4398046511104≤N)
    (h:dX N a=some (some (a.aJ,a.bY,a.aT,a.bH,jF,pcsOf 0 dP,k8 a.aT (pcsOf 0 dP),gs,ofP,ofB,tr,tt),0)):fj N a=some (jF.map aI,0):=by
  refine Ok.get ?_
  unfold fj
  refine Ok.eq h ?_
  show Ok ((iz jF.length _ []).bind _) _
  have hlen:=b.dr.len
  have hc16:=b.wF.wP
  refine Ok.bind (Ok.iz (fun k s=>s= (jF.take k).map aI) (by omega) rfl (fun k s hk e=>?_)) (fun s e=>Ok.ret (by rw [e,List.take_length]))
  subst e
  have hkx:jF[k]? =some jF[k]:=List.getElem?_eq_getElem hk
  obtain⟨s,ps,u,h1,_,L⟩:=rz b (i:=k) (by omega)
  rw [hkx] at h1;injection h1 with h1
  refine Ok.ix hkx ?_
  have hr2:=q7 b.wF.gb ((k:Nat):Int)
  have hr1:=(b.wF.cs _ (List.getElem_mem (show k<a.aJ.length by omega))).1
  obtain⟨z1,z2,z3⟩:=nJ (A:=5000) L.dr.can L.dr.lim (by rw [List.length_append,gD,gD];omega) (by rw [List.length_append,fp,fp];omega)
  rw [h1]
  refine Ok.eq (nd (jO L.dr.can) (by omega) (fun b hb=>by have:=z2 b hb;omega) (by omega)) (Ok.app (by simp;omega) (Ok.ret ?_))
  rw [List.take_succ_eq_append_getElem hk,List.map_append,h1];rfl
theorem tq {i:Nat} (hi:i< (pcsOf 0 dP).length) (hf: (pcsOf 0 dP).length≤2000)
    (h:dX N a=some (some (a.aJ,a.bY,a.aT,a.bH,jF,pcsOf 0 dP,k8 a.aT (pcsOf 0 dP),gs,ofP,ofB,tr,tt),0)):fk N a ((i:Nat):Int)=some ((pcsOf 0 dP)[i].dQ,0):=by
  unfold fk
  rw [h,aB]
  simp only [Bb,bne_self_eq_false,cond_false]
  have hw:eF ((i:Nat):Int) 0 (((pcsOf 0 dP).length - 1:Nat):Int)=true:=by
    unfold eF
    rw [decide_eq_true (by omega),decide_eq_true (by omega)];rfl
  rw [iT (by omega) (by omega),mi,aB,hw,Bool.not_true,cond_false,fI _ _ hi,aB]
end
theorem oU {a:jQ} {qe:Int} (ha:bk a≤1048576) (_hl:bk qe≤1048576) (hN:4398046511104≤N):cY N a qe=some true:=by
  have hs:=wD ha
  refine Ok.get ?_
  unfold cY
  rcases opened (N:=N) hs hN with ⟨e,he,h⟩ | ⟨b,h⟩
  · have hd:fj N a=some ([],e):=by
      unfold fj
      rw [h,aB]
      show (bif (e != 0) then _ else _)=_
      rw [show (e != 0)=true by simpa using he];rfl
    refine Ok.eq hd ?_
    refine Ok.eq (x:=true) (by show (bif ((e != 0)||_) then _ else _)=_;rw [show (e != 0)=true by simpa using he];rfl) ?_
    rw [cond_true]
    refine Ok.eq (x:=true) ?_ (Ok.ret rfl)
    show (bif (e==0) then _ else _)=_
    rw [show (e==0)=false by simpa using he,cond_false,vk (by omega)];rfl
  · rename_i jF dP r gs ofP ofB tr tt
    have hlen:=b.dr.len
    have hpf: (pcsOf 0 dP).length≤2000:=b.wP.2
    refine Ok.eq (xG b hN h) ?_
    dsimp only
    rw [show ((0:Int) != 0)=false by rfl,Bool.false_or]
    refine Ok.bind (P:=fun c=>c=true↔(qe<0∨qe≥((a.aJ.length:Nat):Int))) (Ok.bif (fun h1=>Ok.ret ⟨fun _=> .inl (of_decide_eq_true h1),fun _=>rfl⟩) (fun h1=>Ok.ret ?_)) (fun c hc=>?_)
    · have h1:=of_decide_eq_false h1
      rw [List.length_map,hlen,decide_eq_true_eq]
      constructor
      · exact .inr
      · rintro(h2 | h2)
        · exact absurd h2 h1
        · exact h2
    refine Ok.bif (fun h1=>?_) (fun h1=>?_)
    · refine Ok.eq (x:=true) ?_ (Ok.ret rfl)
      rw [show ((0:Int)==0)=true by rfl,cond_true,vk (by omega)];rfl
    have hl: ¬(qe<0∨qe≥((a.aJ.length:Nat):Int)):=fun h2=>by rw [hc.2 h2] at h1;cases h1
    obtain⟨q,rfl⟩: ∃q:Nat,qe= ((q:Nat):Int):=⟨qe.toNat,by omega⟩
    have hq:q<a.aJ.length:=by omega
    obtain⟨s,ps,u,hd,hp,L⟩:=rz b hq
    refine Ok.eq (zc b h) ?_
    dsimp only
    rw [show ((0:Int) != 0)=false by rfl,cond_false]
    have hpl:=uh dP 0 q ps hp
    rw [Nat.zero_add] at hpl
    have htl: (toldOf (pcsOf 0 dP)).length= (pcsOf 0 dP).length:=by unfold toldOf;simp
    have hpre: ∀k,∃m,m≤ps.length∧((pcsOf 0 dP).take k).filter (fun p=>p.aU==((q:Nat):Int))= (ps.take m).map (fun p=>(⟨((q:Nat):Int),p,aI p⟩:aD)):=by
      intro k
      have h1: (((pcsOf 0 dP).take k).filter (fun p=>p.aU==((q:Nat):Int))) <+: (ps.map (fun p=>(⟨((q:Nat):Int),p,aI p⟩:aD))):=by
        rw [←hpl]
        exact List.IsPrefix.filter _ (List.take_prefix k _)
      have h2:=List.prefix_iff_eq_take.1 h1
      refine⟨min (((pcsOf 0 dP).take k).filter (fun p=>p.aU==((q:Nat):Int))).length ps.length,by omega,?_⟩
      have hle:=h1.length_le
      rw [List.length_map] at hle
      rw [List.map_take,Nat.min_eq_left hle];exact h2
    have hfull: ((pcsOf 0 dP).filter (fun p=>p.aU==((q:Nat):Int)))=ps.map (fun p=>(⟨((q:Nat):Int),p,aI p⟩:aD)):=hpl
    have hbnd: ∀m,m≤ps.length→((ps.take m).map (fun p=>(aI p).length)).sum≤2000∧((ps.take m).map (fun p=>n9 (aI p))).sum≤8000000000000000:=by
      intro m hm
      have h1:=qh (ps.map (fun p=>(aI p).length)) m
      have h2:=qh (ps.map (fun p=>n9 (aI p))) m
      rw [←List.map_take] at h1 h2
      have h3:=L.total
      have h4:=L.wP
      have h5:=yi (l:=aI s) (fun x hx=>(rT L.r1 L.r2 L.dr.can L.dr.lim x hx).1)
      have h6: (aI s).length*4000000000000≤2000*4000000000000:=Nat.mul_le_mul_right _ h4
      rw [L.DR] at h2
      omega
    refine Ok.bind (Ok.itr (Go:=fun st=>st.1=ps.flatMap aI∧st.2.1= ((n9 (aI s):Nat):Int)) (Rt:=fun _=>False)
      (fun st=>∃k:Nat,st.2.2= ((k:Nat):Int)∧k≤(pcsOf 0 dP).length∧st.1= (((pcsOf 0 dP).take k).filter (fun p=>p.aU==((q:Nat):Int))).flatMap aD.dQ∧
        st.2.1= ((((((pcsOf 0 dP).take k).filter (fun p=>p.aU==((q:Nat):Int))).map (fun p=>n9 p.dQ)).sum:Nat):Int)) (fun st=>(pcsOf 0 dP).length - st.2.2.toNat) ?_ ⟨0,rfl,by omega,rfl,rfl⟩ (by simp;omega)) ?_
    · rintro⟨acc,n,kk⟩ ⟨k,e1,hk,e2,e3⟩
      dsimp only at e1 e2 e3 ⊢
      subst e1;subst e2;subst e3
      rw [htl]
      refine Ok.bif (fun hlt=>?_) (fun hlt=>Ok.br ?_)
      · have hkl:k< (pcsOf 0 dP).length:=by have:=of_decide_eq_true hlt;omega
        have htx: (toldOf (pcsOf 0 dP))[k]? =some ⟨(pcsOf 0 dP)[k].aU,rS (pcsOf 0 dP)[k].Set,qf (pcsOf 0 dP)[k].dQ⟩:=by
          unfold toldOf;rw [List.getElem?_map,List.getElem?_eq_getElem hkl];rfl
        have hts: ((pcsOf 0 dP).take (k+1)).filter (fun p=>p.aU==((q:Nat):Int))=if (pcsOf 0 dP)[k].aU= ((q:Nat):Int) then ((pcsOf 0 dP).take k).filter (fun p=>p.aU==((q:Nat):Int))++[(pcsOf 0 dP)[k]] else ((pcsOf 0 dP).take k).filter (fun p=>p.aU==((q:Nat):Int)):=by
          rw [List.take_succ_eq_append_getElem hkl,List.filter_append]
          split <;> rename_i hh <;> simp [hh]
        refine Ok.ix htx ?_
        dsimp only
        refine Ok.bif (fun hne=>?_) (fun heq=>?_)
        · have hne: (pcsOf 0 dP)[k].aU≠((q:Nat):Int):=by simpa using hne
          rw [if_neg hne] at hts
          rw [eQ (by omega)]
          exact Ok.nx ⟨⟨k+1,rfl,by omega,by rw [hts],by rw [hts]⟩,by simp only [Int.toNat_natCast];omega⟩
        · have heq: (pcsOf 0 dP)[k].aU= ((q:Nat):Int):=by simpa using heq
          rw [if_pos heq] at hts
          have hmem: (pcsOf 0 dP)[k]∈(pcsOf 0 dP).filter (fun p=>p.aU==((q:Nat):Int)):=List.mem_filter.2 ⟨List.getElem_mem hkl,by simpa using heq⟩
          rw [hfull] at hmem
          obtain⟨p,hpm,hpe⟩:=List.mem_map.1 hmem
          obtain⟨pc1,pc2,pc3⟩:=L.part hpm
          have hrr: (pcsOf 0 dP)[k].dQ=aI p:=by rw [←hpe]
          obtain⟨m,hm,hme⟩:=hpre k
          obtain⟨m',hm',hme'⟩:=hpre (k+1)
          have b1:=hbnd m hm
          have b2:=hbnd m' hm'
          have hlenf: ∀l:List (List aA),((l.map (fun p=>(⟨((q:Nat):Int),p,aI p⟩:aD))).flatMap aD.dQ).length= (l.map (fun p=>(aI p).length)).sum:=fun l=>by
            induction l with
            | nil=>rfl
            | cons x l ih=>rw [List.map_cons,List.flatMap_cons,List.length_append,ih,List.map_cons,List.sum_cons]
          have hreg:fP (aI p)=0:=ry pc1 pc2 (fun x hx=>(pc3 x hx).1)
          have haw:qf (aI p)= ((n9 (aI p):Nat):Int):=wK pc3 pc2
          refine Ok.eq (tq hkl hpf h) ?_
          dsimp only
          rw [hrr]
          refine Ok.eq (yj hreg hN) ?_
          dsimp only
          refine Ok.eq (x:=false) ?_ ?_
          · rw [show (((0:Int) != 0)||((0:Int) != 0))=false by rfl,cond_false]
            rw [gu htx,aB]
            dsimp only
            rw [hrr];simp
          · rw [cond_false]
            refine Ok.app ?_ ?_
            · rw [hme,hlenf];omega
            · have ht2: ((((pcsOf 0 dP).take k).filter (fun p=>p.aU==((q:Nat):Int))).map (fun p=>n9 p.dQ)).sum+n9 (aI p)≤8000000000000000:=by
                have: ((((pcsOf 0 dP).take (k+1)).filter (fun p=>p.aU==((q:Nat):Int))).map (fun p=>n9 p.dQ)).sum≤8000000000000000:=by
                  rw [hme',List.map_map];exact b2.2
                rw [hts,List.map_append,List.sum_append] at this
                simp only [List.map_cons,List.map_nil,List.sum_cons,List.sum_nil,hrr] at this
                omega
              rw [haw,wrap_add (by omega),eQ (by omega)]
              refine Ok.nx ⟨⟨k+1,rfl,by omega,?_,?_⟩,by simp only [Int.toNat_natCast];omega⟩
              · dsimp only;rw [hts,List.flatMap_append];simp [hrr]
              · dsimp only;rw [hts,List.map_append,List.sum_append];simp [hrr]
      · have:k= (pcsOf 0 dP).length:=by have:=of_decide_eq_false hlt;omega
        subst this
        rw [List.take_length,hfull]
        refine⟨?_,?_⟩
        · dsimp only;rw [List.flatMap_map]
        · dsimp only;rw [List.map_map]
          congr 1
          exact L.DR
    intro o ho
    refine Ok.cs ho ?_ (fun r hr=>hr.elim)
    rintro⟨acc,n,kk⟩ ⟨e1,e2⟩
    dsimp only at e1 e2 ⊢
    subst e1;subst e2
    have hall:gE (ps.flatMap aI)=0:=by
      refine iJ.2 ⟨?_,fun x hx=>?_⟩
      · have h1:=(hbnd ps.length (Nat.le_refl _)).1
        rw [List.take_length] at h1
        have: (ps.flatMap aI).length= (ps.map (fun p=>(aI p).length)).sum:=by rw [List.length_flatMap]
        omega
      · obtain⟨p,hpm,hxp⟩:=List.mem_flatMap.1 hx
        exact(L.part hpm).2.2 x hxp
    refine Ok.eq (zh hall L.dr.can L.cover L.wP hN) ?_
    have hdx: (jF.map aI)[q]? =some (aI s):=by rw [List.getElem?_map,hd];rfl
    have hrin:=rT L.r1 L.r2 L.dr.can L.dr.lim
    refine Ok.ix hdx (Ok.eq (yj (ry L.dr.can L.wP (fun x hx=>(hrin x hx).1)) hN) ?_)
    dsimp only
    refine Ok.eq (x:=true) ?_ (Ok.ret rfl)
    have hfew:=L.wP
    rw [show ((0:Int)==0)=true by rfl,cond_true,gu hdx,aB,tp (by omega) hN,aB,wK hrin L.wP]
    simp only [BEq.rfl,Bool.and_self,cond_true]
    rw [vk (by omega)];rfl
end
end Go.Gk
