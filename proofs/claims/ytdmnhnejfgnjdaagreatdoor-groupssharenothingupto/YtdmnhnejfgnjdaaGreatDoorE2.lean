/-
  Helping texts: plain functions and plain laws. No statement of the seed is proved here.
-/
import Derived.Test.YtdmnhnejfgnjdaaGreatDoorE1
import Derived.Test.YtdmnhnejfgnjdaaGreatDoorA2
set_option linter.unusedVariables false
set_option linter.unusedSimpArgs false
set_option linter.unusedSectionVars false
namespace Go.Gk
open Go Classical
section
variable {N:Nat}
def lG (n:Nat) (h:fZ):Nat:=if h.bB=true then n+h.Number.toNat else h.Number.toNat
structure CP (bs:List bB) (n m:Nat) (h:fZ):Prop where
  num: ∃k:Nat,h.Number= ((k:Nat):Int)∧(h.bB=true→k<m∧oF bs k=true)∧(h.bB=false→k<n)
theorem zM {bs:List bB} {pcs:List aC} {l:cE} {h:fZ} (hh:uq bs pcs l=some h):CP bs pcs.length bs.length h:=by
  unfold uq at hh
  cases hf:bs.findIdx? (oE l) with
  | some k=>
    rw [hf] at hh
    injection hh with hh;subst hh
    obtain⟨hk,hp,_⟩:=List.findIdx?_eq_some_iff_getElem.1 hf
    refine⟨k,rfl,fun _=>⟨hk,?_⟩,fun h=>by cases h⟩
    unfold oE at hp
    unfold oF
    rw [List.getElem?_eq_getElem hk]
    rw [Bool.and_eq_true] at hp
    exact hp.1
  | none=>
    rw [hf] at hh
    dsimp only at hh
    rw [Option.map_eq_some_iff] at hh
    obtain⟨k,hk,rfl⟩:=hh
    obtain⟨hk,_⟩:=List.findIdx?_eq_some_iff_getElem.1 hk
    exact⟨k,rfl,fun h=>(by cases h),fun _=>hk⟩
def sD (bs:List bB) (pcs:List aC) (r:Nat→Nat) (l:cE):Option Nat:=(uq bs pcs l).map fun h=>gi bs pcs.length (pcs.length+bs.length) r (r (lG pcs.length h))
def zN (bs:List bB) (pcs:List aC) (r:Nat→Nat) (l:cE):Int:=match sD bs pcs r l with | some g=>((g:Nat):Int) | none=> -1
def eU (gs:List aX) (lg:cE→Option Nat) (ls:List cE):List aX:=gs.mapIdx (fun g x=>{x with cB:=(ls.filter (fun l=>decide (lg l=some g))).map kr})
theorem eE {gs:List aX} {lg:cE→Option Nat} {ls:List cE} {g:Nat}: (eU gs lg ls)[g]? = (gs[g]?).map fun x=>{x with cB:=(ls.filter (fun l=>decide (lg l=some g))).map kr}:=by
  unfold eU;rw [List.getElem?_mapIdx]
theorem pM (gs:List aX) (lg:cE→Option Nat) (ls:List cE): (eU gs lg ls).length=gs.length:=by unfold eU;rw [List.length_mapIdx]
theorem sW {gs:List aX} {lg:cE→Option Nat} {ls:List cE} {l:cE} (h:lg l=none):eU gs lg (ls++[l])=eU gs lg ls:=by
  apply List.ext_getElem?
  intro g
  rw [eE,eE]
  congr 2
  funext x
  rw [List.filter_append]
  simp [h]
theorem uu {gs:List aX} {lg:cE→Option Nat} {ls:List cE} {l:cE} {k:Nat} {x:aX} (h:lg l=some k) (hx: (eU gs lg ls)[k]? =some x):
    (eU gs lg ls).set k {x with cB:=x.cB++[kr l]}=eU gs lg (ls++[l]):=by
  apply List.ext_getElem?
  intro g
  have hk:=(List.getElem?_eq_some_iff.1 hx).1
  rw [List.getElem?_set]
  by_cases e:k=g
  · subst e
    rw [if_pos rfl,if_pos hk,eE]
    rw [eE,Option.map_eq_some_iff] at hx
    obtain⟨y,hy,rfl⟩:=hx
    rw [hy,List.filter_append]
    simp [h]
  · rw [if_neg e,eE,eE]
    congr 2
    funext x
    rw [List.filter_append]
    have: ¬(lg l=some g):=by rw [h];intro h';injection h' with h';exact e h'
    simp [this]
theorem A2 {bs:List bB} {n t:Nat} {r:Nat→Nat} {i:Nat} (hi:i<n) (ht:i<t):xm bs n (cls t r (r i))=true:=by
  unfold xm
  rw [decide_eq_true_eq]
  have:i∈gP n (cls t r (r i)):=List.mem_filter.2 ⟨kN.2 ⟨ht,rfl⟩,by simpa using hi⟩
  have:=List.length_pos_of_mem this
  omega
theorem A3 {bs:List bB} {n t:Nat} {r:Nat→Nat} {j:Nat} (hp:oF bs j=true) (ht:n+j<t):xm bs n (cls t r (r (n+j)))=true:=by
  unfold xm
  rw [decide_eq_true_eq]
  have:j∈gB bs n (cls t r (r (n+j))):=List.mem_map.2 ⟨n+j,List.mem_filter.2 ⟨kN.2 ⟨ht,rfl⟩,by simp [hp]⟩,by omega⟩
  have:=List.length_pos_of_mem this
  omega
structure wJ (bs:List bB) (ls:List cE) (pcs:List aC) (r:Nat→Nat) (gs:List aX) (ofP ofB lH:List Int) (sX:List fZ):Prop where
  conn:ye pcs.length bs.length (ky bs pcs) r
  gs:gs=eU (jG bs pcs.length (pcs.length+bs.length) r (bE (pcs.length+bs.length) r)) (sD bs pcs r) ls
  of:CO bs pcs.length bs.length r (bE (pcs.length+bs.length) r) ofP ofB
  lH:lH=ls.map (zN bs pcs r)
  sX:sX=ls.map (fun l=>(uq bs pcs l).getD ⟨false,0⟩)
theorem zO {bs:List bB} {pcs:List aC} (hp:pcs.length≤1073741824): ∀l∈ky bs pcs,l.length≤1073741824∧∀x∈l,∃i:Nat,i<pcs.length∧x= ((i:Nat):Int):=by
  intro l hl
  unfold ky at hl
  obtain⟨b,_,rfl⟩:=List.mem_map.1 hl
  have:=tx (ja b) pcs pcs.length
  refine⟨by rw [i9];omega,fun x hx=>?_⟩
  obtain⟨i,hi,rfl⟩:=sq.1 hx
  exact⟨i,(yd.1 hi).1,rfl⟩
theorem uv {bs:List bB} {ls:List cE} {pcs:List aC} (hb:jq bs) (hp:pcs.length≤1000000000) (hr: ∀p∈pcs,p.fL.length≤1073741824) (hl:ls.length≤1073741824) (hN:4398046511104≤N):
    Ok (cN N bs ls pcs (ky bs pcs) [] [] [] []) (fun x=>∃r,wJ bs ls pcs r x.1 x.2.1 x.2.2.1 x.2.2.2.1 x.2.2.2.2):=by
  have hbl:=hb.len
  unfold cN
  rw [wrap_add (by omega)]
  obtain⟨up0,u1,u2⟩:=vu (N:=N) (n:=pcs.length+bs.length) (by omega)
  refine Ok.eq u1 ?_
  refine Ok.bind (yf (n:=pcs.length) (m:=bs.length) (by unfold ky;simp) (zO (by omega)) (by omega) (by omega) u2 hN) ?_
  rintro up1 ⟨r,v1,v2⟩
  refine Ok.eq (oY 0 (by omega)) (Ok.eq (oY 0 (by omega)) ?_)
  obtain⟨up2,w1,_⟩:=AJ (N:=N) v1 (by omega) (by omega)
  refine Ok.eq w1 ?_
  refine Ok.bind (vI (bs:=bs) (n:=pcs.length) (m:=bs.length) (r:=r) rfl (by omega) (by omega) (op:=List.replicate pcs.length 0) (ob:=List.replicate bs.length 0) (by simp) (by simp) rfl) ?_
  rintro⟨gs,ofP,ofB⟩ ⟨e1,I⟩
  dsimp only at e1 I ⊢
  subst e1
  have hgl: (jG bs pcs.length (pcs.length+bs.length) r (bE (pcs.length+bs.length) r)).length≤pcs.length+bs.length:=by
    rw [lF]
    have:=lZ bs pcs.length (pcs.length+bs.length) r (bE (pcs.length+bs.length) r)
    have:=jo (pcs.length+bs.length) r
    omega
  refine Ok.bind (Ok.gZ (fun(k:Nat) (st:List aX×List Int×List Int×List Int×List fZ)=>st= (eU (jG bs pcs.length (pcs.length+bs.length) r (bE (pcs.length+bs.length) r)) (sD bs pcs r) (ls.take k),ofP,ofB,(ls.take k).map (zN bs pcs r),(ls.take k).map (fun l=>(uq bs pcs l).getD ⟨false,0⟩))) (by omega) ?_ (fun k st hk e=>?_)) ?_
  · congr 1
    unfold eU
    apply List.ext_getElem?
    intro g
    rw [List.getElem?_mapIdx]
    unfold jG
    rw [List.getElem?_map]
    cases (live bs pcs.length (pcs.length+bs.length) r (bE (pcs.length+bs.length) r))[g]? <;> rfl
  · subst e
    dsimp only
    have hts:ls.take (k+1)=ls.take k++[ls[k]]:=List.take_succ_eq_append_getElem hk
    refine Ok.idx hk (Ok.eq (zJ hb (by omega) hr _) ?_)
    dsimp only
    refine Ok.bind (P:=fun x=>x= (eU (jG bs pcs.length (pcs.length+bs.length) r (bE (pcs.length+bs.length) r)) (sD bs pcs r) (ls.take k++[ls[k]]),zN bs pcs r ls[k])) ?_ ?_
    · cases hh:uq bs pcs ls[k] with
      | none=>
        refine Ok.ret ?_
        have h1:sD bs pcs r ls[k]=none:=by unfold sD;rw [hh];rfl
        rw [sW h1]
        unfold zN;rw [h1]
      | some h=>
        have h1:sD bs pcs r ls[k]=some (gi bs pcs.length (pcs.length+bs.length) r (r (lG pcs.length h))):=by unfold sD;rw [hh];rfl
        have h2:zN bs pcs r ls[k]= ((gi bs pcs.length (pcs.length+bs.length) r (r (lG pcs.length h)):Nat):Int):=by unfold zN;rw [h1]
        obtain⟨q,q1,q2,q3⟩:=(zM hh).num
        have hix:lG pcs.length h<pcs.length+bs.length∧xm bs pcs.length (cls (pcs.length+bs.length) r (r (lG pcs.length h)))=true∧dK N ofP ofB h=some ((gi bs pcs.length (pcs.length+bs.length) r (r (lG pcs.length h)):Nat):Int):=by
          unfold dK lG
          rw [q1,Int.toNat_natCast]
          cases hbo:h.bB with
          | true=>
            obtain⟨q4,q5⟩:=q2 hbo
            rw [cond_true,if_pos rfl]
            refine⟨by omega,A3 q5 (by omega),?_⟩
            have:=I.bo q q4 (eY.2 ⟨by have:=v2.le (pcs.length+q) (by omega);omega,v2.rr _ (by omega)⟩)
            rw [if_pos q5] at this
            rw [gU this,aB]
          | false=>
            have q4:=q3 hbo
            rw [cond_false,if_neg (by simp)]
            refine⟨by omega,A2 q4 (by omega),?_⟩
            have:=I.pc q q4 (eY.2 ⟨by have:=v2.le q (by omega);omega,v2.rr _ (by omega)⟩)
            rw [gU this,aB]
        obtain⟨i1,i2,i3⟩:=hix
        have hgi:=A1 (r:=r) (t:=pcs.length+bs.length) (bs:=bs) (n:=pcs.length) (h:=r (lG pcs.length h)) (eY.2 ⟨by have:=v2.le _ i1;omega,v2.rr _ i1⟩) i2
        have hgx:gi bs pcs.length (pcs.length+bs.length) r (r (lG pcs.length h))< (eU (jG bs pcs.length (pcs.length+bs.length) r (bE (pcs.length+bs.length) r)) (sD bs pcs r) (ls.take k)).length:=by
          rw [pM,lF];exact hgi.1
        rw [h2]
        dsimp only [Option.getD,Option.isSome]
        rw [cond_true]
        refine Ok.eq i3 ?_
        generalize gi bs pcs.length (pcs.length+bs.length) r (r (lG pcs.length h))=g at *
        refine Ok.idx hgx (Ok.eq (ny _) ?_)
        have hpl: ((eU (jG bs pcs.length (pcs.length+bs.length) r (bE (pcs.length+bs.length) r)) (sD bs pcs r) (ls.take k))[g]).cB.length≤ls.length:=by
          have:=eE (gs:=jG bs pcs.length (pcs.length+bs.length) r (bE (pcs.length+bs.length) r)) (lg:=sD bs pcs r) (ls:=ls.take k) (g:=g)
          rw [List.getElem?_eq_getElem hgx] at this
          have:=this.symm
          rw [Option.map_eq_some_iff] at this
          obtain⟨y,_,hy⟩:=this
          rw [←hy,List.length_map]
          have:=List.length_filter_le (fun l=>decide (sD bs pcs r l=some g)) (ls.take k)
          rw [List.length_take] at this;omega
        refine Ok.app (by simp;omega) (Ok.idx hgx (Ok.ret ?_))
        rw [Int.toNat_natCast]
        congr 1
        exact uu h1 (List.getElem?_eq_getElem hgx)
    · rintro _ rfl
      dsimp only
      refine Ok.app (by simp;omega) (Ok.app (by simp;omega) (Ok.ret ?_))
      rw [hts,List.map_append,List.map_append];rfl
  · rintro st rfl
    dsimp only
    rw [List.take_length]
    exact Ok.ret ⟨r,v2,rfl,I,rfl,rfl⟩
end
end Go.Gk
namespace Go.Gk
open Go Classical
section
variable {N:Nat}
theorem tz {p:aC}: ∀{dZ:List (List (List aA))} {k:Nat},p∈pcsOf k dZ→∃(i:Nat) (ps:List (List aA)) (q:List aA),dZ[i]? =some ps∧q∈ps∧p= ⟨((k+i:Nat):Int),q,aM q⟩
  | [],k,h=>by cases h
  | ps::dZ,k,h=>by
    rcases List.mem_append.1 h with h | h
    · obtain⟨q,hq,rfl⟩:=List.mem_map.1 h
      exact⟨0,ps,q,rfl,hq,rfl⟩
    · obtain⟨i,ps',q,h1,h2,h3⟩:=tz h
      refine⟨i+1,ps',q,by simpa using h1,h2,?_⟩
      rw [h3,show k+1+i=k+ (i+1) by omega]
structure jZ (a:ju):Prop where
  BH:0<a.aJ.length∧a.aJ.length≤16
  EP: ∀r∈a.aJ,gI r=0
  out:gI a.bZ=0
  many:a.bZ.length+ (a.aJ.map List.length).sum≤2000
  zP:i7 a=0
  Ex:ku a=0
theorem jZ.gb {a:ju} (h:jZ a):jq a.aK:=⟨(kY h.zP).1,fun b hb=>⟨((kY h.zP).2 b hb).1,((kY h.zP).2 b hb).2.1⟩⟩
theorem jZ.cs {a:ju} (h:jZ a): ∀r∈a.aJ,r.length≤2000∧∀x∈r,xd x:=fun r hr=>zH (vD.1 (h.EP r hr)).1
structure pN (a:ju) (kL:List (List aA)) (dZ:List (List (List aA))) (p:aC) (i:Nat) (r:List aD) (s:List aA) (ps:List (List aA)) (u:Nat→Nat) (j k:Nat):Prop where
  ER:a.aJ[i]? =some r
  kL:kL[i]? =some s
  dZ:dZ[i]? =some ps
  dr:pI r (kx a.aK ((i:Nat):Int)) s
  pt:nr s u ps
  at_:ps[j]? =some p.Set
  head: (bE (aM s).length u)[j]? =some k
  set:l9 (jF (aM s) (aM s).length u k) p.Set
  lim:px (nR r++nR (kx a.aK ((i:Nat):Int))) (jd r++jd (kx a.aK ((i:Nat):Int))) (p.Set.map bG)
  Ey:p.bH= ((i:Nat):Int)
  CQ:p.fL=aM p.Set
theorem vJ {a:ju} {kL:List (List aA)} {dZ:List (List (List aA))} (hg:jZ a) (hD:qC a.aJ a.aK a.aJ.length kL dZ) {p:aC} (hp:p∈pcsOf 0 dZ): ∃i r s ps u j k,pN a kL dZ p i r s ps u j k:=by
  obtain⟨i,ps,q,h1,h2,rfl⟩:=tz hp
  have hil:i<a.aJ.length:=by have:=(List.getElem?_eq_some_iff.1 h1).1;rw [hD.yc] at this;exact this
  have hc:a.aJ[i]? =some a.aJ[i]:=List.getElem?_eq_getElem hil
  have hd:kL[i]? =some (kL[i]'(by rw [hD.len];exact hil)):=List.getElem?_eq_getElem _
  have hdr:=hD.dr i _ _ hil hc hd
  obtain⟨u,hu⟩:=hD.pt i _ ps hil hd h1
  obtain⟨sx,sy⟩:=hdr.small (hg.cs _ (List.getElem_mem hil)).2 (fun x hx=>(vF hg.gb _ x hx).1)
  obtain⟨j,k,g1,g2,g3,g4⟩:=vG hu hdr.can hdr.lim sx sy h2
  exact⟨i,_,_,ps,u,j,k,hc,hd,h1,hdr,hu,g1,g2,g3,g4,by rw [Nat.zero_add],rfl⟩
theorem pN.xk {a:ju} {kL:List (List aA)} {dZ:List (List (List aA))} (hg:jZ a) {p:aC} {i:Nat} {r:List aD} {s:List aA} {ps:List (List aA)} {u:Nat→Nat} {j k:Nat} (h:pN a kL dZ p i r s ps u j k):
    p.Set.length≤5000∧(∀b∈p.Set,b.Xs.length≤5000)∧p.fL.length≤5000*5000:=by
  have h1:=(hg.cs r (List.mem_of_getElem? h.ER)).1
  have h2:=tw hg.gb ((i:Nat):Int)
  rw [h.CQ]
  exact qB (A:=5000) h.set.can h.lim (by rw [List.length_append,iv,iv];omega) (by rw [List.length_append,fY,fY];omega)
def xp (a0 a1 b0 b1:Int):Bool:=decide (b0<a1)&&decide (a0<b1)
def zQ (a b:aD):Bool:=xp a.X0 a.X1 b.X0 b.X1&&xp a.Y0 a.Y1 b.Y0 b.Y1
theorem su {a0 a1 b0 b1:Int} (h1: -1000000≤a0∧a0≤1000000) (h2: -1000000≤a1∧a1≤1000000) (h3: -1000000≤b0∧b0≤1000000) (h4: -1000000≤b1∧b1≤1000000): ∃n,gz N a0 a1 b0 b1=some n∧0≤n∧(n=0↔xp a0 a1 b0 b1=true):=by
  unfold gz xp
  have e1:IntKind.wrap .i64 (b0 - a1)=b0 - a1:=dD (by omega) (by omega)
  have e2:IntKind.wrap .i64 (a0 - b1)=a0 - b1:=dD (by omega) (by omega)
  have e3:IntKind.wrap .i64 (b0 - a1+1)=b0 - a1+1:=dD (by omega) (by omega)
  have e4:IntKind.wrap .i64 (a0 - b1+1)=a0 - b1+1:=dD (by omega) (by omega)
  rw [e1,e2,e3,e4]
  refine⟨_,rfl,?_,?_⟩
  · repeat' split
    all_goals omega
  · rw [Bool.and_eq_true,decide_eq_true_eq,decide_eq_true_eq]
    repeat' split
    all_goals omega
theorem BI {a b:aD} (h1:eM a=true) (h2:eM b=true): ∃n,k7 N a b=some n∧(n=0↔zQ a b=true):=by
  have b1:=m5 h1
  have b2:=m5 h2
  obtain⟨n,n1,n2,n3⟩:=su (N:=N) (a0:=a.X0) (a1:=a.X1) (b0:=b.X0) (b1:=b.X1) (by omega) (by omega) (by omega) (by omega)
  obtain⟨m,m1,m2,m3⟩:=su (N:=N) (a0:=a.Y0) (a1:=a.Y1) (b0:=b.Y0) (b1:=b.Y1) (by omega) (by omega) (by omega) (by omega)
  unfold k7 zQ
  rw [n1,aB,m1,aB]
  refine⟨_,rfl,?_⟩
  rw [Bool.and_eq_true,←n3,←m3]
  split <;> omega
def qE (x y:bB):Bool:=(decide (x.bN≤y.To)&&decide (y.bN≤x.To))&&zQ (rk x) (rk y)
def sw (a:ju):Prop:=∃(i k:Nat) (x y:bB),k<i∧a.aK[i]? =some x∧a.aK[k]? =some y∧qE x y=true
noncomputable def yi (r:List aD):Option Int:=if gI r≠0 then some (gI r) else none
noncomputable def wK (a:ju):Int:=if 2000<a.bZ.length+ (a.aJ.map List.length).sum then 2 else if i7 a≠0 then i7 a else if ku a≠0 then ku a else if sw a then 12 else 0
noncomputable def AM (a:ju):Int:=match a.aJ.findSome? yi with | some e=>e | none=>if gI a.bZ≠0 then gI a.bZ else wK a
noncomputable def gv (a:ju):Int:=if a.aJ.length=0 then 9 else if 16<a.aJ.length then 2 else AM a
def CW (kL:List (List aA)) (dZ:List (List (List aA))):Prop:=(∀s∈kL,(aM s).length≤2000)∧(pcsOf 0 dZ).length≤2000
abbrev sA:=(List (List aD))×(List aD)×(List bB)×(List cE)×(List (List aA))×(List aC)×(List (List Int))×(List aX)×(List Int)×(List Int)×(List Int)×(List fZ)
def A4 (a:ju) (x:Option sA×Int):Prop:=
  (gv a≠0∧x= (none,gv a))∨(gv a=0∧jZ a∧¬sw a∧∃kL dZ,qC a.aJ a.aK a.aJ.length kL dZ∧
    ((¬CW kL dZ∧x= (none,2))∨(CW kL dZ∧∃r gs ofP ofB lH sX,wJ a.aK a.aR (pcsOf 0 dZ) r gs ofP ofB lH sX∧
      x= (some (a.aJ,a.bZ,a.aK,a.aR,kL,pcsOf 0 dZ,ky a.aK (pcsOf 0 dZ),gs,ofP,ofB,lH,sX),0))))
structure sB (a:ju):Prop where
  cs:a.aJ.length≤1048576
  each: ∀r∈a.aJ,r.length≤1048576
  out:a.bZ.length≤1048576
  bs:a.aK.length≤1048576
  ls:a.aR.length≤1048576
  nm:sj a
theorem vK {a:ju} (h:bk a≤1048576):sB a:=by
  rw [zo] at h
  have h1:=qc a.aJ
  have h2:=qc a.bZ
  have h3:=qc a.aK
  have h4:=qc a.aR
  refine⟨by omega,fun r hr=>?_,by omega,by omega,by omega,fun x hx=>?_⟩
  · have:=wx hr
    have:=qc r;omega
  · have:=wx hx
    rw [w5,zi,zi] at this;omega
theorem yj {a:ju} (hs:sB a) (hN:4398046511104≤N):Ok (dL N a) (A4 a):=by
  unfold dL
  have pe: ∀e:Int,e≠0→gv a=e→Ok (some ((none:Option sA),e)) (A4 a):=fun e he h=>Ok.ret (.inl ⟨by rw [h];exact he,by rw [h]⟩)
  have c1:=hs.cs
  refine Ok.bif (fun h=>?_) (fun h=>?_)
  · have:a.aJ.length=0:=by have:=beq_iff_eq.1 h;omega
    exact pe 9 (by omega) (by unfold gv;rw [if_pos this])
  have h0: ¬a.aJ.length=0:=by rw [beq_eq_false_iff_ne] at h;omega
  refine Ok.bif (fun h=>?_) (fun h=>?_)
  · have h1:16<a.aJ.length:=by have:=of_decide_eq_true h;omega
    exact pe 2 (by omega) (by unfold gv;rw [if_neg h0,if_pos h1])
  have h1: ¬16<a.aJ.length:=by have:=of_decide_eq_false h;omega
  have pe1:gv a=AM a:=by unfold gv;rw [if_neg h0,if_neg h1]
  have hso:=hs.out
  have sumle: ∀k,k≤a.aJ.length→((a.aJ.take k).map List.length).sum≤k*1048576:=by
    intro k
    induction k with
    | zero=>intro _;simp
    | succ k ih=>
      intro hk
      have:=ih (by omega)
      have h2:=hs.each _ (List.getElem_mem (show k<a.aJ.length by omega))
      rw [List.take_succ_eq_append_getElem (by omega),List.map_append,List.sum_append]
      simp only [List.map_cons,List.map_nil,List.sum_cons,List.sum_nil]
      rw [Nat.add_mul];omega
  refine Ok.bind (Ok.mx (Go:=fun s:Int=>s= ((a.bZ.length+ (a.aJ.map List.length).sum:Nat):Int)∧∀r∈a.aJ,gI r=0) (Rt:=fun x:Option sA×Int=>∃e,e≠0∧x= (none,e)∧a.aJ.findSome? yi=some e)
    (fun(k:Nat) (s:Int)=>s= ((a.bZ.length+ ((a.aJ.take k).map List.length).sum:Nat):Int)∧∀r∈a.aJ.take k,gI r=0) (by omega) ⟨by simp,fun r hr=>by simp at hr⟩ (fun k s hk hI=>?_) (fun s hI=>by rw [List.take_length] at hI;exact hI)) ?_
  · obtain⟨e,hI⟩:=hI
    subst e
    have hkx:a.aJ[k]? =some a.aJ[k]:=List.getElem?_eq_getElem hk
    have hts:a.aJ.take (k+1)=a.aJ.take k++[a.aJ[k]]:=List.take_succ_eq_append_getElem hk
    have he:=hs.each _ (List.getElem_mem hk)
    refine Ok.ix hkx (Ok.eq (m6 (by omega) hN) ?_)
    refine Ok.bif (fun h=>Ok.rt ?_) (fun h=>Ok.nx ?_)
    · have h:gI a.aJ[k]≠0:=by simpa using h
      refine⟨_,h,rfl,?_⟩
      rw [List.findSome?_eq_some_iff]
      refine⟨a.aJ.take k,a.aJ[k],a.aJ.drop (k+1),?_,by unfold yi;rw [if_pos h],fun r hr=>by unfold yi;rw [if_neg (by simpa using hI r hr)]⟩
      rw [←List.drop_eq_getElem_cons hk,List.take_append_drop]
    · have h:gI a.aJ[k]=0:=by simpa using h
      have:=sumle k (by omega)
      have hk16:k*1048576≤16*1048576:=Nat.mul_le_mul_right _ (by omega)
      refine⟨?_,fun r hr=>?_⟩
      · rw [wrap_add (by omega),hts,List.map_append,List.sum_append]
        simp only [List.map_cons,List.map_nil,List.sum_cons,List.sum_nil]
        congr 1
        omega
      · rw [hts] at hr
        rcases List.mem_append.1 hr with hr | hr
        · exact hI r hr
        · simp at hr;subst hr;exact h
  intro o ho
  refine Ok.cs ho ?_ ?_
  rotate_left
  · rintro x ⟨e,he,rfl,hf⟩
    exact pe e he (by rw [pe1];unfold AM;rw [hf])
  rintro s ⟨rfl,hreg⟩
  have CS:a.aJ.findSome? yi=none:=List.findSome?_eq_none_iff.2 fun r hr=>by unfold yi;rw [if_neg (by simpa using hreg r hr)]
  have pe2:gv a=if gI a.bZ≠0 then gI a.bZ else wK a:=by rw [pe1];unfold AM;rw [CS]
  refine Ok.eq (m6 (by omega) hN) ?_
  refine Ok.bif (fun h=>?_) (fun h=>?_)
  · have h:gI a.bZ≠0:=by simpa using h
    exact pe _ h (by rw [pe2,if_pos h])
  have hout:gI a.bZ=0:=by simpa using h
  have pe3:gv a=wK a:=by rw [pe2,if_neg (by simpa using hout)]
  refine Ok.bif (fun h=>?_) (fun h=>?_)
  · have h:2000<a.bZ.length+ (a.aJ.map List.length).sum:=by have:=of_decide_eq_true h;omega
    exact pe 2 (by omega) (by rw [pe3];unfold wK;rw [if_pos h])
  have hmany: ¬2000<a.bZ.length+ (a.aJ.map List.length).sum:=by have:=of_decide_eq_false h;omega
  have hbs:=hs.bs
  have hls:=hs.ls
  refine Ok.eq (sT (by omega) (by omega) (by omega)) ?_
  refine Ok.bif (fun h=>?_) (fun h=>?_)
  · have h:i7 a≠0:=by simpa using h
    exact pe _ h (by rw [pe3];unfold wK;rw [if_neg hmany,if_pos h])
  have hbo:i7 a=0:=by simpa using h
  refine Ok.eq (sU (by omega) (by omega) hs.nm (by omega)) ?_
  refine Ok.bif (fun h=>?_) (fun h=>?_)
  · have h:ku a≠0:=by simpa using h
    exact pe _ h (by rw [pe3];unfold wK;rw [if_neg hmany,if_neg (by simpa using hbo),if_pos h])
  have hla:ku a=0:=by simpa using h
  have hg:jZ a:=⟨by omega,hreg,hout,by omega,hbo,hla⟩
  have pe4:gv a=if sw a then 12 else 0:=by rw [pe3];unfold wK;rw [if_neg hmany,if_neg (by simpa using hbo),if_neg (by simpa using hla)]
  refine Ok.bind (Ok.mx (Go:=fun _:Unit=>¬sw a) (Rt:=fun x:Option sA×Int=>x= (none,12)∧sw a)
    (fun(k:Nat) (_:Unit)=>∀(i j:Nat) (x y:bB),i<k→j<i→a.aK[i]? =some x→a.aK[j]? =some y→¬qE x y=true) (by omega) (fun i j x y h=>by omega) (fun k s hk hI=>?_) (fun s hI=>?_)) ?_
  · have hkx:a.aK[k]? =some a.aK[k]:=List.getElem?_eq_getElem hk
    refine Ok.ix hkx (Ok.eq (oW _ k (by omega)) ?_)
    have hgk:=hg.gb.ok _ (List.getElem_mem hk)
    refine Ok.bind (Ok.mx (Go:=fun _:Unit=>∀(j:Nat) (y:bB),j<k→a.aK[j]? =some y→¬qE a.aK[k] y=true) (Rt:=fun x:Option sA×Int=>x= (none,12)∧sw a)
      (fun(t:Nat) (_:Unit)=>∀(j:Nat) (y:bB),j<t→a.aK[j]? =some y→¬qE a.aK[k] y=true) (by rw [List.length_take];omega) (fun j y h=>by omega) (fun t s ht hI2=>?_) (fun s hI2 j y hj hy=>hI2 j y (by rw [List.length_take];omega) hy)) ?_
    · have htk:t<k:=by rw [List.length_take] at ht;omega
      have htx: (a.aK.take k)[t]? =some a.aK[t]:=by rw [List.getElem?_take_of_lt htk];exact List.getElem?_eq_getElem (by omega)
      have hgt:=hg.gb.ok _ (List.getElem_mem (show t<a.aK.length by omega))
      refine Ok.ix htx ?_
      refine Ok.eq (x:=qE a.aK[k] a.aK[t]) ?_ ?_
      · unfold qE
        cases hc: (decide (a.aK[k].bN≤a.aK[t].To)&&decide (a.aK[t].bN≤a.aK[k].To)) with
        | false=>rfl
        | true=>
          obtain⟨n,n1,n2⟩:=BI (N:=N) hgk.2 hgt.2
          rw [cond_true,iM hgk.1,aB,iM hgt.1,aB,n1,aB,Bool.true_and]
          congr 1
          rw [Bool.eq_iff_iff,beq_iff_eq];exact n2
      · refine Ok.bif (fun h=>Ok.rt ⟨rfl,k,t,_,_,htk,hkx,List.getElem?_eq_getElem (by omega),h⟩) (fun h=>Ok.nx fun j y hj hy=>?_)
        by_cases e:j<t
        · exact hI2 j y e hy
        · have:j=t:=by omega
          subst this
          rw [List.getElem?_eq_getElem (by omega)] at hy;injection hy with hy
          rw [←hy,h];simp
    · intro o ho
      refine Ok.cs ho (fun s hI2=>Ok.nx fun i j x y hi hj hx hy=>?_) (fun x hx=>Ok.rt hx)
      by_cases e:i<k
      · exact hI i j x y e hj hx hy
      · have:i=k:=by omega
        subst this
        rw [hkx] at hx;injection hx with hx
        rw [←hx];exact hI2 j y hj hy
  · rintro⟨i,j,x,y,hj,hx,hy,hc⟩
    exact hI i j x y (List.getElem?_eq_some_iff.1 hx).1 hj hx hy hc
  intro o ho
  refine Ok.cs ho ?_ ?_
  rotate_left
  · rintro x ⟨rfl,hc⟩
    exact pe 12 (by omega) (by rw [pe4,if_pos hc])
  intro _ hncl
  have pe5:gv a=0:=by rw [pe4,if_neg hncl]
  refine Ok.bind (wH (N:=N) (by omega) hg.cs hg.gb hN) ?_
  rintro⟨okk,kL,pcs⟩ ⟨dZ,D,e1,e2⟩
  dsimp only at D e1 e2 ⊢
  subst e1
  refine Ok.bif (fun h=>Ok.ret (.inr ⟨pe5,hg,hncl,kL,dZ,D, .inl ⟨fun hf=>?_,rfl⟩⟩)) (fun h=>?_)
  · have:=e2.2 hf
    rw [this] at h;cases h
  · have hf:CW kL dZ:=e2.1 (by cases okk <;> simp_all)
    have hpr: ∀p∈pcsOf 0 dZ,p.fL.length≤1073741824:=fun p hp=>by
      obtain⟨i,r,s,ps,u,j,k,hP⟩:=vJ hg D hp
      have:=(hP.xk hg).2.2;omega
    have hf2:=hf.2
    refine Ok.eq (zI hg.gb (by omega) hpr) ?_
    refine Ok.bind (uv (N:=N) hg.gb (by omega) hpr (by omega) hN) ?_
    rintro⟨gs,ofP,ofB,lH,sX⟩ ⟨r,hC⟩
    exact Ok.ret (.inr ⟨pe5,hg,hncl,kL,dZ,D, .inr ⟨hf,r,gs,ofP,ofB,lH,sX,hC,rfl⟩⟩)
end
end Go.Gk
namespace Go.Gk
open Go Classical
section
variable {N:Nat}
theorem xq {w:Nat} {g:Nat→Nat} {a:Nat}: ∀{ks:List Nat},ks.Nodup→a∈ks→(ks.map (fun k=>(if a=k then w else 0)+g k)).sum=w+ (ks.map g).sum
  | [],_,h=>by cases h
  | k::ks,hn,h=>by
    have hn':=List.nodup_cons.1 hn
    simp only [List.map_cons,List.sum_cons]
    by_cases e:a=k
    · subst e
      rw [if_pos rfl]
      have:ks.map (fun k=>(if a=k then w else 0)+g k)=ks.map g:=List.map_congr_left fun x hx=>by
        rw [if_neg (fun e=>hn'.1 (by rw [e];exact hx)),Nat.zero_add]
      rw [this];omega
    · rw [if_neg e,xq hn'.2 (by rcases List.mem_cons.1 h with h | h;exact absurd h e;exact h)];omega
theorem pO {α:Type} {ks:List Nat} (hn:ks.Nodup) (f:α→Nat) (w:α→Nat): ∀{l:List α},(∀x∈l,f x∈ks)→(ks.map (fun k=>((l.filter (fun x=>decide (f x=k))).map w).sum)).sum= (l.map w).sum
  | [],_=>by
    have: ∀ks:List Nat,(ks.map (fun _=>0)).sum=0:=fun ks=>by
      induction ks with
      | nil=>rfl
      | cons k ks ih=>simp only [List.map_cons,List.sum_cons,ih]
    simpa using this ks
  | x::l,h=>by
    have ih:=pO hn f w (l:=l) fun y hy=>h y (List.mem_cons_of_mem _ hy)
    have: (ks.map (fun k=>(((x::l).filter (fun x=>decide (f x=k))).map w).sum))=ks.map (fun k=>(if f x=k then w x else 0)+ ((l.filter (fun x=>decide (f x=k))).map w).sum):=List.map_congr_left fun k _=>by
      rw [List.filter_cons]
      by_cases e:f x=k
      · rw [if_pos (by simpa using e),if_pos e,List.map_cons,List.sum_cons]
      · rw [if_neg (by simpa using e),if_neg e,Nat.zero_add]
    rw [this,xq hn (h x (by simp)),ih,List.map_cons,List.sum_cons]
theorem pP {α:Type} (p:α→Bool): ∀(l:List α),(l.map (fun x=>if p x=true then 1 else 0)).sum= (l.filter p).length
  | []=>rfl
  | x::l=>by
    rw [List.map_cons,List.sum_cons,pP p l,List.filter_cons]
    split <;> simp <;> omega
theorem qO {ks:List Nat} {p:Nat→Bool} {g:Nat→Nat} (h: ∀k∈ks,p k=false→g k=0): ((ks.filter p).map g).sum= (ks.map g).sum:=by
  induction ks with
  | nil=>rfl
  | cons k ks ih=>
    rw [List.filter_cons]
    have ih:=ih fun q hq=>h q (List.mem_cons_of_mem _ hq)
    cases e:p k with
    | true=>rw [if_pos rfl];simp [ih]
    | false=>
      rw [if_neg (by simp),ih]
      simp [h k (by simp) e]
theorem tA {n m:Nat} {tch:List (List Int)} {r:Nat→Nat} (hc:ye n m tch r): ∀x∈List.range (n+m),r x∈bE (n+m) r:=fun x hx=>by
  have hx:=List.mem_range.1 hx
  exact eY.2 ⟨by have:=hc.le x hx;omega,hc.rr x hx⟩
theorem wL {bs:List bB} {n m:Nat} {tch:List (List Int)} {r:Nat→Nat} (hc:ye n m tch r): ((live bs n (n+m) r (bE (n+m) r)).map (fun h=>(gP n (cls (n+m) r h)).length)).sum=n:=by
  unfold live
  rw [qO (fun h _ hne=>by
    unfold xm at hne
    have:=of_decide_eq_false hne
    omega)]
  have e: (fun h=>(gP n (cls (n+m) r h)).length)=fun h=>(((List.range (n+m)).filter (fun x=>decide (r x=h))).map (fun x=>if decide (x<n)=true then 1 else 0)).sum:=by
    funext h;rw [pP];rfl
  rw [e,pO (ga _ _) r _ (tA hc),pP]
  have: ∀m,((List.range (n+m)).filter (fun x=>decide (x<n))).length=n:=by
    intro m
    induction m with
    | zero=>
      have: (List.range (n+0)).filter (fun x=>decide (x<n))=List.range n:=List.filter_eq_self.2 fun x hx=>by have:=List.mem_range.1 hx;simp;omega
      rw [this,List.length_range]
    | succ m ih=>
      rw [←Nat.add_assoc,List.range_succ,List.filter_append,List.length_append,ih]
      simp
  exact this m
theorem yk {bs:List bB} {n m:Nat} {tch:List (List Int)} {r:Nat→Nat} (hm:bs.length=m) (hc:ye n m tch r): ((live bs n (n+m) r (bE (n+m) r)).map (fun h=>(gB bs n (cls (n+m) r h)).length)).sum= (bs.filter (fun b=>b.bP)).length:=by
  unfold live
  rw [qO (fun h _ hne=>by
    unfold xm at hne
    have:=of_decide_eq_false hne
    omega)]
  have e: (fun h=>(gB bs n (cls (n+m) r h)).length)=fun h=>(((List.range (n+m)).filter (fun x=>decide (r x=h))).map (fun x=>if (!decide (x<n)&&oF bs (x - n))=true then 1 else 0)).sum:=by
    funext h;rw [pP];unfold gB;rw [List.length_map];rfl
  rw [e,pO (ga _ _) r _ (tA hc),pP]
  have: ∀k,k≤m→((List.range (n+k)).filter (fun x=> !decide (x<n)&&oF bs (x - n))).length= ((bs.take k).filter (fun b=>b.bP)).length:=by
    intro k
    induction k with
    | zero=>
      intro _
      have: (List.range (n+0)).filter (fun x=> !decide (x<n)&&oF bs (x - n))= []:=List.filter_eq_nil_iff.2 fun x hx=>by have:=List.mem_range.1 hx;simp;omega
      rw [this];rfl
    | succ k ih=>
      intro hk
      have hkl:k<bs.length:=by omega
      rw [←Nat.add_assoc,List.range_succ,List.filter_append,List.length_append,ih (by omega),List.take_succ_eq_append_getElem hkl,List.filter_append,List.length_append]
      congr 1
      have:oF bs k=bs[k].bP:=by unfold oF;rw [List.getElem?_eq_getElem hkl];rfl
      rw [List.filter_cons,List.filter_cons]
      simp [this]
      split <;> rfl
  have h2:=this m (Nat.le_refl _)
  rw [←hm,List.take_length] at h2
  rw [←hm];exact h2
theorem CR {bs:List bB} {ls:List cE} {pcs:List aC} {r:Nat→Nat} (hc:ye pcs.length bs.length (ky bs pcs) r) {l:cE} {g:Nat} (h:sD bs pcs r l=some g):g< (jG bs pcs.length (pcs.length+bs.length) r (bE (pcs.length+bs.length) r)).length:=by
  unfold sD at h
  rw [Option.map_eq_some_iff] at h
  obtain⟨hp,hh,rfl⟩:=h
  obtain⟨q,q1,q2,q3⟩:=(zM hh).num
  have hix:lG pcs.length hp<pcs.length+bs.length∧xm bs pcs.length (cls (pcs.length+bs.length) r (r (lG pcs.length hp)))=true:=by
    unfold lG
    rw [q1,Int.toNat_natCast]
    cases hbo:hp.bB with
    | true=>
      obtain⟨q4,q5⟩:=q2 hbo
      rw [if_pos rfl]
      exact⟨by omega,A3 q5 (by omega)⟩
    | false=>
      have q4:=q3 hbo
      rw [if_neg (by simp)]
      exact⟨by omega,A2 q4 (by omega)⟩
  rw [lF]
  exact(A1 (eY.2 ⟨by have:=hc.le _ hix.1;omega,hc.rr _ hix.1⟩) hix.2).1
theorem yl {ls:List cE} {lg:cE→Option Nat} {G:Nat} (h: ∀l∈ls,∀g,lg l=some g→g<G): ((List.range G).map (fun g=>(ls.filter (fun l=>decide (lg l=some g))).length)).sum+ (ls.filter (fun l=>(lg l).isNone)).length=ls.length:=by
  have key:=pO (ks:=List.range (G+1)) List.nodup_range (fun l:cE=>(lg l).getD G) (fun _=>1) (l:=ls) (fun l hl=>by
    rw [List.mem_range]
    cases e:lg l with
    | none=>simp
    | some g=>have:=h l hl g e;simp;omega)
  have one: ∀l:List cE,(l.map (fun _=>1)).sum=l.length:=fun l=>by
    induction l with
    | nil=>rfl
    | cons x l ih=>simp only [List.map_cons,List.sum_cons,ih,List.length_cons];omega
  simp only [one] at key
  rw [List.range_succ,List.map_append,List.sum_append] at key
  simp only [List.map_cons,List.map_nil,List.sum_cons,List.sum_nil,Nat.add_zero] at key
  rw [←key]
  congr 1
  · congr 1
    refine List.map_congr_left fun g hg=>?_
    congr 1
    refine List.filter_congr fun l hl=>?_
    have hg:=List.mem_range.1 hg
    cases e:lg l with
    | none=>simp;omega
    | some q=>simp
  · congr 1
    refine List.filter_congr fun l hl=>?_
    cases e:lg l with
    | none=>simp
    | some q=>have:=h l hl q e;simp;omega
def xt (l:List aD):Int:=l.foldl (fun s x=>IntKind.wrap .i64 (s+ (IntKind.wrap .i64 ((IntKind.wrap .i64 (x.X1 - x.X0))* (IntKind.wrap .i64 (x.Y1 - x.Y0)))))) 0
theorem ym {l:List aD} (hl:l.length≤4611686018427387904):iV N l=some (xt l):=by
  refine Ok.get ?_
  unfold iV
  refine Ok.bind (Ok.gZ (fun k s=>s=xt (l.take k)) (by omega) rfl (fun k s hk e=>?_)) (fun s e=>Ok.ret (by rw [e,List.take_length]))
  subst e
  refine Ok.idx hk (Ok.ret ?_)
  unfold xt
  rw [List.take_succ_eq_append_getElem hk,List.foldl_append];rfl
def uw (s:List aA):bX:=match s with | b::_=>⟨b.Xs.headD 0,b.Y0⟩ | []=>⟨0,0⟩
theorem zR {s:List aA} (hc:cV (s.map bG)) (hne:s≠[]):gu N s=some (uw s):=by
  cases s with
  | nil=>exact absurd rfl hne
  | cons b t=>
    have hb:=(hc.each (bG b) (by simp)).2.1
    unfold gu uw
    rw [uh,aB]
    have hx:b.Xs≠[]:=hb
    cases hbx:b.Xs with
    | nil=>exact absurd hbx hx
    | cons x xs=>
      rw [uh,aB,aB]
      show some _=some (⟨b.Xs.headD 0,b.Y0⟩:bX)
      rw [hbx];rfl
theorem pN.ne {a:ju} {kL:List (List aA)} {dZ:List (List (List aA))} {p:aC} {i:Nat} {r:List aD} {s:List aA} {ps:List (List aA)} {u:Nat→Nat} {j k:Nat} (h:pN a kL dZ p i r s ps u j k):p.Set≠[]:=by
  intro e
  have hh:=eY.1 (List.mem_of_getElem? h.head)
  have hx: (aM s)[k]? =some (aM s)[k]:=List.getElem?_eq_getElem hh.1
  have hm: (aM s)[k]∈jF (aM s) (aM s).length u k:=pz.2 ⟨k,hh.1,hh.2,hx⟩
  obtain⟨b,hb,q,hq,hr⟩:=tt (List.mem_of_getElem? hx)
  have hbm:bG b∈s.map bG:=List.mem_map.2 ⟨b,hb,rfl⟩
  have hq1:=zv (h.dr.can.each _ hbm).2.2.1 q hq
  have hb1:=(h.dr.can.each _ hbm).1
  have hc:=h.set.cover q.1 b.Y0
  rw [e] at hc
  have:z5 (jF (aM s) (aM s).length u k) q.1 b.Y0=true:=pr.2 ⟨_,hm,by rw [hr];exact⟨⟨Int.le_refl _,hq1⟩,Int.le_refl _,hb1⟩⟩
  rw [this] at hc
  cases hc
def toldOf (pcs:List aC):List Piece:=pcs.map fun p=>⟨p.bH,uw p.Set,xt p.fL⟩
structure zS (a:ju) (kL:List (List aA)) (dZ:List (List (List aA))) (r:Nat→Nat) (gs:List aX) (ofP ofB lH:List Int) (sX:List fZ):Prop where
  BJ:jZ a
  ET: ¬sw a
  dr:qC a.aJ a.aK a.aJ.length kL dZ
  BH:CW kL dZ
  ES:wJ a.aK a.aR (pcsOf 0 dZ) r gs ofP ofB lH sX
inductive BK (N:Nat) (a:ju):Prop
  | err (e:Int) (he:e≠0) (h:dL N a=some (none,e))
  | ok {kL:List (List aA)} {dZ:List (List (List aA))} {r:Nat→Nat} {gs:List aX} {ofP ofB lH:List Int} {sX:List fZ} (b:zS a kL dZ r gs ofP ofB lH sX)
    (h:dL N a=some (some (a.aJ,a.bZ,a.aK,a.aR,kL,pcsOf 0 dZ,ky a.aK (pcsOf 0 dZ),gs,ofP,ofB,lH,sX),0))
theorem opened {a:ju} (hs:sB a) (hN:4398046511104≤N):BK N a:=by
  obtain⟨x,hx,hI⟩:=yj (N:=N) hs hN
  rcases hI with ⟨he,rfl⟩ | ⟨_,hg,hcl,kL,dZ,D,⟨_,rfl⟩ | ⟨hf,r,gs,ofP,ofB,lH,sX,hC,rfl⟩⟩
  · exact .err _ he hx
  · exact .err 2 (by omega) hx
  · exact .ok ⟨hg,hcl,D,hf,hC⟩ hx
theorem yn {a:ju} {kL:List (List aA)} {dZ:List (List (List aA))} {r:Nat→Nat} {gs:List aX} {ofP ofB lH:List Int} {sX:List fZ} (b:zS a kL dZ r gs ofP ofB lH sX)
    (h:dL N a=some (some (a.aJ,a.bZ,a.aK,a.aR,kL,pcsOf 0 dZ,ky a.aK (pcsOf 0 dZ),gs,ofP,ofB,lH,sX),0)):iq N a=some (toldOf (pcsOf 0 dZ),0):=by
  refine Ok.get ?_
  unfold iq
  refine Ok.eq h ?_
  have hf:=b.BH.2
  show Ok ((gZ (pcsOf 0 dZ).length _ []).bind _) _
  refine Ok.bind (Ok.gZ (fun k s=>s=toldOf ((pcsOf 0 dZ).take k)) (by omega) rfl (fun k s hk e=>?_)) (fun s e=>Ok.ret (by rw [e,List.take_length]))
  subst e
  have hkx: (pcsOf 0 dZ)[k]? =some (pcsOf 0 dZ)[k]:=List.getElem?_eq_getElem hk
  obtain⟨i,r',s,ps,u,j,k',hP⟩:=vJ b.BJ b.dr (List.getElem_mem hk)
  have hsz:=hP.xk b.BJ
  refine Ok.ix hkx (Ok.eq (zR hP.set.can hP.ne) (Ok.eq (ym (by omega)) (Ok.app (by unfold toldOf;simp;omega) (Ok.ret ?_))))
  unfold toldOf
  rw [List.take_succ_eq_append_getElem hk,List.map_append];rfl
theorem yo {a:ju} {kL:List (List aA)} {dZ:List (List (List aA))} {gs:List aX} {ofP ofB lH:List Int} {sX:List fZ}
    (h:dL N a=some (some (a.aJ,a.bZ,a.aK,a.aR,kL,pcsOf 0 dZ,ky a.aK (pcsOf 0 dZ),gs,ofP,ofB,lH,sX),0)):fI N a=some (gs,0):=by
  unfold fI;rw [h];rfl
theorem wM {a:ju} {e:Int} (he:e≠0) (h:dL N a=some (none,e)):fI N a=some ([],e):=by
  unfold fI
  rw [h,aB]
  show (bif (e != 0) then _ else _)=_
  rw [show (e != 0)=true by simpa using he];rfl
def madeOf (gs:List aX) (ls:List cE) (lH:List Int):List (List dC):=(gs.filter (fun g=>decide (0<g.cB.length))).map aX.cB++(ls.zip lH).filterMap (fun x=>if x.2<0 then some [kr x.1] else none)
theorem AO {a:ju} {kL:List (List aA)} {dZ:List (List (List aA))} {gs:List aX} {ofP ofB lH:List Int} {sX:List fZ} (hg:gs.length≤1073741824) (hl:a.aR.length≤1073741824) (hof:lH.length=a.aR.length)
    (h:dL N a=some (some (a.aJ,a.bZ,a.aK,a.aR,kL,pcsOf 0 dZ,ky a.aK (pcsOf 0 dZ),gs,ofP,ofB,lH,sX),0)):jw N a=some (madeOf gs a.aR lH,0):=by
  refine Ok.get ?_
  unfold jw
  refine Ok.eq h ?_
  show Ok ((gZ gs.length _ []).bind _) _
  dsimp only
  have hfl:=List.length_filter_le (fun g:aX=>decide (0<g.cB.length)) gs
  refine Ok.bind (P:=fun s=>s= (gs.filter (fun g=>decide (0<g.cB.length))).map aX.cB) (Ok.mono (Ok.gZ (fun k s=>s= ((gs.take k).filter (fun g=>decide (0<g.cB.length))).map aX.cB) (by omega) rfl (fun k s hk e=>?_)) (fun s e=>by rw [e,List.take_length])) ?_
  · subst e
    have hf2:=List.length_filter_le (fun g:aX=>decide (0<g.cB.length)) (gs.take k)
    rw [List.length_take] at hf2
    refine Ok.idx hk ?_
    rw [List.take_succ_eq_append_getElem hk,List.filter_append,List.map_append]
    by_cases hp:0<gs[k].cB.length
    · refine Ok.eq (x:=((gs.take k).filter (fun g=>decide (0<g.cB.length))).map aX.cB++[gs[k].cB]) ?_ (Ok.ret ?_)
      · rw [decide_eq_true (by omega),cond_true,eR (by simp;omega),aB]
      · simp [hp]
    · refine Ok.eq (x:=((gs.take k).filter (fun g=>decide (0<g.cB.length))).map aX.cB) ?_ (Ok.ret ?_)
      · rw [decide_eq_false (by omega),cond_false]
      · have:gs[k].cB= []:=List.eq_nil_of_length_eq_zero (by omega)
        simp [this]
  rintro s rfl
  show Ok ((gZ a.aR.length _ _).bind _) _
  refine Ok.bind (Ok.gZ (fun k s=>s= (gs.filter (fun g=>decide (0<g.cB.length))).map aX.cB++((a.aR.zip lH).take k).filterMap (fun x=>if x.2<0 then some [kr x.1] else none)) (by omega) (by simp) (fun k s hk e=>?_)) (fun s e=>Ok.ret ?_)
  · subst e
    have hz:k< (a.aR.zip lH).length:=by rw [List.length_zip];omega
    have hf2:=List.length_filterMap_le (fun x:cE×Int=>if x.2<0 then some [kr x.1] else none) ((a.aR.zip lH).take k)
    rw [List.length_take,List.length_zip] at hf2
    refine Ok.idx hk ?_
    refine Ok.idx (by omega) ?_
    rw [List.take_succ_eq_append_getElem hz,List.filterMap_append,←List.append_assoc,List.getElem_zip]
    by_cases hp:lH[k]'(by omega)<0
    · refine Ok.eq (x:=(gs.filter (fun g=>decide (0<g.cB.length))).map aX.cB++((a.aR.zip lH).take k).filterMap (fun x=>if x.2<0 then some [kr x.1] else none)++[[kr a.aR[k]]]) ?_ (Ok.ret ?_)
      · rw [decide_eq_true hp,cond_true,ny,aB,eR (by simp;omega),aB]
      · simp [hp]
    · refine Ok.eq (x:=(gs.filter (fun g=>decide (0<g.cB.length))).map aX.cB++((a.aR.zip lH).take k).filterMap (fun x=>if x.2<0 then some [kr x.1] else none)) ?_ (Ok.ret ?_)
      · rw [decide_eq_false hp,cond_false]
      · simp [hp]
  · rw [e,List.take_of_length_le (by rw [List.length_zip];omega)];rfl
end
end Go.Gk
namespace Go.Gk
open Go Classical
section
variable {N:Nat}
theorem ux {l:List Int} {a:Int} (hl:l.length≤4611686018427387904):fM N l a=some (decide (a∈l)):=by
  have:=t6 (l:=l) (a:=a) hl
  rw [show (decide (a∈l)) = @decide (a∈l) (List.instDecidableMemOfLawfulBEq a l) from decide_eq_decide.2 Iff.rfl]
  exact this
theorem sC {x:Nat}: ∀{l:List Nat},x∈l→x≤l.sum
  | y::l,h=>by
    rw [List.sum_cons]
    rcases List.mem_cons.1 h with rfl | h
    · omega
    · have:=sC h;omega
theorem m9 (l:List Nat) (k:Nat): (l.take k).sum≤l.sum:=by
  conv=>rhs;rw [←List.take_append_drop k l,List.sum_append]
  omega
theorem gC {l:List Nat} {k:Nat} (h:k<l.length): (l.take (k+1)).sum= (l.take k).sum+l[k]:=by
  rw [List.take_succ_eq_append_getElem h,List.sum_append];simp
theorem pQ {β:Type} (gs:List aX) (lg:cE→Option Nat) (ls:List cE) (f:List Int→List Int→β): (eU gs lg ls).map (fun g=>f g.bY g.aK)=gs.map (fun g=>f g.bY g.aK):=by
  apply List.ext_getElem?
  intro i
  rw [List.getElem?_map,List.getElem?_map,eE]
  cases gs[i]? <;> rfl
theorem zT (hN:16≤N):cU N=some true:=by
  have:=x5 (N:=N - 16)
  rwa [show N - 16+16=N by omega] at this
theorem mu {a:ju} (ha:bk a≤1048576) (hN:4398046511104≤N):cM N a=some true:=by
  have hs:=vK ha
  refine Ok.get ?_
  unfold cM
  rcases opened (N:=N) hs hN with ⟨e,he,h⟩ | ⟨b,h⟩
  · refine Ok.eq (wM he h) ?_
    show Ok (bif (e != 0) then _ else _) _
    rw [show (e != 0)=true by simpa using he,cond_true]
    exact Ok.eq (x:=true) (by rw [zT (by omega)];rfl) (Ok.ret rfl)
  · rename_i kL dZ r gs ofP ofB lH sX
    have hC:=b.ES
    have hpl: (pcsOf 0 dZ).length≤2000:=b.BH.2
    have hbl:a.aK.length≤500:=b.BJ.gb.len
    have hll:=hs.ls
    have hgs:gs.length= (jG a.aK (pcsOf 0 dZ).length ((pcsOf 0 dZ).length+a.aK.length) r (bE ((pcsOf 0 dZ).length+a.aK.length) r)).length:=by rw [hC.gs,pM]
    have hgl:gs.length≤2500:=by
      rw [hgs,lF]
      have:=lZ a.aK (pcsOf 0 dZ).length ((pcsOf 0 dZ).length+a.aK.length) r (bE ((pcsOf 0 dZ).length+a.aK.length) r)
      have:=jo ((pcsOf 0 dZ).length+a.aK.length) r
      omega
    have hgp:gs.map (fun g=>g.bY.length)= (live a.aK (pcsOf 0 dZ).length ((pcsOf 0 dZ).length+a.aK.length) r (bE ((pcsOf 0 dZ).length+a.aK.length) r)).map (fun h=>(gP (pcsOf 0 dZ).length (cls ((pcsOf 0 dZ).length+a.aK.length) r h)).length):=by
      rw [hC.gs]
      have:=pQ (jG a.aK (pcsOf 0 dZ).length ((pcsOf 0 dZ).length+a.aK.length) r (bE ((pcsOf 0 dZ).length+a.aK.length) r)) (sD a.aK (pcsOf 0 dZ) r) a.aR (fun p _=>p.length)
      rw [this]
      unfold jG
      rw [List.map_map]
      exact List.map_congr_left fun h _=>by show (ints _).length=_;rw [i9]
    have hgb:gs.map (fun g=>g.aK.length)= (live a.aK (pcsOf 0 dZ).length ((pcsOf 0 dZ).length+a.aK.length) r (bE ((pcsOf 0 dZ).length+a.aK.length) r)).map (fun h=>(gB a.aK (pcsOf 0 dZ).length (cls ((pcsOf 0 dZ).length+a.aK.length) r h)).length):=by
      rw [hC.gs]
      have:=pQ (jG a.aK (pcsOf 0 dZ).length ((pcsOf 0 dZ).length+a.aK.length) r (bE ((pcsOf 0 dZ).length+a.aK.length) r)) (sD a.aK (pcsOf 0 dZ) r) a.aR (fun _ q=>q.length)
      rw [this]
      unfold jG
      rw [List.map_map]
      exact List.map_congr_left fun h _=>by show (ints _).length=_;rw [i9]
    have sp: (gs.map (fun g=>g.bY.length)).sum= (pcsOf 0 dZ).length:=by rw [hgp];exact wL hC.conn
    have sb: (gs.map (fun g=>g.aK.length)).sum= (a.aK.filter (fun b=>b.bP)).length:=by rw [hgb];exact yk rfl hC.conn
    have hdis: ∀(i k:Nat) (x y:aX),k≠i→gs[i]? =some x→gs[k]? =some y→∀c,c∈x.bY→c∉y.bY:=by
      intro i k x y hki hx hy c hcx hcy
      rw [hC.gs,eE,Option.map_eq_some_iff] at hx hy
      obtain⟨x',hx',rfl⟩:=hx
      obtain⟨y',hy',rfl⟩:=hy
      unfold jG at hx' hy'
      rw [List.getElem?_map,Option.map_eq_some_iff] at hx' hy'
      obtain⟨h1,g1,rfl⟩:=hx'
      obtain⟨h2,g2,rfl⟩:=hy'
      obtain⟨p,hp,rfl⟩:=sq.1 hcx
      obtain⟨q,hq,e⟩:=sq.1 hcy
      have:q=p:=by omega
      subst this
      have e1:=(kN.1 (List.mem_filter.1 hp).1).2
      have e2:=(kN.1 (List.mem_filter.1 hq).1).2
      have:h1=h2:=by omega
      subst this
      exact hki (qD (List.Nodup.sublist List.filter_sublist (ga _ _)) g2 g1)
    have hPl: ∀g∈gs,g.bY.length≤2000:=fun g hg=>by
      have:g.bY.length≤(gs.map (fun g=>g.bY.length)).sum:=sC (List.mem_map.2 ⟨g,hg,rfl⟩)
      omega
    have hofl:lH.length=a.aR.length:=by rw [hC.lH];simp
    refine Ok.eq (yo h) ?_
    show Ok (bif ((0:Int) != 0) then _ else _) _
    rw [show ((0:Int) != 0)=false by rfl,cond_false]
    refine Ok.eq (yn b h) (Ok.eq (AO (by omega) (by omega) hofl h) ?_)
    dsimp only
    rw [show (((0:Int) != 0)||((0:Int) != 0))=false by rfl,cond_false]
    have hmp: (gs.map (fun g=>g.bY.length)).length=gs.length:=by simp
    have hmb: (gs.map (fun g=>g.aK.length)).length=gs.length:=by simp
    refine Ok.bind (Ok.itr (Go:=fun s=>s.1= (((pcsOf 0 dZ).length:Nat):Int)∧s.2.1= (((a.aK.filter (fun b=>b.bP)).length:Nat):Int)) (Rt:=fun _=>False)
      (fun s=>∃i:Nat,s.2.2= ((i:Nat):Int)∧i≤gs.length∧s.1= ((((gs.map (fun g=>g.bY.length)).take i).sum:Nat):Int)∧s.2.1= ((((gs.map (fun g=>g.aK.length)).take i).sum:Nat):Int)) (fun s=>gs.length - s.2.2.toNat) ?_ ⟨0,rfl,by omega,rfl,rfl⟩ (by simp;omega)) ?_
    · rintro⟨p,q,ii⟩ ⟨i,e1,hi,e2,e3⟩
      dsimp only at e1 e2 e3 ⊢
      subst e1;subst e2;subst e3
      refine Ok.bif (fun hlt=>?_) (fun hlt=>Ok.br ?_)
      · have hil:i<gs.length:=by have:=of_decide_eq_true hlt;omega
        have hix:gs[i]? =some gs[i]:=List.getElem?_eq_getElem hil
        have hPi:=hPl _ (List.getElem_mem hil)
        refine Ok.ix hix (Ok.ix hix ?_)
        refine Ok.bind (Ok.itr (Go:=fun _=>True) (Rt:=fun _=>False) (fun s=>∃k:Nat,s= ((k:Nat):Int)∧k≤i) (fun s=>i - s.toNat) ?_ ⟨0,rfl,by omega⟩ (by simp;omega)) ?_
        · rintro s ⟨k,rfl,hk⟩
          refine Ok.bif (fun hlt=>?_) (fun _=>Ok.br trivial)
          have hki:k<i:=by have:=of_decide_eq_true hlt;omega
          have hkx:gs[k]? =some gs[k]:=List.getElem?_eq_getElem (by omega)
          refine Ok.bind (Ok.itr (Go:=fun _=>True) (Rt:=fun _=>False) (fun s=>∃j:Nat,s= ((j:Nat):Int)) (fun s=>gs[i].bY.length - s.toNat) ?_ ⟨0,rfl⟩ (by simp;omega)) ?_
          · rintro s ⟨j,rfl⟩
            refine Ok.ix hix (Ok.bif (fun hlt=>?_) (fun _=>Ok.br trivial))
            have hj:j<gs[i].bY.length:=by have:=of_decide_eq_true hlt;omega
            have hPk:=hPl _ (List.getElem_mem (show k<gs.length by omega))
            refine Ok.ix hkx (Ok.ix hix (Ok.idx hj (Ok.eq (ux (by omega)) ?_)))
            have hno:=hdis i k _ _ (by omega) hix hkx _ (List.getElem_mem hj)
            rw [decide_eq_false hno,cond_false,dN (by omega)]
            exact Ok.nx ⟨⟨j+1,rfl⟩,by simp only [Int.toNat_natCast];omega⟩
          · intro o ho
            refine Ok.cs ho (fun _ _=>?_) (fun r hr=>hr.elim)
            rw [dN (by omega)]
            exact Ok.nx ⟨⟨k+1,rfl,by omega⟩,by simp only [Int.toNat_natCast];omega⟩
        · intro o ho
          refine Ok.cs ho (fun _ _=>?_) (fun r hr=>hr.elim)
          have t1:=m9 (gs.map (fun g=>g.bY.length)) (i+1)
          have t2:=m9 (gs.map (fun g=>g.aK.length)) (i+1)
          have hfl:=List.length_filter_le (fun b:bB=>b.bP) a.aK
          rw [gC (by omega),List.getElem_map,sp] at t1
          rw [gC (by omega),List.getElem_map,sb] at t2
          rw [wrap_add (by omega),wrap_add (by omega),dN (by omega)]
          refine Ok.nx ⟨⟨i+1,rfl,by omega,?_,?_⟩,by simp only [Int.toNat_natCast];omega⟩
          · rw [gC (by omega),List.getElem_map]
          · rw [gC (by omega),List.getElem_map]
      · have:i=gs.length:=by have:=of_decide_eq_false hlt;omega
        subst this
        rw [List.take_of_length_le (by omega),List.take_of_length_le (by omega),sp,sb]
        exact⟨rfl,rfl⟩
    intro o ho
    refine Ok.cs ho ?_ (fun r hr=>hr.elim)
    rintro⟨p,q,ii⟩ ⟨e1,e2⟩
    dsimp only at e1 e2 ⊢
    subst e1;subst e2
    refine Ok.bind (Ok.itr (Go:=fun s=>s.1= (((a.aK.filter (fun b=>b.bP)).length:Nat):Int)) (Rt:=fun _=>False)
      (fun s=>∃i:Nat,s.2= ((i:Nat):Int)∧i≤a.aK.length∧s.1= ((((a.aK.take i).filter (fun b=>b.bP)).length:Nat):Int)) (fun s=>a.aK.length - s.2.toNat) ?_ ⟨0,rfl,by omega,rfl⟩ (by simp;omega)) ?_
    · rintro⟨p,ii⟩ ⟨i,e1,hi,e2⟩
      dsimp only at e1 e2 ⊢
      subst e1;subst e2
      refine Ok.bif (fun hlt=>?_) (fun hlt=>Ok.br ?_)
      · have hil:i<a.aK.length:=by have:=of_decide_eq_true hlt;omega
        have hfl:=List.length_filter_le (fun b:bB=>b.bP) (a.aK.take i)
        rw [List.length_take] at hfl
        refine Ok.idx hil ?_
        rw [dN (by omega)]
        refine Ok.eq (x:=((((a.aK.take (i+1)).filter (fun b=>b.bP)).length:Nat):Int)) ?_ (Ok.nx ⟨⟨i+1,by rw [dN (by omega)],by omega,rfl⟩,by rw [dN (by omega)];simp only [Int.toNat_natCast];omega⟩)
        rw [List.take_succ_eq_append_getElem hil,List.filter_append,List.length_append]
        cases hp:a.aK[i].bP <;> simp [hp]
      · have:i=a.aK.length:=by have:=of_decide_eq_false hlt;omega
        subst this
        rw [List.take_length]
    intro o ho
    refine Ok.cs ho ?_ (fun r hr=>hr.elim)
    rintro⟨p,ii⟩ e1
    dsimp only at e1 ⊢
    subst e1
    have hlg: ∀l∈a.aR,∀g,sD a.aK (pcsOf 0 dZ) r l=some g→g<gs.length:=fun l _ g hg=>by rw [hgs];exact CR (ls:=a.aR) hC.conn hg
    have hmade: ((madeOf gs a.aR lH).map List.length).sum=a.aR.length:=by
      unfold madeOf
      rw [List.map_append,List.sum_append,List.map_map]
      have e1: ((gs.filter (fun g=>decide (0<g.cB.length))).map (List.length∘aX.cB)).sum= ((List.range gs.length).map (fun g=>(a.aR.filter (fun l=>decide (sD a.aK (pcsOf 0 dZ) r l=some g))).length)).sum:=by
        have f1: ∀gs:List aX,((gs.filter (fun g=>decide (0<g.cB.length))).map (List.length∘aX.cB)).sum= (gs.map (fun g=>g.cB.length)).sum:=fun gs=>by
          induction gs with
          | nil=>rfl
          | cons g gs ih=>
            rw [List.filter_cons]
            split
            · rw [List.map_cons,List.sum_cons,ih];rfl
            · rename_i hz
              rw [ih,List.map_cons,List.sum_cons]
              have:g.cB.length=0:=by simp at hz;simp [hz]
              omega
        rw [f1]
        congr 1
        apply List.ext_getElem?
        intro i
        rw [List.getElem?_map,List.getElem?_map]
        by_cases hi:i<gs.length
        · have hix:gs[i]? =some gs[i]:=List.getElem?_eq_getElem hi
          rw [hix,List.getElem?_range hi]
          have hpi: ∀x,gs[i]? =some x→x.cB= (a.aR.filter (fun l=>decide (sD a.aK (pcsOf 0 dZ) r l=some i))).map kr:=fun x hx=>by
            rw [hC.gs,eE,Option.map_eq_some_iff] at hx
            obtain⟨y,_,rfl⟩:=hx
            rfl
          have h2:=hpi _ hix
          show some gs[i].cB.length=some _
          rw [h2,List.length_map]
        · rw [List.getElem?_eq_none (by omega),List.getElem?_eq_none (by simp;omega)];rfl
      have e2: (((a.aR.zip lH).filterMap (fun x=>if x.2<0 then some [kr x.1] else none)).map List.length).sum= (a.aR.filter (fun l=>(sD a.aK (pcsOf 0 dZ) r l).isNone)).length:=by
        rw [hC.lH]
        have f2: ∀ls:List cE,(((ls.zip (ls.map (zN a.aK (pcsOf 0 dZ) r))).filterMap (fun x=>if x.2<0 then some [kr x.1] else none)).map List.length).sum= (ls.filter (fun l=>(sD a.aK (pcsOf 0 dZ) r l).isNone)).length:=fun ls=>by
          induction ls with
          | nil=>rfl
          | cons l ls ih=>
            rw [List.map_cons,List.zip_cons_cons,List.filter_cons]
            cases hl:sD a.aK (pcsOf 0 dZ) r l with
            | none=>
              have:zN a.aK (pcsOf 0 dZ) r l = -1:=by unfold zN;rw [hl]
              rw [this,List.filterMap_cons_some (f:=fun x:cE×Int=>if x.2<0 then some [kr x.1] else none) (a:=(l,-1)) (b:=[kr l]) rfl,List.map_cons,List.sum_cons,ih]
              simp only [Option.isNone,if_true,List.length_cons,List.length_nil]
              omega
            | some g=>
              have:zN a.aK (pcsOf 0 dZ) r l= ((g:Nat):Int):=by unfold zN;rw [hl]
              rw [this,List.filterMap_cons_none (f:=fun x:cE×Int=>if x.2<0 then some [kr x.1] else none) (a:=(l,((g:Nat):Int))) (by show (if ((g:Nat):Int)<0 then _ else _)=_;rw [if_neg (by omega)]),ih]
              rfl
        exact f2 a.aR
      rw [e1,e2]
      exact yl hlg
    have hml: (madeOf gs a.aR lH).length≤gs.length+a.aR.length:=by
      unfold madeOf
      have g1:=List.length_filter_le (fun g:aX=>decide (0<g.cB.length)) gs
      have g2:=List.length_filterMap_le (fun x:cE×Int=>if x.2<0 then some [kr x.1] else none) (a.aR.zip lH)
      rw [List.length_zip] at g2
      rw [List.length_append,List.length_map];omega
    have hmm: ((madeOf gs a.aR lH).map List.length).length= (madeOf gs a.aR lH).length:=by simp
    generalize madeOf gs a.aR lH=made at *
    refine Ok.bind (Ok.itr (Go:=fun s=>s.1= ((a.aR.length:Nat):Int)) (Rt:=fun _=>False)
      (fun s=>∃i:Nat,s.2= ((i:Nat):Int)∧i≤made.length∧s.1= ((((made.map List.length).take i).sum:Nat):Int)) (fun s=>made.length - s.2.toNat) ?_ ⟨0,rfl,by omega,rfl⟩ (by simp;omega)) ?_
    · rintro⟨p,ii⟩ ⟨i,e1,hi,e2⟩
      dsimp only at e1 e2 ⊢
      subst e1;subst e2
      refine Ok.bif (fun hlt=>?_) (fun hlt=>Ok.br ?_)
      · have hil:i<made.length:=by have:=of_decide_eq_true hlt;omega
        have t1:=m9 (made.map List.length) (i+1)
        rw [gC (by omega),List.getElem_map,hmade] at t1
        refine Ok.idx hil ?_
        rw [wrap_add (by omega),dN (by omega)]
        refine Ok.nx ⟨⟨i+1,rfl,by omega,?_⟩,by simp only [Int.toNat_natCast];omega⟩
        rw [gC (by omega),List.getElem_map]
      · have:i=made.length:=by have:=of_decide_eq_false hlt;omega
        subst this
        rw [List.take_of_length_le (by omega),hmade]
    intro o ho
    refine Ok.cs ho ?_ (fun r hr=>hr.elim)
    rintro⟨p,ii⟩ e1
    dsimp only at e1 ⊢
    subst e1
    have htl: (toldOf (pcsOf 0 dZ)).length= (pcsOf 0 dZ).length:=by unfold toldOf;simp
    rw [htl]
    refine Ok.eq (x:=true) ?_ (Ok.ret rfl)
    simp only [BEq.rfl,Bool.and_self,cond_true]
    rw [zT (by omega)];rfl
end
end Go.Gk
