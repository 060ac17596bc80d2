/-
  Helping texts on the memory of the model. No statement of the seed is proved here.
-/
import Derived.Test.YtfdnmjbbeolcdaaGreatDoorA1
import Derived.KernelRfl
import Derived.Laws.Pointers
import Derived.Shelf.SlSortCmp.NoneTotal
import Derived.Shelf.SortM.Plain
import Derived.Shelf.SortM.SortNone
import Derived.Lib.Overlaps
set_option linter.unusedVariables false
set_option linter.unusedSimpArgs false
set_option linter.unusedSectionVars false
namespace Go.Gk
open Go IntKind
def kz(o:cA)(U:Nat->bL)(v:bL):Nat->bL:=match o.dst with|some d=>cI U d v|none=>U
def rV(acc:Z Nat):Z Edge->Nat
 | []=>0
 |e::r=>bif Region.binds .any e then Nat.lor (Nat.lor (Nat.shiftLeft 1 e.on) (acc.getD e.on 0)) (rV acc r)else rV acc r
def wZ:Z cA->Z Nat->Z Nat
 | [],acc=>acc
 |o::l,acc=>wZ l (acc++[rV acc o.after.toList])
def w3(l:Z cA)(i:Nat)(rest:Z Nat):Bool:=(List.range l.length).all λk=>Nat.beq k i||(rest.any λq=>Nat.beq q k)||Nat.testBit ((wZ l []).getD i 0) k
section
variable {P:cR}{n:Nat}{l:Z cA}{mk:Z Nat}{Q:dg}{U:Nat->bL}{w:bM}{i:Nat}{rest:Z Nat}{o:cA}
def DP(P:cR)(n:Nat)(l:Z cA)(mk:Z Nat)(Q:dg):(bM->Prop)->Z Nat->(Nat->bL)->bM->Prop
 |_,[],U,w=>Q .normal U w
 |S,i::rest,U,w=>∃o,l[i]? =some o/\
  ((mk.getD i 0=0/\RL P n l.toArray [o] U w (λex σ' w'=>ex = .normal/\w'=w/\DP P n l mk Q S rest σ' w))\/
   (mk.getD i 0=1/\∃v,∃S1:bM->Prop,(∀w2,S1 w2->S w2)/\(S w->S1 w)/\(∀w',S1 w'->RL P n l.toArray [o] U w' (λex σ' w''=>ex = .normal/\w''=w'/\σ'=kz o U v))/\DP P n l mk Q S1 rest (kz o U v) w)\/
   (mk.getD i 0=2/\∃S1:bM->Prop,((∀w2,S1 w2->S w2)\/w3 l i rest=true)/\RL P n l.toArray [o] U w (λex σ' w'=>ex = .normal/\S1 w'/\DP P n l mk Q S1 rest σ' w'))\/
   (mk.getD i 0=3/\∃T q b m row e ag k,o.op = .load T q/\ev U q = .pointer (some ⟨b,m,none⟩)/\jP P T ag k/\m+k<=row.size/\m<row.size/\w.heap[b]? =some (.cells row e (0,0))/\
    RL P n l.toArray [o] U w (λex σ' w'=>ex = .normal/\w'=w/\DP P n l mk Q (λw2=>S w2/\w2.heap[b]? =some (.cells row e (0,0))) rest σ' w)))
section
variable {S:bM->Prop}
theorem Gj(ho:l[i]? =some o)(hm:mk.getD i 0=0)(h:RL P n l.toArray [o] U w (λex σ' w'=>ex = .normal/\w'=w/\DP P n l mk Q S rest σ' w)):DP P n l mk Q S (i::rest) U w:=⟨o,ho, .inl ⟨hm,h⟩⟩
theorem Gm(v:bL)(ho:l[i]? =some o)(h1:∀w',RL P n l.toArray [o] U w'<|λex σ' w''=>ex = .normal/\w''=w'/\σ'=kz o U v)(h:DP P n l mk Q S rest (kz o U v) w)(hm:mk.getD i 0=1:=by exact rfl):DP P n l mk Q S (i::rest) U w:=⟨o,ho, .inr<|.inl ⟨hm,v,S,λ_ h=>h,λh=>h,λw' _=>h1 w',h⟩⟩
theorem Ha(v:bL)(ho:l[i]? =some o)(h1:∀w',S w'->RL P n l.toArray [o] U w' (λex σ' w''=>ex = .normal/\w''=w'/\σ'=kz o U v))(h:DP P n l mk Q S rest (kz o U v) w)(hm:mk.getD i 0=1:=by exact rfl):DP P n l mk Q S (i::rest) U w:=⟨o,ho, .inr<|.inl ⟨hm,v,S,λ_ h=>h,λh=>h,h1,h⟩⟩
theorem IW(v:bL)(S1:bM->Prop)(hS:∀w2,S1 w2->S w2)(hS':S w->S1 w)(ho:l[i]? =some o)(hm:mk.getD i 0=1)(h1:∀w',S1 w'->RL P n l.toArray [o] U w' (λex σ' w''=>ex = .normal/\w''=w'/\σ'=kz o U v))(h:DP P n l mk Q S1 rest (kz o U v) w):DP P n l mk Q S (i::rest) U w:=⟨o,ho, .inr<|.inl ⟨hm,v,S1,hS,hS',h1,h⟩⟩
theorem GK(ho:l[i]? =some o)(hm:mk.getD i 0=2)(h:RL P n l.toArray [o] U w (λex σ' w'=>ex = .normal/\S w'/\DP P n l mk Q S rest σ' w')):DP P n l mk Q S (i::rest) U w:=⟨o,ho, .inr<|.inr<|.inl ⟨hm,S, .inl λ_ h=>h,h⟩⟩
theorem HM(ho:l[i]? =some o)(hm:mk.getD i 0=2)(h:RL P n l.toArray [o] U w (λex σ' w'=>ex = .normal/\True/\DP P n l mk Q (λ_=>True) rest σ' w'))(hk:w3 l i rest=true:=by kernel_rfl):DP P n l mk Q S (i::rest) U w:=⟨o,ho, .inr<|.inr<|.inl ⟨hm,λ_=>True, .inr hk,h⟩⟩
theorem GJ(h:Q .normal U w):DP P n l mk Q S [] U w:=by grind [DP]
theorem Gv{ops:bQ cA}(h:DP P n l mk Q S rest U w):RL P n ops [] U w (λex σ' w'=>ex = .normal/\w'=w/\DP P n l mk Q S rest σ' w):=by grind [s_]
theorem Gw{ops:bQ cA}(hS:S w)(h:DP P n l mk Q S rest U w):RL P n ops [] U w (λex σ' w'=>ex = .normal/\S w'/\DP P n l mk Q S rest σ' w'):=by grind [s_]
theorem Gi{ops:bQ cA}{σ0:Nat->bL}(h:U=σ0:=by exact rfl):RL P n ops [] U w (λex σ' w'=>ex = .normal/\w'=w/\σ'=σ0):=by grind [s_]
end
end
section
variable {P:cR}{n:Nat}{ops:bQ cA}{U:Nat->bL}{w:bM}{o:cA}
theorem uj{a:Act}{d:Nat}{C:(Nat->bL)->Prop}(hs:Sl n U a)(hk:nj o.op=true)(hd:o.dst=some d)(hdn:Nat.blt d n=true)
  (h:RL P n ops [o] U w (λex σ' w'=>ex = .normal/\w'=w/\C σ')):∃v,vd P ops w a o v/\C (cI U d v):=by
 have h1:=h a hs;unfold wpList at h1;split at h1
 ·rename_i hw
  rcases h1 with h1|⟨_,h1⟩
  ·unfold Oper.wp at h1
   cases hr:(execOp a.eval o).run P w with
   |ok nx w'=>
    rw[hr]at h1;obtain⟨v,rfl⟩:=vD hk hr;obtain⟨σ',hs',_,hw',hrest⟩:=h1;have hw':w'=w:=hw';subst hw';rw[hd]at hs';have:=hs'.uniq<|hs.put hdn v
    subst this;exact⟨v, .inl ⟨hw,hr⟩,hrest⟩
   |halt x w'=>
    rw[hr]at h1
    cases x with
    |panic v=>obtain⟨_,_,hbad,_⟩:=h1;cases hbad
    |_=>exact h1.elim
  ·obtain⟨_,_,_,_,hbad,_⟩:=h1;cases hbad
 ·rename_i hw;obtain⟨σ',hs',_,_,hrest⟩:=h1;rw[hd]at hs';have:=hs'.uniq<|hs.put hdn undef
  subst this;exact⟨undef, .inr ⟨by grind,rfl⟩,hrest⟩
end
theorem vI{P:cR}{w:bM}{b k:Nat}{row:bQ bL}{e:da}(h:w.heap[b]? =some (.cells row e (0,0)))(hk:k<row.size):(load ⟨b,k,none⟩).run P w = .ok row[k] w:=by
 have hc:w.cell? ⟨b,k,none⟩=some row[k]:=by rw[cell_of_row w b _ _ _ _ h];simp[hk]
 simp_all
theorem tx{P:cR}{b k:Nat}{row:bQ bL}{e:da}:∀(n i:Nat)(acc:bQ bL),k+i+n<=row.size->∃cs,∀w:bM,w.heap[b]? =some (.cells row e (0,0))->(loadCellsFrom ⟨b,k,none⟩ i n acc).run P w = .ok cs w
 | 0,i,acc,_=>⟨acc,λw _=>rfl⟩
 |n+1,i,acc,h=>by
  obtain⟨cs,hcs⟩:=tx (P:=P) (b:=b) (k:=k) (row:=row) (e:=e) n (i+1) (acc.push<|row[k+i]'(by omega)) (by omega);refine⟨cs,λw hw=>?_⟩;unfold loadCellsFrom;have hl:=vI (P:=P) (k:=k+i) hw (by omega);rw[aO,Addr.add_lit,hl];exact hcs w hw
theorem vJ{P:cR}{b k m:Nat}{row:bQ bL}{e T:da}{ag:Bool}(hT:jP P T ag m)(h1:k+m<=row.size)(h2:k<row.size):∃v,∀w:bM,w.heap[b]? =some (.cells row e (0,0))->(loadVar T ⟨b,k,none⟩).run P w = .ok v w:=by
 cases ag with
 |false=>
  refine⟨row[k],λw hw=>?_⟩;unfold loadVar;rw[aO,hT.C2];exact vI hw h2
 |true=>
  obtain⟨cs,hcs⟩:=tx (P:=P) (b:=b) (k:=k) (row:=row) (e:=e) m 0 #[] (by omega);refine⟨.agg cs,λw hw=>?_⟩;unfold loadVar;rw[aO,hT.C2];simp only[Result.andThen,if_true];rw[aO,hT.sz]
  simp_all[Result.andThen,aO,loadCells]
theorem Aa{P:cR}{ops:bQ cA}{w w2:bM}{a:Act}{n:Nat}{U:Nat->bL}{o:cA}{T e0:da}{q:bT}{b m k:Nat}{v:bL}{row:bQ bL}{ag:Bool}(hs:Sl n U a)(ho:o.op = .load T q)(hp:ev U q = .pointer (some ⟨b,m,none⟩))
  (hT:jP P T ag k) (h1:m+k<=row.size) (h2:m<row.size) (hw:w.heap[b]? =some (.cells row e0 (0,0))) (hw2:w2.heap[b]? =some (.cells row e0 (0,0))) (hst:vd P ops w a o v):vd P ops w2 a o v:=by
 rcases hst with⟨h3,h4⟩|h3
 ·refine .inl ⟨h3,?_⟩;obtain⟨dst,op,ty,pos,af,g⟩:=o;have ho:op = .load T q:=ho;subst ho;have e:∀w,(execOp a.eval ⟨dst, .load T q,ty,pos,af,g⟩).run P w=((loadVar T ⟨b,m,none⟩).run P w).andThen λv w=> .ok (.value v) w:=λw=>by
   simp only[execOp,hs.ev,hp,Instr.loadAt,Instr.sureAddr,aO,aS,aR]
  rw[e]at h4 ⊢;obtain⟨u,hu⟩:=vJ (b:=b) (e:=e0) hT h1 h2
  simp_all
 ·exact .inr h3
def g9(l:Z cA)(U:Nat->bL):Z Nat->Z bL->(Nat->bL)
 |i::is,v::vs=>g9 l (match l[i]? with|some o=>kz o U v|none=>U) is vs
 |_,_=>U
section
variable {l:Z cA}
theorem qQ(U:Nat->bL):∀(is js:Z Nat)(vs us:Z bL),vs.length=is.length->g9 l U (is++js) (vs++us)=g9 l (g9 l U is vs) js us
 | [],js,[],us,_=>rfl
 |i::is,js,v::vs,us,h=>by
  rw[List.cons_append,List.cons_append];unfold g9;rw[qQ _ is js vs us (by simpa using h)]
  cases js <;> cases us <;> rfl
 | [],_,_::_,_,h=>by cases h
 |_::_,_,[],_,h=>by cases h
theorem uk{o:cA}{U:Nat->bL}{v:bL}{t:Nat}(h:o.dst≠some t):kz o U v t=U t:=by
 unfold kz
 cases hd:o.dst with
 |none=>rfl
 |some d=>
  grind [cI,Nat.beq,c9]
theorem xT{o:cA}{U:Nat->bL}{v:bL}{t:Nat}(h:o.dst=some t):kz o U v t=v:=by
 simp_all[kz,cI,Nat.beq_refl]
theorem lQ{t:Nat}:∀(is:Z Nat)(vs:Z bL)(U:Nat->bL),(∀i∈is,∀o,l[i]? =some o->o.dst≠some t)->g9 l U is vs t=U t
 | [],_,U,_=>rfl
 |_::_,[],U,_=>rfl
 |i::is,v::vs,U,h=>by
  unfold g9;rw[lQ is vs _<|λj hj=>h j (by simp[hj])]
  cases ho:l[i]? with
  |none=>rfl
  |some o=>exact uk (h i (by simp) o ho)
theorem um{t:Nat}:∀(is:Z Nat)(vs:Z bL)(U:Nat->bL)(j i:Nat)(o:cA)(v:bL),is[j]? =some i->vs[j]? =some v->l[i]? =some o->o.dst=some t->
  (∀(k:Nat)i' o',is[k]? =some i'->l[i']? =some o'->k≠j->o'.dst≠some t)->g9 l U is vs t=v
 | [],_,_,_,_,_,_,h,_,_,_,_=>by simp at h
 |_::_,[],_,_,_,_,_,_,h,_,_,_=>by simp at h
 |i0::is,v0::vs,U,0,i,o,v,hi,hv,ho,hd,hu=>by
  simp at hi hv;subst hi;subst hv;unfold g9
  rw[lQ is vs _ (λj hj o' ho'=>by
   obtain⟨k,hk⟩:=List.mem_iff_getElem?.1 hj
   exact hu (k+1) j o' (by grind) ho' (by omega)),ho]
  exact xT hd
 |i0::is,v0::vs,U,j+1,i,o,v,hi,hv,ho,hd,hu=>by
  unfold g9;exact um is vs _ j i o v (by grind) (by grind) ho hd<|λk i2 o2 hk ho2 hne=>hu (k+1) i2 o2 (by grind) ho2 (by omega)
end
inductive kQ (l:Z cA):Nat->Nat->Prop
 |edge {i k:Nat} {o:cA}:l[i]? =some o->pF o k=true->kQ l i k
 |trans {i j k:Nat}:kQ l i j->kQ l j k->kQ l i k
theorem kQ.first{l:Z cA}{i k:Nat}(h:kQ l i k):∃o j,l[i]? =some o/\pF o j=true/\(j=k\/kQ l j k):=by
 induction h with
 |edge ho he=>grind
 |trans h1 h2 ih1 ih2=>
  obtain⟨o,j,ho,he,hr⟩:=ih1
  rcases hr with rfl|hr
  ·grind
  ·exact⟨o,j,ho,he, .inr<|hr.trans h2⟩
theorem kQ.done{l:Z cA}{D:Nat->Bool}(hcl:mj l D){i k:Nat}(h:kQ l i k):(∃o,l[i]? =some o/\jl D o.after.toList)->D k=true:=by
 induction h with
 |edge ho he=>
  rintro⟨o2,ho2,hd⟩;rw[ho]at ho2;injection ho2 with ho2;subst ho2
  exact jc hd he
 |trans h1 h2 ih1 ih2=>
  intro hd;have hj:=ih1 hd;obtain⟨o,_,ho,_,_⟩:=h2.first;exact ih2 ⟨o,ho,hcl _ o ho hj⟩
def Sound(l:Z cA)(acc:Z Nat):Prop:=∀i k,Nat.testBit (acc.getD i 0) k=true->kQ l i k
theorem rW{l:Z cA}{acc:Z Nat}{i k:Nat}{o:cA}(hs:Sound l acc)(ho:l[i]? =some o):∀(es:Z Edge),(∀e∈es,e∈o.after.toList)->Nat.testBit (rV acc es) k=true->kQ l i k
 | [],_,h=>by unfold rV at h;simp at h
 |e::r,hm,h=>by
  unfold rV at h
  cases hb:Region.binds .any e with
  |false=>rw[hb]at h;exact rW hs ho r (λe he=>hm e (by simp[he])) h
  |true=>
   rw[hb]at h;have h:Nat.testBit (((1 <<< e.on)|||acc.getD e.on 0)|||rV acc r) k=true:=h;rw[Nat.testBit_or,Nat.testBit_or,dK,dK]at h;have hedge:∀k,e.on=k->pF o k=true:=λk hk=>by
    subst hk;unfold pF;rw[gU];exact⟨e,hm e (by simp),by simp_all⟩
   rcases h with(h|h)|h
   ·rw[Nat.one_shiftLeft,Nat.testBit_two_pow,fC]at h;exact .edge ho<|hedge k h
   ·exact .trans (.edge ho<|hedge e.on rfl)<|hs e.on k h
   ·exact rW hs ho r (λe he=>hm e (by simp[he])) h
theorem xU:∀(l l0:Z cA)(acc:Z Nat),(∀(j:Nat),l[j]? =l0[acc.length+j]?)->Sound l0 acc->Sound l0 (wZ l acc)
 | [],_,_,_,h=>h
 |o::l,l0,acc,hl,h=>by
  unfold wZ;refine xU l l0 _ (λj=>?_) λi k hb=>?_
  ·have:=hl<|j+1
   rw[dh,gT,List.length_nil];rw[show acc.length+(0+1)+j=acc.length+(j+1)by omega,<-this];simp
  ·rw[List.getD_eq_getElem?_getD,List.getElem?_append]at hb;split at hb
   ·rw[<-List.getD_eq_getElem?_getD]at hb;exact h i k hb
   ·rename_i hlt
    by_cases he:i=acc.length
    ·subst he;simp at hb;have ho:=hl 0;exact rW h (o:=o) (by grind) _ (λe he=>he) hb
    ·have:(i - acc.length)≠0:=by omega
     rw[List.getElem?_eq_none (by simp;omega)]at hb;simp at hb
def uo(ops:bQ cA)(i:Nat)(o:cA)(k:Nat)(o':cA):Bool:=
 Nat.beq i k||match o'.dst with
  |some d=>(match o.dst with|some d2=> !Nat.beq d d2|none=>true)&&(!q4 ops o d||(bif Nat.blt k i then pF o k else pF o' i))
  |none=>true
def mu(ops:bQ cA)(i:Nat)(o:cA):Nat->Z cA->Bool
 |_,[]=>true
 |k,o'::l=>uo ops i o k o'&&mu ops i o (k+1) l
def Dc:Op->Bool| .select .. =>false|_=>true
def kindOk(n:Nat)(o:cA)(m:Nat):Bool:=Dc o.op&&(bif Nat.beq m 2 then(match o.dst with|some d=>Nat.blt d n|none=>true)else nj o.op&&(match o.dst with|some d=>Nat.blt d n|none=>false))
def rX(n:Nat)(ops:bQ cA)(l:Z cA)(mk:Z Nat):Nat->Z cA->Bool
 |_,[]=>true
 |i,o::l'=>kindOk n o (mk.getD i 0)&&mu ops i o 0 l&&rX n ops l mk (i+1) l'
def vK(A mk:Z Nat):Z Nat->Z Nat->Bool
 |_,[]=>true
 |pre,i::post=>(bif Nat.beq (mk.getD i 0) 2 then(post.all λq=>Nat.testBit (A.getD q 0) i)&&(pre.all λq=>Nat.beq (mk.getD q 0) 1||Nat.beq (mk.getD q 0) 3||Nat.testBit (A.getD i 0) q)else true)&&vK A mk (pre++[i]) post
def uq:Z Nat->Bool
 | []=>true
 |a::l=> !(l.any λb=>Nat.beq a b)&&uq l
def Ab(l:Z cA):Z Nat->Bool
 | []=>true
 |i::post=>(match l[i]? with|some o=>post.all λq=> !pF o q|none=>true)&&Ab l post
theorem ur{l:Z cA}:∀{ord:Z Nat},Ab l ord=true->∀(p1:Z Nat)(i:Nat)(p2:Z Nat),ord=p1++i::p2->∀o,l[i]? =some o->∀q∈p2,pF o q=false
 | [],_,p1,i,p2,e,_,_,_,_=>by cases p1 <;> cases e
 |a::ord,h,[],i,p2,e,o,ho,q,hq=>by
  injection e with e1 e2;subst e1;subst e2
  unfold Ab at h;rw[ho,bY]at h;have:=ik.1 h.1 q hq;rwa[Bool.not_eq_true']at this
 |a::ord,h,b::p1,i,p2,e,o,ho,q,hq=>by
  injection e with e1 e2
  unfold Ab at h;rw[bY]at h;exact ur h.2 p1 i p2 e2 o ho q hq
def Ac(n:Nat)(l:Z cA)(mk ord:Z Nat):Bool:=
 uq ord&&(List.range l.length).all (λi=>ord.any λj=>Nat.beq i j)&&(ord.all λi=>Nat.blt i l.length)&&rX n l.toArray l mk 0 l&&vK (wZ l []) mk [] ord&&Ab l ord
theorem tz:∀{l:Z Nat},uq l=true->l.Nodup
 | [],_=>List.nodup_nil
 |a::l,h=>by
  unfold uq at h;rw[bY,Bool.not_eq_true']at h;refine List.nodup_cons.2 ⟨λhm=>?_,tz h.2⟩;have:(l.any λb=>Nat.beq a b)=true:=gU.2 ⟨a,hm,Nat.beq_refl a⟩;rw[this]at h;cases h.1
theorem oN{ops:bQ cA}{i:Nat}{o:cA}:∀{k:Nat}{l:Z cA},mu ops i o k l=true->∀(j:Nat)o',l[j]? =some o'->uo ops i o (k+j) o'=true
 |_,[],_,j,o',h=>by simp at h
 |k,p::l,hs,0,o',h=>by
  unfold mu at hs;rw[bY]at hs;simp at h;subst h;exact hs.1
 |k,p::l,hs,j+1,o',h=>by
  unfold mu at hs;rw[bY]at hs;have:=oN hs.2 j o' (by simpa using h);rw[show k+(j+1)=k+1+j by omega];exact this
theorem tA{n:Nat}{ops:bQ cA}{l0:Z cA}{mk:Z Nat}:∀{i:Nat}{l:Z cA},rX n ops l0 mk i l=true->∀(j:Nat)o,l[j]? =some o->kindOk n o (mk.getD (i+j) 0)=true/\mu ops (i+j) o 0 l0=true
 |_,[],_,j,o',h=>by simp at h
 |i,p::l,hs,0,o',h=>by
  unfold rX at hs;simp only[bY]at hs;simp at h;subst h;exact hs.1
 |i,p::l,hs,j+1,o',h=>by
  unfold rX at hs;simp only[bY]at hs;have:=tA hs.2 j o' (by simpa using h);rw[show i+(j+1)=i+1+j by omega];exact this
theorem vL{A mk:Z Nat}:∀{post pre:Z Nat},vK A mk pre post=true->∀(p1:Z Nat)(i:Nat)(p2:Z Nat),post=p1++i::p2->mk.getD i 0=2->
  (∀q∈p2,Nat.testBit (A.getD q 0) i=true)/\(∀q∈pre++p1,(mk.getD q 0=1\/mk.getD q 0=3)\/Nat.testBit (A.getD i 0) q=true)
 | [],_,_,p1,i,p2,e,_=>by cases p1 <;> cases e
 |a::post,pre,h,[],i,p2,e,hm=>by
  injection e with e1 e2;subst e1;subst e2
  unfold vK at h;rw[hm]at h;simp only[Nat.beq_refl,bV,bY]at h;refine⟨λq hq=>ik.1 h.1.1 q hq,λq hq=>?_⟩;have:=ik.1 h.1.2 q (by grind);rw[dK,dK]at this
  rcases this with(h|h)|h
  ·exact .inl<|.inl<|c9 h
  ·exact .inl<|.inr<|c9 h
  ·exact .inr h
 |a::post,pre,h,b::p1,i,p2,e,hm=>by
  injection e with e1 e2;subst e1
  unfold vK at h;rw[bY]at h;have:=vL h.2 p1 i p2 e2 hm;refine⟨this.1,λq hq=>this.2 q (by grind)⟩
theorem sX{P:cR}{o:cA}{a a':Act}{next next':Act->bM->Prop}{Qf Qf':Exit->Act->bM->Prop}{r:Result Next}(ha:a.defers= [])
  (hn:∀v w,next (a.put o.dst v) w->next' (a'.put o.dst v) w) (hdf:∀(b:Act)w,next b w->b.defers= []) (hp:∀c b w,¬Qf (.panic c) b w) (hl:¬LetsOut Qf) (h:o.upon P a next Qf r):o.upon P a' next' Qf' r:=by
 cases r with
 |ok nx w'=>
  cases nx with
  |value v=>exact hn v w' h
  |skip=>exact hn undef w' h
  |defer d=>
   have h:next ({a with defers:=d::a.defers}.put o.dst undef) w':=h;have:=hdf _ _ h
   cases hd:o.dst with
   |none=>rw[hd]at this;cases this
   |some t=>rw[hd]at this;cases this
  |enter f args=>
   refine Calls.mono h λe w'' he=>?_
   grind
  |row row args=>exact Rows.mono h λv w'' he=>hn v w'' he
  |_=>exact h.elim
 |halt x w'=>
  cases x with
  |panic v=>exact(hp _ _ _ h).elim
  |_=>exact h.elim
section
variable {P:cR}{n:Nat}{l:Z cA}{mk:Z Nat}{Q:dg}
theorem Iw:∀(ord:Z Nat)(S:bM->Prop)(U:Nat->bL)(w:bM)(a:Act),Sl n U a->S w->(∀i∈ord,∀o,l[i]? =some o->kindOk n o (mk.getD i 0)=true)->DP P n l mk Q S ord U w->
  ∃pre vs post a' S',ord=pre++post/\vs.length=pre.length/\Sl n (g9 l U pre vs) a'/\DP P n l mk Q S' post (g9 l U pre vs) w/\(∀e rest,post=e::rest->mk.getD e 0=2)/\
   (∀(j i:Nat)v,pre[j]? =some i->vs[j]? =some v->mk.getD i 0≠2/\∃o aj,l[i]? =some o/\Sl n (g9 l U (pre.take j) (vs.take j)) aj/\
    ((mk.getD i 0≠0/\∀w2,S' w2->vd P l.toArray w2 aj o v)\/(mk.getD i 0=0/\vd P l.toArray w aj o v)))/\S' w/\(∀w2,S' w2->S w2):=by
 intro ord
 induction ord with
 |nil=>intro S U w a hs hS _ h;exact⟨[],[],[],a,S,rfl,rfl,hs,h,λ_ _ e=>(by cases e),λj i v hi=>(by simp at hi),hS,λ_ h=>h⟩
 |cons i ord ih=>
  intro S U w a hs hS hk h;have h0:=h;unfold DP at h;obtain⟨o,ho,h⟩:=h;have hko:=hk i (by simp) o ho;have cont:∀(S1:bM->Prop)v d,o.dst=some d->Nat.blt d n=true->mk.getD i 0≠2->S1 w->(∀w2,S1 w2->S w2)->((mk.getD i 0≠0/\∀w2,S1 w2->vd P l.toArray w2 a o v)\/(mk.getD i 0=0/\vd P l.toArray w a o v))->DP P n l mk Q S1 ord (cI U d v) w->
    ∃pre vs post a' S',i::ord=pre++post/\vs.length=pre.length/\Sl n (g9 l U pre vs) a'/\DP P n l mk Q S' post (g9 l U pre vs) w/\(∀e rest,post=e::rest->mk.getD e 0=2)/\
     (∀(j i:Nat)v,pre[j]? =some i->vs[j]? =some v->mk.getD i 0≠2/\∃o aj,l[i]? =some o/\Sl n (g9 l U (pre.take j) (vs.take j)) aj/\
      ((mk.getD i 0≠0/\∀w2,S' w2->vd P l.toArray w2 aj o v)\/(mk.getD i 0=0/\vd P l.toArray w aj o v)))/\S' w/\(∀w2,S' w2->S w2):=by
   intro S1 v d hd hdn hn2 hS1 hSS hev hrest;have hstep:∀is us,g9 l U (i::is) (v::us)=g9 l (cI U d v) is us:=λis us=>by
    unfold g9;rw[ho];have:kz o U v=cI U d v:=by unfold kz;rw[hd]
    simp only[this]
    cases is <;> cases us <;> rfl
   obtain⟨pre,vs,post,a',S',e1,e2,e3,e4,e5,e6,e7,e8⟩:=ih S1 (cI U d v) w _ (hs.put hdn v) hS1 (λj hj=>hk j (by simp[hj])) hrest;refine⟨i::pre,v::vs,post,a',S',by rw[e1];rfl,by simp[e2],by rw[hstep];exact e3,by rw[hstep];exact e4,e5,λj i' v' hi' hv'=>?_,e7,λw2 h=>hSS w2<|e8 w2 h⟩
   cases j with
   |zero=>
    simp at hi' hv';subst hi';subst hv';refine⟨hn2,o,a,ho,hs,?_⟩
    rcases hev with⟨h1,h2⟩|h1
    ·exact .inl ⟨h1,λw2 h=>h2 w2<|e8 w2 h⟩
    ·exact .inr h1
   |succ j=>
    obtain⟨hn,o',aj,h1,h2,h3⟩:=e6 j i' v' (by simpa using hi') (by simpa using hv');exact⟨hn,o',aj,h1,by rw[List.take_succ_cons,List.take_succ_cons,hstep];exact h2,h3⟩
  unfold kindOk at hko;rw[bY]at hko;have dst:mk.getD i 0≠2->nj o.op=true/\∃d,o.dst=some d/\Nat.blt d n=true:=λhn=>by
   have hk2:=hko.2;have hb:Nat.beq (mk.getD i 0) 2=false:=by
    cases hx:Nat.beq (mk.getD i 0) 2 with
    |false=>rfl
    |true=>exact absurd (c9 hx) hn
   rw[hb,bJ,bY]at hk2;refine⟨hk2.1,?_⟩
   cases hd:o.dst with
   |none=>rw[hd]at hk2;cases hk2.2
   |some d=>rw[hd]at hk2;exact⟨d,rfl,hk2.2⟩
  rcases h with⟨hm,h⟩|⟨hm,v,S1,hSS,hS1,h1,h⟩|⟨hm,h⟩|⟨hm,T,q,b,m,row,e,ag,k,hop,hp,hT,h3,h4,hh,h⟩
  ·have hn2:mk.getD i 0≠2:=by rw[hm];decide
   obtain⟨hr,d,hd,hdn⟩:=dst hn2;obtain⟨v,hst,hrest⟩:=uj (C:=λσ'=>DP P n l mk Q S ord σ' w) hs hr hd hdn h;exact cont S v d hd hdn hn2 hS (λ_ h=>h) (.inr ⟨hm,hst⟩) hrest
  ·have hn2:mk.getD i 0≠2:=by rw[hm];decide
   obtain⟨hr,d,hd,hdn⟩:=dst hn2;have hu:kz o U v=cI U d v:=by unfold kz;rw[hd]
   rw[hu]at h;refine cont S1 v d hd hdn hn2 (hS1 hS) hSS (.inl ⟨by rw[hm];decide,λw2 hS2=>?_⟩) h;obtain⟨v',hst,he⟩:=uj (C:=λσ'=>σ'=kz o U v) hs hr hd hdn<|h1 w2 hS2
   rw[hu]at he;have:=congrFun he d;unfold cI at this;rw[Nat.beq_refl]at this;have:v'=v:=this;subst this;exact hst
  ·exact⟨[],[],i::ord,a,S,rfl,rfl,hs,h0,λe rest he=>by injection he with h1 _;subst h1;exact hm,λj i v hi=>(by simp at hi),hS,λ_ h=>h⟩
  ·have hn2:mk.getD i 0≠2:=by rw[hm];decide
   obtain⟨hr,d,hd,hdn⟩:=dst hn2;obtain⟨v,hst,hrest⟩:=uj (C:=λσ'=>DP P n l mk Q (λw2=>S w2/\w2.heap[b]? =some (.cells row e (0,0))) ord σ' w) hs hr hd hdn h;exact cont _ v d hd hdn hn2 ⟨hS,hh⟩ (λ_ h=>h.1) (.inl ⟨by rw[hm];decide,λw2 hS2=>Aa hs hop hp hT h3 h4 hh hS2.2 hst⟩) hrest
theorem Hh(S0:bM->Prop){U:Nat->bL}{w:bM}{id:Nat}(hm:P.follows .mixedOrders=true)(hdep:nc 0 l=true)(mk ord:Z Nat)(hS0:S0 w.drew)(h:DP P n l mk Q S0 ord U w.drew)(hc:Ac n l mk ord=true:=by kernel_rfl):RC P n (.region id l.toArray true) U w Q:=by
 intro a0 ha0;unfold Ac at hc;simp only[bY]at hc;obtain⟨⟨⟨⟨⟨c1,c2⟩,c3⟩,c4⟩,c5⟩,c6⟩:=hc;have hnd:=tz c1;have hall:∀i,i<l.length->i∈ord:=λi hi=>by
  simp_all
 have hlt:∀i∈ord,i<l.length:=λi hi=>Nat.blt_eq▸ik.1 c3 i hi;have hK:∀i o,l[i]? =some o->kindOk n o (mk.getD i 0)=true/\mu l.toArray i o 0 l=true:=λi o ho=>by
  have:=tA c4 i o ho;grind
 have hA:Sound l (wZ l []):=xU l l [] (λj=>by simp) (λi k hb=>by simp at hb);have hdist:∀(i k:Nat)o o' t,l[i]? =some o->l[k]? =some o'->k≠i->o.dst=some t->o'.dst≠some t:=λi k o o' t ho ho' hne hd hd'=>by
  have hp:=oN (hK i o ho).2 k o' ho'
  grind [uo,c9,Bool.not_eq_true',Nat.beq_refl]
 have hsee:∀(i k:Nat)o o' t,l[i]? =some o->l[k]? =some o'->k≠i->o'.dst=some t->q4 l.toArray o t=true->(k<i/\pF o k=true)\/(i<k/\pF o' i=true):=λi k o o' t ho ho' hne hd' hs=>by
  have hp:=oN (hK i o ho).2 k o' ho';rw[ez]at hp
  grind [uo,c9,Bool.not_eq_true',Nat.blt,Nat.blt_eq]
 have hsz:∀(g:Nat)o2 d,l.toArray[g]? =some o2->o2.dst=some d->d<n:=λg o2 d ho hd=>by
  grind [kindOk,Nat.beq,Nat.blt_eq]
 refine HX (U:=U) (w:=w) hm hdep (λD σ' w'=>∃pre vs post a S,ord=pre++post/\vs.length=pre.length/\Sl n (g9 l U pre vs) a/\DP P n l mk Q S post (g9 l U pre vs) w'/\(∀e rest,post=e::rest->mk.getD e 0=2)/\
   (∀i∈post,D i=false)/\
   (∀(j i:Nat)v,pre[j]? =some i->vs[j]? =some v->D i=false->mk.getD i 0≠2/\∃o aj,l[i]? =some o/\Sl n (g9 l U (pre.take j)<|vs.take j) aj/\((mk.getD i 0≠0/\∀w2,S w2->vd P l.toArray w2 aj o v)\/(mk.getD i 0=0/\vd P l.toArray w' aj o v)))/\S w'/\
   (∀(j i:Nat)v o t,pre[j]? =some i->vs[j]? =some v->l[i]? =some o->o.dst=some t->D i=true->σ' t=v)/\
   (∀t,(∀(i:Nat)o,l[i]? =some o->o.dst=some t->D i=false)->σ' t=U t)) ?_ ?_ ?_ a0 ha0
 ·obtain⟨pre,vs,post,a',S,e1,e2,e3,e4,e5,e6,eS,_⟩:=Iw ord _ U w.drew a0 ha0 hS0 (λi _ o ho=>(hK i o ho).1) h;exact⟨pre,vs,post,a',S,e1,e2,e3,e4,e5,λ_ _=>rfl,λj i v hi hv _=>e6 j i v hi hv,eS,λj i v o t _ _ _ _ hD=>(by cases hD),λt _=>rfl⟩
 ·refine mo λi o ho=>?_;rw[ez];rintro D σ' w' hD hdeps hcl⟨pre,vs,post,a,S,e1,e2,e3,e4,e5,e6,e7,eS,e8,e9⟩;have hil:i<l.length:=(bF.1 ho).1;have hio:=hall i hil;have hancD:∀k,Nat.testBit ((wZ l []).getD i 0) k=true->D k=true:=λk hb=>(hA i k hb).done hcl ⟨o,ho,hdeps⟩;have hag:∀(p1:Z Nat)(vs1:Z bL)(p2:Z Nat),p1++i::p2=ord->vs1.length=p1.length->(∀(j i':Nat)v o' t,p1[j]? =some i'->vs1[j]? =some v->l[i']? =some o'->o'.dst=some t->D i'=true->σ' t=v)->
    ∀t,q4 l.toArray o t=true->g9 l U p1 vs1 t=σ' t:=by
   intro p1 vs1 p2 he hl1 h8 t ht;have hni:i∉p1:=λhm=>by
    rw[<-he]at hnd;exact(List.nodup_append.1 hnd).2.2 i hm i (by simp) rfl
   have hnd1:p1.Nodup:=by rw[<-he]at hnd;exact(List.nodup_append.1 hnd).1
   by_cases hex:∃(k:Nat)(o':cA),l[k]? =some o'/\o'.dst=some t
   ·obtain⟨k,o',ho',hd'⟩:=hex;have hkd:k≠i->D k=true->k∈p1\/k∈p2:=λhne _=>by
     have:=hall k (bF.1 ho').1;rw[<-he]at this;simp at this
     rcases this with h|h|h
     ·exact .inl h
     ·exact absurd h hne
     ·exact .inr h
    by_cases hki:k=i
    ·subst hki;rw[lQ p1 vs1 U<|λi' hi' o2 ho2 hd2=>hdist k i' o' o2 t ho' ho2 (λe=>hni<|e▸hi') hd' hd2];refine(e9 t λk2 o2 ho2 hd2=>?_).symm
     by_cases he2:k2=k
     ·subst he2;exact hD
     ·exact absurd hd2<|hdist k k2 o' o2 t ho' ho2 he2 hd'
    ·rcases hsee i k o o' t ho ho' hki hd' ht with⟨_,hE⟩|⟨hlt2,hE⟩
     ·have hDk:=jc hdeps hE
      by_cases hp:k∈p1
      ·obtain⟨j,hj⟩:=List.mem_iff_getElem?.1 hp;have hjl:j<vs1.length:=by rw[hl1];exact(bF.1 hj).1
       rw[h8 j k vs1[j] o' t hj (aN hjl) ho' hd' hDk];refine um p1 vs1 U j k o' vs1[j] hj (aN hjl) ho' hd' λk2 i2 o2 hk2 ho2 hne=>?_;refine hdist k i2 o' o2 t ho' ho2 (λe=>hne ?_) hd';subst e;exact(List.getElem?_inj (bF.1 hk2).1 hnd1).1 (by rw[hk2,hj])
      ·rcases hkd hki hDk with h|h
       ·exact absurd h hp
       ·rw[ur c6 p1 i p2 he.symm o ho k h]at hE;cases hE
     ·have hDk:D k=false:=nf λhDk=>by
       have:=jc (hcl k o' ho' hDk) hE;rw[hD]at this;cases this
      rw[lQ p1 vs1 U<|λi' hi' o2 ho2 hd2=>?_]
      ·refine(e9 t λk2 o2 ho2 hd2=>?_).symm
       by_cases he2:k2=k
       ·subst he2;exact hDk
       ·exact absurd hd2<|hdist k k2 o' o2 t ho' ho2 he2 hd'
      ·by_cases he2:i'=k
       ·subst he2;obtain⟨q1,q2,hq⟩:=List.append_of_mem hi';have:=ur c6 q1 i' (q2++i::p2) (by rw[<-he,hq];simp) o' ho' i (by simp);rw[this]at hE;cases hE
       ·exact hdist k i' o' o2 t ho' ho2 he2 hd' hd2
   ·rw[e9 t λk o' ho' hd'=>absurd ⟨k,o',ho',hd'⟩ hex];exact lQ p1 vs1 U<|λi' hi' o2 ho2 hd2=>hex ⟨i',o2,ho2,hd2⟩
  have hrunC:∀(σ1:Nat->bL)(a1 a2:Act),Sl n σ1 a1->Sl n σ' a2->(∀t,q4 l.toArray o t=true->σ1 t=σ' t)->execOp a2.eval o=execOp a1.eval o:=λσ1 a1 a2 hs1 hs2 hag=>by
   refine execOp_congr o (λcs b e=>?_) λx hx=>?_
   ·have:=(hK i o ho).1;unfold kindOk at this;rw[e]at this;cases this
   ·rw[hs2.ev,hs1.ev]
    cases x with
    |tmp t=>
     refine(hag t ?_).symm;unfold q4 Oper.looksAt;rw[List.any_append,dK];left;rw[gU];exact⟨t,List.mem_filterMap.2 ⟨.tmp t,by simpa using hx,rfl⟩,Nat.beq_refl t⟩
    |_=>rfl
  by_cases hip:i∈pre
  ·
   obtain⟨p1,p2,hpre⟩:=List.append_of_mem hip;have hjv:p1.length<vs.length:=by rw[e2,hpre];simp
   have hpj:pre[p1.length]? =some i:=by rw[hpre];simp
   obtain⟨v1,hv1⟩:∃v,vs[p1.length]? =some v:=⟨_,aN hjv⟩;obtain⟨hn2,o2,aj,ho2,hsj,hev⟩:=e7 p1.length i v1 hpj hv1 hD;rw[ho]at ho2;injection ho2 with ho2;subst ho2
   have htk:pre.take p1.length=p1:=by rw[hpre];simp
   rw[htk]at hsj;have hst:vd P l.toArray w' aj o v1:=by
    rcases hev with⟨_,h⟩|⟨_,h⟩
    ·exact h w' eS
    ·exact h
   have hag1:=hag p1 (vs.take p1.length) (p2++post) (by rw[e1,hpre];simp) (by rw[bX];omega) (λj i' v o' t hj hv ho' hd' hDi=>by
    have hjl:=(bF.1 hj).1;rw[dV,aK hjl]at hv
    exact e8 j i' v o' t (by rw[hpre,gR hjl];exact hj) hv ho' hd' hDi)
   have hmk:∃d,o.dst=some d/\Nat.blt d n=true:=by
    have:=(hK i o ho).1;unfold kindOk at this;rw[bY]at this;have h2:=this.2;have hne:Nat.beq (mk.getD i 0) 2=false:=by
     cases hx:Nat.beq (mk.getD i 0) 2 with
     |false=>rfl
     |true=>exact absurd (c9 hx) hn2
    rw[hne,bJ,bY]at h2
    cases hd:o.dst with
    |none=>rw[hd]at h2;cases h2.2
    |some d=>rw[hd]at h2;exact⟨d,rfl,h2.2⟩
   obtain⟨d,hd,hdn⟩:=hmk;have hJ:∃pre vs post a S,ord=pre++post/\vs.length=pre.length/\Sl n (g9 l U pre vs) a/\DP P n l mk Q S post (g9 l U pre vs) w'/\(∀e rest,post=e::rest->mk.getD e 0=2)/\
     (∀i'∈post,ins D i i'=false)/\
     (∀(j i':Nat)v,pre[j]? =some i'->vs[j]? =some v->ins D i i'=false->mk.getD i' 0≠2/\∃o aj,l[i']? =some o/\Sl n (g9 l U (pre.take j)<|vs.take j) aj/\((mk.getD i' 0≠0/\∀w2,S w2->vd P l.toArray w2 aj o v)\/(mk.getD i' 0=0/\vd P l.toArray w' aj o v)))/\S w'/\
     (∀(j i':Nat)v o' t,pre[j]? =some i'->vs[j]? =some v->l[i']? =some o'->o'.dst=some t->ins D i i'=true->cI σ' d v1 t=v)/\
     (∀t,(∀(i':Nat)o',l[i']? =some o'->o'.dst=some t->ins D i i'=false)->cI σ' d v1 t=U t):=by
    refine⟨pre,vs,post,a,S,e1,e2,e3,e4,e5,λi' hi'=>?_,λj i' v hj hv hDi=>?_,eS,λj i' v o' t hj hv ho' hd' hDi=>?_,λt ht=>?_⟩
    ·rw[kh (λe=>by
      subst e;rw[e1]at hnd
      exact(List.nodup_append.1 hnd).2.2 i' hip i' hi' rfl)]
     exact e6 i' hi'
    ·refine e7 j i' v hj hv ?_
     by_cases he:i'=i
     ·subst he;exact hD
     ·rwa[kh he]at hDi
    ·by_cases he:i'=i
     ·subst he;rw[ho]at ho';injection ho' with ho';subst ho'
      rw[hd]at hd';injection hd' with hd';subst hd'
      have hndp:pre.Nodup:=by rw[e1]at hnd;exact(List.nodup_append.1 hnd).1
      have:j=p1.length:=(List.getElem?_inj (bF.1 hj).1 hndp).1 (by rw[hj,hpj]);subst this;rw[hv1]at hv;injection hv with hv
      unfold cI;rw[Nat.beq_refl];exact hv
     ·rw[kh he]at hDi;have hne:t≠d:=λe=>by subst e;exact hdist i i' o o' t ho ho' he hd hd'
      unfold cI
      cases hb:Nat.beq t d with
      |true=>exact absurd (c9 hb) hne
      |false=>exact e8 j i' v o' t hj hv ho' hd' hDi
    ·have hne:t≠d:=λe=>by
      subst e;have:=ht i o ho hd;rw[pH]at this;cases this
     unfold cI
     cases hb:Nat.beq t d with
     |true=>exact absurd (c9 hb) hne
     |false=>
      refine e9 t λk2 o2 ho2 hd2=>?_;have:=ht k2 o2 ho2 hd2
      by_cases he:k2=i
      ·subst he;exact hD
      ·rwa[kh he]at this
   intro a2 hs2;have hrun:=hrunC _ aj a2 hsj hs2 hag1;have hwant:=mn (ops:=l.toArray) (o:=o) hsj hs2 hag1 hsz;unfold wpList
   rcases hst with⟨hw1,hr1⟩|⟨hw1,hvu⟩
   ·rw[hwant]at hw1;rw[aK hw1];left;unfold Oper.wp;rw[hrun,hr1];refine⟨cI σ' d v1,?_,rfl,hJ⟩;rw[hd];exact hs2.put hdn _
   ·rw[hwant]at hw1;rw[aL (by rw[hw1];exact Bool.false_ne_true)];rw[hvu]at hJ;refine⟨cI σ' d undef,?_,rfl,hJ⟩;rw[hd];exact hs2.put hdn _
  ·
   have hipo:i∈post:=by
    rw[e1]at hio
    rcases jD.1 hio with h|h
    ·exact absurd h hip
    ·exact h
   cases post with
   |nil=>cases hipo
   |cons e rest=>
    have hme:=e5 e rest rfl;have hoa:=vL c5 pre e rest e1 hme;have hie:i=e:=by
     rcases fB.1 hipo with h|h
     ·exact h
     ·have:=hancD e<|hoa.1 i h
      rw[e6 e (by simp)]at this;cases this
    subst hie;unfold DP at e4;obtain⟨o2,ho2,hdp⟩:=e4;rw[ho]at ho2;injection ho2 with ho2;subst ho2
    obtain⟨S1,kK,hdp⟩:∃S1:bM->Prop,((∀w2,S1 w2->S w2)\/w3 l i rest=true)/\RL P n l.toArray [o] (g9 l U pre vs) w' (λex σ' w'=>ex = .normal/\S1 w'/\DP P n l mk Q S1 rest σ' w'):=by
     rcases hdp with⟨h,_⟩|⟨h,_⟩|⟨_,h⟩|⟨h,_⟩
     ·rw[hme]at h;cases h
     ·rw[hme]at h;cases h
     ·exact h
     ·rw[hme]at h;cases h
    have hag1:=hag pre vs rest e1.symm e2 e8;have hdn:∀d,o.dst=some d->Nat.blt d n=true:=λd hd=>by
     have:=(hK i o ho).1;unfold kindOk at this;rw[hme,bY]at this;have h2:=this.2;rw[hd]at h2;exact h2
    have hput:∀(σ1:Nat->bL)(a1:Act)v,Sl n σ1 a1->Sl n (kz o σ1 v) (a1.put o.dst v):=λσ1 a1 v hs1=>by
     unfold kz
     cases hd:o.dst with
     |none=>exact hs1.rH v
     |some d=>exact hs1.put (hdn d hd) v
    have hni:i∉pre:=hip;have hnr:i∉rest:=λhm=>by
     rw[e1]at hnd;exact(List.nodup_cons.1 (List.nodup_append.1 hnd).2.1).1 hm
    have key:∀(a2:Act)v w1,Sl n σ' a2->Lf n (λex σ' w'=>ex = .normal/\S1 w'/\DP P n l mk Q S1 rest σ' w') .normal (a.put o.dst v) w1->
      Lf n (λex σ' w1=>ex = .normal/\∃pre vs post a S,ord=pre++post/\vs.length=pre.length/\Sl n (g9 l U pre vs) a/\DP P n l mk Q S post (g9 l U pre vs) w1/\(∀e rest,post=e::rest->mk.getD e 0=2)/\
       (∀i'∈post,ins D i i'=false)/\
       (∀(j i':Nat)v,pre[j]? =some i'->vs[j]? =some v->ins D i i'=false->mk.getD i' 0≠2/\∃o aj,l[i']? =some o/\Sl n (g9 l U (pre.take j)<|vs.take j) aj/\((mk.getD i' 0≠0/\∀w2,S w2->vd P l.toArray w2 aj o v)\/(mk.getD i' 0=0/\vd P l.toArray w1 aj o v)))/\S w1/\
       (∀(j i':Nat)v o' t,pre[j]? =some i'->vs[j]? =some v->l[i']? =some o'->o'.dst=some t->ins D i i'=true->σ' t=v)/\
       (∀t,(∀(i':Nat)o',l[i']? =some o'->o'.dst=some t->ins D i i'=false)->σ' t=U t)) .normal (a2.put o.dst v) w1:=by
     rintro a2 v w1 hs2⟨σ1,hs1,_,hS1,hdp1⟩;have hσ1:σ1=kz o (g9 l U pre vs) v:=hs1.uniq<|hput _ a v e3
     subst hσ1;obtain⟨pre2,vs2,post2,a3,S2,f1,f2,f3,f4,f5,f6,f7,f8⟩:=Iw rest S1 _ w1 _ hs1 hS1 (λi' _ o' ho'=>(hK i' o' ho').1) hdp1;have hX:∀is us,g9 l U (pre++i::is) (vs++v::us)=g9 l (kz o (g9 l U pre vs) v) is us:=λis us=>by
      rw[qQ U pre (i::is) vs (v::us) e2]
      conv=>lhs;unfold g9
      rw[ho]
     refine⟨kz o σ' v,hput _ a2 v hs2,rfl,pre++i::pre2,vs++v::vs2,post2,a3,S2,by rw[e1,f1];simp,by simp[e2,f2],by rw[hX];exact f3,by rw[hX];exact f4,f5,λi' hi'=>?_,λj i' u hj hu hDi=>?_,f7,λj i' u o' t hj hu ho' hd' hDi=>?_,λt ht=>?_⟩
     ·have hir:i'∈rest:=by rw[f1];simp[hi']
      rw[kh (λe:i'=i=>hnr (by rw[<-e];exact hir))];exact e6 i' (by simp[hir])
     ·have hne:i'≠i:=λe=>by subst e;rw[pH]at hDi;cases hDi
      have hDi2:D i'=false:=by rwa[kh hne]at hDi
      by_cases hjl:j<pre.length
      ·rw[gR hjl]at hj;rw[gR (by omega)]at hu;obtain⟨hn3,o3,aj,ho3,hsj,hev⟩:=e7 j i' u hj hu hDi2;have t1:(pre++i::pre2).take j=pre.take j:=List.take_append_of_le_length (by omega);have t2:(vs++v::vs2).take j=vs.take j:=List.take_append_of_le_length (by omega);refine⟨hn3,o3,aj,ho3,by rw[t1,t2];exact hsj,?_⟩
       rcases hev with⟨h,hh⟩|⟨h,_⟩
       ·rcases kK with kK|kK
        ·exact .inl ⟨h,λw2 h2=>hh w2<|kK w2<|f8 w2 h2⟩
        ·have hmem:i'∈pre:=dJ hj;have hil':i'<l.length:=(bF.1 ho3).1;have hk:=ik.1 kK i' (by simpa using hil');rw[dK,dK]at hk
         rcases hk with(hk|hk)|hk
         ·exact absurd (c9 hk) hne
         ·obtain⟨q,hq,hqe⟩:=gU.1 hk;have:=c9 hqe;subst this;rw[e1]at hnd;exact absurd rfl<|(List.nodup_append.1 hnd).2.2 q hmem q (by simp[hq])
         ·have:=hancD i' hk;rw[hDi2]at this;cases this
       ·rcases hoa.2 i' (by simp[dJ hj])with(h2|h2)|h2
        ·rw[h]at h2;cases h2
        ·rw[h]at h2;cases h2
        ·rw[hancD i' h2]at hDi2;cases hDi2
      ·rw[gS (by omega)]at hj;rw[gS (by omega),e2]at hu
       cases hq:j - pre.length with
       |zero=>
        rw[hq]at hj;simp at hj;exact absurd hj.symm hne
       |succ q=>
        rw[hq]at hj hu;obtain⟨hn3,o3,aj,ho3,hsj,hev⟩:=f6 q i' u (by simpa using hj) (by simpa using hu);have hjq:j=pre.length+(q+1):=by omega
        have t1:(pre++i::pre2).take j=pre++i::pre2.take q:=by rw[hjq,List.take_length_add_append,List.take_succ_cons]
        have t2:(vs++v::vs2).take j=vs++v::vs2.take q:=by rw[hjq,<-e2,List.take_length_add_append,List.take_succ_cons]
        exact⟨hn3,o3,aj,ho3,by rw[t1,t2,hX];exact hsj,hev⟩
     ·have hnd2:(pre++i::pre2).Nodup:=by
       rw[e1,f1]at hnd;have:pre++i::(pre2++post2)=(pre++i::pre2)++post2:=by simp
       rw[this]at hnd;exact(List.nodup_append.1 hnd).1
      by_cases hne:i'=i
      ·subst hne;rw[ho]at ho';injection ho' with ho';subst ho'
       have hjp:(pre++i'::pre2)[pre.length]? =some i':=by simp
       have:j=pre.length:=(List.getElem?_inj (bF.1 hj).1 hnd2).1 (by rw[hj,hjp]);subst this;rw[<-e2]at hu;simp at hu;subst hu;exact xT hd'
      ·rw[kh hne]at hDi;rw[uk<|λhd=>hdist i i' o o' t ho ho' hne hd hd']
       by_cases hjl:j<pre.length
       ·rw[gR hjl]at hj;rw[gR (by omega)]at hu;exact e8 j i' u o' t hj hu ho' hd' hDi
       ·rw[gS (by omega)]at hj
        cases hq:j - pre.length with
        |zero=>rw[hq]at hj;simp at hj;exact absurd hj.symm hne
        |succ q=>
         rw[hq]at hj;have hm2:i'∈pre2:=dJ (i:=q) (by simpa using hj);have:=e6 i' (by rw[f1];simp[hm2]);rw[this]at hDi;cases hDi
     ·rw[uk (λhd=>by have:=ht i o ho hd;rw[pH]at this;cases this)];refine e9 t λk2 o2 ho2 hd2=>?_;have:=ht k2 o2 ho2 hd2
      by_cases he:k2=i
      ·subst he;exact hD
      ·rwa[kh he]at this
    intro a2 hs2;have hrun:=hrunC _ a a2 e3 hs2 hag1;have hwant:=mn (ops:=l.toArray) (o:=o) e3 hs2 hag1 hsz;have h1:=hdp a e3;unfold wpList at h1 ⊢;split at h1
    ·rename_i hw1;rw[hwant]at hw1;rw[aK hw1]
     rcases h1 with h1|⟨_,h1⟩
     ·left;unfold Oper.wp at h1 ⊢;rw[hrun];refine sX e3.defers (λv w1 hk=>key a2 v w1 hs2 hk) (λb w1 hk=>?_) (λc b w1 hk=>?_) (λhk=>?_) h1
      ·obtain⟨_,hsb,_⟩:=hk;exact hsb.defers
      ·obtain⟨_,_,hbad,_⟩:=hk;cases hbad
      ·obtain⟨_,_,_,_,hbad,_⟩:=hk;cases hbad
     ·obtain⟨_,_,_,_,hbad,_⟩:=h1;cases hbad
    ·rename_i hw1;rw[hwant]at hw1;rw[aL hw1];exact key a2 undef w' hs2 h1
 ·rintro D σ' w' hDall⟨pre,vs,post,a,S,e1,e2,e3,e4,e5,e6,e7,eS,e8,e9⟩;have hpost:post= []:=by
   cases post with
   |nil=>rfl
   |cons e rest=>
    have h1:=e6 e (by simp);rw[hDall e<|hlt e (by rw[e1];simp)]at h1;cases h1
  subst hpost;rw[fY]at e1;subst e1;have:σ'=g9 l U ord vs:=by
   funext t
   by_cases hex:∃(k:Nat)(o':cA),l[k]? =some o'/\o'.dst=some t
   ·obtain⟨k,o',ho',hd'⟩:=hex;have hkl:=(bF.1 ho').1;obtain⟨j,hj⟩:=List.mem_iff_getElem?.1<|hall k hkl
    have hjl:j<vs.length:=by rw[e2];exact(bF.1 hj).1
    rw[e8 j k vs[j] o' t hj (aN hjl) ho' hd'<|hDall k hkl];refine(um ord vs U j k o' vs[j] hj (aN hjl) ho' hd' λk2 i2 o2 hk2 ho2 hne=>?_).symm;refine hdist k i2 o' o2 t ho' ho2 (λe=>hne ?_) hd';subst e;exact(List.getElem?_inj (bF.1 hk2).1 hnd).1 (by rw[hk2,hj])
   ·rw[e9 t λk o' ho' hd'=>absurd ⟨k,o',ho',hd'⟩ hex];exact(lQ ord vs U<|λi' hi' o2 ho2 hd2=>hex ⟨i',o2,ho2,hd2⟩).symm
  rw[this];unfold DP at e4;exact e4
theorem G0{U:Nat->bL}{w:bM}{id:Nat}(hm:P.follows .mixedOrders=true)(mk ord:Z Nat)(h:DP P n l mk Q (λ_=>True) ord U w.drew)(hdep:nc 0 l=true:=by exact rfl)(hc:Ac n l mk ord=true:=by kernel_rfl):RC P n (.region id l.toArray true) U w Q:=Hh (hc:=hc) _ hm hdep mk ord trivial h
end
def yA(m:Nat):Z Nat->Bool
 | []=>true
 |i::l=>Nat.blt i m&& !(l.any λj=>Nat.beq i j)&&yA m l
theorem pJ{m:Nat}:∀{l:Z Nat},yA m l=true->l.Nodup/\∀i∈l,i<m
 | [],_=>⟨List.nodup_nil,λi h=>by cases h⟩
 |a::l,h=>by
  unfold yA at h;simp only[bY,Bool.not_eq_true']at h;obtain⟨h1,h2⟩:=pJ h.2;refine⟨List.nodup_cons.2 ⟨λhm=>?_,h1⟩,λi hi=>?_⟩
  ·have:(l.any λb=>Nat.beq a b)=true:=gU.2 ⟨a,hm,Nat.beq_refl a⟩;rw[this]at h;cases h.1.2
  ·rcases fB.1 hi with e|hi
   ·rw[e];exact Nat.blt_eq▸h.1.1
   ·exact h2 i hi
section
variable {E w:bM}{V Γ0 new:Z HP}
theorem Holds.pk(h:Holds E w V)(m:Nat)(idx:Z Nat)(e:(V.drop m,idx.map<|λi=>V[i]?,yA m idx)=(Γ0,new.map some,true):=by exact rfl):Holds E w (new++Γ0):=by
 injection e with e1 e;injection e with e2 e3
 exact h.pick m idx e1 e2 (pJ e3).1 (pJ e3).2
def Dd(m:Nat)(idx:Z Nat)(V:Z HP):Z HP:=idx.map (λi=>V.getD i bB)++V.drop m
theorem Holds.pl(h:Holds E w V)(m:Nat)(idx:Z Nat)(e:(yA m idx&&(idx.all λi=>Nat.blt i V.length))=true):Holds E w (Dd m idx V):=by
 rw[bY]at e;refine h.pick m idx rfl ?_ (pJ e.1).1 (pJ e.1).2
 simp_all
end
section
variable {P:cR}{n:Nat}{l:Z cA}{mk:Z Nat}{Q:dg}{U:Nat->bL}{w:bM}{i:Nat}{rest:Z Nat}{o:cA}{ops:bQ cA}{S:bM->Prop}
theorem dI(ho:l[i]? =some o)(h:RL P n l.toArray [o] U w (λex σ' w'=>ex = .normal/\w'=w/\DP P n l mk Q S rest σ' w))(hm:mk.getD i 0=0:=by exact rfl):RL P n ops [] U w (λex σ' w'=>ex = .normal/\w'=w/\DP P n l mk Q S (i::rest) σ' w):=Gv<|Gj ho hm h
theorem wP(ho:l[i]? =some o)(h:RL P n l.toArray [o] U w (λex σ' w'=>ex = .normal/\S w'/\DP P n l mk Q S rest σ' w'))(hm:mk.getD i 0=2:=by exact rfl):RL P n ops [] U w (λex σ' w'=>ex = .normal/\w'=w/\DP P n l mk Q S (i::rest) σ' w):=Gv<|GK ho hm h
theorem Cy(ho:l[i]? =some o)(h:RL P n l.toArray [o] U w (λex σ' w'=>ex = .normal/\w'=w/\DP P n l mk Q S rest σ' w))(hS:S w:=by exact trivial)(hm:mk.getD i 0=0:=by exact rfl):RL P n ops [] U w (λex σ' w'=>ex = .normal/\S w'/\DP P n l mk Q S (i::rest) σ' w'):=by simp_all[Gw,Gj]
theorem D3(hS:S w)(ho:l[i]? =some o)(hm:mk.getD i 0=2)(h:RL P n l.toArray [o] U w (λex σ' w'=>ex = .normal/\S w'/\DP P n l mk Q S rest σ' w')):RL P n ops [] U w (λex σ' w'=>ex = .normal/\S w'/\DP P n l mk Q S (i::rest) σ' w'):=by simp_all[Gw,GK]
end
theorem F7{P:cR}{n:Nat}{q:bT}{x y:Code}{U:Nat->bL}{w:bM}{Q:dg}{β:Type}{b:Bool}{A B:aW β}{r:β}(hb:(bif b then A else B)=some r)(hc:ev U q = .bool b)
  (ht:b=true->A=some r->RC P n x U w Q) (hf:b=false->B=some r->RC P n y U w Q):RC P n (.cond q x y) U w Q:=
 by grind [Hz]
theorem kA{G:Prop}{β:Type}{b:Bool}{A B:aW β}{r:β}(hb:(bif b then A else B)=some r)(ht:b=true->A=some r->G)(hf:b=false->B=some r->G):G:=by
 grind
def D4(ad:Addr)(cs:Z bL):HP:=⟨λM h=>At M ad cs/\h=j9,λk⟨a,b⟩=>⟨a.mono k,b⟩⟩
section
variable {α β:Type}[GT α][GT β]{E w:bM}{V:Z HP}{P:cR}{n:Nat}{l:Z cA}{mk:Z Nat}{Q:dg}{U:Nat->bL}{i j0:Nat}{rest:Z Nat}{S:bM->Prop}
variable {d:Nat}{ty:da}{pos:String}{af:bQ Edge}{g:aW (Nat×Bool)}{q r:bT}{T e:da}{x:α}{p:bL}
theorem Holds.uu(h:Holds E w V)(i:Nat){A:HP}(hi:V[i]? =some A:=by exact rfl):Holds E w [A]:=by
 have hlt:=(bF.1 hi).1;have:=h.pick V.length [i] (Γ0:=[]) (new:=[A]) (by simp) (by simp[hi]) (by simp) (λk hk=>by grind)
 grind
theorem Ix{v:bL}(hg:Wn l.toArray U g)(hd:Nat.blt d n=true){op:Op}{w':bM}(hrun:(execOp (ev U) ⟨some d,op,ty,pos,af,g⟩).run P w' = .ok (.value v) w'):
  RL P n l.toArray [⟨some d,op,ty,pos,af,g⟩] U w' (λex σ' w''=>ex = .normal/\w''=w'/\σ'=kz ⟨some d,op,ty,pos,af,g⟩ U v):=
 BY hg hd hrun (s_ ⟨rfl,rfl,rfl⟩)
theorem Iy{j m:Nat}{f:α->β}(i:Nat)(ho:l[j0]? =some ⟨some d, .fieldAddr T q j,ty,pos,af,g⟩)(hm:mk.getD j0 0=1)(hg:Wn l.toArray U g)(hd:Nat.blt d n=true)(hw:Holds E w V)(hx:ev U q=p)(hi:V[i]? =some (pt p x))(hf:pj P T j m)(hF:Fd m f)
  (k:∀v,Holds E w (pt v (f x)::V)->DP P n l mk Q S rest (cI U d v) w):DP P n l mk Q S (j0::rest) U w:=by
 obtain⟨M,hs,gd⟩:=hw;obtain⟨⟨ad,cs,hv,hok,ha⟩,_⟩:=gd.sat i _ hi;refine Gm (hm:=hm) (.pointer<|some<|ad.add m) ho (λw'=>Ix hg hd ?_)<|k _ ⟨M,_,gd.dD ⟨⟨ad.add m,_,rfl,hF M cs x hok,ha.sub m<|GT.sz β⟩,rfl⟩⟩
 simp only[execOp,hx,hv,aO,hf.run,aR,aS]
theorem HN(x:α)(i:Nat)(ho:l[j0]? =some ⟨some d, .load T q,ty,pos,af,g⟩)(hm:mk.getD j0 0=1)(hd:Nat.blt d n=true)(hw:Holds E w V)(hx:ev U q=p)(hi:V[i]? =some (pt p x))(hT:jP P T (GT.agg α) (GT.sz α))(k:∀v ad cs,Holds E w (D4 ad cs::rd v x::V)->DP P n l mk Q (λw2=>S w2/\Holds E w2 [D4 ad cs]) rest (cI U d v) w)(hg:Wn l.toArray U g:=by exact trivial):DP P n l mk Q S (j0::rest) U w:=by
 have hw0:=hw;obtain⟨M,hs,gd⟩:=hw;obtain⟨⟨ad,cs,hv,hok,ha⟩,_⟩:=gd.sat i _ hi;have hw1:Holds E w (rd (oI α cs) x::V):=⟨M,_,gd.dD ⟨⟨cs,rfl,hok⟩,rfl⟩⟩;have hw2:Holds E w (D4 ad cs::rd (oI α cs) x::V):=⟨M,_,(gd.dD (P:=rd (oI α cs) x) ⟨⟨cs,rfl,hok⟩,rfl⟩).dD ⟨ha,rfl⟩⟩;refine IW (oI α cs) (λw2=>S w2/\Holds E w2 [D4 ad cs]) (λ_ h=>h.1) (λh=>⟨h,hw2.uu 0⟩) ho hm (λw' hS=>Ix hg hd ?_)<|k _ _ _ hw2
 obtain⟨M',hs',gd'⟩:=hS.2;obtain⟨ha',_⟩:=gd'.sat 0 _ rfl;simp only[execOp,hx,hv,Instr.loadAt,Instr.sureAddr,aO,aS,aR,i9 hT hok<|λj u hu=>m7 gd'.im<|ha' j u hu]
end
def SH(E:bM)(V:Z HP)(l:Z (Nat×bL))(G:Z HP)(U:Nat->bL)(w:bM):Prop:=∃O,U=oa l O/\Holds E w (G++V)
theorem sh{U:Nat->bL}{w E:bM}{l:Z (Nat×bL)}{G V:Z HP}(h:agree U l)(hw:Holds E w (G++V)):SH E V l G U w:=by
 obtain⟨O,e⟩:=h.oa;exact⟨O,e,hw⟩
theorem Ad{U:Nat->bL}:∀{l:Z (Nat×bL)},l.map (λp=>U p.1)=l.map (λp=>p.2)->agree U l
 | [],_=>True.intro
 |(d,v)::l,h=>by
  rw[ef,ef]at h;injection h with h1 h2
  exact⟨h1,Ad h2⟩
section
variable {P:cR}{n:Nat}{U:Nat->bL}{w:bM}{Q:dg}{E:bM}{V Γ1 new:Z HP}{ops:bQ cA}{rest:Z cA}{d t j:Nat}{ty:da}{pos:String}{af:bQ Edge}{g:aW (Nat×Bool)}{x y z:bT}{op:Op}
theorem cT{a b:Bool}(h:a = !b)(k:RL P n ops rest (cI U d undef) w Q)(ht:(ops[j]?).bind (·.dst)=some t:=by exact rfl)(hv:U t = .bool a:=by exact rfl)(hd:Nat.blt d n=true:=by exact rfl):
  RL P n ops (⟨some d,op,ty,pos,af,some (j,b)⟩::rest) U w Q:=sk ht (.inl<|hv.trans<|cb h) hd k
theorem Ba{b:Bool}(k:RL P n ops rest (cI U d undef) w Q)(ht:(ops[j]?).bind (·.dst)=some t:=by exact rfl)(hv:U t = .bool (!b):=by exact rfl)(hd:Nat.blt d n=true:=by exact rfl):
  RL P n ops (⟨some d,op,ty,pos,af,some (j,b)⟩::rest) U w Q:=sk ht (.inl hv) hd k
theorem kH{b c:Bool}(h:b=c)(v:bL)(k:RL P n ops rest (cI U d v) w Q)(hg:Wn ops U g:=by exact trivial)(hd:Nat.blt d n=true:=by exact rfl)(hx:ev U x = .bool b:=by exact rfl)(hv:(if c=true then ev U y else ev U z)=v:=by exact rfl):
  RL P n ops (⟨some d, .pick x y z,ty,pos,af,g⟩::rest) U w Q:=by grind [GW]
theorem Holds.sp{l:Z (Nat×bL)}(h:Holds E w Γ1)(m:Nat)(idx:Z Nat)(e:(Γ1.drop m,idx.map<|λi=>Γ1[i]?,yA m idx)=(V,new.map some,true):=by exact rfl)
  (ha:l.map (λp=>U p.1)=l.map (λp=>p.2):=by exact rfl):SH E V l new U w:=sh (Ad ha)<|h.pk (e:=e) m idx
end
section
variable {S T γ:Type}[GT S][GT T][GT γ]{m:Nat}
theorem Fd.v{r:S->γ}(g:S->T){f:T->γ}(h:Fd m f)(ho:∀M cs x,GT.ok (α:=S) M cs x=GT.ok M cs (g x):=by exact λ_ _ _=>rfl)(e:∀x,f (g x)=r x:=by exact λ_=>rfl):Fd m r:=λM cs x hx=>by
 rw[<-e];exact h M cs (g x)<|ho M cs x▸hx
theorem Fs.v{r:S->γ->S}(g:S->T){f:T->γ->T}(h:Fs m γ f)(ho:∀M cs x,GT.ok (α:=S) M cs x=GT.ok M cs (g x):=by exact λ_ _ _=>rfl)(e:∀x y,f (g x) y=g (r x y):=by exact λ_ _=>rfl):Fs m γ r:=λM cs ds x y hx hy=>by
 rw[ho,<-e];exact h M cs ds (g x) y (ho M cs x▸hx) hy
end
section
variable {P:cR}{T e i k m f:Nat}{fn:Func}{ag:Bool}{zs:Z bL}
theorem fU{f:FuncId}(h:P.funcs[f]? =some fn)(h1:(fn.name== "runtime.NumGoroutine")=false:=by kernel_rfl)(h2:fn.body.isNone=false:=by exact rfl):fo P f:=⟨λ_ _=>t6 h h1 h2⟩
theorem rY{T:da}(h:∀a w,(Instr.fieldAt T (.pointer<|some a) i).run P w = .ok (.pointer<|some<|a.add k) w:=by intro _ _;kernel_rfl):pj P T i k:=⟨h⟩
theorem q5{T:da}(h:∀w,(isAgg T).run P w = .ok ag w:=by intro _;kernel_rfl)(h2:∀w,(sizeOf T).run P w = .ok k w:=by intro _;kernel_rfl):jP P T ag k:=⟨h,h2⟩
theorem yB{T e:da}(h:P.underlying T=some (.slice e):=by kernel_rfl)(h2:∀w,(sizeOf e).run P w = .ok k w:=by intro _;kernel_rfl):qc P T e k:=⟨h,h2⟩
theorem yC{e:da}(z:bL)(h:∀w,(zeroValue e).run P w = .ok z w:=by intro _;kernel_rfl)(h1:z.cells.size=m:=by exact rfl)(h2:∀w,(sizeOf e).run P w = .ok m w:=by intro _;kernel_rfl):wV P e m:=⟨⟨z,h,h1⟩,h2⟩
end
section
variable {l:Z cA}{D:Nat->Bool}{U:Nat->bL}{j d n:Nat}{v v':bL}{dv:Z (Nat×Nat×bL)}{ag:Z (Nat×bL)}
theorem nh(hcl:mj l D)(hD:D j=false)(K:Nat)(h:((l[K]?).any λo=>pF o j)=true:=by exact rfl):D K=false:=nf λh1=>by
 cases ho:l[K]? with
 |none=>rw[ho]at h;cases h
 |some o=>
  rw[ho]at h;have:=jc (hcl K o ho h1) h;rw[hD]at this;cases this
theorem sU(h:∀i,i<n->D i=true)(i:Nat)(hi:Nat.blt i n=true:=by exact rfl):D i=true:=h i<|Nat.blt_eq.mp hi
theorem cN.n1(h:cN D U dv)(h1:(dv.all λx=> !Nat.beq x.1 j)=true:=by exact rfl):cN (ins D j) U dv:=h.no h1
theorem agree.u(h:agree U ag)(h1:lg d ag=true:=by exact rfl):agree (cI U d v) ag:=h.up h1
end
def Df:Z (Nat×bL)->Bool
 | []=>true
 |(d,_)::l=>lg d l&&Df l
theorem tB{d:Nat}:∀{l k:Z (Nat×bL)},lg d (l++k)=true->lg d l=true/\lg d k=true
 | [],_,h=>⟨rfl,h⟩
 |(t,v)::l,k,h=>by
  have h:(!Nat.beq t d&&lg d (l++k))=true:=h;rw[bY]at h;have:=tB h.2;exact⟨by show(!Nat.beq t d&&lg d l)=true;rw[bY];exact⟨h.1,this.1⟩,this.2⟩
theorem tC{O:Nat->bL}:∀{l:Z (Nat×bL)},Df l=true->agree (oa l O) l
 | [],_=>trivial
 |(d,v)::l,h=>by
  have h:(lg d l&&Df l)=true:=h;rw[bY]at h;refine⟨?_,(tC h.2).up h.1⟩;show(bif Nat.beq d d then v else _)=v;rw[Nat.beq_refl];rfl
theorem tD{U:Nat->bL}:∀{l k:Z (Nat×bL)},agree U (l++k)->agree U l
 | [],_,_=>trivial
 |(d,v)::l,k,h=>⟨h.1,tD h.2⟩
section
variable {S R X Y β:Type}{res:β}{P:cR}{n:Nat}{U:Nat->bL}{w E:bM}{Q:dg}{z:Code}{b0 id d A B:Nat}{T T' ty:da}{pos:String}{af:bQ Edge}{V:Z HP}
theorem SH.out{W L:Z (Nat×bL)}{C:Z HP}{U:Nat->bL}{w:bM}(h:SH E V (W++L) C U w)(hf:(lg d (W++L)&&Df (W++L))=true)(v:bL):SH E V W C (cI U d v) w:=by
 obtain⟨O,rfl,hw⟩:=h;rw[bY]at hf;exact sh ((tD<|tC hf.2).up (tB hf.1).1) hw
theorem pK{U:Nat->bL}{v:bL}:ev (cI U d v) (.tmp d)=v:=by
 show(bif Nat.beq d d then v else U d)=v;rw[Nat.beq_refl];rfl
abbrev cl(id d A B b0:Nat)(T T' ty:da)(pos:String)(af:bQ Edge)(z:Code):Code:= .block b0<|.loop<|.seq (.region id [(⟨some d, .binOp .lss T (.tmp A) (.tmp B) T',ty,pos,af,none⟩:cA)].toArray false)<|.seq (.cond (.tmp d) .skip<|.exit b0) z
def lv(d A B k m:Nat)(l:Z (Nat×bL)):Prop:=(lg d l&&Df l)=true/\(∀O,oa l O A = .int .i64 (k:Int))/\∀O,oa l O B = .int .i64 (m:Int)
theorem SH.hd{d A B k m:Nat}{l C}{U:Nat->bL}{w:bM}(h:SH E V l C U w)(hl:lv d A B k m l):U A = .int .i64 (k:Int)/\U B = .int .i64 (m:Int):=by
 obtain⟨O,rfl,_⟩:=h;exact⟨hl.2.1 O,hl.2.2 O⟩
theorem H3{I:Nat->S->(Nat->bL)->bM->Prop}{J:S->(Nat->bL)->bM->Prop}{K:R->(Nat->bL)->bM->Prop}
  {body:Nat->S->aW (Fl S R)} {f:S->aW β} {g:R->aW β} {m:Nat} {s0:S} (hb:((ow m body s0).bind λo=>o.cs f g)=some res) (h0:I 0 s0 U w) (hd:Nat.blt d n=true)
  (hJ:∀s U v w,I m s U w->J s (cI U d v) w) (hx:∀k s U w,I k s U w->U A = .int .i64 (k:Int)/\U B = .int .i64 (m:Int))
  (step:m<=4611686018427387904->∀k s fl U w,k<m->I k s U w->body k s=some fl->RC P n z (cI U d<|.bool<|decide<|(k:Int)<(m:Int)) w (zI I b0 J K k fl))
  (hrt:∀r U w,g r=some res->K r U w->Q .ret U w) (hgo:∀s U w,f s=some res->J s U w->Q .normal U w):RC P n (cl id d A B b0 T T' ty pos af z) U w Q:=by
 obtain⟨out,hN,hb⟩:=bd hb;exact H_ I J K hN h0
  (λhm s U w h=>d3<|ic (hd:=hd) (hx:=(hx m s U w h).1) (hy:=(hx m s U w h).2) (K:= .i64) m m<|u_<|HH (pK.trans FM)<|GQ ⟨rfl,hJ s U _ w h⟩)
  (λhm k s fl U w hk h hb=>d3<|ic (hd:=hd) (hx:=(hx k s U w h).1) (hy:=(hx k s U w h).2) (K:= .i64) k m<|u_<|HG (pK.trans<|FL hk)<|GU<|step hm k s fl U w hk h hb) (λr U w e=>by subst e;exact hrt r U w hb) (λs U w e=>by subst e;exact hgo s U w hb)
theorem H4{I:Nat->S->(Nat->bL)->bM->Prop}{J:S->(Nat->bL)->bM->Prop}
  {body:Nat->S->aW S} {f:S->aW β} {m:Nat} {s0:S} (hb:(j8 m body s0).bind f=some res) (h0:I 0 s0 U w) (hd:Nat.blt d n=true)
  (hJ:∀s U v w,I m s U w->J s (cI U d v) w) (hx:∀k s U w,I k s U w->U A = .int .i64 (k:Int)/\U B = .int .i64 (m:Int))
  (step:m<=4611686018427387904->∀k s s' U w,k<m->I k s U w->body k s=some s'->RC P n z (cI U d<|.bool<|decide<|(k:Int)<(m:Int)) w (λex U w=>ex = .normal/\I (k+1) s' U w))
  (hgo:∀s U w,f s=some res->J s U w->Q .normal U w):RC P n (cl id d A B b0 T T' ty pos af z) U w Q:=by
 obtain⟨out,hN,hb⟩:=bd hb;exact IG I J hN h0
  (λhm s U w h=>d3<|ic (hd:=hd) (hx:=(hx m s U w h).1) (hy:=(hx m s U w h).2) (K:= .i64) m m<|u_<|HH (pK.trans FM)<|GQ ⟨rfl,hJ s U _ w h⟩)
  (λhm k s fl U w hk h hb=>d3<|ic (hd:=hd) (hx:=(hx k s U w h).1) (hy:=(hx k s U w h).2) (K:= .i64) k m<|u_<|HG (pK.trans<|FL hk)<|GU<|step hm k s fl U w hk h hb) (λU w=>hgo out U w hb)
theorem Hi(E:bM)(V:Z HP)(C:S->Z HP)(W:S->Z (Nat×bL))(L:Nat->S->Z (Nat×bL)){body:Nat->S->aW S}{f:S->aW β}{m:Nat}{s0:S}(hb:(j8 m body s0).bind f=some res)(h0:SH E V (W s0++L 0 s0) (C s0) U w)
  (step:m<=4611686018427387904->∀k s s' U w,k<m->SH E V (W s++L k s) (C s) U w->body k s=some s'->RC P n z (cI U d<|.bool<|decide<|(k:Int)<(m:Int)) w (λex U w=>ex = .normal/\SH E V (W s'++L (k+1) s') (C s') U w))
  (hgo:∀s U w,f s=some res->SH E V (W s) (C s) U w->Q .normal U w) (hd:Nat.blt d n=true:=by exact rfl) (hl:∀k s,lv d A B k m (W s++L k s):=by exact λ_ _=>⟨rfl,λ_=>rfl,λ_=>rfl⟩):RC P n (cl id d A B b0 T T' ty pos af z) U w Q:=
 H4 (I:=λk s U w=>SH E V (W s++L k s) (C s) U w) (J:=λs U w=>SH E V (W s) (C s) U w) hb h0 hd (λs U v w h=>h.out (hl m s).1 v) (λk s U w h=>h.hd<|hl k s) step hgo
theorem GY(E:bM)(V:Z HP)(C:S->Z HP)(W:S->Z (Nat×bL))(L:Nat->S->Z (Nat×bL))(K:R->(Nat->bL)->bM->Prop){body:Nat->S->aW (Fl S R)}{f:S->aW β}{g:R->aW β}{m:Nat}{s0:S}(hb:((ow m body s0).bind λo=>o.cs f g)=some res)(h0:SH E V (W s0++L 0 s0) (C s0) U w)
  (step:m<=4611686018427387904->∀k s fl U w,k<m->SH E V (W s++L k s) (C s) U w->body k s=some fl->RC P n z (cI U d<|.bool<|decide<|(k:Int)<(m:Int)) w (zI (λk s U w=>SH E V (W s++L k s) (C s) U w) b0 (λs U w=>SH E V (W s) (C s) U w) K k fl))
  (hrt:∀r U w,g r=some res->K r U w->Q .ret U w) (hgo:∀s U w,f s=some res->SH E V (W s) (C s) U w->Q .normal U w) (hd:Nat.blt d n=true:=by exact rfl) (hl:∀k s,lv d A B k m (W s++L k s):=by exact λ_ _=>⟨rfl,λ_=>rfl,λ_=>rfl⟩):RC P n (cl id d A B b0 T T' ty pos af z) U w Q:=
 H3 (I:=λk s U w=>SH E V (W s++L k s) (C s) U w) (J:=λs U w=>SH E V (W s) (C s) U w) hb h0 hd (λs U v w h=>h.out (hl m s).1 v) (λk s U w h=>h.hd<|hl k s) step hrt hgo
theorem HO{c:Code}(E:bM)(V:Z HP)(C:S->Z HP)(W L:S->Z (Nat×bL))(K:R->(Nat->bL)->bM->Prop){body:S->aW (Fl S R)}{f:S->aW β}{g:R->aW β}{N:Nat}{s0:S}(hb:((m8 body N s0).bind λo=>o.cs f g)=some res)(h0:SH E V (W s0++L s0) (C s0) U w)
  (step:∀s fl U w,SH E V (W s++L s) (C s) U w->body s=some fl->RC P n c U w (t9 (λs U w=>SH E V (W s++L s) (C s) U w) b0 (λs U w=>SH E V (W s) (C s) U w) K fl))
  (hrt:∀r U w,g r=some res->K r U w->Q .ret U w) (hgo:∀s U w,f s=some res->SH E V (W s) (C s) U w->Q .normal U w):RC P n (.block b0<|.loop c) U w Q:=by
 obtain⟨out,hN,hb⟩:=bd hb;exact HW _ _ K hN h0 step (λr U w e=>by subst e;exact hrt r U w hb) (λs U w e=>by subst e;exact hgo s U w hb)
theorem Hb{c:Code}(E:bM)(V:Z HP)(C:S->Z HP)(W L:S->Z (Nat×bL)){body:S->aW (Fl S Empty)}{f:S->aW β}{g:Empty->aW β}{N:Nat}{s0:S}(hb:((m8 body N s0).bind λo=>o.cs f g)=some res)(h0:SH E V (W s0++L s0) (C s0) U w)
  (step:∀s fl U w,SH E V (W s++L s) (C s) U w->body s=some fl->RC P n c U w (t9 (λs U w=>SH E V (W s++L s) (C s) U w) b0 (λs U w=>SH E V (W s) (C s) U w) (λr _ _=>r.elim) fl))
  (hgo:∀s U w,f s=some res->SH E V (W s) (C s) U w->Q .normal U w):RC P n (.block b0<|.loop c) U w Q:=
 HO E V C W L (λr _ _=>r.elim) hb h0 step (λr _ _ _=>r.elim) hgo
theorem GV(E:bM)(V:Z HP)(C:S->X->Z HP)(W:S->X->Z (Nat×bL))(L:Nat->S->X->Z (Nat×bL)){body:Nat->S->aW S}{f:S->aW β}{m:Nat}{s0:S}(hb:(j8 m body s0).bind f=some res)(h0:(∃x,SH E V (W s0 x++L 0 s0 x) (C s0 x) U w))
  (step:m<=4611686018427387904->∀k s s' U w,k<m->(∃x,SH E V (W s x++L k s x) (C s x) U w)->body k s=some s'->RC P n z (cI U d<|.bool<|decide<|(k:Int)<(m:Int)) w (λex U w=>ex = .normal/\(∃x,SH E V (W s' x++L (k+1) s' x) (C s' x) U w)))
  (hgo:∀s U w,f s=some res->(∃x,SH E V (W s x) (C s x) U w)->Q .normal U w) (hd:Nat.blt d n=true:=by exact rfl) (hl:∀k s x,lv d A B k m (W s x++L k s x):=by exact λ_ _ _=>⟨rfl,λ_=>rfl,λ_=>rfl⟩):RC P n (cl id d A B b0 T T' ty pos af z) U w Q:=
 H4 (I:=λk s U w=>(∃x,SH E V (W s x++L k s x) (C s x) U w)) (J:=λs U w=>(∃x,SH E V (W s x) (C s x) U w)) hb h0 hd (λs U v w⟨x,h⟩=>⟨x,h.out (hl m s x).1 v⟩) (λk s U w⟨x,h⟩=>h.hd<|hl k s x) step hgo
theorem IX{c:Code}(E:bM)(V:Z HP)(C:S->X->Z HP)(W L:S->X->Z (Nat×bL))(K:R->(Nat->bL)->bM->Prop){body:S->aW (Fl S R)}{f:S->aW β}{g:R->aW β}{N:Nat}{s0:S}(hb:((m8 body N s0).bind λo=>o.cs f g)=some res)(h0:(∃x,SH E V (W s0 x++L s0 x) (C s0 x) U w))
  (step:∀s fl U w,(∃x,SH E V (W s x++L s x) (C s x) U w)->body s=some fl->RC P n c U w (t9 (λs U w=>(∃x,SH E V (W s x++L s x) (C s x) U w)) b0 (λs U w=>(∃x,SH E V (W s x) (C s x) U w)) K fl))
  (hrt:∀r U w,g r=some res->K r U w->Q .ret U w) (hgo:∀s U w,f s=some res->(∃x,SH E V (W s x) (C s x) U w)->Q .normal U w):RC P n (.block b0<|.loop c) U w Q:=by
 obtain⟨out,hN,hb⟩:=bd hb;exact HW _ _ K hN h0 step (λr U w e=>by subst e;exact hrt r U w hb) (λs U w e=>by subst e;exact hgo s U w hb)
theorem IY{c:Code}(E:bM)(V:Z HP)(C:S->X->Z HP)(W L:S->X->Z (Nat×bL)){body:S->aW (Fl S Empty)}{f:S->aW β}{g:Empty->aW β}{N:Nat}{s0:S}(hb:((m8 body N s0).bind λo=>o.cs f g)=some res)(h0:(∃x,SH E V (W s0 x++L s0 x) (C s0 x) U w))
  (step:∀s fl U w,(∃x,SH E V (W s x++L s x) (C s x) U w)->body s=some fl->RC P n c U w (t9 (λs U w=>(∃x,SH E V (W s x++L s x) (C s x) U w)) b0 (λs U w=>(∃x,SH E V (W s x) (C s x) U w)) (λr _ _=>r.elim) fl))
  (hgo:∀s U w,f s=some res->(∃x,SH E V (W s x) (C s x) U w)->Q .normal U w):RC P n (.block b0<|.loop c) U w Q:=
 IX E V C W L (λr _ _=>r.elim) hb h0 step (λr _ _ _=>r.elim) hgo
theorem H5(E:bM)(V:Z HP)(C:S->X->Y->Z HP)(W:S->X->Y->Z (Nat×bL))(L:Nat->S->X->Y->Z (Nat×bL)){body:Nat->S->aW S}{f:S->aW β}{m:Nat}{s0:S}(hb:(j8 m body s0).bind f=some res)(h0:(∃x y,SH E V (W s0 x y++L 0 s0 x y) (C s0 x y) U w))
  (step:m<=4611686018427387904->∀k s s' U w,k<m->(∃x y,SH E V (W s x y++L k s x y) (C s x y) U w)->body k s=some s'->RC P n z (cI U d<|.bool<|decide<|(k:Int)<(m:Int)) w (λex U w=>ex = .normal/\(∃x y,SH E V (W s' x y++L (k+1) s' x y) (C s' x y) U w)))
  (hgo:∀s U w,f s=some res->(∃x y,SH E V (W s x y) (C s x y) U w)->Q .normal U w) (hd:Nat.blt d n=true:=by exact rfl) (hl:∀k s x y,lv d A B k m (W s x y++L k s x y):=by exact λ_ _ _ _=>⟨rfl,λ_=>rfl,λ_=>rfl⟩):RC P n (cl id d A B b0 T T' ty pos af z) U w Q:=
 H4 (I:=λk s U w=>(∃x y,SH E V (W s x y++L k s x y) (C s x y) U w)) (J:=λs U w=>(∃x y,SH E V (W s x y) (C s x y) U w)) hb h0 hd (λs U v w⟨x,y,h⟩=>⟨x,y,h.out (hl m s x y).1 v⟩) (λk s U w⟨x,y,h⟩=>h.hd<|hl k s x y) step hgo
theorem Iz{c:Code}(E:bM)(V:Z HP)(C:S->X->Y->Z HP)(W L:S->X->Y->Z (Nat×bL))(K:R->(Nat->bL)->bM->Prop){body:S->aW (Fl S R)}{f:S->aW β}{g:R->aW β}{N:Nat}{s0:S}(hb:((m8 body N s0).bind λo=>o.cs f g)=some res)(h0:(∃x y,SH E V (W s0 x y++L s0 x y) (C s0 x y) U w))
  (step:∀s fl U w,(∃x y,SH E V (W s x y++L s x y) (C s x y) U w)->body s=some fl->RC P n c U w (t9 (λs U w=>(∃x y,SH E V (W s x y++L s x y) (C s x y) U w)) b0 (λs U w=>(∃x y,SH E V (W s x y) (C s x y) U w)) K fl))
  (hrt:∀r U w,g r=some res->K r U w->Q .ret U w) (hgo:∀s U w,f s=some res->(∃x y,SH E V (W s x y) (C s x y) U w)->Q .normal U w):RC P n (.block b0<|.loop c) U w Q:=by
 obtain⟨out,hN,hb⟩:=bd hb;exact HW _ _ K hN h0 step (λr U w e=>by subst e;exact hrt r U w hb) (λs U w e=>by subst e;exact hgo s U w hb)
end
section
variable {P:cR}{n:Nat}{U:Nat->bL}{w E:bM}{V:Z HP}{D:Nat->Bool}{dv dv':Z (Nat×Nat×bL)}{e e':Edge}{l:Z Edge}{d d' j:Nat}{v v' u:bL}{ag:Z (Nat×bL)}{ops:bQ cA}
theorem cN.o0(h:cN D U dv)(k:Nat)(hp:jl D (e::l))(h1:dv[k]? =some (e.on,d,v))(hb:Region.binds .any e=true):U d=v:=h.at k h1<|hp.1 hb
theorem cN.o1(h:cN D U dv)(k:Nat)(hp:jl D (e::l))(h1:dv[k]? =some (e.on,d,v):=by exact rfl)(hb:Region.binds .any e=true:=by exact rfl):∃O,U=oa [(d,v)] O:=
 agree.oa (l:=[(d,v)]) ⟨h.o0 k hp h1 hb,trivial⟩
theorem cN.o2(h:cN D U dv)(k m:Nat)(hp:jl D (e::e'::l))(h1:dv[k]? =some (e.on,d,v):=by exact rfl)(hb:Region.binds .any e=true:=by exact rfl)
  (h2:dv[m]? =some (e'.on,d',v'):=by exact rfl) (hb2:Region.binds .any e'=true:=by exact rfl):∃O,U=oa [(d,v),(d',v')] O:=
 agree.oa (l:=[(d,v),(d',v')]) ⟨h.o0 k hp h1 hb,h.o0 m hp.2 h2 hb2,trivial⟩
theorem Holds.nw{c:HP}(h:Holds E w (c::V))(k:Nat)(hk:Nat.blt k V.length=true:=by exact rfl):Holds E w (V.set k (bif true then c else Gk.bB)):=by
 have hk:k<V.length:=Nat.blt_eq.mp hk
 have h2:=h.pick (V.length+1) ((List.range V.length).map λi=>if i=k then 0 else i+1) (Γ0:=[]) (new:=V.set k c) (by simp) (by
  apply List.ext_getElem
  ·simp
  ·intro i h1 h2;simp only[cW,List.length_range]at h1;simp only[List.getElem_map,List.getElem_range,List.getElem_set]
   by_cases hi:i=k
   ·subst hi;simp
   ·simp[hi,Ne.symm hi]) (by
  rw[List.nodup_iff_pairwise_ne,List.pairwise_map];exact List.nodup_range.imp λ{a b}hab=>by
   by_cases ha:a=k <;> by_cases hb:b=k <;> simp[ha,hb] <;> omega) (by
  intro i hi;rw[cE]at hi;obtain⟨a,ha,rfl⟩:=hi;rw[cO]at ha
  split <;> omega)
 rw[fY]at h2;exact h2
theorem By{X:Type}{G:X->Z HP}{f:X->Z (Nat×Nat×bL)}(x:X)(k:Nat)(hv:cN D U dv)(ha:agree U ag)(hw:Holds E w (G x))(h1:dv[k]? =some (j,d,v):=by exact rfl)(h2:tj j d k dv=true:=by exact rfl)
  (h3:f x=dv.set k (j,d,u):=by exact rfl) (h4:lg d ag=true:=by exact rfl):RL P n ops [] (cI U d u) w (λex U w=>ex = .normal/\∃x,cN (ins D j) U (f x)/\agree U ag/\lO (ins D j) U []/\Holds E w (G x)):=
 s_ ⟨rfl,x,h3▸hv.put k h1 h2,ha.up h4,trivial,hw⟩
theorem Hv{X:Type}{G:X->Z HP}{f:X->Z (Nat×Nat×bL)}(x:X)(hv:cN D U dv)(ha:agree U ag)(hw:Holds E w (G x))(h1:(dv.all λx=> !Nat.beq x.1 j)=true:=by exact rfl)
  (h3:f x=dv:=by exact rfl):RL P n ops [] U w (λex U w=>ex = .normal/\∃x,cN (ins D j) U (f x)/\agree U ag/\lO (ins D j) U []/\Holds E w (G x)):=
 s_ ⟨rfl,x,h3▸hv.no h1,ha,trivial,hw⟩
end
section
variable {P:cR}{n:Nat}{U:Nat->bL}{w:bM}{Q:dg}{d:Nat}{ops:bQ cA}{rest:Z cA}{ty:da}{pos:String}{af:bQ Edge}{q:bT}
theorem bA(a:Int)(k:RL P n ops rest (cI U d<|vi a) w Q)(hd:Nat.blt d n=true:=by exact rfl)(hx:ev U q=vi a:=by exact rfl):RL P n ops (⟨some d, .move q,ty,pos,af,none⟩::rest) U w Q:=mv (hd:=hd) (hx:=hx) (vi a) k
theorem kR(a:Bool)(k:RL P n ops rest (cI U d<|vb a) w Q)(hd:Nat.blt d n=true:=by exact rfl)(hx:ev U q=vb a:=by exact rfl):RL P n ops (⟨some d, .move q,ty,pos,af,none⟩::rest) U w Q:=mv (hd:=hd) (hx:=hx) (vb a) k
theorem aM(a:Int)(k:RL P n ops rest (cI U d<|vi a) w Q)(hd:Nat.blt d n=true:=by exact rfl)(hx:ev U q=vi a:=by exact rfl):RL P n ops (⟨some d, .assign q,ty,pos,af,none⟩::rest) U w Q:=dB (hd:=hd) (hx:=hx) (vi a) k
theorem bW(a:Bool)(k:RL P n ops rest (cI U d<|vb a) w Q)(hd:Nat.blt d n=true:=by exact rfl)(hx:ev U q=vb a:=by exact rfl):RL P n ops (⟨some d, .assign q,ty,pos,af,none⟩::rest) U w Q:=dB (hd:=hd) (hx:=hx) (vb a) k
end
theorem ej{P:cR}{n:Nat}{q:bT}{x y:Code}{U:Nat->bL}{w:bM}{Q:dg}{β:Type}{b:Bool}{A B:aW β}{r:β}(hb:(bif b then A else B)=some r)(ht:A=some r->RC P n x U w Q)(hf:B=some r->RC P n y U w Q)(hc:ev U q = .bool b:=by exact rfl):RC P n (.cond q x y) U w Q:=F7 hb hc (λ_=>ht) λ_=>hf
section
variable {α:Type}[GT α]{P:cR}{n:Nat}{U:Nat->bL}{w:bM}{Q:dg}{E:bM}{V:Z HP}{ops:bQ cA}{rest:Z cA}{d:Nat}{ty T e:da}{pos:String}{af:bQ Edge}{g:aW (Nat×Bool)}{v u:bL}{q r:bT}{l:Z α}{x y:α}{jj:Int}{vs:Z bL}
theorem GB{f:FuncId}{args:bQ bT}{ts:bQ da}{R:bL->bM->Prop}(hf:fo P f)(h:Calls P f vs.toArray w (eU R))(k:∀v w',R v w'->RL P n ops rest (cI U d v) w' Q)
  (hg:Wn ops U g:=by exact trivial) (hd:Nat.blt d n=true:=by exact rfl) (hv:args.toList.map (ev U)=vs:=by exact rfl):RL P n ops (⟨some d, .call ⟨.value<|.func f,args,ts⟩,ty,pos,af,g⟩::rest) U w Q:=
 IF hg hd hf vs hv (bS h k)
theorem y_{f:FuncId}{args:bQ bT}{ts:bQ da}{S:bM->Prop}(hf:fo P f)(h:Calls P f vs.toArray w (eU λv w=>v=u/\S w))(k:∀w',S w'->RL P n ops rest (cI U d u) w' Q)
  (hg:Wn ops U g:=by first|exact trivial|exact⟨_,rfl,rfl⟩|exact⟨_,rfl,Gk.cb ‹_›⟩) (hd:Nat.blt d n=true:=by exact rfl) (hv:args.toList.map (ev U)=vs:=by exact rfl):RL P n ops (⟨some d, .call ⟨.value<|.func f,args,ts⟩,ty,pos,af,g⟩::rest) U w Q:=
 GB hf h (λv w⟨e,h⟩=>e▸k w h) hg hd hv
theorem Gp{b:Nat}(i:Nat)(hw:Holds E w V)(hi:V[i]? =some (bx e b x))(hT:jP P T (GT.agg α) (GT.sz α))(k:∀v,Holds E w (rd v x::V)->RL P n ops rest (cI U d v) w Q)(hg:Wn ops U g:=by exact trivial)(hd:Nat.blt d n=true:=by exact rfl)
  (hx:ev U q = .pointer (some ⟨b,0,none⟩):=by exact rfl):RL P n ops (⟨some d, .load T q,ty,pos,af,g⟩::rest) U w Q:=GA (hg:=hg) (hd:=hd) (hx:=hx) (f:=λx=>x) _ hw hi Fd.self hT k
theorem Hj(i:Nat)(hw:Holds E w V)(h:idx l jj=some x)(hT:jP P T (GT.agg α) (GT.sz α))(k:∀v,Holds E w (rd v x::V)->RL P n ops rest (cI U d v) w Q)(hg:Wn ops U g:=by exact trivial)(hd:Nat.blt d n=true:=by exact rfl)
  (hi:V[i]? =some (own e v l):=by exact rfl) (hx:ev U q=xG v jj.toNat (GT.sz α) 0:=by exact rfl):RL P n ops (⟨some d, .load T q,ty,pos,af,g⟩::rest) U w Q:=
 HB (f:=λx=>x) hg hd hw hx (wW (hi:=hi) _ hw h 0) hi (dY h).2.1 Fd.self hT k
theorem HQ{γ:Type}[Sc γ]{l:Z γ}{x:γ}(i:Nat)(hw:Holds E w V)(h:idx l jj=some x)(hT:jP P T false 1)(k:RL P n ops rest (cI U d<|Sc.toV x) w Q)(hg:Wn ops U g:=by exact trivial)(hd:Nat.blt d n=true:=by exact rfl)
  (hi:V[i]? =some (own e v l):=by exact rfl) (hx:ev U q=xG v jj.toNat (GT.sz γ) 0:=by exact rfl):RL P n ops (⟨some d, .load T q,ty,pos,af,g⟩::rest) U w Q:=
 Ht (f:=λx=>x) hg hd hw hx (wW (hi:=hi) _ hw h 0) hi (dY h).2.1 Fd.self hT k
theorem Hx(i j:Nat)(hw:Holds E w V)(h:idx l jj=some x)(hT:jP P T (GT.agg α) (GT.sz α))(k:∀w',Holds E w' (V.set i<|own e v<|l.set jj.toNat y)->RL P n ops rest U w' Q)(hg:Wn ops U g:=by exact trivial)
  (hi:V[i]? =some (own e v l):=by exact rfl) (hx:ev U q=xG v jj.toNat (GT.sz α) 0:=by exact rfl) (hy:ev U r=u:=by exact rfl) (hj:V[j]? =some (rd u y):=by exact rfl):RL P n ops (⟨none, .store T q r,ty,pos,af,g⟩::rest) U w Q:=
 Ia (f:=λ_ y=>y) hg hw hx hy (wW (hi:=hi) _ hw h 0) hi (dY h).2.1 hj Fs.self (by omega) hT k
end
theorem FU(U:Nat->bL):∃O,U=oa [] O:=⟨U,rfl⟩
section
variable {P:cR}{n:Nat}{U:Nat->bL}{w:bM}{Q:dg}{ops:bQ cA}{rest:Z cA}{d:Nat}{ty T T':da}{pos:String}{af:bQ Edge}{v:bL}{x y z q:bT}
theorem gx{C:Bool}(hq:ev U q=cv C v)(h:C=true):ev U q=v:=hq.trans<|wR h
theorem Cz{C B:Bool}(hq:ev U q=cv C v)(h:(C&&B)=true):ev U q=v:=hq.trans<|wR<|zG h
theorem w4{C B B':Bool}(hq:ev U q=cv C v)(h:((C&&B)&&B')=true):ev U q=v:=hq.trans<|wR<|zG<|zG h
theorem GF{j t:Nat}{want b:Bool}{op:Op}(v:bL)(ht:(ops[j]?).bind (·.dst)=some t)(hv:U t = .bool b)
  (hrun:(true&&(b==want))=true->(execOp (ev U) ⟨some d,op,ty,pos,af,some (j,want)⟩).run P w = .ok (.value v) w)
  (k:RL P n ops rest (cI U d<|cv (true&&(b==want)) v) w Q) (hd:Nat.blt d n=true:=by exact rfl):RL P n ops (⟨some d,op,ty,pos,af,some (j,want)⟩::rest) U w Q:=
 Hl true _ _ ht hv hd hrun k
theorem HR{j t:Nat}{c want b:Bool}{op:Op}(v:bL)(ht:(ops[j]?).bind (·.dst)=some t)(hv:U t=cv c (.bool b))
  (hrun:(c&&(b==want))=true->(execOp (ev U) ⟨some d,op,ty,pos,af,some (j,want)⟩).run P w = .ok (.value v) w)
  (k:RL P n ops rest (cI U d<|cv (c&&(b==want)) v) w Q) (hd:Nat.blt d n=true:=by exact rfl):RL P n ops (⟨some d,op,ty,pos,af,some (j,want)⟩::rest) U w Q:=
 Hl _ _ _ ht hv hd hrun k
theorem xV{C:Bool}{o:cA}(ho:o.op = .move x:=by exact rfl)(hx:C=true->ev U x=v:=by first|exact gx rfl|exact Cz rfl|exact w4 rfl|exact λ_=>rfl):C=true->(execOp (ev U) o).run P w = .ok (.value v) w:=Bf ho hx
theorem Bb{C:Bool}{o:cA}{K:IntKind}{a b:Int}(bop:BinOp)(ho:o.op = .binOp bop T x y T':=by exact rfl)(hx:C=true->ev U x = .int K a:=by first|exact gx rfl|exact Cz rfl|exact w4 rfl|exact λ_=>rfl)
  (hy:C=true->ev U y = .int K b:=by first|exact gx rfl|exact Cz rfl|exact w4 rfl|exact λ_=>rfl) (hc:po bop=true:=by exact rfl):
  C=true->(execOp (ev U) o).run P w = .ok (.value<|.bool<|kx bop a b) w:=Bg ho hx hy hc
theorem F8{C:Bool}{o:cA}{a b:aP}(bop:BinOp)(ho:o.op = .binOp bop T x y T':=by exact rfl)(hx:C=true->ev U x=str a:=by first|exact gx rfl|exact Cz rfl|exact w4 rfl|exact λ_=>rfl)
  (hy:C=true->ev U y=str b:=by first|exact gx rfl|exact Cz rfl|exact w4 rfl|exact λ_=>rfl) (hc:po bop=true:=by exact rfl):
  C=true->(execOp (ev U) o).run P w = .ok (.value<|.bool<|pq bop a b) w:=Bh ho hx hy hc
theorem F9{C:Bool}{o:cA}{b:Bool}(ho:o.op = .unOp .not T x:=by exact rfl)(hx:C=true->ev U x = .bool b:=by first|exact gx rfl|exact Cz rfl|exact w4 rfl|exact λ_=>rfl):
  C=true->(execOp (ev U) o).run P w = .ok (.value<|.bool<|!b) w:=Co ho hx
theorem FV{C a b:Bool}{o:cA}(ho:o.op = .pick x y z:=by exact rfl)(hx:C=true->ev U x = .bool a:=by first|exact gx rfl|exact Cz rfl|exact w4 rfl|exact λ_=>rfl)
  (hy:ev U y = .bool true:=by exact rfl) (hz:ev U z=cv (C&&(a==false)) (.bool b):=by exact rfl):C=true->(execOp (ev U) o).run P w = .ok (.value<|.bool<|a||b) w:=
 Bi ho hx λh=>by rw[hy,hz];exact rI _ h
end
section
variable {α β:Type}[GT α][GT β]
def Dg:Nat->Z (α->β)->Prop
 |_,[]=>True
 |off,f::fs=>Fd off f/\Dg (off+GT.sz β) fs
theorem Dg.get:∀{fs:Z (α->β)}{off i:Nat}{f:α->β},Dg off fs->fs[i]? =some f->Fd (off+i*GT.sz β) f
 | [],_,_,_,_,h=>by simp at h
 |f::fs,off,0,f',h,h2=>by
  simp at h2;subst h2;rw[Nat.zero_mul,Nat.add_zero];exact h.1
 |f::fs,off,i+1,f',h,h2=>by
  have:=Dg.get (i:=i) h.2 (by simpa using h2);rw[Nat.add_mul,Nat.one_mul,Nat.add_comm<|i*GT.sz β,<-Nat.add_assoc];exact this
variable {P:cR}{n:Nat}{U:Nat->bL}{w:bM}{Q:dg}{E:bM}{V:Z HP}{i:Nat}
variable {ops:bQ cA}{rest:Z cA}{d:Nat}{T ty e:da}{pos:String}{af:bQ Edge}{g:aW (Nat×Bool)}{p:bL}{q:bT}{x:α}{m:Nat}
theorem Ae{sz:Nat}(hT:Cu P T m e sz)(ad:Addr)(w:bM):(Instr.sliceAt T (.pointer<|some ad) none none none).run P w = .ok (.slice (some ad) m m) w:=by
 unfold Instr.sliceAt;simp only[aO,run_underlying hT.pf,aR,Instr.sureAddr,Instr.sliceBounds,aS,hT.sz,Nat.zero_mul,Nat.sub_zero];congr 3;split <;> rfl
theorem IA{fs:Z (α->β)}(l:Z β)(i:Nat)(hg:Wn ops U g)(hd:Nat.blt d n=true)(hw:Holds E w V)(hx:ev U q=p)(hi:V[i]? =some (pt p x))(hA:Cu P T m e (GT.sz β))(hF:Dg 0 fs)(hn:fs.length=m)(hl:fs.map (λf=>f x)=l)(k:∀v,Holds E w (rd v l::V)->RL P n ops rest (cI U d v) w Q)(hm:m<=maxLen:=by decide):
  RL P n ops (⟨some d, .slice T q none none none,ty,pos,af,g⟩::rest) U w Q:=by
 obtain⟨M,hs,gd⟩:=hw;obtain⟨⟨ad,cs,hv,ho,ha⟩,_⟩:=gd.sat i _ hi;have hok:iV M (.slice (some ad) m m) l:=by
  refine⟨some ad,m,m,rfl,by rw[<-hl,cW,hn],aX _,hm,λj y hy=>?_⟩;rw[<-hl,fX]at hy
  cases hf:fs[j]? with
  |none=>rw[hf]at hy;cases hy
  |some f=>
   rw[hf]at hy;injection hy with hy
   subst hy;have h1:=hF.get hf M cs x ho;rw[ez]at h1;exact⟨ad,_,rfl,h1,ha.sub (j*GT.sz β)<|GT.sz β⟩
 refine BY hg hd ?_<|k _ ⟨M,_,gd.dD ⟨hU.2 hok,rfl⟩⟩
 simp only[execOp,hx,hv,Option.map_none,aO,Ae hA,aR,aS]
end
section
variable {κ ν:Type}[GT κ][KV κ][DecidableEq κ][GT ν]
theorem tE(k:κ)(x y:ν):∀m:Z (κ×ν),cP (cP m k y) k x=cP m k x
 | []=>by simp[cP]
 |p::m=>by
  by_cases h:k=p.1
  ·simp[cP,h]
  ·simp[cP,h,tE k x y m]
theorem nm(k k':κ)(z:ν):∀m:Z (κ×ν),aZ (cP m k<|aZ m k z) k' z=aZ m k' z
 | []=>by
  simp only[cP,aZ,List.find?_cons,List.find?_nil]
  by_cases h:k'=k <;> simp[h]
 |p::m=>by
  have ih:=nm k k' z m
  by_cases h:k=p.1
  ·obtain⟨p1,p2⟩:=p;simp only at h;subst h;simp[cP,aZ,List.find?_cons]
  ·simp only[cP,h,if_false,aZ,List.find?_cons,bP h]at ih ⊢
   by_cases h':k'=p.1
   ·simp[h']
   ·simpa[h']using ih
def Eh(v:bL)(m:Z (κ×ν))(k:κ)(y:ν)(a:Int):HP:=
 ⟨λM h=>∃r es clock,v = .map (some r)/\(gv M (Array.toList es) (cP m k y)/\zO es.toList clock (cP m k y))/\h=Gk.one r (.map es clock)/\∃(i:Nat)(en:MapEntry),es[i]? =some en/\cL (cP m k y) k=some i/\((en.born:Nat):Int)=a/\en.key=KV.enc k,
  λkk⟨r,es,c,hv,⟨he,hst⟩,hh,hx⟩=>⟨r,es,c,hv,⟨gv.mono kk he,hst⟩,hh,hx⟩⟩
def CA(v:bL)(m:Z (κ×ν))(z:ν):HP:=
 ⟨λM h=>∃m',(∀k,aZ m' k z=aZ m k z)/\(mp v m').ok M h,λkk⟨m',h1,h2⟩=>⟨m',h1,(mp v m').mono kk h2⟩⟩
theorem rZ(k:κ)(y:ν):∀{m:Z (κ×ν)},cL (cP m k y) k=some ((cL m k).getD m.length)
 | []=>by simp[cL,cP]
 |p::m=>by
  by_cases h:k=p.1
  ·simp[cL,cP,h,List.findIdx?_cons]
  ·have:=rZ k y (m:=m);simp only[cL,cP,h,if_false,List.findIdx?_cons,bP h,Bool.false_eq_true]at this ⊢;rw[this]
   cases List.findIdx? (λp=>decide<|k=p.1) m <;> simp
variable {P:cR}{n:Nat}{U:Nat->bL}{w:bM}{Q:dg}{E:bM}{V:Z HP}{i j l:Nat}
variable {ops:bQ cA}{rest:Z cA}{d:Nat}{ty T kt et:da}{pos:String}{af:bQ Edge}{g:aW (Nat×Bool)}{v kv u:bL}{q qk qv:bT}{r:Nat}{m:Z (κ×ν)}{k:κ}{x y z0:ν}{a:Int}
theorem Good.put{M:bZ}{hs:Nat->bZ}{P':HP}(gd:Good E w M hs V)(hi:i<V.length)(hp:P'.ok M (hs i)):Good E w M hs (V.set i P'):=by
 refine⟨gd.os,gd.tape,gd.out,gd.dr,gd.im,λj P h=>?_,λj b o hj=>?_,λj b o hj=>?_,λj l b o hj hl=>?_⟩
 ·rw[ff]at h;split at h
  ·rename_i e;subst e;injection h with h
   subst h;exact hp
  ·exact gd.sat j P h
 ·rw[fg]at hj;exact gd.le j b o hj
 ·rw[fg]at hj;exact gd.dm j b o hj
 ·rw[fg]at hj hl;exact gd.dj j l b o hj hl
theorem tF{z:ν}:∀{m:Z (κ×ν)},m.find? (λp=>decide<|k=p.1)=some (k,x)->cP m k x=m
 | [],h=>by simp at h
 |p::m,h=>by
  rw[List.find?_cons]at h;unfold cP
  by_cases e:k=p.1
  ·rw[dw e]at h;simp only[Option.some.injEq]at h;rw[aK e,h]
  ·rw[bP e]at h;rw[aL e,tF (z:=x) h]
theorem uv{es:bQ MapEntry}{b:Nat}{en:MapEntry}(h:es[b]? =some en){f g:MapEntry->MapEntry}(e:f en=g en):es.modify b f=es.modify b g:=by
 apply Array.ext (by simp);intro j h1 h2;simp only[Array.getElem_modify];split
 ·rename_i hj;subst hj;have:es[b]'(by simpa using h1)=en:=by
   have hb:b<es.size:=by simpa using h1
   rw[di hb]at h;exact Option.some.inj h
  rw[this,e]
 ·rfl
theorem vN{es:bQ MapEntry}{b:Nat}{en:MapEntry}(h:es[b]? =some en){f:MapEntry->MapEntry}(e:f en=en):es.modify b f=es:=by
 apply Array.ext (by simp);intro j h1 h2;simp only[Array.getElem_modify];split
 ·rename_i hj;subst hj;rw[di h2]at h;rw[Option.some.inj h,e]
 ·rfl
theorem uw{es:bQ MapEntry}{clock b:Nat}{m':Z (κ×ν)}{en:MapEntry}(hst:zO es.toList clock m')(h:es[b]? =some en):es.findIdx? (λe=>((e.born:Nat):Int)==((en.born:Nat):Int))=some b:=by
 have hb:b<es.size:=(Array.getElem?_eq_some_iff.1 h).1;rw[Array.findIdx?_eq_some_iff_getElem];rw[di hb]at h;have he:=Option.some.inj h;refine⟨hb,by rw[he];simp,λj hj=>?_⟩;have hn:=hst.2.1;rw[List.nodup_iff_pairwise_ne,List.pairwise_iff_getElem]at hn;have:=hn j b (by simp;omega) (by simp;omega) hj;simp only[List.getElem_map,Array.getElem_toList]at this;simp only[beq_iff_eq,<-he];intro h;exact this (by omega)
theorem Holds.Bx(h:Holds E w ([mp v m]++V))(z:ν):Holds E w ([CA v m z]++V):=by
 obtain⟨M,hs,gd⟩:=h;exact⟨M,hs,gd.put (i:=0) (P':=CA v m z) (Nat.zero_lt_succ _) ⟨m,λ_=>rfl,gd.sat 0 _ rfl⟩⟩
theorem Holds.Dh(h:Holds E w ([Eh v m k (aZ m k z0) a]++V)):Holds E w ([CA v m z0]++V):=by
 obtain⟨M,hs,gd⟩:=h;obtain⟨r,es,c,hv,he,hh,_⟩:=gd.sat 0 _ rfl;exact⟨M,hs,gd.put (i:=0) (P':=CA v m z0) (Nat.zero_lt_succ _) ⟨_,λk'=>nm k k' z0 m,r,es,c,hv,he,hh⟩⟩
theorem IB [KV ν](i:Nat)(k:κ)(hg:Wn ops U g)(hd:Nat.blt d n=true)(hw:Holds E w V)(hx:ev U q=v)(hk:ev U qk=KV.enc k)(hi:V[i]? =some (CA v m z0))(hT:nd P T kt et κ ν z0)(kk:RL P n ops rest (cI U d<|KV.enc<|aZ m k z0) w Q):RL P n ops (⟨some d, .lookup T q qk false,ty,pos,af,g⟩::rest) U w Q:=by
 obtain⟨M,hs,gd⟩:=hw;obtain⟨m',hm,hp⟩:=gd.sat i _ hi;have hw':Holds E w (V.set i<|mp v m'):=⟨M,hs,gd.put (bD hi) hp⟩;refine Hm (hg:=hg) i _ hd hw' hx hk (by rw[List.getElem?_set_self<|bD hi]) hT ?_;rw[hm];exact kk
theorem IC(i:Nat)(k:κ)(hg:Wn ops U g)(hd:Nat.blt d n=true)(hw:Holds E w V)(hx:ev U q=v)(hk:ev U qk=KV.enc k)(hi:V[i]? =some (mp v m))(hT:nd P T kt et κ ν z0)(kk:∀y a w',Holds E w' (V.set i<|Eh v m k (aZ m k z0) a)->RL P n ops rest (cI U d<|.tuple #[y, .int .i64 a]) w' Q):RL P n ops (⟨some d, .mapEntry T q qk,ty,pos,af,g⟩::rest) U w Q:=by
 obtain⟨M,hs,gd⟩:=hw;obtain⟨r,es,clock,rfl,⟨he,hst⟩,hh⟩:=gd.sat i _ hi;have hb:=gd.le i r _ (bD hi) (by rw[hh];exact bG r _);obtain⟨o,ho,hs'⟩:=run_findKey hT.key M he w (k:=k);obtain⟨inf,z,hin,hzz,hzr⟩:=hT.zero
 cases o with
 |none=>
  obtain⟨h1,h2⟩:=hs';have hg':aZ m k z0=z0:=by simp[aZ,h2]
  refine BY (v:= .tuple #[z, .int .i64 clock]) (w':={w with heap:=w.heap.setIfInBounds r (.map (es.push {key:=KV.enc k,val:=z,born:=clock}) (clock+1))}) hg hd ?_ (kk _ _ _ (jW gd hi hh (es':=es.push {key:=KV.enc k,val:=z,born:=clock}) (c':=clock+1)
   ⟨r,_,_,rfl,⟨?_,by rw[Array.toList_push];exact hst.push k _ rfl⟩,rfl,es.size,_,Array.getElem?_push_size,?_,rfl,rfl⟩))
  ·simp[execOp,hx,hk,Instr.mapEntry,run_underlying hT.pf,MapKept.run_getObj_map hb,hT.key.B5,ho,MapKept.run_setObj_map _ hb,zeroValue,typeInfo,hin,hzz,program,Sem.run,goInt,Result.andThen]
  ·rw[Array.toList_push,hg'];exact he.push h1 rfl<|hzr M
  ·rw[rZ,h1];have:=he.len;simp only[Array.length_toList]at this;simp[this]
 |some ay=>
  obtain⟨b,y⟩:=ay;obtain⟨x',h1,h2,h3,en,h4,h5⟩:=hs';have h4':es[b]? =some en:=by grind
  have hg':aZ m k z0=x':=by simp[aZ,h2]
  have hstay:(Instr.keyThatStays (KV.enc k)<|KV.enc k).run P w = .ok (KV.enc k) w:=by simp[Instr.keyThatStays,hT.key.bits]
  have hms:es.modify b (λe=>{e with key:=KV.enc k})=es:=vN h4' (by rw[<-h5]);have hmp:cP m k x'=m:=tF (z:=x') h2
  refine BY (v:= .tuple #[y, .int .i64 en.born]) (w':={w with heap:=w.heap.setIfInBounds r (.map es clock)}) hg hd ?_ (kk _ _ _ (jW gd hi hh (es':=es) (c':=clock)
   ⟨r,_,_,rfl,by rw[hg',hmp];exact⟨he,hst⟩,rfl,b,en,h4',by rw[hg',hmp];exact h1,rfl,h5⟩))
  simp[execOp,hx,hk,Instr.mapEntry,run_underlying hT.pf,MapKept.run_getObj_map hb,hT.key.B5,ho,MapKept.run_setObj_map _ hb,h4',h5,hstay,hms,goInt]
theorem ID(i j:Nat)(k:κ)(hg:Wn ops U g)(hw:Holds E w V)(hx:ev U q=v)(hk:ev U qk = .int .i64 a)(hv:ev U qv=u)(hi:V[i]? =some (Eh v m k y a))(hj:V[j]? =some (rd u x))(kk:∀w',Holds E w' (V.set i<|mp v<|cP m k x)->RL P n ops rest U w' Q):RL P n ops (⟨none, .entryStore T q qk qv,ty,pos,af,g⟩::rest) U w Q:=by
 obtain⟨M,hs,gd⟩:=hw;obtain⟨r,es,clock,rfl,⟨he,hst⟩,hh,b,en,h4,h1,h6,h5⟩:=gd.sat i _ hi;have hu:=(gd.sat j _ hj).1;have hb:=gd.le i r _ (bD hi) (by rw[hh];exact bG r _);have hf:=uw hst h4;have hmc:es.modify b (λe=>{e with val:=u})=es.modify b (λe=>{e with key:=KV.enc k,val:=u}):=uv h4 (by rw[<-h5])
 refine Hk hg ?_ (kk _ (jW gd hi hh (es':=es.modify b λe=>{e with key:=KV.enc k,val:=u}) (c':=clock)
  ⟨r,_,_,rfl,by
   rw[Array.toList_modify,<-tE k x y m]
   exact⟨gv.modify (λ_=>rfl) (λ_=>hu) he h1,hst.modify k x (f:=λe=>{e with key:=KV.enc k,val:=u}) (λ_=>rfl) b⟩,rfl⟩))
 simp[execOp,hx,hk,hv,Instr.entryStore,MapKept.run_getObj_map hb,MapKept.run_setObj_map _ hb,<-h6,asInt,asIntOf,hf,hmc]
end
def r3:Z bL->Z (Nat×bL)->aW (Z bL)
 |z,[]=>some z
 |z,(i,v)::rest=>if Nat.blt i z.length=true then r3 (z.set i v) rest else none
theorem Af:∀{vs:Z (Nat×bL)}{z cs:Z bL},zQ vs->r3 z vs=some cs->Instr.fill (λi=>some (i*1,1)) z.toArray vs=some cs.toArray
 | [],z,cs,_,h=>by
  unfold r3 at h;injection h with h;subst h;rfl
 |(i,v)::rest,z,cs,h1,h=>by
  unfold r3 at h;unfold Instr.fill;have hc:v.cells = #[v]:=by have:=h1.1;cases v <;> first|rfl|(cases this)
  split at h
  ·rename_i hlt;have hlt':i<z.length:=Nat.blt_eq▸hlt;have ih:=Af h1.2 h
   simp_all
   omega
  ·cases h
section
variable {P:cR}{n:Nat}{U:Nat->bL}{w:bM}{Q:dg}{ops:bQ cA}{rest:Z cA}{d:Nat}{T ty:da}{pos:String}{af:bQ Edge}{g:aW (Nat×Bool)}{zs cs:Z bL}
theorem IZ{parts:bQ (Nat×bT)}(hg:Wn ops U g)(hd:Nat.blt d n=true)(vs:Z (Nat×bL))(hvs:parts.toList.map (λp=>(p.1,ev U p.2))=vs)(hT:B9 P T 1 zs.toArray)(h1:zQ vs)(hf:r3 zs vs=some cs)
  (k:RL P n ops rest (cI U d<|.agg cs.toArray) w Q):RL P n ops (⟨some d, .build T parts,ty,pos,af,g⟩::rest) U w Q:=by
 have e1:parts.map (λ(i,x)=>(i,ev U x))=vs.toArray:=by rw[<-hvs];cases parts;simp
 refine BY (v:= .agg cs.toArray) hg hd ?_ k;simp only[execOp,aO];rw[e1,hT.run _ _ _<|Af h1 hf];simp only[aR,aS]
end
end Go.Gk
namespace Go.Gk
open Go IntKind Go.Proofs Go.Sort
def uN(w:bM):HP:=⟨λM _=>∀b,b<w.heap.size->M b=w.heap[b]?,λh hk b hb=>by
 have:=hk b hb;rw[di hb]at this ⊢
 exact h b _ this⟩
theorem Holds.all(w:bM):Holds w w [uN w]:=by
 refine⟨λb=>w.heap[b]?,λ_=>j9,⟨rfl,rfl,rfl,aX _,λ_ _ h=>h,λi P hP=>?_,λ_ _ _ _ h=>(by cases h),λ_ _ _ _ h=>(by cases h),λ_ _ _ _ _ _ _ h=>(by cases h)⟩⟩
 cases i with
 |zero=>simp at hP;subst hP;exact λ_ _=>rfl
 |succ i=>simp at hP
theorem Holds.grown{w w':bM}{V:Z HP}{i:Nat}(h:Holds w w' V)(hi:V[i]? =some (uN w)):∃q os,w'=grow (w.drewN q) os:=by
 obtain⟨M,hs,g⟩:=h;have hk:=g.sat i _ hi;have key:∀b,b<w.heap.size->w'.heap[b]? =w.heap[b]? :=λb hb=>by
  have:=hk b hb;rw[di hb]at this;rw[g.im b _ this,di hb]
 have hsz:w.heap.size<=w'.heap.size:=by
  rcases Nat.lt_or_ge w'.heap.size w.heap.size with h|h
  ·have:=key w'.heap.size h;rw[Array.getElem?_eq_none<|aX _,di h]at this
   cases this
  ·exact h
 refine⟨w'.drawn - w.drawn,w'.heap.extract w.heap.size w'.heap.size,?_⟩;have e1:w'.heap=w.heap++w'.heap.extract w.heap.size w'.heap.size:=by
  apply Array.ext_getElem?;intro k;rw[Array.getElem?_append];split
  ·rename_i hk;exact key k hk
  ·rename_i hk;rw[Array.getElem?_extract]
   by_cases h2:k<w'.heap.size
   ·rw[aK (by omega)];congr 1;omega
   ·rw[aL (by omega),Array.getElem?_eq_none (by omega)]
 obtain⟨h1,h2,h3,h4,h5⟩:=w';obtain⟨k1,k2,k3,k4,k5⟩:=w;have a1:=g.os;have a2:=g.tape;have a3:=g.out;have a4:=g.dr;simp only at a1 a2 a3 a4 e1;subst a1;subst a2;subst a3;simp only[grow,World.drewN,World.mk.injEq,and_true,true_and];exact⟨e1,by omega⟩
section
variable {β:Type}[Inhabited β](enc:β->Z bL)(k:Nat)(w:bM)(g o m:Nat)(dk:bQ β)(os:bQ Obj)
theorem wa{b:Nat}(hb:b<w.heap.size)(hg:b≠g):(sortWorldK enc k w g o m dk os).heap[b]? =w.heap[b]? :=by
 simp only[sortWorldK,grow,putRowK,putRow,mapBlock,Go.Sort.ahead];rw[Array.getElem?_append_left (by simpa using hb),Array.getElem?_modify,aL<|λh=>hg h.symm]
theorem BN{cur:bQ bL}{e:da}{fr:Nat×Nat}(hg:w.heap[g]? =some (.cells cur e fr)):
  (sortWorldK enc k w g o m dk os).heap[g]? =some (.cells (putCells id o (flatK enc k dk) cur) e fr):=by
 have hb:g<w.heap.size:=(Array.getElem?_eq_some_iff.1 hg).1;simp only[sortWorldK,grow,putRowK,putRow,mapBlock,Go.Sort.ahead];rw[Array.getElem?_append_left (by simpa using hb),Array.getElem?_modify,aK rfl,hg];rfl
end
theorem xc{β:Type}[Inhabited β]{enc:β->Z bL}{k:Nat}(hk:∀x,(enc x).length=k)(hk0:0<k)(d:bQ β)(o:Nat)(cur:bQ bL)(ho:o+d.size*k<=cur.size)(a:Nat)(ha:a<d.size):
  (((putCells id o (flatK enc k d) cur).toList.drop o).drop<|a*k).take k=enc d[a]! :=by
 apply List.ext_getElem?;intro t;rw[List.drop_drop,dV]
 by_cases ht:t<k
 ·have h1:a*k+t<d.size*k:=by
   have:=Nat.mul_le_mul_right k (show a+1<=d.size from ha);rw[Nat.add_mul,Nat.one_mul]at this;omega
  rw[aK ht,fW,Array.getElem?_toList];have hsz:o+a*k+t<(putCells id o (flatK enc k d) cur).size:=by simp only[putCells,Array.size_mapIdx];omega
  rw[di hsz];simp only[putCells,Array.getElem_mapIdx,size_flatK];rw[aK (by omega),aN (by rw[hk];exact ht)];have e1:o+a*k+t - o=a*k+t:=by omega
  rw[e1,get_flatK _ _ _ _ h1];have e2:(a*k+t) / k=a:=by rw[Nat.mul_comm,Nat.mul_add_div hk0,Nat.div_eq_of_lt ht,Nat.add_zero]
  have e3:(a*k+t) % k=t:=by rw[Nat.mul_comm,Nat.mul_add_mod,Nat.mod_eq_of_lt ht]
  rw[e2,e3,getElem!_pos _ t (by rw[hk];exact ht)];rfl
 ·rw[aL ht,List.getElem?_eq_none (by rw[hk];omega)]
theorem BO{P:cR}{ρ:Shelf.Ren}(L:SlLaysF0.n6 P ρ){α:Type}[GT α](hag:GT.agg α=true)(aE:∀w,(isAgg<|ρ.t 24).run P w = .ok true w)(zE:∀w,(Go.sizeOf<|ρ.t 24).run P w = .ok (GT.sz α) w)
  {E w:bM} {V:Z HP} {e:da} {v:bL} {l l':Z α} {gf:Nat} {φ:α->α->aW Int} (hfn:fo P gf)
  (hcl:∀{E' w':bM}{Γ':Z HP}{u u':bL}{x x':α}{r:Int}{i j:Nat},Holds E' w' Γ'->Γ'[i]? =some (rd u x)->Γ'[j]? =some (rd u' x')->φ x x'=some r->Calls P gf [u,u'].toArray w' (eU λz w''=>z = .int .i64 r/\Holds E' w'' Γ'))
  (hw:Holds E w (own e v l::V)) (hb:mT φ l=some l'):
  Calls P (ρ.f 6) [v, .func (.func gf) #[] #[]].toArray w (eU λz w'=>z = .tuple #[]/\Holds E w' (own e v l'::V)):=by
 unfold mT at hb;split at hb
 case isFalse=>cases hb
 rename_i hc;obtain⟨⟨hφ,hO⟩,hbig⟩:=hc;have hO:SWO (ltOf<|rS φ l):=hO;injection hb with hb
 by_cases hn:0<l.length
 case neg=>
  have hl:l= []:=List.length_eq_zero_iff.1 (by omega);subst hl;have e1:l'= []:=by rw[<-hb];rfl
  subst e1;obtain⟨a,c,hv⟩:=hw.il (i:=0) rfl;subst hv;refine Calls.mono (AnyF.slices_SortFunc_none L a c _ w) λex w' h=>?_;obtain⟨rfl,rfl⟩:=h;exact⟨_,rfl,rfl,hw⟩
 letI inh:Inhabited (Fin l.length):=⟨⟨0,hn⟩⟩
 obtain⟨M,hs,gd⟩:=hw
 rcases gd.sat 0 _ rfl with⟨_,h2,_⟩|⟨g,o,cap,cur,xs,rfl,hcap,hmax,hh,hsz,hx,hcs⟩
 ·rw[h2]at hn;exact absurd hn (by simp)
 have hg:w.heap[g]? =some (.cells cur e (0,0)):=gd.le 0 g _ (by simp) (by rw[hh];exact bG g _);have hgs:g<w.heap.size:=(Array.getElem?_eq_some_iff.1 hg).1;have hMg:M g=none:=gd.dm 0 g _ (by simp) (by rw[hh];exact bG g _);generalize hK:GT.sz α=k at *;have hk0:0<k:=by rw[<-hK];exact GT.pos
 subst hx;have hlen:l.length*k<=cap*k:=Nat.mul_le_mul_right k hcap
 let enc:Fin l.length->Z bL:=λi=>(((cur.toList.drop o).take<|l.length*k).drop<|i.val*k).take k
 have henc:∀i:Fin l.length,enc i=(cur.toList.drop<|o+i.val*k).take k:=λi=>by
  have:=kL (sz:=k) i.isLt;show(((cur.toList.drop o).take<|l.length*k).drop<|i.val*k).take k=_;rw[List.drop_take,List.take_take,List.drop_drop,Nat.min_eq_left (by omega)]
 have hlk:∀i,(enc i).length=k:=λi=>by
  have:=kL (sz:=k) i.isLt;rw[henc,bX,fO,Array.length_toList];omega
 have hel:∀i:Fin l.length,GT.ok M (enc i) l[i]:=λi=>by
  have:=hcs.2 i.val l[i]<|aN i.isLt
  rw[hK]at this;exact this
 have hone:∀x,∀v∈enc x,v.oneCell'=true:=λx v hv=>GT.one (hel x) v hv
 let d:bQ (Fin l.length):=Array.ofFn λi:Fin l.length=>i
 have hds:d.size=l.length:=by simp[d]
 have hdi:∀i(hi:i<l.length),d[i]! = ⟨i,hi⟩:=λi hi=>by rw[getElem!_pos d i (by rw[hds];exact hi)];simp[d]
 have hH:HoldsK enc k w g o d:=by
  intro j hj;rw[size_flatK,hds]at hj;have hj2:j / k<l.length:=Nat.div_lt_of_lt_mul (by rw[Nat.mul_comm];exact hj);have hjm:j % k<k:=Nat.mod_lt _ hk0;have hdm:j / k*k+j % k=j:=by rw[Nat.mul_comm];exact Nat.div_add_mod j k
  have hbd:=kL (sz:=k) hj2;have hin:o+j<cur.size:=by omega
  refine⟨?_,?_⟩
  ·rw[get_flatK _ _ _ _ (by rw[hds];exact hj),hdi _ hj2];have e1:(enc ⟨j / k,hj2⟩)[j % k]! =cur[o+j]:=by
    rw[getElem!_pos _ _ (by rw[hlk];exact hjm)];apply Option.some.inj;rw[<-aN,henc,dV,aK hjm,fW,Array.getElem?_toList,<-di];congr 1;show o+j / k*k+j % k=o+j;omega
   rw[e1];simp only[World.cell?,hg];simp[di hin]
  ·simp only[World.frozen?,hg];simp
 have hsort:=AnyQ.slices_SortFunc_eq L k aE zE enc hlk hone (rS φ l) hO gf #[] g o cap d w hfn.run ?_ hH hgs ?_
 case refine_2=>rw[hds];exact hbig
 case refine_1=>
  intro m os dk hdk x y;have hxy:φ l[x] l[y]=some (rS φ l x y):=by obtain⟨c,hc⟩:=hφ x y;unfold rS;rw[hc];rfl
  generalize hW:sortWorldK enc k w g o m dk os=W;have hMW:hle M (λb=>W.heap[b]?):=λb o' hb=>by
   have hbw:=gd.im b o' hb;have hne:b≠g:=λh=>by rw[h,hMg]at hb;cases hb
   show W.heap[b]? =some o';rw[<-hW,wa _ _ _ _ _ _ _ _ (Array.getElem?_eq_some_iff.1 hbw).1 hne];exact hbw
  have h0:Holds W W [rd (.agg (enc x).toArray) l[x],rd (.agg (enc y).toArray) l[y],uN W]:=by
   refine⟨λb=>W.heap[b]?,λ_=>j9,⟨rfl,rfl,rfl,aX _,λ_ _ h=>h,λi P hP=>?_,λ_ _ _ _ h=>(by cases h),λ_ _ _ _ h=>(by cases h),λ_ _ _ _ _ _ _ h=>(by cases h)⟩⟩
   match i,hP with
   | 0,hP=>simp at hP;subst hP;exact⟨⟨_,by simp[oI,hag],GT.mono hMW (hel x)⟩,rfl⟩
   | 1,hP=>simp at hP;subst hP;exact⟨⟨_,by simp[oI,hag],GT.mono hMW (hel y)⟩,rfl⟩
   | 2,hP=>simp at hP;subst hP;exact λ_ _=>rfl
   |i+3,hP=>simp at hP
  refine Calls.mono (hcl (i:=0) (j:=1) h0 rfl rfl hxy) λex w' h=>?_;obtain⟨z,rfl,rfl,h⟩:=h;exact⟨rfl,h.grown (i:=2) rfl⟩
 refine Calls.mono (by rw[hds]at hsort;exact hsort) λex w' h=>?_;obtain⟨rfl,n,os,rfl⟩:=h;refine⟨_,rfl,rfl,?_⟩;obtain⟨hp,_⟩:=pdq_sorts (ltOf<|rS φ l) hO d 0 l.length (Lib.bitLen l.length) true true (lf _) (by rw[hds];exact aX _)<|Or.inl rfl
 have hl':l'=(pdq (ltOf<|rS φ l) d 0 l.length (Lib.bitLen l.length) true true).toList.map λi=>l[i]:=by
  rw[<-hb];unfold vC;rw[dif_pos hn];rfl
 generalize hd':pdq (ltOf<|rS φ l) d 0 l.length (Lib.bitLen l.length) true true=d' at hp hl' ⊢;have hds':d'.size=l.length:=by rw[hp.1,hds]
 have hll:l'.length=l.length:=by rw[hl',cW,Array.length_toList,hds']
 have hpc:(putCells id o (flatK enc k d') cur).size=cur.size:=by simp[putCells]
 have h2:=gd.update (w':=sortWorldK enc k w g o n d' os) (P':=own e (.slice (some ⟨g,o,none⟩) l.length cap) l') (i:=0) (by simp) (Gk.one g<|.cells (putCells id o (flatK enc k d') cur) e (0,0)) ?_ rfl rfl rfl ?_ ?_ ?_<|Nat.le_add_right _ _
 ·exact⟨M,_,h2⟩
 ·refine .inr ⟨g,o,cap,_,_,by rw[hll],by rw[hll];exact hcap,hmax,rfl,by rw[hpc,hK];exact hsz,rfl,?_⟩;rw[hll,hK];refine⟨?_,λa x hx=>?_⟩
  ·have e1:(putCells id o (flatK enc k d') cur).toList.length=cur.size:=by rw[Array.length_toList,hpc]
   rw[bX,fO,e1,hll,hK];omega
  ·have ha:a<l.length:=by rw[<-hll];exact(bF.1 hx).1
   have hax:=kL (sz:=k) ha;rw[hK,List.drop_take,List.take_take,Nat.min_eq_left (by omega),xc hlk hk0 d' o cur (by rw[hds'];omega) a (by rw[hds'];exact ha)];have hda:d'.toList[a]? =some d'[a]! :=by rw[Array.getElem?_toList,di (by rw[hds'];exact ha),getElem!_pos d' a (by rw[hds'];exact ha)]
   generalize d'[a]! =q at hda ⊢;have h3:=congrArg (λz=>z[a]?) hl';simp only[fX,hda,hx,Option.map_some]at h3;injection h3 with h3
   rw[h3];exact hel q
 ·intro b o' hb;obtain⟨rfl,rfl⟩:=dX hb;exact BN _ _ _ _ _ _ _ _ hg
 ·intro b o' hb;obtain⟨rfl,rfl⟩:=dX hb;exact .inl ⟨_,by rw[hh];exact bG b _⟩
 ·intro b hb1 hb2;refine wa _ _ _ _ _ _ _ _ hb2 λh=>?_;subst h;rw[hh,bG]at hb1;cases hb1
section
variable {β:Type}[Inhabited β](enc:β->bL)(w:bM)(g o m:Nat)(dk:bQ β)(os:bQ Obj)
theorem tL{b:Nat}(hb:b<w.heap.size)(hg:b≠g):(sortWorld enc w g o m dk os).heap[b]? =w.heap[b]? :=by
 simp only[sortWorld,grow,putRow,mapBlock,Go.Sort.ahead];rw[Array.getElem?_append_left (by simpa using hb),Array.getElem?_modify,aL<|λh=>hg h.symm]
theorem AE{cur:bQ bL}{e:da}{fr:Nat×Nat}(hg:w.heap[g]? =some (.cells cur e fr)):
  (sortWorld enc w g o m dk os).heap[g]? =some (.cells (putCells enc o dk cur) e fr):=by
 have hb:g<w.heap.size:=(Array.getElem?_eq_some_iff.1 hg).1;simp only[sortWorld,grow,putRow,mapBlock,Go.Sort.ahead];rw[Array.getElem?_append_left (by simpa using hb),Array.getElem?_modify,aK rfl,hg];rfl
end
theorem yT{β:Type}[Inhabited β]{enc:β->bL}(d:bQ β)(o:Nat)(cur:bQ bL)(ho:o+d.size<=cur.size)(a:Nat)(ha:a<d.size):(putCells enc o d cur)[o+a]? =some (enc d[a]!):=by
 have hsz:o+a<(putCells enc o d cur).size:=by simp only[putCells,Array.size_mapIdx];omega
 rw[di hsz];simp only[putCells,Array.getElem_mapIdx];rw[aK (by omega),show o+a - o=a by omega]
theorem wb{P:cR}{ρ:Shelf.Ren}(L:SlLaysF.n6 P ρ)(α:Type)[GT α](hag:GT.agg α=false){E w:bM}{V:Z HP}{e:da}{v:bL}{l l':Z α}{gf:Nat}{φ:α->α->aW Int}(hfn:fo P gf)(hcl:∀{E' w':bM}{Γ':Z HP}{u u':bL}{x x':α}{r:Int}{i j:Nat},Holds E' w' Γ'->Γ'[i]? =some (rd u x)->Γ'[j]? =some (rd u' x')->φ x x'=some r->Calls P gf [u,u'].toArray w' (eU λz w''=>z = .int .i64 r/\Holds E' w'' Γ'))(hw:Holds E w (own e v l::V))(hb:mT φ l=some l'):
  Calls P (ρ.f 6) [v, .func (.func gf) #[] #[]].toArray w (eU λz w'=>z = .tuple #[]/\Holds E w' (own e v l'::V)):=by
 unfold mT at hb;split at hb
 case isFalse=>cases hb
 rename_i hc;obtain⟨⟨hφ,hO⟩,hbig⟩:=hc;have hO:SWO (ltOf<|rS φ l):=hO;injection hb with hb
 by_cases hn:0<l.length
 case neg=>
  have hl:l= []:=List.length_eq_zero_iff.1 (by omega);subst hl;have e1:l'= []:=by rw[<-hb];rfl
  subst e1;obtain⟨a,c,hv⟩:=hw.il (i:=0) rfl;subst hv;refine Calls.mono (AnyF.slices_SortFunc_none (P:=P) (ρ:=ρ) {L with} a c _ w) λex w' h=>?_;obtain⟨rfl,rfl⟩:=h;exact⟨_,rfl,rfl,hw⟩
 letI inh:Inhabited (Fin l.length):=⟨⟨0,hn⟩⟩
 obtain⟨M,hs,gd⟩:=hw
 rcases gd.sat 0 _ rfl with⟨_,h2,_⟩|⟨g,o,cap,cur,xs,rfl,hcap,hmax,hh,hsz,hx,hcs⟩
 ·rw[h2]at hn;exact absurd hn (by simp)
 have hg:w.heap[g]? =some (.cells cur e (0,0)):=gd.le 0 g _ (by simp) (by rw[hh];exact bG g _);have hgs:g<w.heap.size:=(Array.getElem?_eq_some_iff.1 hg).1;have hMg:M g=none:=gd.dm 0 g _ (by simp) (by rw[hh];exact bG g _);have hK:GT.sz α=1:=GT.ag1 hag;rw[hK,Nat.mul_one]at hsz;subst hx
 let enc:Fin l.length->bL:=λi=>cur[o+i.val]!
 have hin:∀i:Fin l.length,o+i.val<cur.size:=λi=>by have:=i.isLt;omega
 have henc:∀i:Fin l.length,cur[o+i.val]? =some (enc i):=λi=>by
  rw[di<|hin i];show some cur[o+i.val]=some cur[o+i.val]!;rw[getElem!_pos cur (o+i.val)<|hin i]
 have hel:∀i:Fin l.length,GT.ok M [enc i] l[i]:=λi=>by
  have:=hcs.2 i.val l[i]<|aN i.isLt
  rw[hK,Nat.mul_one]at this;have e1:(((cur.toList.drop o).take<|l.length*1).drop i.val).take 1= [enc i]:=by
   have hil:=i.isLt;rw[Nat.mul_one,List.drop_take,List.take_take,List.drop_drop];have h3:cur.toList.drop (o+i.val)=enc i::cur.toList.drop (o+i.val+1):=by
    have hi':o+i.val<cur.toList.length:=by simpa using hin i
    rw[ku hi'];congr 1;apply Option.some.inj;rw[<-henc i,di<|hin i];simp
   rw[h3,show min 1 (l.length - i.val)=1 by omega];rfl
  rw[<-e1];simpa[hK]using this
 have hone:∀x,(enc x).oneCell'=true:=λx=>GT.one (hel x) _ (by simp)
 let d:bQ (Fin l.length):=Array.ofFn λi:Fin l.length=>i
 have hds:d.size=l.length:=by simp[d]
 have hdi:∀i(hi:i<l.length),d[i]! = ⟨i,hi⟩:=λi hi=>by rw[getElem!_pos d i (by rw[hds];exact hi)];simp[d]
 have hH:Go.Sort.Holds enc w g o d:=by
  intro j hj;rw[hds]at hj;refine⟨?_,?_⟩
  ·rw[hdi j hj];simp only[World.cell?,hg];simp[henc ⟨j,hj⟩]
  ·simp only[World.frozen?,hg];simp
 have hsort:=Any.slices_SortFunc_eq L enc hone (rS φ l) hO gf #[] g o cap d w hfn.run ?_ hH hgs ?_
 case refine_2=>rw[hds];exact hbig
 case refine_1=>
  intro m os dk hdk x y;have hxy:φ l[x] l[y]=some (rS φ l x y):=by obtain⟨c,hc⟩:=hφ x y;unfold rS;rw[hc];rfl
  generalize hW:sortWorld enc w g o m dk os=W;have hMW:hle M (λb=>W.heap[b]?):=λb o' hb=>by
   have hbw:=gd.im b o' hb;have hne:b≠g:=λh=>by rw[h,hMg]at hb;cases hb
   show W.heap[b]? =some o';rw[<-hW,tL _ _ _ _ _ _ _ (Array.getElem?_eq_some_iff.1 hbw).1 hne];exact hbw
  have h0:Holds W W [rd (enc x) l[x],rd (enc y) l[y],uN W]:=by
   refine⟨λb=>W.heap[b]?,λ_=>j9,⟨rfl,rfl,rfl,aX _,λ_ _ h=>h,λi P hP=>?_,λ_ _ _ _ h=>(by cases h),λ_ _ _ _ h=>(by cases h),λ_ _ _ _ _ _ _ h=>(by cases h)⟩⟩
   match i,hP with
   | 0,hP=>simp at hP;subst hP;exact⟨⟨[enc x],by simp[oI,hag],GT.mono hMW (hel x)⟩,rfl⟩
   | 1,hP=>simp at hP;subst hP;exact⟨⟨[enc y],by simp[oI,hag],GT.mono hMW (hel y)⟩,rfl⟩
   | 2,hP=>simp at hP;subst hP;exact λ_ _=>rfl
   |i+3,hP=>simp at hP
  refine Calls.mono (hcl (i:=0) (j:=1) h0 rfl rfl hxy) λex w' h=>?_;obtain⟨z,rfl,rfl,h⟩:=h;exact⟨rfl,h.grown (i:=2) rfl⟩
 refine Calls.mono (by rw[hds]at hsort;exact hsort) λex w' h=>?_;obtain⟨rfl,n,os,rfl⟩:=h;refine⟨_,rfl,rfl,?_⟩;obtain⟨hp,_⟩:=pdq_sorts (ltOf<|rS φ l) hO d 0 l.length (Lib.bitLen l.length) true true (lf _) (by rw[hds];exact aX _)<|Or.inl rfl
 have hl':l'=(pdq (ltOf<|rS φ l) d 0 l.length (Lib.bitLen l.length) true true).toList.map λi=>l[i]:=by
  rw[<-hb];unfold vC;rw[dif_pos hn];rfl
 generalize hd':pdq (ltOf<|rS φ l) d 0 l.length (Lib.bitLen l.length) true true=d' at hp hl' ⊢;have hds':d'.size=l.length:=by rw[hp.1,hds]
 have hll:l'.length=l.length:=by rw[hl',cW,Array.length_toList,hds']
 have hpc:(putCells enc o d' cur).size=cur.size:=by simp[putCells]
 have h2:=gd.update (w':=sortWorld enc w g o n d' os) (P':=own e (.slice (some ⟨g,o,none⟩) l.length cap) l') (i:=0) (by simp) (Gk.one g<|.cells (putCells enc o d' cur) e (0,0)) ?_ rfl rfl rfl ?_ ?_ ?_<|Nat.le_add_right _ _
 ·exact⟨M,_,h2⟩
 ·refine .inr ⟨g,o,cap,_,_,by rw[hll],by rw[hll];exact hcap,hmax,rfl,by rw[hpc,hK,Nat.mul_one];exact hsz,rfl,?_⟩;rw[hll];refine⟨?_,λa x hx=>?_⟩
  ·have e1:(putCells enc o d' cur).toList.length=cur.size:=by rw[Array.length_toList,hpc]
   rw[bX,fO,e1,hll,hK];omega
  ·have ha:a<l.length:=by rw[<-hll];exact(bF.1 hx).1
   have hda:d'.toList[a]? =some d'[a]! :=by rw[Array.getElem?_toList,di (by rw[hds'];exact ha),getElem!_pos d' a (by rw[hds'];exact ha)]
   have hpa:=yT (enc:=enc) d' o cur (by rw[hds'];omega) a (by rw[hds'];exact ha);generalize d'[a]! =q at hda hpa ⊢;have h3:=congrArg (λz=>z[a]?) hl';simp only[fX,hda,hx,Option.map_some]at h3;injection h3 with h3
   rw[h3];have e2:((((putCells enc o d' cur).toList.drop o).take<|l.length*GT.sz α).drop<|a*GT.sz α).take (GT.sz α)= [enc q]:=by
    have sU:o+a<(putCells enc o d' cur).size:=by rw[hpc];omega
    rw[hK,Nat.mul_one,Nat.mul_one,List.drop_take,List.take_take,List.drop_drop];have h4:(putCells enc o d' cur).toList.drop (o+a)=enc q::(putCells enc o d' cur).toList.drop (o+a+1):=by
     have hal':o+a<(putCells enc o d' cur).toList.length:=by simpa using sU
     rw[ku hal'];congr 1;apply Option.some.inj;rw[<-hpa,di sU];simp
    rw[h4,show min 1 (l.length - a)=1 by omega];rfl
   rw[e2];exact hel q
 ·intro b o' hb;obtain⟨rfl,rfl⟩:=dX hb;exact AE _ _ _ _ _ _ _ hg
 ·intro b o' hb;obtain⟨rfl,rfl⟩:=dX hb;exact .inl ⟨_,by rw[hh];exact bG b _⟩
 ·intro b hb1 hb2;refine tL _ _ _ _ _ _ _ hb2 λh=>?_;subst h;rw[hh,bG]at hb1;cases hb1
end Go.Gk
namespace Go.Gk
open Go IntKind
theorem zr{α:Type _}{a:α}:a=a:=rfl
theorem zt:True:=True.intro
theorem cg{ops:bQ cA}{U:Nat->bL}{j d:Nat}{a b:Bool}(h:a=b)(h1:(ops[j]?).bind (·.dst)=some d:=by rfl)(h2:U d = .bool a:=by rfl):Wn ops U (some (j,b)):=⟨d,h1,h2.trans<|cb h⟩
abbrev e_:bL:=.int .i64 0
abbrev n_:bL:=.slice none 0 0
theorem q_{α β:Type}{o:aW α}{f:α->aW β}{r:β}{G:Prop}(h:o.bind f=some r)(k: ∀x,o=some x->f x=some r->G):G:=by
 cases o with
 | none=>cases h
 | some x=>exact k x rfl h
theorem z_{c:Bool}(v:bL)(h:c=true):cv c v=v:=wR h
abbrev eo(x y:Int):Int:=if x<y then x else y
abbrev ep(x y:Int):Int:=if x<y then y else x
abbrev eK{α:Type}[GT α](V:List HP)(i:Nat)(v:Value)(x:α):=V[i]? =some (rd v x)
abbrev fu{α:Type}[GT α](V:List HP)(i:Nat)(v:Value)(x:α):=V[i]? =some (pt v x)
def f0(a:Nat):Nat->List Nat->List Nat|0,l=>l|n+1,l=>a::f0 (a+1) n l
def hY:Nat->Nat->List Nat|0,_=>[]|n+1,x=>x%10::hY n (x/10)
theorem ix{α:Type}[GT α]{E w:World}{v:Value}{x:α}{V:List HP}{M hs}(g:Good E w M hs (rd v x::V)):ou M v x/\True:=⟨(g.sat 0 _ rfl).1,trivial⟩
abbrev jn(p:Prop)[Decidable p]:Bool:=decide p
abbrev jQ(x:Int):Nat:=Int.toNat x
end Go.Gk
