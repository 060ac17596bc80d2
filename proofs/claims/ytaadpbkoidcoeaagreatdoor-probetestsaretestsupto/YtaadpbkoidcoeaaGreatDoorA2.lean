/-
  Helping texts on the memory of the model. No statement of the seed is proved here.
-/
import Derived.Test.YtaadpbkoidcoeaaGreatDoorA1
import Derived.KernelRfl
import Derived.Shelf.SlSortCmp.NoneTotal
import Derived.Shelf.SortM.Plain
import Derived.Shelf.SortM.SortNone
set_option linter.unusedVariables false
set_option linter.unusedSimpArgs false
set_option linter.unusedSectionVars false
namespace Go.Gk
open Go IntKind
def qQ(o:bL)(U:Nat->aV)(v:aV):Nat->aV:=match o.dst with|some d=>eG U d v|none=>U
def Cb(acc:aL Nat):aL Edge->Nat
 | []=>0
 |e::r=>bif Region.binds .any e then Nat.lor (Nat.lor (Nat.shiftLeft 1 e.on) (acc.getD e.on 0)) (Cb acc r)else Cb acc r
def H2:aL bL->aL Nat->aL Nat
 | [],acc=>acc
 |o::l,acc=>H2 l (acc++[Cb acc o.after.toList])
def H3(l:aL bL)(i:Nat)(rest:aL Nat):Bool:=(List.range l.length).all λk=>Nat.beq k i||(rest.any λq=>Nat.beq q k)||Nat.testBit ((H2 l []).getD i 0) k
section
variable {P:bP}{n:Nat}{l:aL bL}{mk:aL Nat}{Q:gv}{U:Nat->aV}{w:aW}{i:Nat}{rest:aL Nat}{o:bL}
def DP(P:bP)(n:Nat)(l:aL bL)(mk:aL Nat)(Q:gv):(aW->Prop)->aL Nat->(Nat->aV)->aW->Prop
 |_,[],U,w=>Q .normal U w
 |S,i::rest,U,w=>∃o,l[i]? =some o/\
  ((mk.getD i 0=0/\RL P n l.toArray [o] U w (λex σ' w'=>ex = .normal/\w'=w/\DP P n l mk Q S rest σ' w))\/
   (mk.getD i 0=1/\∃v,∃S1:aW->Prop,(∀w2,S1 w2->S w2)/\(S w->S1 w)/\(∀w',S1 w'->RL P n l.toArray [o] U w' (λex σ' w''=>ex = .normal/\w''=w'/\σ'=qQ o U v))/\DP P n l mk Q S1 rest (qQ o U v) w)\/
   (mk.getD i 0=2/\∃S1:aW->Prop,((∀w2,S1 w2->S w2)\/H3 l i rest=true)/\RL P n l.toArray [o] U w (λex σ' w'=>ex = .normal/\S1 w'/\DP P n l mk Q S1 rest σ' w'))\/
   (mk.getD i 0=3/\∃T q b m row e ag k,o.op = .load T q/\ev U q = .pointer (some ⟨b,m,none⟩)/\kR P T ag k/\m+k<=row.size/\m<row.size/\w.heap[b]? =some (.cells row e (0,0))/\
    RL P n l.toArray [o] U w (λex σ' w'=>ex = .normal/\w'=w/\DP P n l mk Q (λw2=>S w2/\w2.heap[b]? =some (.cells row e (0,0))) rest σ' w)))
section
variable {S:aW->Prop}
theorem VU(ho:l[i]? =some o)(hm:mk.getD i 0=0)(h:RL P n l.toArray [o] U w (λex σ' w'=>ex = .normal/\w'=w/\DP P n l mk Q S rest σ' w)):DP P n l mk Q S (i::rest) U w:=⟨o,ho, .inl ⟨hm,h⟩⟩
theorem V8(v:aV)(ho:l[i]? =some o)(h1:∀w',RL P n l.toArray [o] U w'<|λex σ' w''=>ex = .normal/\w''=w'/\σ'=qQ o U v)(h:DP P n l mk Q S rest (qQ o U v) w)(hm:mk.getD i 0=1:=by exact rfl):DP P n l mk Q S (i::rest) U w:=⟨o,ho, .inr<|.inl ⟨hm,v,S,λ_ h=>h,λh=>h,λw' _=>h1 w',h⟩⟩
theorem WW(v:aV)(ho:l[i]? =some o)(h1:∀w',S w'->RL P n l.toArray [o] U w' (λex σ' w''=>ex = .normal/\w''=w'/\σ'=qQ o U v))(h:DP P n l mk Q S rest (qQ o U v) w)(hm:mk.getD i 0=1:=by exact rfl):DP P n l mk Q S (i::rest) U w:=⟨o,ho, .inr<|.inl ⟨hm,v,S,λ_ h=>h,λh=>h,h1,h⟩⟩
theorem YP(v:aV)(S1:aW->Prop)(hS:∀w2,S1 w2->S w2)(hS':S w->S1 w)(ho:l[i]? =some o)(hm:mk.getD i 0=1)(h1:∀w',S1 w'->RL P n l.toArray [o] U w' (λex σ' w''=>ex = .normal/\w''=w'/\σ'=qQ o U v))(h:DP P n l mk Q S1 rest (qQ o U v) w):DP P n l mk Q S (i::rest) U w:=⟨o,ho, .inr<|.inl ⟨hm,v,S1,hS,hS',h1,h⟩⟩
theorem Wq(ho:l[i]? =some o)(hm:mk.getD i 0=2)(h:RL P n l.toArray [o] U w (λex σ' w'=>ex = .normal/\S w'/\DP P n l mk Q S rest σ' w')):DP P n l mk Q S (i::rest) U w:=⟨o,ho, .inr<|.inr<|.inl ⟨hm,S, .inl λ_ h=>h,h⟩⟩
theorem Yr(ho:l[i]? =some o)(hm:mk.getD i 0=2)(h:RL P n l.toArray [o] U w (λex σ' w'=>ex = .normal/\True/\DP P n l mk Q (λ_=>True) rest σ' w'))(hk:H3 l i rest=true:=by kernel_rfl):DP P n l mk Q S (i::rest) U w:=⟨o,ho, .inr<|.inr<|.inl ⟨hm,λ_=>True, .inr hk,h⟩⟩
theorem Wi(h:Q .normal U w):DP P n l mk Q S [] U w:=by grind [DP]
theorem VZ{ops:bB bL}(h:DP P n l mk Q S rest U w):RL P n ops [] U w (λex σ' w'=>ex = .normal/\w'=w/\DP P n l mk Q S rest σ' w):=by grind [By]
theorem Wj{ops:bB bL}(hS:S w)(h:DP P n l mk Q S rest U w):RL P n ops [] U w (λex σ' w'=>ex = .normal/\S w'/\DP P n l mk Q S rest σ' w'):=by grind [By]
theorem V0{ops:bB bL}{σ0:Nat->aV}(h:U=σ0:=by exact rfl):RL P n ops [] U w (λex σ' w'=>ex = .normal/\w'=w/\σ'=σ0):=by grind [By]
end
end
section
variable {P:bP}{n:Nat}{ops:bB bL}{U:Nat->aV}{w:aW}{o:bL}
theorem E0{a:Act}{d:Nat}{C:(Nat->aV)->Prop}(hs:Sl n U a)(hk:vo o.op=true)(hd:o.dst=some d)(hdn:Nat.blt d n=true)
  (h:RL P n ops [o] U w (λex σ' w'=>ex = .normal/\w'=w/\C σ')):∃v,F5 P ops w a o v/\C (eG U d v):=by
 have h1:=h a hs;unfold wpList at h1;split at h1
 ·rename_i hw
  rcases h1 with h1|⟨_,h1⟩
  ·unfold Oper.wp at h1
   cases hr:(execOp a.eval o).run P w with
   |ok nx w'=>
    rw[hr]at h1;obtain⟨v,rfl⟩:=Gy hk hr;obtain⟨σ',hs',_,hw',hrest⟩:=h1;have hw':w'=w:=hw';subst hw';rw[hd]at hs';have:=hs'.uniq<|hs.put hdn v
    subst this;exact⟨v, .inl ⟨hw,hr⟩,hrest⟩
   |halt x w'=>
    rw[hr]at h1
    cases x with
    |panic v=>obtain⟨_,_,hbad,_⟩:=h1;cases hbad
    |_=>exact h1.elim
  ·obtain⟨_,_,_,_,hbad,_⟩:=h1;cases hbad
 ·rename_i hw;obtain⟨σ',hs',_,_,hrest⟩:=h1;rw[hd]at hs';have:=hs'.uniq<|hs.put hdn undef
  subst this;exact⟨undef, .inr ⟨by grind,rfl⟩,hrest⟩
end
theorem GF{P:bP}{w:aW}{b k:Nat}{row:bB aV}{e:bR}(h:w.heap[b]? =some (.cells row e (0,0)))(hk:k<row.size):(load ⟨b,k,none⟩).run P w = .ok row[k] w:=by
 have hc:w.cell? ⟨b,k,none⟩=some row[k]:=by rw[cell_of_row w b _ _ _ _ h];simp[hk]
 simp_all
theorem D8{P:bP}{b k:Nat}{row:bB aV}{e:bR}:∀(n i:Nat)(acc:bB aV),k+i+n<=row.size->∃cs,∀w:aW,w.heap[b]? =some (.cells row e (0,0))->(loadCellsFrom ⟨b,k,none⟩ i n acc).run P w = .ok cs w
 | 0,i,acc,_=>⟨acc,λw _=>rfl⟩
 |n+1,i,acc,h=>by
  obtain⟨cs,hcs⟩:=D8 (P:=P) (b:=b) (k:=k) (row:=row) (e:=e) n (i+1) (acc.push<|row[k+i]'(by omega)) (by omega);refine⟨cs,λw hw=>?_⟩;unfold loadCellsFrom;have hl:=GF (P:=P) (k:=k+i) hw (by omega);rw[aR,Addr.add_lit,hl];exact hcs w hw
theorem GG{P:bP}{b k m:Nat}{row:bB aV}{e T:bR}{ag:Bool}(hT:kR P T ag m)(h1:k+m<=row.size)(h2:k<row.size):∃v,∀w:aW,w.heap[b]? =some (.cells row e (0,0))->(loadVar T ⟨b,k,none⟩).run P w = .ok v w:=by
 cases ag with
 |false=>
  refine⟨row[k],λw hw=>?_⟩;unfold loadVar;rw[aR,hT.Ki];exact GF hw h2
 |true=>
  obtain⟨cs,hcs⟩:=D8 (P:=P) (b:=b) (k:=k) (row:=row) (e:=e) m 0 #[] (by omega);refine⟨.agg cs,λw hw=>?_⟩;unfold loadVar;rw[aR,hT.Ki];simp only[Result.andThen,if_true];rw[aR,hT.sz]
  simp_all[Result.andThen,aR,loadCells]
theorem LX{P:bP}{ops:bB bL}{w w2:aW}{a:Act}{n:Nat}{U:Nat->aV}{o:bL}{T e0:bR}{q:bK}{b m k:Nat}{v:aV}{row:bB aV}{ag:Bool}(hs:Sl n U a)(ho:o.op = .load T q)(hp:ev U q = .pointer (some ⟨b,m,none⟩))
  (hT:kR P T ag k) (h1:m+k<=row.size) (h2:m<row.size) (hw:w.heap[b]? =some (.cells row e0 (0,0))) (hw2:w2.heap[b]? =some (.cells row e0 (0,0))) (hst:F5 P ops w a o v):F5 P ops w2 a o v:=by
 rcases hst with⟨h3,h4⟩|h3
 ·refine .inl ⟨h3,?_⟩;obtain⟨dst,op,ty,pos,af,g⟩:=o;have ho:op = .load T q:=ho;subst ho;have e:∀w,(execOp a.eval ⟨dst, .load T q,ty,pos,af,g⟩).run P w=((loadVar T ⟨b,m,none⟩).run P w).andThen λv w=> .ok (.value v) w:=λw=>by
   simp only[execOp,hs.ev,hp,Instr.loadAt,Instr.sureAddr,aR,bG,bC]
  rw[e]at h4 ⊢;obtain⟨u,hu⟩:=GG (b:=b) (e:=e0) hT h1 h2
  simp_all
 ·exact .inr h3
def mo(l:aL bL)(U:Nat->aV):aL Nat->aL aV->(Nat->aV)
 |i::is,v::vs=>mo l (match l[i]? with|some o=>qQ o U v|none=>U) is vs
 |_,_=>U
section
variable {l:aL bL}
theorem AW(U:Nat->aV):∀(is js:aL Nat)(vs us:aL aV),vs.length=is.length->mo l U (is++js) (vs++us)=mo l (mo l U is vs) js us
 | [],js,[],us,_=>rfl
 |i::is,js,v::vs,us,h=>by
  rw[List.cons_append,List.cons_append];unfold mo;rw[AW _ is js vs us (by simpa using h)]
  cases js <;> cases us <;> rfl
 | [],_,_::_,_,h=>by cases h
 |_::_,_,[],_,h=>by cases h
theorem E1{o:bL}{U:Nat->aV}{v:aV}{t:Nat}(h:o.dst≠some t):qQ o U v t=U t:=by
 unfold qQ
 cases hd:o.dst with
 |none=>rfl
 |some d=>
  grind [eG,Nat.beq,fP]
theorem Jq{o:bL}{U:Nat->aV}{v:aV}{t:Nat}(h:o.dst=some t):qQ o U v t=v:=by
 simp_all[qQ,eG,Nat.beq_refl]
theorem sX{t:Nat}:∀(is:aL Nat)(vs:aL aV)(U:Nat->aV),(∀i∈is,∀o,l[i]? =some o->o.dst≠some t)->mo l U is vs t=U t
 | [],_,U,_=>rfl
 |_::_,[],U,_=>rfl
 |i::is,v::vs,U,h=>by
  unfold mo;rw[sX is vs _<|λj hj=>h j (by simp[hj])]
  cases ho:l[i]? with
  |none=>rfl
  |some o=>exact E1 (h i (by simp) o ho)
theorem E2{t:Nat}:∀(is:aL Nat)(vs:aL aV)(U:Nat->aV)(j i:Nat)(o:bL)(v:aV),is[j]? =some i->vs[j]? =some v->l[i]? =some o->o.dst=some t->
  (∀(k:Nat)i' o',is[k]? =some i'->l[i']? =some o'->k≠j->o'.dst≠some t)->mo l U is vs t=v
 | [],_,_,_,_,_,_,h,_,_,_,_=>by simp at h
 |_::_,[],_,_,_,_,_,_,h,_,_,_=>by simp at h
 |i0::is,v0::vs,U,0,i,o,v,hi,hv,ho,hd,hu=>by
  simp at hi hv;subst hi;subst hv;unfold mo
  rw[sX is vs _ (λj hj o' ho'=>by
   obtain⟨k,hk⟩:=List.mem_iff_getElem?.1 hj
   exact hu (k+1) j o' (by grind) ho' (by omega)),ho]
  exact Jq hd
 |i0::is,v0::vs,U,j+1,i,o,v,hi,hv,ho,hd,hu=>by
  unfold mo;exact E2 is vs _ j i o v (by grind) (by grind) ho hd<|λk i2 o2 hk ho2 hne=>hu (k+1) i2 o2 (by grind) ho2 (by omega)
end
inductive rC (l:aL bL):Nat->Nat->Prop
 |edge {i k:Nat} {o:bL}:l[i]? =some o->yV o k=true->rC l i k
 |trans {i j k:Nat}:rC l i j->rC l j k->rC l i k
theorem rC.first{l:aL bL}{i k:Nat}(h:rC l i k):∃o j,l[i]? =some o/\yV o j=true/\(j=k\/rC l j k):=by
 induction h with
 |edge ho he=>grind
 |trans h1 h2 ih1 ih2=>
  obtain⟨o,j,ho,he,hr⟩:=ih1
  rcases hr with rfl|hr
  ·grind
  ·exact⟨o,j,ho,he, .inr<|hr.trans h2⟩
theorem rC.done{l:aL bL}{D:Nat->Bool}(hcl:tM l D){i k:Nat}(h:rC l i k):(∃o,l[i]? =some o/\nZ D o.after.toList)->D k=true:=by
 induction h with
 |edge ho he=>
  rintro⟨o2,ho2,hd⟩;rw[ho]at ho2;injection ho2 with ho2;subst ho2
  exact n7 hd he
 |trans h1 h2 ih1 ih2=>
  intro hd;have hj:=ih1 hd;obtain⟨o,_,ho,_,_⟩:=h2.first;exact ih2 ⟨o,ho,hcl _ o ho hj⟩
def Sound(l:aL bL)(acc:aL Nat):Prop:=∀i k,Nat.testBit (acc.getD i 0) k=true->rC l i k
theorem Cc{l:aL bL}{acc:aL Nat}{i k:Nat}{o:bL}(hs:Sound l acc)(ho:l[i]? =some o):∀(es:aL Edge),(∀e∈es,e∈o.after.toList)->Nat.testBit (Cb acc es) k=true->rC l i k
 | [],_,h=>by unfold Cb at h;simp at h
 |e::r,hm,h=>by
  unfold Cb at h
  cases hb:Region.binds .any e with
  |false=>rw[hb]at h;exact Cc hs ho r (λe he=>hm e (by simp[he])) h
  |true=>
   rw[hb]at h;have h:Nat.testBit (((1 <<< e.on)|||acc.getD e.on 0)|||Cb acc r) k=true:=h;rw[Nat.testBit_or,Nat.testBit_or,ij,ij]at h;have hedge:∀k,e.on=k->yV o k=true:=λk hk=>by
    subst hk;unfold yV;rw[lq];exact⟨e,hm e (by simp),by simp_all⟩
   rcases h with(h|h)|h
   ·rw[Nat.one_shiftLeft,Nat.testBit_two_pow,dP]at h;exact .edge ho<|hedge k h
   ·exact .trans (.edge ho<|hedge e.on rfl)<|hs e.on k h
   ·exact Cc hs ho r (λe he=>hm e (by simp[he])) h
theorem Jr:∀(l l0:aL bL)(acc:aL Nat),(∀(j:Nat),l[j]? =l0[acc.length+j]?)->Sound l0 acc->Sound l0 (H2 l acc)
 | [],_,_,_,h=>h
 |o::l,l0,acc,hl,h=>by
  unfold H2;refine Jr l l0 _ (λj=>?_) λi k hb=>?_
  ·have:=hl<|j+1
   rw[bO,fQ,List.length_nil];rw[show acc.length+(0+1)+j=acc.length+(j+1)by omega,<-this];simp
  ·rw[List.getD_eq_getElem?_getD,List.getElem?_append]at hb;split at hb
   ·rw[<-List.getD_eq_getElem?_getD]at hb;exact h i k hb
   ·rename_i hlt
    by_cases he:i=acc.length
    ·subst he;simp at hb;have ho:=hl 0;exact Cc h (o:=o) (by grind) _ (λe he=>he) hb
    ·have:(i - acc.length)≠0:=by omega
     rw[List.getElem?_eq_none (by simp;omega)]at hb;simp at hb
def E3(ops:bB bL)(i:Nat)(o:bL)(k:Nat)(o':bL):Bool:=
 Nat.beq i k||match o'.dst with
  |some d=>(match o.dst with|some d2=> !Nat.beq d d2|none=>true)&&(!Ba ops o d||(bif Nat.blt k i then yV o k else yV o' i))
  |none=>true
def tQ(ops:bB bL)(i:Nat)(o:bL):Nat->aL bL->Bool
 |_,[]=>true
 |k,o'::l=>E3 ops i o k o'&&tQ ops i o (k+1) l
def QZ:Op->Bool| .select .. =>false|_=>true
def kindOk(n:Nat)(o:bL)(m:Nat):Bool:=QZ o.op&&(bif Nat.beq m 2 then(match o.dst with|some d=>Nat.blt d n|none=>true)else vo o.op&&(match o.dst with|some d=>Nat.blt d n|none=>false))
def Cd(n:Nat)(ops:bB bL)(l:aL bL)(mk:aL Nat):Nat->aL bL->Bool
 |_,[]=>true
 |i,o::l'=>kindOk n o (mk.getD i 0)&&tQ ops i o 0 l&&Cd n ops l mk (i+1) l'
def GH(A mk:aL Nat):aL Nat->aL Nat->Bool
 |_,[]=>true
 |pre,i::post=>(bif Nat.beq (mk.getD i 0) 2 then(post.all λq=>Nat.testBit (A.getD q 0) i)&&(pre.all λq=>Nat.beq (mk.getD q 0) 1||Nat.beq (mk.getD q 0) 3||Nat.testBit (A.getD i 0) q)else true)&&GH A mk (pre++[i]) post
def E4:aL Nat->Bool
 | []=>true
 |a::l=> !(l.any λb=>Nat.beq a b)&&E4 l
def LY(l:aL bL):aL Nat->Bool
 | []=>true
 |i::post=>(match l[i]? with|some o=>post.all λq=> !yV o q|none=>true)&&LY l post
theorem E5{l:aL bL}:∀{ord:aL Nat},LY l ord=true->∀(p1:aL Nat)(i:Nat)(p2:aL Nat),ord=p1++i::p2->∀o,l[i]? =some o->∀q∈p2,yV o q=false
 | [],_,p1,i,p2,e,_,_,_,_=>by cases p1 <;> cases e
 |a::ord,h,[],i,p2,e,o,ho,q,hq=>by
  injection e with e1 e2;subst e1;subst e2
  unfold LY at h;rw[ho,dB]at h;have:=mQ.1 h.1 q hq;rwa[Bool.not_eq_true']at this
 |a::ord,h,b::p1,i,p2,e,o,ho,q,hq=>by
  injection e with e1 e2
  unfold LY at h;rw[dB]at h;exact E5 h.2 p1 i p2 e2 o ho q hq
def LZ(n:Nat)(l:aL bL)(mk ord:aL Nat):Bool:=
 E4 ord&&(List.range l.length).all (λi=>ord.any λj=>Nat.beq i j)&&(ord.all λi=>Nat.blt i l.length)&&Cd n l.toArray l mk 0 l&&GH (H2 l []) mk [] ord&&LY l ord
theorem D9:∀{l:aL Nat},E4 l=true->l.Nodup
 | [],_=>List.nodup_nil
 |a::l,h=>by
  unfold E4 at h;rw[dB,Bool.not_eq_true']at h;refine List.nodup_cons.2 ⟨λhm=>?_,D9 h.2⟩;have:(l.any λb=>Nat.beq a b)=true:=lq.2 ⟨a,hm,Nat.beq_refl a⟩;rw[this]at h;cases h.1
theorem yd{ops:bB bL}{i:Nat}{o:bL}:∀{k:Nat}{l:aL bL},tQ ops i o k l=true->∀(j:Nat)o',l[j]? =some o'->E3 ops i o (k+j) o'=true
 |_,[],_,j,o',h=>by simp at h
 |k,p::l,hs,0,o',h=>by
  unfold tQ at hs;rw[dB]at hs;simp at h;subst h;exact hs.1
 |k,p::l,hs,j+1,o',h=>by
  unfold tQ at hs;rw[dB]at hs;have:=yd hs.2 j o' (by simpa using h);rw[show k+(j+1)=k+1+j by omega];exact this
theorem Ea{n:Nat}{ops:bB bL}{l0:aL bL}{mk:aL Nat}:∀{i:Nat}{l:aL bL},Cd n ops l0 mk i l=true->∀(j:Nat)o,l[j]? =some o->kindOk n o (mk.getD (i+j) 0)=true/\tQ ops (i+j) o 0 l0=true
 |_,[],_,j,o',h=>by simp at h
 |i,p::l,hs,0,o',h=>by
  unfold Cd at hs;simp only[dB]at hs;simp at h;subst h;exact hs.1
 |i,p::l,hs,j+1,o',h=>by
  unfold Cd at hs;simp only[dB]at hs;have:=Ea hs.2 j o' (by simpa using h);rw[show i+(j+1)=i+1+j by omega];exact this
theorem GI{A mk:aL Nat}:∀{post pre:aL Nat},GH A mk pre post=true->∀(p1:aL Nat)(i:Nat)(p2:aL Nat),post=p1++i::p2->mk.getD i 0=2->
  (∀q∈p2,Nat.testBit (A.getD q 0) i=true)/\(∀q∈pre++p1,(mk.getD q 0=1\/mk.getD q 0=3)\/Nat.testBit (A.getD i 0) q=true)
 | [],_,_,p1,i,p2,e,_=>by cases p1 <;> cases e
 |a::post,pre,h,[],i,p2,e,hm=>by
  injection e with e1 e2;subst e1;subst e2
  unfold GH at h;rw[hm]at h;simp only[Nat.beq_refl,aQ,dB]at h;refine⟨λq hq=>mQ.1 h.1.1 q hq,λq hq=>?_⟩;have:=mQ.1 h.1.2 q (by grind);rw[ij,ij]at this
  rcases this with(h|h)|h
  ·exact .inl<|.inl<|fP h
  ·exact .inl<|.inr<|fP h
  ·exact .inr h
 |a::post,pre,h,b::p1,i,p2,e,hm=>by
  injection e with e1 e2;subst e1
  unfold GH at h;rw[dB]at h;have:=GI h.2 p1 i p2 e2 hm;refine⟨this.1,λq hq=>this.2 q (by grind)⟩
theorem Dy{P:bP}{o:bL}{a a':Act}{next next':Act->aW->Prop}{Qf Qf':Exit->Act->aW->Prop}{r:Result Next}(ha:a.defers= [])
  (hn:∀v w,next (a.put o.dst v) w->next' (a'.put o.dst v) w) (hdf:∀(b:Act)w,next b w->b.defers= []) (hp:∀c b w,¬Qf (.panic c) b w) (hl:¬LetsOut Qf) (h:o.upon P a next Qf r):o.upon P a' next' Qf' r:=by
 cases r with
 |ok nx w'=>
  cases nx with
  |value v=>exact hn v w' h
  |skip=>exact hn undef w' h
  |defer d=>
   have h:next ({a with defers:=d::a.defers}.put o.dst undef) w':=h;have:=hdf _ _ h
   cases hd:o.dst with
   |none=>rw[hd]at this;cases this
   |some t=>rw[hd]at this;cases this
  |enter f args=>
   refine Calls.mono h λe w'' he=>?_
   grind
  |row row args=>exact Rows.mono h λv w'' he=>hn v w'' he
  |_=>exact h.elim
 |halt x w'=>
  cases x with
  |panic v=>exact(hp _ _ _ h).elim
  |_=>exact h.elim
section
variable {P:bP}{n:Nat}{l:aL bL}{mk:aL Nat}{Q:gv}
theorem Ys:∀(ord:aL Nat)(S:aW->Prop)(U:Nat->aV)(w:aW)(a:Act),Sl n U a->S w->(∀i∈ord,∀o,l[i]? =some o->kindOk n o (mk.getD i 0)=true)->DP P n l mk Q S ord U w->
  ∃pre vs post a' S',ord=pre++post/\vs.length=pre.length/\Sl n (mo l U pre vs) a'/\DP P n l mk Q S' post (mo l U pre vs) w/\(∀e rest,post=e::rest->mk.getD e 0=2)/\
   (∀(j i:Nat)v,pre[j]? =some i->vs[j]? =some v->mk.getD i 0≠2/\∃o aj,l[i]? =some o/\Sl n (mo l U (pre.take j) (vs.take j)) aj/\
    ((mk.getD i 0≠0/\∀w2,S' w2->F5 P l.toArray w2 aj o v)\/(mk.getD i 0=0/\F5 P l.toArray w aj o v)))/\S' w/\(∀w2,S' w2->S w2):=by
 intro ord
 induction ord with
 |nil=>intro S U w a hs hS _ h;exact⟨[],[],[],a,S,rfl,rfl,hs,h,λ_ _ e=>(by cases e),λj i v hi=>(by simp at hi),hS,λ_ h=>h⟩
 |cons i ord ih=>
  intro S U w a hs hS hk h;have h0:=h;unfold DP at h;obtain⟨o,ho,h⟩:=h;have hko:=hk i (by simp) o ho;have cont:∀(S1:aW->Prop)v d,o.dst=some d->Nat.blt d n=true->mk.getD i 0≠2->S1 w->(∀w2,S1 w2->S w2)->((mk.getD i 0≠0/\∀w2,S1 w2->F5 P l.toArray w2 a o v)\/(mk.getD i 0=0/\F5 P l.toArray w a o v))->DP P n l mk Q S1 ord (eG U d v) w->
    ∃pre vs post a' S',i::ord=pre++post/\vs.length=pre.length/\Sl n (mo l U pre vs) a'/\DP P n l mk Q S' post (mo l U pre vs) w/\(∀e rest,post=e::rest->mk.getD e 0=2)/\
     (∀(j i:Nat)v,pre[j]? =some i->vs[j]? =some v->mk.getD i 0≠2/\∃o aj,l[i]? =some o/\Sl n (mo l U (pre.take j) (vs.take j)) aj/\
      ((mk.getD i 0≠0/\∀w2,S' w2->F5 P l.toArray w2 aj o v)\/(mk.getD i 0=0/\F5 P l.toArray w aj o v)))/\S' w/\(∀w2,S' w2->S w2):=by
   intro S1 v d hd hdn hn2 hS1 hSS hev hrest;have hstep:∀is us,mo l U (i::is) (v::us)=mo l (eG U d v) is us:=λis us=>by
    unfold mo;rw[ho];have:qQ o U v=eG U d v:=by unfold qQ;rw[hd]
    simp only[this]
    cases is <;> cases us <;> rfl
   obtain⟨pre,vs,post,a',S',e1,e2,e3,e4,e5,e6,e7,e8⟩:=ih S1 (eG U d v) w _ (hs.put hdn v) hS1 (λj hj=>hk j (by simp[hj])) hrest;refine⟨i::pre,v::vs,post,a',S',by rw[e1];rfl,by simp[e2],by rw[hstep];exact e3,by rw[hstep];exact e4,e5,λj i' v' hi' hv'=>?_,e7,λw2 h=>hSS w2<|e8 w2 h⟩
   cases j with
   |zero=>
    simp at hi' hv';subst hi';subst hv';refine⟨hn2,o,a,ho,hs,?_⟩
    rcases hev with⟨h1,h2⟩|h1
    ·exact .inl ⟨h1,λw2 h=>h2 w2<|e8 w2 h⟩
    ·exact .inr h1
   |succ j=>
    obtain⟨hn,o',aj,h1,h2,h3⟩:=e6 j i' v' (by simpa using hi') (by simpa using hv');exact⟨hn,o',aj,h1,by rw[List.take_succ_cons,List.take_succ_cons,hstep];exact h2,h3⟩
  unfold kindOk at hko;rw[dB]at hko;have dst:mk.getD i 0≠2->vo o.op=true/\∃d,o.dst=some d/\Nat.blt d n=true:=λhn=>by
   have hk2:=hko.2;have hb:Nat.beq (mk.getD i 0) 2=false:=by
    cases hx:Nat.beq (mk.getD i 0) 2 with
    |false=>rfl
    |true=>exact absurd (fP hx) hn
   rw[hb,aP,dB]at hk2;refine⟨hk2.1,?_⟩
   cases hd:o.dst with
   |none=>rw[hd]at hk2;cases hk2.2
   |some d=>rw[hd]at hk2;exact⟨d,rfl,hk2.2⟩
  rcases h with⟨hm,h⟩|⟨hm,v,S1,hSS,hS1,h1,h⟩|⟨hm,h⟩|⟨hm,T,q,b,m,row,e,ag,k,hop,hp,hT,h3,h4,hh,h⟩
  ·have hn2:mk.getD i 0≠2:=by rw[hm];decide
   obtain⟨hr,d,hd,hdn⟩:=dst hn2;obtain⟨v,hst,hrest⟩:=E0 (C:=λσ'=>DP P n l mk Q S ord σ' w) hs hr hd hdn h;exact cont S v d hd hdn hn2 hS (λ_ h=>h) (.inr ⟨hm,hst⟩) hrest
  ·have hn2:mk.getD i 0≠2:=by rw[hm];decide
   obtain⟨hr,d,hd,hdn⟩:=dst hn2;have hu:qQ o U v=eG U d v:=by unfold qQ;rw[hd]
   rw[hu]at h;refine cont S1 v d hd hdn hn2 (hS1 hS) hSS (.inl ⟨by rw[hm];decide,λw2 hS2=>?_⟩) h;obtain⟨v',hst,he⟩:=E0 (C:=λσ'=>σ'=qQ o U v) hs hr hd hdn<|h1 w2 hS2
   rw[hu]at he;have:=congrFun he d;unfold eG at this;rw[Nat.beq_refl]at this;have:v'=v:=this;subst this;exact hst
  ·exact⟨[],[],i::ord,a,S,rfl,rfl,hs,h0,λe rest he=>by injection he with h1 _;subst h1;exact hm,λj i v hi=>(by simp at hi),hS,λ_ h=>h⟩
  ·have hn2:mk.getD i 0≠2:=by rw[hm];decide
   obtain⟨hr,d,hd,hdn⟩:=dst hn2;obtain⟨v,hst,hrest⟩:=E0 (C:=λσ'=>DP P n l mk Q (λw2=>S w2/\w2.heap[b]? =some (.cells row e (0,0))) ord σ' w) hs hr hd hdn h;exact cont _ v d hd hdn hn2 ⟨hS,hh⟩ (λ_ h=>h.1) (.inl ⟨by rw[hm];decide,λw2 hS2=>LX hs hop hp hT h3 h4 hh hS2.2 hst⟩) hrest
theorem Xf(S0:aW->Prop){U:Nat->aV}{w:aW}{id:Nat}(hm:P.follows .mixedOrders=true)(mk ord:aL Nat)(hS0:S0 w.drew)(h:DP P n l mk Q S0 ord U w.drew)(hdep:vf 0 l=true:=by exact rfl)(hc:LZ n l mk ord=true:=by kernel_rfl):RC P n (.region id l.toArray true) U w Q:=by
 intro a0 ha0;unfold LZ at hc;simp only[dB]at hc;obtain⟨⟨⟨⟨⟨c1,c2⟩,c3⟩,c4⟩,c5⟩,c6⟩:=hc;have hnd:=D9 c1;have hall:∀i,i<l.length->i∈ord:=λi hi=>by
  simp_all
 have hlt:∀i∈ord,i<l.length:=λi hi=>Nat.blt_eq▸mQ.1 c3 i hi;have hK:∀i o,l[i]? =some o->kindOk n o (mk.getD i 0)=true/\tQ l.toArray i o 0 l=true:=λi o ho=>by
  have:=Ea c4 i o ho;grind
 have hA:Sound l (H2 l []):=Jr l l [] (λj=>by simp) (λi k hb=>by simp at hb);have hdist:∀(i k:Nat)o o' t,l[i]? =some o->l[k]? =some o'->k≠i->o.dst=some t->o'.dst≠some t:=λi k o o' t ho ho' hne hd hd'=>by
  have hp:=yd (hK i o ho).2 k o' ho'
  grind [E3,fP,Bool.not_eq_true',Nat.beq_refl]
 have hsee:∀(i k:Nat)o o' t,l[i]? =some o->l[k]? =some o'->k≠i->o'.dst=some t->Ba l.toArray o t=true->(k<i/\yV o k=true)\/(i<k/\yV o' i=true):=λi k o o' t ho ho' hne hd' hs=>by
  have hp:=yd (hK i o ho).2 k o' ho';rw[gL]at hp
  grind [E3,fP,Bool.not_eq_true',Nat.blt,Nat.blt_eq]
 have hsz:∀(g:Nat)o2 d,l.toArray[g]? =some o2->o2.dst=some d->d<n:=λg o2 d ho hd=>by
  grind [kindOk,Nat.beq,Nat.blt_eq]
 refine XQ (U:=U) (w:=w) hm hdep (λD σ' w'=>∃pre vs post a S,ord=pre++post/\vs.length=pre.length/\Sl n (mo l U pre vs) a/\DP P n l mk Q S post (mo l U pre vs) w'/\(∀e rest,post=e::rest->mk.getD e 0=2)/\
   (∀i∈post,D i=false)/\
   (∀(j i:Nat)v,pre[j]? =some i->vs[j]? =some v->D i=false->mk.getD i 0≠2/\∃o aj,l[i]? =some o/\Sl n (mo l U (pre.take j)<|vs.take j) aj/\((mk.getD i 0≠0/\∀w2,S w2->F5 P l.toArray w2 aj o v)\/(mk.getD i 0=0/\F5 P l.toArray w' aj o v)))/\S w'/\
   (∀(j i:Nat)v o t,pre[j]? =some i->vs[j]? =some v->l[i]? =some o->o.dst=some t->D i=true->σ' t=v)/\
   (∀t,(∀(i:Nat)o,l[i]? =some o->o.dst=some t->D i=false)->σ' t=U t)) ?_ ?_ ?_ a0 ha0
 ·obtain⟨pre,vs,post,a',S,e1,e2,e3,e4,e5,e6,eS,_⟩:=Ys ord _ U w.drew a0 ha0 hS0 (λi _ o ho=>(hK i o ho).1) h;exact⟨pre,vs,post,a',S,e1,e2,e3,e4,e5,λ_ _=>rfl,λj i v hi hv _=>e6 j i v hi hv,eS,λj i v o t _ _ _ _ hD=>(by cases hD),λt _=>rfl⟩
 ·refine tP λi o ho=>?_;rw[gL];rintro D σ' w' hD hdeps hcl⟨pre,vs,post,a,S,e1,e2,e3,e4,e5,e6,e7,eS,e8,e9⟩;have hil:i<l.length:=(bN.1 ho).1;have hio:=hall i hil;have hancD:∀k,Nat.testBit ((H2 l []).getD i 0) k=true->D k=true:=λk hb=>(hA i k hb).done hcl ⟨o,ho,hdeps⟩;have hag:∀(p1:aL Nat)(vs1:aL aV)(p2:aL Nat),p1++i::p2=ord->vs1.length=p1.length->(∀(j i':Nat)v o' t,p1[j]? =some i'->vs1[j]? =some v->l[i']? =some o'->o'.dst=some t->D i'=true->σ' t=v)->
    ∀t,Ba l.toArray o t=true->mo l U p1 vs1 t=σ' t:=by
   intro p1 vs1 p2 he hl1 h8 t ht;have hni:i∉p1:=λhm=>by
    rw[<-he]at hnd;exact(List.nodup_append.1 hnd).2.2 i hm i (by simp) rfl
   have hnd1:p1.Nodup:=by rw[<-he]at hnd;exact(List.nodup_append.1 hnd).1
   by_cases hex:∃(k:Nat)(o':bL),l[k]? =some o'/\o'.dst=some t
   ·obtain⟨k,o',ho',hd'⟩:=hex;have hkd:k≠i->D k=true->k∈p1\/k∈p2:=λhne _=>by
     have:=hall k (bN.1 ho').1;rw[<-he]at this;simp at this
     rcases this with h|h|h
     ·exact .inl h
     ·exact absurd h hne
     ·exact .inr h
    by_cases hki:k=i
    ·subst hki;rw[sX p1 vs1 U<|λi' hi' o2 ho2 hd2=>hdist k i' o' o2 t ho' ho2 (λe=>hni<|e▸hi') hd' hd2];refine(e9 t λk2 o2 ho2 hd2=>?_).symm
     by_cases he2:k2=k
     ·subst he2;exact hD
     ·exact absurd hd2<|hdist k k2 o' o2 t ho' ho2 he2 hd'
    ·rcases hsee i k o o' t ho ho' hki hd' ht with⟨_,hE⟩|⟨hlt2,hE⟩
     ·have hDk:=n7 hdeps hE
      by_cases hp:k∈p1
      ·obtain⟨j,hj⟩:=List.mem_iff_getElem?.1 hp;have hjl:j<vs1.length:=by rw[hl1];exact(bN.1 hj).1
       rw[h8 j k vs1[j] o' t hj (aM hjl) ho' hd' hDk];refine E2 p1 vs1 U j k o' vs1[j] hj (aM hjl) ho' hd' λk2 i2 o2 hk2 ho2 hne=>?_;refine hdist k i2 o' o2 t ho' ho2 (λe=>hne ?_) hd';subst e;exact(List.getElem?_inj (bN.1 hk2).1 hnd1).1 (by rw[hk2,hj])
      ·rcases hkd hki hDk with h|h
       ·exact absurd h hp
       ·rw[E5 c6 p1 i p2 he.symm o ho k h]at hE;cases hE
     ·have hDk:D k=false:=nf λhDk=>by
       have:=n7 (hcl k o' ho' hDk) hE;rw[hD]at this;cases this
      rw[sX p1 vs1 U<|λi' hi' o2 ho2 hd2=>?_]
      ·refine(e9 t λk2 o2 ho2 hd2=>?_).symm
       by_cases he2:k2=k
       ·subst he2;exact hDk
       ·exact absurd hd2<|hdist k k2 o' o2 t ho' ho2 he2 hd'
      ·by_cases he2:i'=k
       ·subst he2;obtain⟨q1,q2,hq⟩:=List.append_of_mem hi';have:=E5 c6 q1 i' (q2++i::p2) (by rw[<-he,hq];simp) o' ho' i (by simp);rw[this]at hE;cases hE
       ·exact hdist k i' o' o2 t ho' ho2 he2 hd' hd2
   ·rw[e9 t λk o' ho' hd'=>absurd ⟨k,o',ho',hd'⟩ hex];exact sX p1 vs1 U<|λi' hi' o2 ho2 hd2=>hex ⟨i',o2,ho2,hd2⟩
  have hrunC:∀(σ1:Nat->aV)(a1 a2:Act),Sl n σ1 a1->Sl n σ' a2->(∀t,Ba l.toArray o t=true->σ1 t=σ' t)->execOp a2.eval o=execOp a1.eval o:=λσ1 a1 a2 hs1 hs2 hag=>by
   refine execOp_congr o (λcs b e=>?_) λx hx=>?_
   ·have:=(hK i o ho).1;unfold kindOk at this;rw[e]at this;cases this
   ·rw[hs2.ev,hs1.ev]
    cases x with
    |tmp t=>
     refine(hag t ?_).symm;unfold Ba Oper.looksAt;rw[List.any_append,ij];left;rw[lq];exact⟨t,List.mem_filterMap.2 ⟨.tmp t,by simpa using hx,rfl⟩,Nat.beq_refl t⟩
    |_=>rfl
  by_cases hip:i∈pre
  ·
   obtain⟨p1,p2,hpre⟩:=List.append_of_mem hip;have hjv:p1.length<vs.length:=by rw[e2,hpre];simp
   have hpj:pre[p1.length]? =some i:=by rw[hpre];simp
   obtain⟨v1,hv1⟩:∃v,vs[p1.length]? =some v:=⟨_,aM hjv⟩;obtain⟨hn2,o2,aj,ho2,hsj,hev⟩:=e7 p1.length i v1 hpj hv1 hD;rw[ho]at ho2;injection ho2 with ho2;subst ho2
   have htk:pre.take p1.length=p1:=by rw[hpre];simp
   rw[htk]at hsj;have hst:F5 P l.toArray w' aj o v1:=by
    rcases hev with⟨_,h⟩|⟨_,h⟩
    ·exact h w' eS
    ·exact h
   have hag1:=hag p1 (vs.take p1.length) (p2++post) (by rw[e1,hpre];simp) (by rw[dD];omega) (λj i' v o' t hj hv ho' hd' hDi=>by
    have hjl:=(bN.1 hj).1;rw[gZ,aH hjl]at hv
    exact e8 j i' v o' t (by rw[hpre,gD hjl];exact hj) hv ho' hd' hDi)
   have hmk:∃d,o.dst=some d/\Nat.blt d n=true:=by
    have:=(hK i o ho).1;unfold kindOk at this;rw[dB]at this;have h2:=this.2;have hne:Nat.beq (mk.getD i 0) 2=false:=by
     cases hx:Nat.beq (mk.getD i 0) 2 with
     |false=>rfl
     |true=>exact absurd (fP hx) hn2
    rw[hne,aP,dB]at h2
    cases hd:o.dst with
    |none=>rw[hd]at h2;cases h2.2
    |some d=>rw[hd]at h2;exact⟨d,rfl,h2.2⟩
   obtain⟨d,hd,hdn⟩:=hmk;have hJ:∃pre vs post a S,ord=pre++post/\vs.length=pre.length/\Sl n (mo l U pre vs) a/\DP P n l mk Q S post (mo l U pre vs) w'/\(∀e rest,post=e::rest->mk.getD e 0=2)/\
     (∀i'∈post,ins D i i'=false)/\
     (∀(j i':Nat)v,pre[j]? =some i'->vs[j]? =some v->ins D i i'=false->mk.getD i' 0≠2/\∃o aj,l[i']? =some o/\Sl n (mo l U (pre.take j)<|vs.take j) aj/\((mk.getD i' 0≠0/\∀w2,S w2->F5 P l.toArray w2 aj o v)\/(mk.getD i' 0=0/\F5 P l.toArray w' aj o v)))/\S w'/\
     (∀(j i':Nat)v o' t,pre[j]? =some i'->vs[j]? =some v->l[i']? =some o'->o'.dst=some t->ins D i i'=true->eG σ' d v1 t=v)/\
     (∀t,(∀(i':Nat)o',l[i']? =some o'->o'.dst=some t->ins D i i'=false)->eG σ' d v1 t=U t):=by
    refine⟨pre,vs,post,a,S,e1,e2,e3,e4,e5,λi' hi'=>?_,λj i' v hj hv hDi=>?_,eS,λj i' v o' t hj hv ho' hd' hDi=>?_,λt ht=>?_⟩
    ·rw[qq (λe=>by
      subst e;rw[e1]at hnd
      exact(List.nodup_append.1 hnd).2.2 i' hip i' hi' rfl)]
     exact e6 i' hi'
    ·refine e7 j i' v hj hv ?_
     by_cases he:i'=i
     ·subst he;exact hD
     ·rwa[qq he]at hDi
    ·by_cases he:i'=i
     ·subst he;rw[ho]at ho';injection ho' with ho';subst ho'
      rw[hd]at hd';injection hd' with hd';subst hd'
      have hndp:pre.Nodup:=by rw[e1]at hnd;exact(List.nodup_append.1 hnd).1
      have:j=p1.length:=(List.getElem?_inj (bN.1 hj).1 hndp).1 (by rw[hj,hpj]);subst this;rw[hv1]at hv;injection hv with hv
      unfold eG;rw[Nat.beq_refl];exact hv
     ·rw[qq he]at hDi;have hne:t≠d:=λe=>by subst e;exact hdist i i' o o' t ho ho' he hd hd'
      unfold eG
      cases hb:Nat.beq t d with
      |true=>exact absurd (fP hb) hne
      |false=>exact e8 j i' v o' t hj hv ho' hd' hDi
    ·have hne:t≠d:=λe=>by
      subst e;have:=ht i o ho hd;rw[yX]at this;cases this
     unfold eG
     cases hb:Nat.beq t d with
     |true=>exact absurd (fP hb) hne
     |false=>
      refine e9 t λk2 o2 ho2 hd2=>?_;have:=ht k2 o2 ho2 hd2
      by_cases he:k2=i
      ·subst he;exact hD
      ·rwa[qq he]at this
   intro a2 hs2;have hrun:=hrunC _ aj a2 hsj hs2 hag1;have hwant:=tO (ops:=l.toArray) (o:=o) hsj hs2 hag1 hsz;unfold wpList
   rcases hst with⟨hw1,hr1⟩|⟨hw1,hvu⟩
   ·rw[hwant]at hw1;rw[aH hw1];left;unfold Oper.wp;rw[hrun,hr1];refine⟨eG σ' d v1,?_,rfl,hJ⟩;rw[hd];exact hs2.put hdn _
   ·rw[hwant]at hw1;rw[aF (by rw[hw1];exact wF)];rw[hvu]at hJ;refine⟨eG σ' d undef,?_,rfl,hJ⟩;rw[hd];exact hs2.put hdn _
  ·
   have hipo:i∈post:=by
    rw[e1]at hio
    rcases dJ.1 hio with h|h
    ·exact absurd h hip
    ·exact h
   cases post with
   |nil=>cases hipo
   |cons e rest=>
    have hme:=e5 e rest rfl;have hoa:=GI c5 pre e rest e1 hme;have hie:i=e:=by
     rcases eV.1 hipo with h|h
     ·exact h
     ·have:=hancD e<|hoa.1 i h
      rw[e6 e (by simp)]at this;cases this
    subst hie;unfold DP at e4;obtain⟨o2,ho2,hdp⟩:=e4;rw[ho]at ho2;injection ho2 with ho2;subst ho2
    obtain⟨S1,qo,hdp⟩:∃S1:aW->Prop,((∀w2,S1 w2->S w2)\/H3 l i rest=true)/\RL P n l.toArray [o] (mo l U pre vs) w' (λex σ' w'=>ex = .normal/\S1 w'/\DP P n l mk Q S1 rest σ' w'):=by
     rcases hdp with⟨h,_⟩|⟨h,_⟩|⟨_,h⟩|⟨h,_⟩
     ·rw[hme]at h;cases h
     ·rw[hme]at h;cases h
     ·exact h
     ·rw[hme]at h;cases h
    have hag1:=hag pre vs rest e1.symm e2 e8;have hdn:∀d,o.dst=some d->Nat.blt d n=true:=λd hd=>by
     have:=(hK i o ho).1;unfold kindOk at this;rw[hme,dB]at this;have h2:=this.2;rw[hd]at h2;exact h2
    have hput:∀(σ1:Nat->aV)(a1:Act)v,Sl n σ1 a1->Sl n (qQ o σ1 v) (a1.put o.dst v):=λσ1 a1 v hs1=>by
     unfold qQ
     cases hd:o.dst with
     |none=>exact hs1.BT v
     |some d=>exact hs1.put (hdn d hd) v
    have hni:i∉pre:=hip;have hnr:i∉rest:=λhm=>by
     rw[e1]at hnd;exact(List.nodup_cons.1 (List.nodup_append.1 hnd).2.1).1 hm
    have key:∀(a2:Act)v w1,Sl n σ' a2->Lf n (λex σ' w'=>ex = .normal/\S1 w'/\DP P n l mk Q S1 rest σ' w') .normal (a.put o.dst v) w1->
      Lf n (λex σ' w1=>ex = .normal/\∃pre vs post a S,ord=pre++post/\vs.length=pre.length/\Sl n (mo l U pre vs) a/\DP P n l mk Q S post (mo l U pre vs) w1/\(∀e rest,post=e::rest->mk.getD e 0=2)/\
       (∀i'∈post,ins D i i'=false)/\
       (∀(j i':Nat)v,pre[j]? =some i'->vs[j]? =some v->ins D i i'=false->mk.getD i' 0≠2/\∃o aj,l[i']? =some o/\Sl n (mo l U (pre.take j)<|vs.take j) aj/\((mk.getD i' 0≠0/\∀w2,S w2->F5 P l.toArray w2 aj o v)\/(mk.getD i' 0=0/\F5 P l.toArray w1 aj o v)))/\S w1/\
       (∀(j i':Nat)v o' t,pre[j]? =some i'->vs[j]? =some v->l[i']? =some o'->o'.dst=some t->ins D i i'=true->σ' t=v)/\
       (∀t,(∀(i':Nat)o',l[i']? =some o'->o'.dst=some t->ins D i i'=false)->σ' t=U t)) .normal (a2.put o.dst v) w1:=by
     rintro a2 v w1 hs2⟨σ1,hs1,_,hS1,hdp1⟩;have hσ1:σ1=qQ o (mo l U pre vs) v:=hs1.uniq<|hput _ a v e3
     subst hσ1;obtain⟨pre2,vs2,post2,a3,S2,f1,f2,f3,f4,f5,f6,f7,f8⟩:=Ys rest S1 _ w1 _ hs1 hS1 (λi' _ o' ho'=>(hK i' o' ho').1) hdp1;have hX:∀is us,mo l U (pre++i::is) (vs++v::us)=mo l (qQ o (mo l U pre vs) v) is us:=λis us=>by
      rw[AW U pre (i::is) vs (v::us) e2]
      conv=>lhs;unfold mo
      rw[ho]
     refine⟨qQ o σ' v,hput _ a2 v hs2,rfl,pre++i::pre2,vs++v::vs2,post2,a3,S2,by rw[e1,f1];simp,by simp[e2,f2],by rw[hX];exact f3,by rw[hX];exact f4,f5,λi' hi'=>?_,λj i' u hj hu hDi=>?_,f7,λj i' u o' t hj hu ho' hd' hDi=>?_,λt ht=>?_⟩
     ·have hir:i'∈rest:=by rw[f1];simp[hi']
      rw[qq (λe:i'=i=>hnr (by rw[<-e];exact hir))];exact e6 i' (by simp[hir])
     ·have hne:i'≠i:=λe=>by subst e;rw[yX]at hDi;cases hDi
      have hDi2:D i'=false:=by rwa[qq hne]at hDi
      by_cases hjl:j<pre.length
      ·rw[gD hjl]at hj;rw[gD (by omega)]at hu;obtain⟨hn3,o3,aj,ho3,hsj,hev⟩:=e7 j i' u hj hu hDi2;have t1:(pre++i::pre2).take j=pre.take j:=List.take_append_of_le_length (by omega);have t2:(vs++v::vs2).take j=vs.take j:=List.take_append_of_le_length (by omega);refine⟨hn3,o3,aj,ho3,by rw[t1,t2];exact hsj,?_⟩
       rcases hev with⟨h,hh⟩|⟨h,_⟩
       ·rcases qo with qo|qo
        ·exact .inl ⟨h,λw2 h2=>hh w2<|qo w2<|f8 w2 h2⟩
        ·have hmem:i'∈pre:=gA hj;have hil':i'<l.length:=(bN.1 ho3).1;have hk:=mQ.1 qo i' (by simpa using hil');rw[ij,ij]at hk
         rcases hk with(hk|hk)|hk
         ·exact absurd (fP hk) hne
         ·obtain⟨q,hq,hqe⟩:=lq.1 hk;have:=fP hqe;subst this;rw[e1]at hnd;exact absurd rfl<|(List.nodup_append.1 hnd).2.2 q hmem q (by simp[hq])
         ·have:=hancD i' hk;rw[hDi2]at this;cases this
       ·rcases hoa.2 i' (by simp[gA hj])with(h2|h2)|h2
        ·rw[h]at h2;cases h2
        ·rw[h]at h2;cases h2
        ·rw[hancD i' h2]at hDi2;cases hDi2
      ·rw[fZ (by omega)]at hj;rw[fZ (by omega),e2]at hu
       cases hq:j - pre.length with
       |zero=>
        rw[hq]at hj;simp at hj;exact absurd hj.symm hne
       |succ q=>
        rw[hq]at hj hu;obtain⟨hn3,o3,aj,ho3,hsj,hev⟩:=f6 q i' u (by simpa using hj) (by simpa using hu);have hjq:j=pre.length+(q+1):=by omega
        have t1:(pre++i::pre2).take j=pre++i::pre2.take q:=by rw[hjq,List.take_length_add_append,List.take_succ_cons]
        have t2:(vs++v::vs2).take j=vs++v::vs2.take q:=by rw[hjq,<-e2,List.take_length_add_append,List.take_succ_cons]
        exact⟨hn3,o3,aj,ho3,by rw[t1,t2,hX];exact hsj,hev⟩
     ·have hnd2:(pre++i::pre2).Nodup:=by
       rw[e1,f1]at hnd;have:pre++i::(pre2++post2)=(pre++i::pre2)++post2:=by simp
       rw[this]at hnd;exact(List.nodup_append.1 hnd).1
      by_cases hne:i'=i
      ·subst hne;rw[ho]at ho';injection ho' with ho';subst ho'
       have hjp:(pre++i'::pre2)[pre.length]? =some i':=by simp
       have:j=pre.length:=(List.getElem?_inj (bN.1 hj).1 hnd2).1 (by rw[hj,hjp]);subst this;rw[<-e2]at hu;simp at hu;subst hu;exact Jq hd'
      ·rw[qq hne]at hDi;rw[E1<|λhd=>hdist i i' o o' t ho ho' hne hd hd']
       by_cases hjl:j<pre.length
       ·rw[gD hjl]at hj;rw[gD (by omega)]at hu;exact e8 j i' u o' t hj hu ho' hd' hDi
       ·rw[fZ (by omega)]at hj
        cases hq:j - pre.length with
        |zero=>rw[hq]at hj;simp at hj;exact absurd hj.symm hne
        |succ q=>
         rw[hq]at hj;have hm2:i'∈pre2:=gA (i:=q) (by simpa using hj);have:=e6 i' (by rw[f1];simp[hm2]);rw[this]at hDi;cases hDi
     ·rw[E1 (λhd=>by have:=ht i o ho hd;rw[yX]at this;cases this)];refine e9 t λk2 o2 ho2 hd2=>?_;have:=ht k2 o2 ho2 hd2
      by_cases he:k2=i
      ·subst he;exact hD
      ·rwa[qq he]at this
    intro a2 hs2;have hrun:=hrunC _ a a2 e3 hs2 hag1;have hwant:=tO (ops:=l.toArray) (o:=o) e3 hs2 hag1 hsz;have h1:=hdp a e3;unfold wpList at h1 ⊢;split at h1
    ·rename_i hw1;rw[hwant]at hw1;rw[aH hw1]
     rcases h1 with h1|⟨_,h1⟩
     ·left;unfold Oper.wp at h1 ⊢;rw[hrun];refine Dy e3.defers (λv w1 hk=>key a2 v w1 hs2 hk) (λb w1 hk=>?_) (λc b w1 hk=>?_) (λhk=>?_) h1
      ·obtain⟨_,hsb,_⟩:=hk;exact hsb.defers
      ·obtain⟨_,_,hbad,_⟩:=hk;cases hbad
      ·obtain⟨_,_,_,_,hbad,_⟩:=hk;cases hbad
     ·obtain⟨_,_,_,_,hbad,_⟩:=h1;cases hbad
    ·rename_i hw1;rw[hwant]at hw1;rw[aF hw1];exact key a2 undef w' hs2 h1
 ·rintro D σ' w' hDall⟨pre,vs,post,a,S,e1,e2,e3,e4,e5,e6,e7,eS,e8,e9⟩;have hpost:post= []:=by
   cases post with
   |nil=>rfl
   |cons e rest=>
    have h1:=e6 e (by simp);rw[hDall e<|hlt e (by rw[e1];simp)]at h1;cases h1
  subst hpost;rw[iR]at e1;subst e1;have:σ'=mo l U ord vs:=by
   funext t
   by_cases hex:∃(k:Nat)(o':bL),l[k]? =some o'/\o'.dst=some t
   ·obtain⟨k,o',ho',hd'⟩:=hex;have hkl:=(bN.1 ho').1;obtain⟨j,hj⟩:=List.mem_iff_getElem?.1<|hall k hkl
    have hjl:j<vs.length:=by rw[e2];exact(bN.1 hj).1
    rw[e8 j k vs[j] o' t hj (aM hjl) ho' hd'<|hDall k hkl];refine(E2 ord vs U j k o' vs[j] hj (aM hjl) ho' hd' λk2 i2 o2 hk2 ho2 hne=>?_).symm;refine hdist k i2 o' o2 t ho' ho2 (λe=>hne ?_) hd';subst e;exact(List.getElem?_inj (bN.1 hk2).1 hnd).1 (by rw[hk2,hj])
   ·rw[e9 t λk o' ho' hd'=>absurd ⟨k,o',ho',hd'⟩ hex];exact(sX ord vs U<|λi' hi' o2 ho2 hd2=>hex ⟨i',o2,ho2,hd2⟩).symm
  rw[this];unfold DP at e4;exact e4
theorem WA{U:Nat->aV}{w:aW}{id:Nat}(hm:P.follows .mixedOrders=true)(mk ord:aL Nat)(h:DP P n l mk Q (λ_=>True) ord U w.drew)(hdep:vf 0 l=true:=by exact rfl)(hc:LZ n l mk ord=true:=by kernel_rfl):RC P n (.region id l.toArray true) U w Q:=Xf (hdep:=hdep) (hc:=hc) _ hm mk ord trivial h
end
def Kp(m:Nat):aL Nat->Bool
 | []=>true
 |i::l=>Nat.blt i m&& !(l.any λj=>Nat.beq i j)&&Kp m l
theorem yY{m:Nat}:∀{l:aL Nat},Kp m l=true->l.Nodup/\∀i∈l,i<m
 | [],_=>⟨List.nodup_nil,λi h=>by cases h⟩
 |a::l,h=>by
  unfold Kp at h;simp only[dB,Bool.not_eq_true']at h;obtain⟨h1,h2⟩:=yY h.2;refine⟨List.nodup_cons.2 ⟨λhm=>?_,h1⟩,λi hi=>?_⟩
  ·have:(l.any λb=>Nat.beq a b)=true:=lq.2 ⟨a,hm,Nat.beq_refl a⟩;rw[this]at h;cases h.1.2
  ·rcases eV.1 hi with e|hi
   ·rw[e];exact Nat.blt_eq▸h.1.1
   ·exact h2 i hi
section
variable {E w:aW}{V Γ0 new:aL HP}
theorem Holds.pk(h:Holds E w V)(m:Nat)(idx:aL Nat)(e:(V.drop m,idx.map<|λi=>V[i]?,Kp m idx)=(Γ0,new.map some,true):=by exact rfl):Holds E w (new++Γ0):=by
 injection e with e1 e;injection e with e2 e3
 exact h.pick m idx e1 e2 (yY e3).1 (yY e3).2
def Q0(m:Nat)(idx:aL Nat)(V:aL HP):aL HP:=idx.map (λi=>V.getD i bD)++V.drop m
theorem Holds.pl(h:Holds E w V)(m:Nat)(idx:aL Nat)(e:(Kp m idx&&(idx.all λi=>Nat.blt i V.length))=true):Holds E w (Q0 m idx V):=by
 rw[dB]at e;refine h.pick m idx rfl ?_ (yY e.1).1 (yY e.1).2
 simp_all
end
section
variable {P:bP}{n:Nat}{l:aL bL}{mk:aL Nat}{Q:gv}{U:Nat->aV}{w:aW}{i:Nat}{rest:aL Nat}{o:bL}{ops:bB bL}{S:aW->Prop}
theorem bF(ho:l[i]? =some o)(h:RL P n l.toArray [o] U w (λex σ' w'=>ex = .normal/\w'=w/\DP P n l mk Q S rest σ' w))(hm:mk.getD i 0=0:=by exact rfl):RL P n ops [] U w (λex σ' w'=>ex = .normal/\w'=w/\DP P n l mk Q S (i::rest) σ' w):=VZ<|VU ho hm h
theorem rW(ho:l[i]? =some o)(h:RL P n l.toArray [o] U w (λex σ' w'=>ex = .normal/\S w'/\DP P n l mk Q S rest σ' w'))(hm:mk.getD i 0=2:=by exact rfl):RL P n ops [] U w (λex σ' w'=>ex = .normal/\w'=w/\DP P n l mk Q S (i::rest) σ' w):=VZ<|Wq ho hm h
theorem u7(ho:l[i]? =some o)(h:RL P n l.toArray [o] U w (λex σ' w'=>ex = .normal/\w'=w/\DP P n l mk Q S rest σ' w))(hS:S w:=by exact trivial)(hm:mk.getD i 0=0:=by exact rfl):RL P n ops [] U w (λex σ' w'=>ex = .normal/\S w'/\DP P n l mk Q S (i::rest) σ' w'):=by simp_all[Wj,VU]
theorem N6(ho:l[i]? =some o)(h:RL P n l.toArray [o] U w (λex σ' w'=>ex = .normal/\S w'/\DP P n l mk Q S rest σ' w'))(hS:S w:=by exact trivial)(hm:mk.getD i 0=2:=by exact rfl):RL P n ops [] U w (λex σ' w'=>ex = .normal/\S w'/\DP P n l mk Q S (i::rest) σ' w'):=by simp_all[Wj,Wq]
end
theorem Vo{P:bP}{n:Nat}{q:bK}{x y:Code}{U:Nat->aV}{w:aW}{Q:gv}{β:Type}{b:Bool}{A B:aU β}{r:β}(hb:(bif b then A else B)=some r)(hc:ev U q = .bool b)
  (ht:b=true->A=some r->RC P n x U w Q) (hf:b=false->B=some r->RC P n y U w Q):RC P n (.cond q x y) U w Q:=
 by grind [XB]
theorem fx{G:Prop}{β:Type}{b:Bool}{A B:aU β}{r:β}(hb:(bif b then A else B)=some r)(ht:b=true->A=some r->G)(hf:b=false->B=some r->G):G:=by
 grind
def PQ(ad:Addr)(cs:aL aV):HP:=⟨λM h=>At M ad cs/\h=rX,λk⟨a,b⟩=>⟨a.mono k,b⟩⟩
section
variable {α β:Type}[GT α][GT β]{E w:aW}{V:aL HP}{P:bP}{n:Nat}{l:aL bL}{mk:aL Nat}{Q:gv}{U:Nat->aV}{i j0:Nat}{rest:aL Nat}{S:aW->Prop}
variable {d:Nat}{ty:bR}{pos:String}{af:bB Edge}{g:aU (Nat×Bool)}{q r:bK}{T e:bR}{x:α}{p:aV}
theorem Holds.kP(h:Holds E w V)(i:Nat){A:HP}(hi:V[i]? =some A:=by exact rfl):Holds E w [A]:=by
 have hlt:=(bN.1 hi).1;have:=h.pick V.length [i] (Γ0:=[]) (new:=[A]) (by simp) (by simp[hi]) (by simp) (λk hk=>by grind)
 grind
theorem X3{v:aV}(hg:Wn l.toArray U g)(hd:Nat.blt d n=true){op:Op}{w':aW}(hrun:(execOp (ev U) ⟨some d,op,ty,pos,af,g⟩).run P w' = .ok (.value v) w'):
  RL P n l.toArray [⟨some d,op,ty,pos,af,g⟩] U w' (λex σ' w''=>ex = .normal/\w''=w'/\σ'=qQ ⟨some d,op,ty,pos,af,g⟩ U v):=
 Wf hg hd hrun (By ⟨rfl,rfl,rfl⟩)
theorem X4{ls:aL α}{sv:aV}{K:IntKind}{j:Int}(i:Nat)(ho:l[j0]? =some ⟨some d, .indexAddr T q r,ty,pos,af,g⟩)(hm:mk.getD j0 0=1)(hg:Wn l.toArray U g)(hd:Nat.blt d n=true)(hw:Holds E w V)(hx:ev U q=sv)(hy:ev U r = .int K j)(hi:V[i]? =some (rd sv ls))
  (hT:uI P T e (GT.sz α)) (hj:(if 0<=j then ls[j.toNat]? else none)=some x)
  (k:∀v,Holds E w (pt v x::V)->DP P n l mk Q S rest (eG U d v) w):DP P n l mk Q S (j0::rest) U w:=by
 obtain⟨M,hs,gd⟩:=hw;obtain⟨a,m,cap,hv,hmm,hc,hmx,hel⟩:=mu.1 (gd.sat i _ hi).1;have h0:0<=j:=by
  grind
 rw[aH h0]at hj;obtain⟨ad,cs,hae,hok,ha⟩:=hel _ _ hj;have hlt:j<m:=by grind
 refine V8 (hm:=hm) (.pointer<|some<|ad.add<|j.toNat*GT.sz α) ho (λw'=>X3 hg hd ?_)<|k _ ⟨M,_,gd.ga ⟨⟨_,cs,rfl,hok,ha⟩,rfl⟩⟩
 simp only[execOp,hx,hv,hae,hy,Instr.indexAt,asIntOf,aR,bG,bC,run_underlying hT.z5,hT.sz,h0,hlt,and_self,if_true]
theorem XI{j m:Nat}{f:α->β}(i:Nat)(ho:l[j0]? =some ⟨some d, .fieldAddr T q j,ty,pos,af,g⟩)(hm:mk.getD j0 0=1)(hg:Wn l.toArray U g)(hd:Nat.blt d n=true)(hw:Holds E w V)(hx:ev U q=p)(hi:V[i]? =some (pt p x))(hf:mm P T j m)(hF:Fd m f)
  (k:∀v,Holds E w (pt v (f x)::V)->DP P n l mk Q S rest (eG U d v) w):DP P n l mk Q S (j0::rest) U w:=by
 obtain⟨M,hs,gd⟩:=hw;obtain⟨⟨ad,cs,hv,hok,ha⟩,_⟩:=gd.sat i _ hi;refine V8 (hm:=hm) (.pointer<|some<|ad.add m) ho (λw'=>X3 hg hd ?_)<|k _ ⟨M,_,gd.ga ⟨⟨ad.add m,_,rfl,hF M cs x hok,ha.sub m<|GT.sz β⟩,rfl⟩⟩
 simp only[execOp,hx,hv,aR,hf.run,bC,bG]
theorem W6(x:α)(i:Nat)(ho:l[j0]? =some ⟨some d, .load T q,ty,pos,af,g⟩)(hw:Holds E w V)(hT:kR P T (GT.agg α) (GT.sz α))(k:∀v ad cs,Holds E w (PQ ad cs::rd v x::V)->DP P n l mk Q (λw2=>S w2/\Holds E w2 [PQ ad cs]) rest (eG U d v) w)(hm:mk.getD j0 0=1:=by exact rfl)(hg:Wn l.toArray U g:=by exact trivial)(hd:Nat.blt d n=true:=by exact rfl)(hx:ev U q=p:=by exact rfl)(hi:V[i]? =some (pt p x):=by exact rfl):DP P n l mk Q S (j0::rest) U w:=by
 have hw0:=hw;obtain⟨M,hs,gd⟩:=hw;obtain⟨⟨ad,cs,hv,hok,ha⟩,_⟩:=gd.sat i _ hi;have hw1:Holds E w (rd (u4 α cs) x::V):=⟨M,_,gd.ga ⟨⟨cs,rfl,hok⟩,rfl⟩⟩;have hw2:Holds E w (PQ ad cs::rd (u4 α cs) x::V):=⟨M,_,(gd.ga (P:=rd (u4 α cs) x) ⟨⟨cs,rfl,hok⟩,rfl⟩).ga ⟨ha,rfl⟩⟩;refine YP (u4 α cs) (λw2=>S w2/\Holds E w2 [PQ ad cs]) (λ_ h=>h.1) (λh=>⟨h,hw2.kP 0⟩) ho hm (λw' hS=>X3 hg hd ?_)<|k _ _ _ hw2
 obtain⟨M',hs',gd'⟩:=hS.2;obtain⟨ha',_⟩:=gd'.sat 0 _ rfl;simp only[execOp,hx,hv,Instr.loadAt,Instr.sureAddr,aR,bG,bC,mw hT hok<|λj u hu=>vc gd'.im<|ha' j u hu]
theorem XJ{γ:Type}[Sc γ](y:γ)(i:Nat)(ho:l[j0]? =some ⟨some d, .load T q,ty,pos,af,g⟩)(hm:mk.getD j0 0=1)(hd:Nat.blt d n=true)(hw:Holds E w V)(hx:ev U q=p)(hi:V[i]? =some (pt p y))(hT:kR P T false 1)(k:∀ad cs,Holds E w (PQ ad cs::V)->DP P n l mk Q (λw2=>S w2/\Holds E w2 [PQ ad cs]) rest (eG U d<|Sc.toV y) w)(hg:Wn l.toArray U g:=by exact trivial):DP P n l mk Q S (j0::rest) U w:=by
 refine W6 (hm:=hm) (hg:=hg) (hd:=hd) (hx:=hx) (hi:=hi) y i ho hw hT λv ad cs h=>?_;have hv:v=Sc.toV y:=h.ve (i:=1) rfl;subst hv;refine k ad cs ?_;obtain⟨M,hs,gd⟩:=hw;obtain⟨M2,hs2,gd2⟩:=h;exact Holds.pick ⟨M2,hs2,gd2⟩ 2 [0] (Γ0:=V) (new:=[PQ ad cs]) rfl rfl (by simp) (λk hk=>by grind)
end
def SH(E:aW)(V:aL HP)(l:aL (Nat×aV))(G:aL HP)(U:Nat->aV)(w:aW):Prop:=∃O,U=sV l O/\Holds E w (G++V)
theorem sh{U:Nat->aV}{w E:aW}{l:aL (Nat×aV)}{G V:aL HP}(h:agree U l)(hw:Holds E w (G++V)):SH E V l G U w:=by
 obtain⟨O,e⟩:=h.sV;exact⟨O,e,hw⟩
theorem GJ{U:Nat->aV}:∀{l:aL (Nat×aV)},l.map (λp=>U p.1)=l.map (λp=>p.2)->agree U l
 | [],_=>True.intro
 |(d,v)::l,h=>by
  rw[eZ,eZ]at h;injection h with h1 h2
  exact⟨h1,GJ h2⟩
section
variable {P:bP}{n:Nat}{U:Nat->aV}{w:aW}{Q:gv}{E:aW}{V Γ1 new:aL HP}{ops:bB bL}{rest:aL bL}{d t j:Nat}{ty:bR}{pos:String}{af:bB Edge}{g:aU (Nat×Bool)}{x y z:bK}{op:Op}
theorem bH{a b:Bool}(h:a = !b)(k:RL P n ops rest (eG U d undef) w Q)(ht:(ops[j]?).bind (·.dst)=some t:=by exact rfl)(hv:U t = .bool a:=by exact rfl)(hd:Nat.blt d n=true:=by exact rfl):
  RL P n ops (⟨some d,op,ty,pos,af,some (j,b)⟩::rest) U w Q:=sk ht (.inl<|hv.trans<|cb h) hd k
theorem kH{b:Bool}(k:RL P n ops rest (eG U d undef) w Q)(ht:(ops[j]?).bind (·.dst)=some t:=by exact rfl)(hv:U t = .bool (!b):=by exact rfl)(hd:Nat.blt d n=true:=by exact rfl):
  RL P n ops (⟨some d,op,ty,pos,af,some (j,b)⟩::rest) U w Q:=sk ht (.inl hv) hd k
theorem E7{b:Bool}(k:RL P n ops rest (eG U d undef) w Q)(ht:(ops[j]?).bind (·.dst)=some t:=by exact rfl)(hv:U t=undef:=by exact rfl)(hd:Nat.blt d n=true:=by exact rfl):
  RL P n ops (⟨some d,op,ty,pos,af,some (j,b)⟩::rest) U w Q:=sk ht (.inr hv) hd k
theorem fw{b c:Bool}(h:b=c)(v:aV)(k:RL P n ops rest (eG U d v) w Q)(hg:Wn ops U g:=by exact trivial)(hd:Nat.blt d n=true:=by exact rfl)(hx:ev U x = .bool b:=by exact rfl)(hv:(if c=true then ev U y else ev U z)=v:=by exact rfl):
  RL P n ops (⟨some d, .pick x y z,ty,pos,af,g⟩::rest) U w Q:=by grind [Wl]
theorem Holds.sp{l:aL (Nat×aV)}(h:Holds E w Γ1)(m:Nat)(idx:aL Nat)(e:(Γ1.drop m,idx.map<|λi=>Γ1[i]?,Kp m idx)=(V,new.map some,true):=by exact rfl)
  (ha:l.map (λp=>U p.1)=l.map (λp=>p.2):=by exact rfl):SH E V l new U w:=sh (GJ ha)<|h.pk (e:=e) m idx
end
section
variable {S T γ:Type}[GT S][GT T][GT γ]{m:Nat}
theorem Fd.v{r:S->γ}(g:S->T){f:T->γ}(h:Fd m f)(ho:∀M cs x,GT.ok (α:=S) M cs x=GT.ok M cs (g x):=by exact λ_ _ _=>rfl)(e:∀x,f (g x)=r x:=by exact λ_=>rfl):Fd m r:=λM cs x hx=>by
 rw[<-e];exact h M cs (g x)<|ho M cs x▸hx
theorem Fs.v{r:S->γ->S}(g:S->T){f:T->γ->T}(h:Fs m γ f)(ho:∀M cs x,GT.ok (α:=S) M cs x=GT.ok M cs (g x):=by exact λ_ _ _=>rfl)(e:∀x y,f (g x) y=g (r x y):=by exact λ_ _=>rfl):Fs m γ r:=λM cs ds x y hx hy=>by
 rw[ho,<-e];exact h M cs ds (g x) y (ho M cs x▸hx) hy
end
section
variable {P:bP}{T e i k m f:Nat}{fn:Func}{ag:Bool}{zs:aL aV}
theorem gr{f:FuncId}(h:P.funcs[f]? =some fn)(h1:(fn.name== "runtime.NumGoroutine")=false:=by kernel_rfl)(h2:fn.body.isNone=false:=by exact rfl):fT P f:=⟨λ_ _=>EO h h1 h2⟩
theorem nz{T:bR}(h:∀a w,(Instr.fieldAt T (.pointer<|some a) i).run P w = .ok (.pointer<|some<|a.add k) w:=by intro _ _;kernel_rfl):mm P T i k:=⟨h⟩
theorem rY{T:bR}(h:∀w,(isAgg T).run P w = .ok ag w:=by intro _;kernel_rfl)(h2:∀w,(sizeOf T).run P w = .ok k w:=by intro _;kernel_rfl):kR P T ag k:=⟨h,h2⟩
theorem Dt{T e:bR}(h:P.underlying T=some (.slice e):=by kernel_rfl)(h2:∀w,(sizeOf e).run P w = .ok k w:=by intro _;kernel_rfl):uI P T e k:=⟨h,h2⟩
theorem Bb{e:bR}(z:aV)(h:∀w,(zeroValue e).run P w = .ok z w:=by intro _;kernel_rfl)(h1:z.cells.size=m:=by exact rfl)(h2:∀w,(sizeOf e).run P w = .ok m w:=by intro _;kernel_rfl):z8 P e m:=⟨⟨z,h,h1⟩,h2⟩
end
section
variable {l:aL bL}{D:Nat->Bool}{U:Nat->aV}{j d n:Nat}{v v':aV}{dv:aL (Nat×Nat×aV)}{ag:aL (Nat×aV)}
theorem nh(hcl:tM l D)(hD:D j=false)(K:Nat)(h:((l[K]?).any λo=>yV o j)=true:=by exact rfl):D K=false:=nf λh1=>by
 cases ho:l[K]? with
 |none=>rw[ho]at h;cases h
 |some o=>
  rw[ho]at h;have:=n7 (hcl K o ho h1) h;rw[hD]at this;cases this
theorem tK(h:∀i,i<n->D i=true)(i:Nat)(hi:Nat.blt i n=true:=by exact rfl):D i=true:=h i<|Nat.blt_eq.mp hi
theorem dY.pu(h:dY D U dv)(k:Nat)(h1:dv[k]? =some (j,d,v):=by exact rfl)(h2:B0 j d k dv=true:=by exact rfl):dY (ins D j) (eG U d v') (dv.set k (j,d,v')):=h.put k h1 h2
theorem dY.n1(h:dY D U dv)(h1:(dv.all λx=> !Nat.beq x.1 j)=true:=by exact rfl):dY (ins D j) U dv:=h.no h1
theorem agree.u(h:agree U ag)(h1:r8 d ag=true:=by exact rfl):agree (eG U d v) ag:=h.up h1
end
def Q1:aL (Nat×aV)->Bool
 | []=>true
 |(d,_)::l=>r8 d l&&Q1 l
theorem Eb{d:Nat}:∀{l k:aL (Nat×aV)},r8 d (l++k)=true->r8 d l=true/\r8 d k=true
 | [],_,h=>⟨rfl,h⟩
 |(t,v)::l,k,h=>by
  have h:(!Nat.beq t d&&r8 d (l++k))=true:=h;rw[dB]at h;have:=Eb h.2;exact⟨by show(!Nat.beq t d&&r8 d l)=true;rw[dB];exact⟨h.1,this.1⟩,this.2⟩
theorem Ec{O:Nat->aV}:∀{l:aL (Nat×aV)},Q1 l=true->agree (sV l O) l
 | [],_=>trivial
 |(d,v)::l,h=>by
  have h:(r8 d l&&Q1 l)=true:=h;rw[dB]at h;refine⟨?_,(Ec h.2).up h.1⟩;show(bif Nat.beq d d then v else _)=v;rw[Nat.beq_refl];rfl
theorem Ed{U:Nat->aV}:∀{l k:aL (Nat×aV)},agree U (l++k)->agree U l
 | [],_,_=>trivial
 |(d,v)::l,k,h=>⟨h.1,Ed h.2⟩
section
variable {S R X Y β:Type}{res:β}{P:bP}{n:Nat}{U:Nat->aV}{w E:aW}{Q:gv}{z:Code}{b0 id d A B:Nat}{T T' ty:bR}{pos:String}{af:bB Edge}{V:aL HP}
theorem SH.out{W L:aL (Nat×aV)}{C:aL HP}{U:Nat->aV}{w:aW}(h:SH E V (W++L) C U w)(hf:(r8 d (W++L)&&Q1 (W++L))=true)(v:aV):SH E V W C (eG U d v) w:=by
 obtain⟨O,rfl,hw⟩:=h;rw[dB]at hf;exact sh ((Ed<|Ec hf.2).up (Eb hf.1).1) hw
theorem yZ{U:Nat->aV}{v:aV}:ev (eG U d v) (.tmp d)=v:=by
 show(bif Nat.beq d d then v else U d)=v;rw[Nat.beq_refl];rfl
abbrev cl(id d A B b0:Nat)(T T' ty:bR)(pos:String)(af:bB Edge)(z:Code):Code:= .block b0<|.loop<|.seq (.region id [(⟨some d, .binOp .lss T (.tmp A) (.tmp B) T',ty,pos,af,none⟩:bL)].toArray false)<|.seq (.cond (.tmp d) .skip<|.exit b0) z
def lv(d A B k m:Nat)(l:aL (Nat×aV)):Prop:=(r8 d l&&Q1 l)=true/\(∀O,sV l O A = .int .i64 (k:Int))/\∀O,sV l O B = .int .i64 (m:Int)
theorem SH.hd{d A B k m:Nat}{l C}{U:Nat->aV}{w:aW}(h:SH E V l C U w)(hl:lv d A B k m l):U A = .int .i64 (k:Int)/\U B = .int .i64 (m:Int):=by
 obtain⟨O,rfl,_⟩:=h;exact⟨hl.2.1 O,hl.2.2 O⟩
theorem X5{I:Nat->S->(Nat->aV)->aW->Prop}{J:S->(Nat->aV)->aW->Prop}{K:R->(Nat->aV)->aW->Prop}
  {body:Nat->S->aU (Fl S R)} {f:S->aU β} {g:R->aU β} {m:Nat} {s0:S} (hb:((qp m body s0).bind λo=>o.cs f g)=some res) (h0:I 0 s0 U w) (hd:Nat.blt d n=true)
  (hJ:∀s U v w,I m s U w->J s (eG U d v) w) (hx:∀k s U w,I k s U w->U A = .int .i64 (k:Int)/\U B = .int .i64 (m:Int))
  (step:m<=4611686018427387904->∀k s fl U w,k<m->I k s U w->body k s=some fl->RC P n z (eG U d<|.bool<|decide<|(k:Int)<(m:Int)) w (LC I b0 J K k fl))
  (hrt:∀r U w,g r=some res->K r U w->Q .ret U w) (hgo:∀s U w,f s=some res->J s U w->Q .normal U w):RC P n (cl id d A B b0 T T' ty pos af z) U w Q:=by
 obtain⟨out,hN,hb⟩:=bd hb;exact Ya I J K hN h0
  (λhm s U w h=>w_<|ic (hd:=hd) (hx:=(hx m s U w h).1) (hy:=(hx m s U w h).2) (K:= .i64) m m<|IT<|Xn (yZ.trans QN)<|Wp ⟨rfl,hJ s U _ w h⟩)
  (λhm k s fl U w hk h hb=>w_<|ic (hd:=hd) (hx:=(hx k s U w h).1) (hy:=(hx k s U w h).2) (K:= .i64) k m<|IT<|Xm (yZ.trans<|QM hk)<|WL<|step hm k s fl U w hk h hb) (λr U w e=>by subst e;exact hrt r U w hb) (λs U w e=>by subst e;exact hgo s U w hb)
theorem X6{I:Nat->S->(Nat->aV)->aW->Prop}{J:S->(Nat->aV)->aW->Prop}
  {body:Nat->S->aU S} {f:S->aU β} {m:Nat} {s0:S} (hb:(jy m body s0).bind f=some res) (h0:I 0 s0 U w) (hd:Nat.blt d n=true)
  (hJ:∀s U v w,I m s U w->J s (eG U d v) w) (hx:∀k s U w,I k s U w->U A = .int .i64 (k:Int)/\U B = .int .i64 (m:Int))
  (step:m<=4611686018427387904->∀k s s' U w,k<m->I k s U w->body k s=some s'->RC P n z (eG U d<|.bool<|decide<|(k:Int)<(m:Int)) w (λex U w=>ex = .normal/\I (k+1) s' U w))
  (hgo:∀s U w,f s=some res->J s U w->Q .normal U w):RC P n (cl id d A B b0 T T' ty pos af z) U w Q:=by
 obtain⟨out,hN,hb⟩:=bd hb;exact XC I J hN h0
  (λhm s U w h=>w_<|ic (hd:=hd) (hx:=(hx m s U w h).1) (hy:=(hx m s U w h).2) (K:= .i64) m m<|IT<|Xn (yZ.trans QN)<|Wp ⟨rfl,hJ s U _ w h⟩)
  (λhm k s fl U w hk h hb=>w_<|ic (hd:=hd) (hx:=(hx k s U w h).1) (hy:=(hx k s U w h).2) (K:= .i64) k m<|IT<|Xm (yZ.trans<|QM hk)<|WL<|step hm k s fl U w hk h hb) (λU w=>hgo out U w hb)
theorem WU(E:aW)(V:aL HP)(C:S->aL HP)(W:S->aL (Nat×aV))(L:Nat->S->aL (Nat×aV)){body:Nat->S->aU S}{f:S->aU β}{m:Nat}{s0:S}(hb:(jy m body s0).bind f=some res)(h0:SH E V (W s0++L 0 s0) (C s0) U w)
  (step:m<=4611686018427387904->∀k s s' U w,k<m->SH E V (W s++L k s) (C s) U w->body k s=some s'->RC P n z (eG U d<|.bool<|decide<|(k:Int)<(m:Int)) w (λex U w=>ex = .normal/\SH E V (W s'++L (k+1) s') (C s') U w))
  (hgo:∀s U w,f s=some res->SH E V (W s) (C s) U w->Q .normal U w) (hd:Nat.blt d n=true:=by exact rfl) (hl:∀k s,lv d A B k m (W s++L k s):=by exact λ_ _=>⟨rfl,λ_=>rfl,λ_=>rfl⟩):RC P n (cl id d A B b0 T T' ty pos af z) U w Q:=
 X6 (I:=λk s U w=>SH E V (W s++L k s) (C s) U w) (J:=λs U w=>SH E V (W s) (C s) U w) hb h0 hd (λs U v w h=>h.out (hl m s).1 v) (λk s U w h=>h.hd<|hl k s) step hgo
theorem WJ(E:aW)(V:aL HP)(C:S->aL HP)(W:S->aL (Nat×aV))(L:Nat->S->aL (Nat×aV))(K:R->(Nat->aV)->aW->Prop){body:Nat->S->aU (Fl S R)}{f:S->aU β}{g:R->aU β}{m:Nat}{s0:S}(hb:((qp m body s0).bind λo=>o.cs f g)=some res)(h0:SH E V (W s0++L 0 s0) (C s0) U w)
  (step:m<=4611686018427387904->∀k s fl U w,k<m->SH E V (W s++L k s) (C s) U w->body k s=some fl->RC P n z (eG U d<|.bool<|decide<|(k:Int)<(m:Int)) w (LC (λk s U w=>SH E V (W s++L k s) (C s) U w) b0 (λs U w=>SH E V (W s) (C s) U w) K k fl))
  (hrt:∀r U w,g r=some res->K r U w->Q .ret U w) (hgo:∀s U w,f s=some res->SH E V (W s) (C s) U w->Q .normal U w) (hd:Nat.blt d n=true:=by exact rfl) (hl:∀k s,lv d A B k m (W s++L k s):=by exact λ_ _=>⟨rfl,λ_=>rfl,λ_=>rfl⟩):RC P n (cl id d A B b0 T T' ty pos af z) U w Q:=
 X5 (I:=λk s U w=>SH E V (W s++L k s) (C s) U w) (J:=λs U w=>SH E V (W s) (C s) U w) hb h0 hd (λs U v w h=>h.out (hl m s).1 v) (λk s U w h=>h.hd<|hl k s) step hrt hgo
theorem Xr{c:Code}(E:aW)(V:aL HP)(C:S->aL HP)(W L:S->aL (Nat×aV))(K:R->(Nat->aV)->aW->Prop){body:S->aU (Fl S R)}{f:S->aU β}{g:R->aU β}{N:Nat}{s0:S}(hb:((kb body N s0).bind λo=>o.cs f g)=some res)(h0:SH E V (W s0++L s0) (C s0) U w)
  (step:∀s fl U w,SH E V (W s++L s) (C s) U w->body s=some fl->RC P n c U w (ER (λs U w=>SH E V (W s++L s) (C s) U w) b0 (λs U w=>SH E V (W s) (C s) U w) K fl))
  (hrt:∀r U w,g r=some res->K r U w->Q .ret U w) (hgo:∀s U w,f s=some res->SH E V (W s) (C s) U w->Q .normal U w):RC P n (.block b0<|.loop c) U w Q:=by
 obtain⟨out,hN,hb⟩:=bd hb;exact Xp _ _ K hN h0 step (λr U w e=>by subst e;exact hrt r U w hb) (λs U w e=>by subst e;exact hgo s U w hb)
theorem WR{c:Code}(E:aW)(V:aL HP)(C:S->aL HP)(W L:S->aL (Nat×aV)){body:S->aU (Fl S Empty)}{f:S->aU β}{g:Empty->aU β}{N:Nat}{s0:S}(hb:((kb body N s0).bind λo=>o.cs f g)=some res)(h0:SH E V (W s0++L s0) (C s0) U w)
  (step:∀s fl U w,SH E V (W s++L s) (C s) U w->body s=some fl->RC P n c U w (ER (λs U w=>SH E V (W s++L s) (C s) U w) b0 (λs U w=>SH E V (W s) (C s) U w) (λr _ _=>r.elim) fl))
  (hgo:∀s U w,f s=some res->SH E V (W s) (C s) U w->Q .normal U w):RC P n (.block b0<|.loop c) U w Q:=
 Xr E V C W L (λr _ _=>r.elim) hb h0 step (λr _ _ _=>r.elim) hgo
theorem WT(E:aW)(V:aL HP)(C:S->X->aL HP)(W:S->X->aL (Nat×aV))(L:Nat->S->X->aL (Nat×aV)){body:Nat->S->aU S}{f:S->aU β}{m:Nat}{s0:S}(hb:(jy m body s0).bind f=some res)(h0:(∃x,SH E V (W s0 x++L 0 s0 x) (C s0 x) U w))
  (step:m<=4611686018427387904->∀k s s' U w,k<m->(∃x,SH E V (W s x++L k s x) (C s x) U w)->body k s=some s'->RC P n z (eG U d<|.bool<|decide<|(k:Int)<(m:Int)) w (λex U w=>ex = .normal/\(∃x,SH E V (W s' x++L (k+1) s' x) (C s' x) U w)))
  (hgo:∀s U w,f s=some res->(∃x,SH E V (W s x) (C s x) U w)->Q .normal U w) (hd:Nat.blt d n=true:=by exact rfl) (hl:∀k s x,lv d A B k m (W s x++L k s x):=by exact λ_ _ _=>⟨rfl,λ_=>rfl,λ_=>rfl⟩):RC P n (cl id d A B b0 T T' ty pos af z) U w Q:=
 X6 (I:=λk s U w=>(∃x,SH E V (W s x++L k s x) (C s x) U w)) (J:=λs U w=>(∃x,SH E V (W s x) (C s x) U w)) hb h0 hd (λs U v w⟨x,h⟩=>⟨x,h.out (hl m s x).1 v⟩) (λk s U w⟨x,h⟩=>h.hd<|hl k s x) step hgo
theorem YQ{c:Code}(E:aW)(V:aL HP)(C:S->X->aL HP)(W L:S->X->aL (Nat×aV))(K:R->(Nat->aV)->aW->Prop){body:S->aU (Fl S R)}{f:S->aU β}{g:R->aU β}{N:Nat}{s0:S}(hb:((kb body N s0).bind λo=>o.cs f g)=some res)(h0:(∃x,SH E V (W s0 x++L s0 x) (C s0 x) U w))
  (step:∀s fl U w,(∃x,SH E V (W s x++L s x) (C s x) U w)->body s=some fl->RC P n c U w (ER (λs U w=>(∃x,SH E V (W s x++L s x) (C s x) U w)) b0 (λs U w=>(∃x,SH E V (W s x) (C s x) U w)) K fl))
  (hrt:∀r U w,g r=some res->K r U w->Q .ret U w) (hgo:∀s U w,f s=some res->(∃x,SH E V (W s x) (C s x) U w)->Q .normal U w):RC P n (.block b0<|.loop c) U w Q:=by
 obtain⟨out,hN,hb⟩:=bd hb;exact Xp _ _ K hN h0 step (λr U w e=>by subst e;exact hrt r U w hb) (λs U w e=>by subst e;exact hgo s U w hb)
theorem Xt{c:Code}(E:aW)(V:aL HP)(C:S->X->aL HP)(W L:S->X->aL (Nat×aV)){body:S->aU (Fl S Empty)}{f:S->aU β}{g:Empty->aU β}{N:Nat}{s0:S}(hb:((kb body N s0).bind λo=>o.cs f g)=some res)(h0:(∃x,SH E V (W s0 x++L s0 x) (C s0 x) U w))
  (step:∀s fl U w,(∃x,SH E V (W s x++L s x) (C s x) U w)->body s=some fl->RC P n c U w (ER (λs U w=>(∃x,SH E V (W s x++L s x) (C s x) U w)) b0 (λs U w=>(∃x,SH E V (W s x) (C s x) U w)) (λr _ _=>r.elim) fl))
  (hgo:∀s U w,f s=some res->(∃x,SH E V (W s x) (C s x) U w)->Q .normal U w):RC P n (.block b0<|.loop c) U w Q:=
 YQ E V C W L (λr _ _=>r.elim) hb h0 step (λr _ _ _=>r.elim) hgo
theorem XK(E:aW)(V:aL HP)(C:S->X->Y->aL HP)(W:S->X->Y->aL (Nat×aV))(L:Nat->S->X->Y->aL (Nat×aV)){body:Nat->S->aU S}{f:S->aU β}{m:Nat}{s0:S}(hb:(jy m body s0).bind f=some res)(h0:(∃x y,SH E V (W s0 x y++L 0 s0 x y) (C s0 x y) U w))
  (step:m<=4611686018427387904->∀k s s' U w,k<m->(∃x y,SH E V (W s x y++L k s x y) (C s x y) U w)->body k s=some s'->RC P n z (eG U d<|.bool<|decide<|(k:Int)<(m:Int)) w (λex U w=>ex = .normal/\(∃x y,SH E V (W s' x y++L (k+1) s' x y) (C s' x y) U w)))
  (hgo:∀s U w,f s=some res->(∃x y,SH E V (W s x y) (C s x y) U w)->Q .normal U w) (hd:Nat.blt d n=true:=by exact rfl) (hl:∀k s x y,lv d A B k m (W s x y++L k s x y):=by exact λ_ _ _ _=>⟨rfl,λ_=>rfl,λ_=>rfl⟩):RC P n (cl id d A B b0 T T' ty pos af z) U w Q:=
 X6 (I:=λk s U w=>(∃x y,SH E V (W s x y++L k s x y) (C s x y) U w)) (J:=λs U w=>(∃x y,SH E V (W s x y) (C s x y) U w)) hb h0 hd (λs U v w⟨x,y,h⟩=>⟨x,y,h.out (hl m s x y).1 v⟩) (λk s U w⟨x,y,h⟩=>h.hd<|hl k s x y) step hgo
end
section
variable {P:bP}{n:Nat}{U:Nat->aV}{w E:aW}{V:aL HP}{D:Nat->Bool}{dv dv':aL (Nat×Nat×aV)}{e e':Edge}{l:aL Edge}{d d' j:Nat}{v v' u:aV}{ag:aL (Nat×aV)}{ops:bB bL}
theorem dY.o0(h:dY D U dv)(k:Nat)(hp:nZ D (e::l))(h1:dv[k]? =some (e.on,d,v))(hb:Region.binds .any e=true):U d=v:=h.at k h1<|hp.1 hb
theorem dY.o1(h:dY D U dv)(k:Nat)(hp:nZ D (e::l))(h1:dv[k]? =some (e.on,d,v):=by exact rfl)(hb:Region.binds .any e=true:=by exact rfl):∃O,U=sV [(d,v)] O:=
 agree.sV (l:=[(d,v)]) ⟨h.o0 k hp h1 hb,trivial⟩
theorem dY.oa(h:dY D U dv)(k:Nat)(hp:nZ D (e::l))(ha:agree U ag)(h1:dv[k]? =some (e.on,d,v):=by exact rfl)(hb:Region.binds .any e=true:=by exact rfl):∃O,U=sV ((d,v)::ag) O:=
 agree.sV (l:=(d,v)::ag) ⟨h.o0 k hp h1 hb,ha⟩
theorem dY.o2(h:dY D U dv)(k m:Nat)(hp:nZ D (e::e'::l))(h1:dv[k]? =some (e.on,d,v):=by exact rfl)(hb:Region.binds .any e=true:=by exact rfl)
  (h2:dv[m]? =some (e'.on,d',v'):=by exact rfl) (hb2:Region.binds .any e'=true:=by exact rfl):∃O,U=sV [(d,v),(d',v')] O:=
 agree.sV (l:=[(d,v),(d',v')]) ⟨h.o0 k hp h1 hb,h.o0 m hp.2 h2 hb2,trivial⟩
theorem Holds.nw{c:HP}(h:Holds E w (c::V))(k:Nat)(hk:Nat.blt k V.length=true:=by exact rfl):Holds E w (V.set k (bif true then c else Gk.bD)):=by
 have hk:k<V.length:=Nat.blt_eq.mp hk
 have h2:=h.pick (V.length+1) ((List.range V.length).map λi=>if i=k then 0 else i+1) (Γ0:=[]) (new:=V.set k c) (by simp) (by
  apply List.ext_getElem
  ·simp
  ·intro i h1 h2;simp only[iM,List.length_range]at h1;simp only[List.getElem_map,List.getElem_range,List.getElem_set]
   by_cases hi:i=k
   ·subst hi;simp
   ·simp[hi,Ne.symm hi]) (by
  rw[List.nodup_iff_pairwise_ne,List.pairwise_map];exact List.nodup_range.imp λ{a b}hab=>by
   by_cases ha:a=k <;> by_cases hb:b=k <;> simp[ha,hb] <;> omega) (by
  intro i hi;rw[cX]at hi;obtain⟨a,ha,rfl⟩:=hi;rw[ov]at ha
  split <;> omega)
 rw[iR]at h2;exact h2
theorem VQ{X:Type}{G:X->aL HP}{f:X->aL (Nat×Nat×aV)}(x:X)(k:Nat)(hv:dY D U dv)(ha:agree U ag)(hw:Holds E w (G x))(h1:dv[k]? =some (j,d,v):=by exact rfl)(h2:B0 j d k dv=true:=by exact rfl)
  (h3:f x=dv.set k (j,d,u):=by exact rfl) (h4:r8 d ag=true:=by exact rfl):RL P n ops [] (eG U d u) w (λex U w=>ex = .normal/\∃x,dY (ins D j) U (f x)/\agree U ag/\sW (ins D j) U []/\Holds E w (G x)):=
 By ⟨rfl,x,h3▸hv.put k h1 h2,ha.up h4,trivial,hw⟩
theorem WV{X:Type}{G:X->aL HP}{f:X->aL (Nat×Nat×aV)}(x:X)(hv:dY D U dv)(ha:agree U ag)(hw:Holds E w (G x))(h1:(dv.all λx=> !Nat.beq x.1 j)=true:=by exact rfl)
  (h3:f x=dv:=by exact rfl):RL P n ops [] U w (λex U w=>ex = .normal/\∃x,dY (ins D j) U (f x)/\agree U ag/\sW (ins D j) U []/\Holds E w (G x)):=
 By ⟨rfl,x,h3▸hv.no h1,ha,trivial,hw⟩
end
section
variable {P:bP}{n:Nat}{U:Nat->aV}{w:aW}{Q:gv}{d:Nat}{ops:bB bL}{rest:aL bL}{ty:bR}{pos:String}{af:bB Edge}{q:bK}
theorem aO(a:Int)(k:RL P n ops rest (eG U d<|vi a) w Q)(hd:Nat.blt d n=true:=by exact rfl)(hx:ev U q=vi a:=by exact rfl):RL P n ops (⟨some d, .move q,ty,pos,af,none⟩::rest) U w Q:=mv (hd:=hd) (hx:=hx) (vi a) k
theorem fY(a:Bool)(k:RL P n ops rest (eG U d<|vb a) w Q)(hd:Nat.blt d n=true:=by exact rfl)(hx:ev U q=vb a:=by exact rfl):RL P n ops (⟨some d, .move q,ty,pos,af,none⟩::rest) U w Q:=mv (hd:=hd) (hx:=hx) (vb a) k
theorem aJ(a:Int)(k:RL P n ops rest (eG U d<|vi a) w Q)(hd:Nat.blt d n=true:=by exact rfl)(hx:ev U q=vi a:=by exact rfl):RL P n ops (⟨some d, .assign q,ty,pos,af,none⟩::rest) U w Q:=dN (hd:=hd) (hx:=hx) (vi a) k
theorem bV(a:Bool)(k:RL P n ops rest (eG U d<|vb a) w Q)(hd:Nat.blt d n=true:=by exact rfl)(hx:ev U q=vb a:=by exact rfl):RL P n ops (⟨some d, .assign q,ty,pos,af,none⟩::rest) U w Q:=dN (hd:=hd) (hx:=hx) (vb a) k
end
theorem dM{P:bP}{n:Nat}{q:bK}{x y:Code}{U:Nat->aV}{w:aW}{Q:gv}{β:Type}{b:Bool}{A B:aU β}{r:β}(hb:(bif b then A else B)=some r)(ht:A=some r->RC P n x U w Q)(hf:B=some r->RC P n y U w Q)(hc:ev U q = .bool b:=by exact rfl):RC P n (.cond q x y) U w Q:=Vo hb hc (λ_=>ht) λ_=>hf
section
variable {α:Type}[GT α]{P:bP}{n:Nat}{U:Nat->aV}{w:aW}{Q:gv}{E:aW}{V:aL HP}{ops:bB bL}{rest:aL bL}{d:Nat}{ty T e:bR}{pos:String}{af:bB Edge}{g:aU (Nat×Bool)}{v u:aV}{q r:bK}{l:aL α}{x y:α}{jj:Int}{vs:aL aV}
theorem V2{f:FuncId}{args:bB bK}{ts:bB bR}{R:aV->aW->Prop}(hf:fT P f)(h:Calls P f vs.toArray w (fG R))(k:∀v w',R v w'->RL P n ops rest (eG U d v) w' Q)
  (hg:Wn ops U g:=by first|exact trivial|exact⟨_,rfl,rfl⟩|exact⟨_,rfl,Gk.cb ‹_›⟩) (hd:Nat.blt d n=true:=by exact rfl) (hv:args.toList.map (ev U)=vs:=by exact rfl):RL P n ops (⟨some d, .call ⟨.value<|.func f,args,ts⟩,ty,pos,af,g⟩::rest) U w Q:=
 Yu hg hd hf vs hv (eA h k)
theorem VM{f:FuncId}{args:bB bK}{ts:bB bR}{S:aW->Prop}(hf:fT P f)(h:Calls P f vs.toArray w (fG λv w=>v=u/\S w))(k:∀w',S w'->RL P n ops rest (eG U d u) w' Q)
  (hg:Wn ops U g:=by first|exact trivial|exact⟨_,rfl,rfl⟩|exact⟨_,rfl,Gk.cb ‹_›⟩) (hd:Nat.blt d n=true:=by exact rfl) (hv:args.toList.map (ev U)=vs:=by exact rfl):RL P n ops (⟨some d, .call ⟨.value<|.func f,args,ts⟩,ty,pos,af,g⟩::rest) U w Q:=
 V2 hf h (λv w⟨e,h⟩=>e▸k w h) hg hd hv
theorem V1{b:Nat}(i:Nat)(hw:Holds E w V)(hi:V[i]? =some (bx e b x))(hT:kR P T (GT.agg α) (GT.sz α))(k:∀v,Holds E w (rd v x::V)->RL P n ops rest (eG U d v) w Q)(hg:Wn ops U g:=by first|exact trivial|exact⟨_,rfl,rfl⟩|exact⟨_,rfl,Gk.cb ‹_›⟩)(hd:Nat.blt d n=true:=by exact rfl)
  (hx:ev U q = .pointer (some ⟨b,0,none⟩):=by exact rfl):RL P n ops (⟨some d, .load T q,ty,pos,af,g⟩::rest) U w Q:=Wh (hg:=hg) (hd:=hd) (hx:=hx) (f:=λx=>x) _ hw hi Fd.self hT k
theorem Wx(i:Nat)(hw:Holds E w V)(h:idx l jj=some x)(hT:kR P T (GT.agg α) (GT.sz α))(k:∀v,Holds E w (rd v x::V)->RL P n ops rest (eG U d v) w Q)(hg:Wn ops U g:=by exact trivial)(hd:Nat.blt d n=true:=by exact rfl)
  (hi:V[i]? =some (own e v l):=by exact rfl) (hx:ev U q=z9 v jj.toNat (GT.sz α) 0:=by exact rfl):RL P n ops (⟨some d, .load T q,ty,pos,af,g⟩::rest) U w Q:=
 Xx (f:=λx=>x) _ hg hd hw hx (sS (hi:=hi) _ hw h 0) hi (eQ h).2.1 Fd.self hT k
theorem W2{γ:Type}[Sc γ]{l:aL γ}{x:γ}(i:Nat)(hw:Holds E w V)(h:idx l jj=some x)(hT:kR P T false 1)(k:RL P n ops rest (eG U d<|Sc.toV x) w Q)(hg:Wn ops U g:=by exact trivial)(hd:Nat.blt d n=true:=by exact rfl)
  (hi:V[i]? =some (own e v l):=by exact rfl) (hx:ev U q=z9 v jj.toNat (GT.sz γ) 0:=by exact rfl):RL P n ops (⟨some d, .load T q,ty,pos,af,g⟩::rest) U w Q:=
 WZ (hd:=hd) (hx:=hx) (hi:=hi) (f:=λx=>x) _ hg hw (sS (hi:=hi) _ hw h 0) (eQ h).2.1 Fd.self hT k
theorem WQ(i j:Nat)(hw:Holds E w V)(h:idx l jj=some x)(hT:kR P T (GT.agg α) (GT.sz α))(k:∀w',Holds E w' (V.set i<|own e v<|l.set jj.toNat y)->RL P n ops rest U w' Q)(hg:Wn ops U g:=by exact trivial)
  (hi:V[i]? =some (own e v l):=by exact rfl) (hx:ev U q=z9 v jj.toNat (GT.sz α) 0:=by exact rfl) (hy:ev U r=u:=by exact rfl) (hj:V[j]? =some (rd u y):=by exact rfl):RL P n ops (⟨none, .store T q r,ty,pos,af,g⟩::rest) U w Q:=
 XV (f:=λ_ y=>y) hg hw hx hy (sS (hi:=hi) _ hw h 0) hi (eQ h).2.1 hj Fs.self (by omega) hT k
end
theorem N8(U:Nat->aV):∃O,U=sV [] O:=⟨U,rfl⟩
section
variable {P:bP}{n:Nat}{U:Nat->aV}{w:aW}{Q:gv}{ops:bB bL}{rest:aL bL}{d:Nat}{ty T T':bR}{pos:String}{af:bB Edge}{v:aV}{x y z q:bK}
theorem gx{C:Bool}(hq:ev U q=cv C v)(h:C=true):ev U q=v:=hq.trans<|kO h
theorem NJ{C B:Bool}(hq:ev U q=cv C v)(h:(C&&B)=true):ev U q=v:=hq.trans<|kO<|LA h
theorem Dz{C B B':Bool}(hq:ev U q=cv C v)(h:((C&&B)&&B')=true):ev U q=v:=hq.trans<|kO<|LA<|LA h
theorem Wb{j t:Nat}{want b:Bool}{op:Op}(v:aV)(ht:(ops[j]?).bind (·.dst)=some t)(hv:U t = .bool b)
  (hrun:(true&&(b==want))=true->(execOp (ev U) ⟨some d,op,ty,pos,af,some (j,want)⟩).run P w = .ok (.value v) w)
  (k:RL P n ops rest (eG U d<|cv (true&&(b==want)) v) w Q) (hd:Nat.blt d n=true:=by exact rfl):RL P n ops (⟨some d,op,ty,pos,af,some (j,want)⟩::rest) U w Q:=
 Wk true _ _ ht hv hd hrun k
theorem Wy{j t:Nat}{c want b:Bool}{op:Op}(v:aV)(ht:(ops[j]?).bind (·.dst)=some t)(hv:U t=cv c (.bool b))
  (hrun:(c&&(b==want))=true->(execOp (ev U) ⟨some d,op,ty,pos,af,some (j,want)⟩).run P w = .ok (.value v) w)
  (k:RL P n ops rest (eG U d<|cv (c&&(b==want)) v) w Q) (hd:Nat.blt d n=true:=by exact rfl):RL P n ops (⟨some d,op,ty,pos,af,some (j,want)⟩::rest) U w Q:=
 Wk _ _ _ ht hv hd hrun k
theorem tR{C:Bool}{o:bL}(ho:o.op = .move x:=by exact rfl)(hx:C=true->ev U x=v:=by first|exact gx rfl|exact NJ rfl|exact Dz rfl|exact λ_=>rfl):C=true->(execOp (ev U) o).run P w = .ok (.value v) w:=NN ho hx
theorem u9{C:Bool}{o:bL}{K:IntKind}{a b:Int}(bop:BinOp)(ho:o.op = .binOp bop T x y T':=by exact rfl)(hx:C=true->ev U x = .int K a:=by first|exact gx rfl|exact NJ rfl|exact Dz rfl|exact λ_=>rfl)
  (hy:C=true->ev U y = .int K b:=by first|exact gx rfl|exact NJ rfl|exact Dz rfl|exact λ_=>rfl) (hc:xI bop=true:=by exact rfl):
  C=true->(execOp (ev U) o).run P w = .ok (.value<|.bool<|i7 bop a b) w:=NO ho hx hy hc
theorem Vp{C:Bool}{o:bL}{K:IntKind}{a b:Int}(bop:BinOp)(ho:o.op = .binOp bop T x y T':=by exact rfl)(hx:C=true->ev U x = .int K a:=by first|exact gx rfl|exact NJ rfl|exact Dz rfl|exact λ_=>rfl)
  (hy:C=true->ev U y = .int K b:=by first|exact gx rfl|exact NJ rfl|exact Dz rfl|exact λ_=>rfl) (hc:NM bop=true:=by exact rfl):
  C=true->(execOp (ev U) o).run P w = .ok (.value<|.int K<|K.wrap<|fF bop a b) w:=PC ho hx hy hc
theorem Vq{C:Bool}{o:bL}{a b:cN}(bop:BinOp)(ho:o.op = .binOp bop T x y T':=by exact rfl)(hx:C=true->ev U x=str a:=by first|exact gx rfl|exact NJ rfl|exact Dz rfl|exact λ_=>rfl)
  (hy:C=true->ev U y=str b:=by first|exact gx rfl|exact NJ rfl|exact Dz rfl|exact λ_=>rfl) (hc:xI bop=true:=by exact rfl):
  C=true->(execOp (ev U) o).run P w = .ok (.value<|.bool<|BW bop a b) w:=NP ho hx hy hc
theorem Vr{C:Bool}{o:bL}{b:Bool}(ho:o.op = .unOp .not T x:=by exact rfl)(hx:C=true->ev U x = .bool b:=by first|exact gx rfl|exact NJ rfl|exact Dz rfl|exact λ_=>rfl):
  C=true->(execOp (ev U) o).run P w = .ok (.value<|.bool<|!b) w:=PD ho hx
theorem TB{C a b:Bool}{o:bL}(ho:o.op = .pick x y z:=by exact rfl)(hx:C=true->ev U x = .bool a:=by first|exact gx rfl|exact NJ rfl|exact Dz rfl|exact λ_=>rfl)
  (hy:ev U y=cv (C&&(a==true)) (.bool b):=by exact rfl) (hz:ev U z = .bool false:=by exact rfl):C=true->(execOp (ev U) o).run P w = .ok (.value<|.bool<|a&&b) w:=
 Ja ho hx λh=>by rw[hy,hz];exact kc (h:=h) _
theorem Q2{C a b:Bool}{o:bL}(ho:o.op = .pick x y z:=by exact rfl)(hx:C=true->ev U x = .bool a:=by first|exact gx rfl|exact NJ rfl|exact Dz rfl|exact λ_=>rfl)
  (hy:ev U y = .bool true:=by exact rfl) (hz:ev U z=cv (C&&(a==false)) (.bool b):=by exact rfl):C=true->(execOp (ev U) o).run P w = .ok (.value<|.bool<|a||b) w:=
 Ja ho hx λh=>by rw[hy,hz];exact sU (h:=h) _
end
theorem vg.TC{κ:Type}[GT κ][KV κ][DecidableEq κ]{P:bP}{T e:bR}(hu:P.underlying T=some (.array 2 e))(he:P.underlying e=some (.int .i64))(ht:kR P e false 1)(f g:κ->Int)
  (hf:∀a b,f a=f b->g a=g b->a=b) (hc:∀k,KV.enc k = .agg #[.int .i64<|f k, .int .i64<|g k]):vg P T κ:=by
 have p0:∀k w,(part e #[.int .i64<|f k, .int .i64<|g k] 0).run P w = .ok (.int .i64<|f k) w:=λk w=>cM ht rfl w;have p1:∀k w,(part e #[.int .i64<|f k, .int .i64<|g k] 1).run P w = .ok (.int .i64<|g k) w:=λk w=>cM ht rfl w;have hs:∀w,(sizeOf e).run P w = .ok 1 w:=ht.sz;have hk:∀b(x:Int)w,(Instr.checkKey b 9999 e<|.int .i64 x).run P w = .ok () w:=λb x w=>MapKept.run_checkKey he (k:= .int .i64 x) rfl b 9998;have hq:∀(x y:Int)w,(Op.equalIn 9999 e (.int .i64 x)<|.int .i64 y).run P w = .ok (x==y) w:=λx y w=>kE (d:=9998) he x y w;refine⟨λb k w=>?_,λa b w=>?_, .inr ⟨_,hu,λa b=>?_⟩,λa=>?_⟩
 ·rw[hc,Instr.checkKey];simp only[aR,run_underlying hu,bC];simp[Std.Legacy.Range.forIn_eq_forIn_range',Std.Legacy.Range.size,List.range',List.forIn_cons,aR,hs,p0,p1,hk,Result.andThen]
 ·rw[hc,hc];show(Op.equalIn 10000 T _ _).run P w=_;rw[Op.equalIn];simp only[aR,run_underlying hu,bC];have hd:decide (a=b)=(f a==f b&&g a==g b):=by
   rw[jE,dP,dB,beq_iff_eq,beq_iff_eq];exact⟨λh=>by subst h;exact⟨rfl,rfl⟩,λ⟨h1,h2⟩=>hf a b h1 h2⟩
  rw[hd]
  cases h1:(f a==f b) <;> cases h2:(g a==g b) <;> simp[Std.Legacy.Range.forIn_eq_forIn_range',Std.Legacy.Range.size,List.range',List.forIn_cons,aR,hs,p0,p1,hq,h1,h2,Result.andThen]
 ·rw[hc,hc];rfl
 ·rw[hc];exact Gj (cs:=[.int .i64<|f a, .int .i64<|g a]) λx hx=>by
   simp only[eV,List.not_mem_nil,or_false]at hx
   rcases hx with rfl|rfl <;> exact MapKept.sameBits_self (d:= .int .i64) (k:= .int .i64 _) rfl _
end Go.Gk
namespace Go.Gk
open Go IntKind Go.Proofs Go.Sort
def Is(w:aW):HP:=⟨λM _=>∀b,b<w.heap.size->M b=w.heap[b]?,λh hk b hb=>by
 have:=hk b hb;rw[iI hb]at this ⊢
 exact h b _ this⟩
theorem Holds.all(w:aW):Holds w w [Is w]:=by
 refine⟨λb=>w.heap[b]?,λ_=>rX,⟨rfl,rfl,rfl,bW _,λ_ _ h=>h,λi P hP=>?_,λ_ _ _ _ h=>(by cases h),λ_ _ _ _ h=>(by cases h),λ_ _ _ _ _ _ _ h=>(by cases h)⟩⟩
 cases i with
 |zero=>simp at hP;subst hP;exact λ_ _=>rfl
 |succ i=>simp at hP
theorem Holds.grown{w w':aW}{V:aL HP}{i:Nat}(h:Holds w w' V)(hi:V[i]? =some (Is w)):∃q os,w'=grow (w.drewN q) os:=by
 obtain⟨M,hs,g⟩:=h;have hk:=g.sat i _ hi;have key:∀b,b<w.heap.size->w'.heap[b]? =w.heap[b]? :=λb hb=>by
  have:=hk b hb;rw[iI hb]at this;rw[g.im b _ this,iI hb]
 have hsz:w.heap.size<=w'.heap.size:=by
  rcases Nat.lt_or_ge w'.heap.size w.heap.size with h|h
  ·have:=key w'.heap.size h;rw[Array.getElem?_eq_none<|bW _,iI h]at this
   cases this
  ·exact h
 refine⟨w'.drawn - w.drawn,w'.heap.extract w.heap.size w'.heap.size,?_⟩;have e1:w'.heap=w.heap++w'.heap.extract w.heap.size w'.heap.size:=by
  apply Array.ext_getElem?;intro k;rw[Array.getElem?_append];split
  ·rename_i hk;exact key k hk
  ·rename_i hk;rw[Array.getElem?_extract]
   by_cases h2:k<w'.heap.size
   ·rw[aH (by omega)];congr 1;omega
   ·rw[aF (by omega),Array.getElem?_eq_none (by omega)]
 obtain⟨h1,h2,h3,h4,h5⟩:=w';obtain⟨k1,k2,k3,k4,k5⟩:=w;have a1:=g.os;have a2:=g.tape;have a3:=g.out;have a4:=g.dr;simp only at a1 a2 a3 a4 e1;subst a1;subst a2;subst a3;simp only[grow,World.drewN,World.mk.injEq,and_true,true_and];exact⟨e1,by omega⟩
section
variable {β:Type}[Inhabited β](enc:β->aL aV)(k:Nat)(w:aW)(g o m:Nat)(dk:bB β)(os:bB Obj)
theorem G4{b:Nat}(hb:b<w.heap.size)(hg:b≠g):(sortWorldK enc k w g o m dk os).heap[b]? =w.heap[b]? :=by
 simp only[sortWorldK,grow,putRowK,putRow,mapBlock,Go.Sort.ahead];rw[Array.getElem?_append_left (by simpa using hb),Array.getElem?_modify,aF<|λh=>hg h.symm]
theorem Ow{cur:bB aV}{e:bR}{fr:Nat×Nat}(hg:w.heap[g]? =some (.cells cur e fr)):
  (sortWorldK enc k w g o m dk os).heap[g]? =some (.cells (putCells id o (flatK enc k dk) cur) e fr):=by
 have hb:g<w.heap.size:=(Array.getElem?_eq_some_iff.1 hg).1;simp only[sortWorldK,grow,putRowK,putRow,mapBlock,Go.Sort.ahead];rw[Array.getElem?_append_left (by simpa using hb),Array.getElem?_modify,aH rfl,hg];rfl
end
theorem It{β:Type}[Inhabited β]{enc:β->aL aV}{k:Nat}(hk:∀x,(enc x).length=k)(hk0:0<k)(d:bB β)(o:Nat)(cur:bB aV)(ho:o+d.size*k<=cur.size)(a:Nat)(ha:a<d.size):
  (((putCells id o (flatK enc k d) cur).toList.drop o).drop<|a*k).take k=enc d[a]! :=by
 apply List.ext_getElem?;intro t;rw[List.drop_drop,gZ]
 by_cases ht:t<k
 ·have h1:a*k+t<d.size*k:=by
   have:=Nat.mul_le_mul_right k (show a+1<=d.size from ha);rw[Nat.add_mul,Nat.one_mul]at this;omega
  rw[aH ht,j7,Array.getElem?_toList];have hsz:o+a*k+t<(putCells id o (flatK enc k d) cur).size:=by simp only[putCells,Array.size_mapIdx];omega
  rw[iI hsz];simp only[putCells,Array.getElem_mapIdx,size_flatK];rw[aH (by omega),aM (by rw[hk];exact ht)];have e1:o+a*k+t - o=a*k+t:=by omega
  rw[e1,get_flatK _ _ _ _ h1];have e2:(a*k+t) / k=a:=by rw[Nat.mul_comm,Nat.mul_add_div hk0,Nat.div_eq_of_lt ht,Nat.add_zero]
  have e3:(a*k+t) % k=t:=by rw[Nat.mul_comm,Nat.mul_add_mod,Nat.mod_eq_of_lt ht]
  rw[e2,e3,getElem!_pos _ t (by rw[hk];exact ht)];rfl
 ·rw[aF ht,List.getElem?_eq_none (by rw[hk];omega)]
theorem wW{P:bP}{ρ:Shelf.Ren}(L:SlLaysF0.n6 P ρ)(α:Type)[GT α](aE:∀w,(isAgg<|ρ.t 24).run P w = .ok true w)(zE:∀w,(Go.sizeOf<|ρ.t 24).run P w = .ok (GT.sz α) w){E w:aW}{V:aL HP}{e:bR}{v:aV}{l l':aL α}{gf:Nat}{φ:α->α->aU Int}(hfn:fT P gf)(hcl:∀{E' w':aW}{Γ':aL HP}{u u':aV}{x x':α}{r:Int}{i j:Nat},Holds E' w' Γ'->Γ'[i]? =some (rd u x)->Γ'[j]? =some (rd u' x')->φ x x'=some r->Calls P gf [u,u'].toArray w' (fG λz w''=>z = .int .i64 r/\Holds E' w'' Γ'))(hw:Holds E w (own e v l::V))(hb:r9 φ l=some l')(hag:GT.agg α=true:=by exact rfl):
  Calls P (ρ.f 6) [v, .func (.func gf) #[] #[]].toArray w (fG λz w'=>z = .tuple #[]/\Holds E w' (own e v l'::V)):=by
 unfold r9 at hb;split at hb
 case isFalse=>cases hb
 rename_i hc;obtain⟨⟨hφ,hO⟩,hbig⟩:=hc;have hO:SWO (ltOf<|HM φ l):=hO;injection hb with hb
 by_cases hn:0<l.length
 case neg=>
  have hl:l= []:=List.length_eq_zero_iff.1 (by omega);subst hl;have e1:l'= []:=by rw[<-hb];rfl
  subst e1;obtain⟨a,c,hv⟩:=hw.lS (i:=0) rfl;subst hv;refine Calls.mono (AnyF.slices_SortFunc_none L a c _ w) λex w' h=>?_;obtain⟨rfl,rfl⟩:=h;exact⟨_,rfl,rfl,hw⟩
 letI inh:Inhabited (Fin l.length):=⟨⟨0,hn⟩⟩
 obtain⟨M,hs,gd⟩:=hw
 rcases gd.sat 0 _ rfl with⟨_,h2,_⟩|⟨g,o,cap,cur,xs,rfl,hcap,hmax,hh,hsz,hx,hcs⟩
 ·rw[h2]at hn;exact absurd hn (by simp)
 have hg:w.heap[g]? =some (.cells cur e (0,0)):=gd.le 0 g _ (by simp) (by rw[hh];exact cT g _);have hgs:g<w.heap.size:=(Array.getElem?_eq_some_iff.1 hg).1;have hMg:M g=none:=gd.dm 0 g _ (by simp) (by rw[hh];exact cT g _);generalize hK:GT.sz α=k at *;have hk0:0<k:=by rw[<-hK];exact GT.pos
 subst hx;have hlen:l.length*k<=cap*k:=Nat.mul_le_mul_right k hcap
 let enc:Fin l.length->aL aV:=λi=>(((cur.toList.drop o).take<|l.length*k).drop<|i.val*k).take k
 have henc:∀i:Fin l.length,enc i=(cur.toList.drop<|o+i.val*k).take k:=λi=>by
  have:=rn (sz:=k) i.isLt;show(((cur.toList.drop o).take<|l.length*k).drop<|i.val*k).take k=_;rw[List.drop_take,List.take_take,List.drop_drop,Nat.min_eq_left (by omega)]
 have hlk:∀i,(enc i).length=k:=λi=>by
  have:=rn (sz:=k) i.isLt;rw[henc,dD,f9,Array.length_toList];omega
 have hel:∀i:Fin l.length,GT.ok M (enc i) l[i]:=λi=>by
  have:=hcs.2 i.val l[i]<|aM i.isLt
  rw[hK]at this;exact this
 have hone:∀x,∀v∈enc x,v.oneCell'=true:=λx v hv=>GT.one (hel x) v hv
 let d:bB (Fin l.length):=Array.ofFn λi:Fin l.length=>i
 have hds:d.size=l.length:=by simp[d]
 have hdi:∀i(hi:i<l.length),d[i]! = ⟨i,hi⟩:=λi hi=>by rw[getElem!_pos d i (by rw[hds];exact hi)];simp[d]
 have hH:HoldsK enc k w g o d:=by
  intro j hj;rw[size_flatK,hds]at hj;have hj2:j / k<l.length:=Nat.div_lt_of_lt_mul (by rw[Nat.mul_comm];exact hj);have hjm:j % k<k:=Nat.mod_lt _ hk0;have hdm:j / k*k+j % k=j:=by rw[Nat.mul_comm];exact Nat.div_add_mod j k
  have hbd:=rn (sz:=k) hj2;have hin:o+j<cur.size:=by omega
  refine⟨?_,?_⟩
  ·rw[get_flatK _ _ _ _ (by rw[hds];exact hj),hdi _ hj2];have e1:(enc ⟨j / k,hj2⟩)[j % k]! =cur[o+j]:=by
    rw[getElem!_pos _ _ (by rw[hlk];exact hjm)];apply Option.some.inj;rw[<-aM,henc,gZ,aH hjm,j7,Array.getElem?_toList,<-iI];congr 1;show o+j / k*k+j % k=o+j;omega
   rw[e1];simp only[World.cell?,hg];simp[iI hin]
  ·simp only[World.frozen?,hg];simp
 have hsort:=AnyQ.slices_SortFunc_eq L k aE zE enc hlk hone (HM φ l) hO gf #[] g o cap d w hfn.run ?_ hH hgs ?_
 case refine_2=>rw[hds];exact hbig
 case refine_1=>
  intro m os dk hdk x y;have hxy:φ l[x] l[y]=some (HM φ l x y):=by obtain⟨c,hc⟩:=hφ x y;unfold HM;rw[hc];rfl
  generalize hW:sortWorldK enc k w g o m dk os=W;have hMW:hle M (λb=>W.heap[b]?):=λb o' hb=>by
   have hbw:=gd.im b o' hb;have hne:b≠g:=λh=>by rw[h,hMg]at hb;cases hb
   show W.heap[b]? =some o';rw[<-hW,G4 _ _ _ _ _ _ _ _ (Array.getElem?_eq_some_iff.1 hbw).1 hne];exact hbw
  have h0:Holds W W [rd (.agg (enc x).toArray) l[x],rd (.agg (enc y).toArray) l[y],Is W]:=by
   refine⟨λb=>W.heap[b]?,λ_=>rX,⟨rfl,rfl,rfl,bW _,λ_ _ h=>h,λi P hP=>?_,λ_ _ _ _ h=>(by cases h),λ_ _ _ _ h=>(by cases h),λ_ _ _ _ _ _ _ h=>(by cases h)⟩⟩
   match i,hP with
   | 0,hP=>simp at hP;subst hP;exact⟨⟨_,by simp[u4,hag],GT.mono hMW (hel x)⟩,rfl⟩
   | 1,hP=>simp at hP;subst hP;exact⟨⟨_,by simp[u4,hag],GT.mono hMW (hel y)⟩,rfl⟩
   | 2,hP=>simp at hP;subst hP;exact λ_ _=>rfl
   |i+3,hP=>simp at hP
  refine Calls.mono (hcl (i:=0) (j:=1) h0 rfl rfl hxy) λex w' h=>?_;obtain⟨z,rfl,rfl,h⟩:=h;exact⟨rfl,h.grown (i:=2) rfl⟩
 refine Calls.mono (by rw[hds]at hsort;exact hsort) λex w' h=>?_;obtain⟨rfl,n,os,rfl⟩:=h;refine⟨_,rfl,rfl,?_⟩;obtain⟨hp,_⟩:=pdq_sorts (ltOf<|HM φ l) hO d 0 l.length (Lib.bitLen l.length) true true (ox _) (by rw[hds];exact bW _)<|Or.inl rfl
 have hl':l'=(pdq (ltOf<|HM φ l) d 0 l.length (Lib.bitLen l.length) true true).toList.map λi=>l[i]:=by
  rw[<-hb];unfold Jp;rw[dif_pos hn];rfl
 generalize hd':pdq (ltOf<|HM φ l) d 0 l.length (Lib.bitLen l.length) true true=d' at hp hl' ⊢;have hds':d'.size=l.length:=by rw[hp.1,hds]
 have hll:l'.length=l.length:=by rw[hl',iM,Array.length_toList,hds']
 have hpc:(putCells id o (flatK enc k d') cur).size=cur.size:=by simp[putCells]
 have h2:=gd.update (w':=sortWorldK enc k w g o n d' os) (P':=own e (.slice (some ⟨g,o,none⟩) l.length cap) l') (i:=0) (by simp) (Gk.one g<|.cells (putCells id o (flatK enc k d') cur) e (0,0)) ?_ rfl rfl rfl ?_ ?_ ?_<|Nat.le_add_right _ _
 ·exact⟨M,_,h2⟩
 ·refine .inr ⟨g,o,cap,_,_,by rw[hll],by rw[hll];exact hcap,hmax,rfl,by rw[hpc,hK];exact hsz,rfl,?_⟩;rw[hll,hK];refine⟨?_,λa x hx=>?_⟩
  ·have e1:(putCells id o (flatK enc k d') cur).toList.length=cur.size:=by rw[Array.length_toList,hpc]
   rw[dD,f9,e1,hll,hK];omega
  ·have ha:a<l.length:=by rw[<-hll];exact(bN.1 hx).1
   have hax:=rn (sz:=k) ha;rw[hK,List.drop_take,List.take_take,Nat.min_eq_left (by omega),It hlk hk0 d' o cur (by rw[hds'];omega) a (by rw[hds'];exact ha)];have hda:d'.toList[a]? =some d'[a]! :=by rw[Array.getElem?_toList,iI (by rw[hds'];exact ha),getElem!_pos d' a (by rw[hds'];exact ha)]
   generalize d'[a]! =q at hda ⊢;have h3:=congrArg (λz=>z[a]?) hl';simp only[kl,hda,hx,Option.map_some]at h3;injection h3 with h3
   rw[h3];exact hel q
 ·intro b o' hb;obtain⟨rfl,rfl⟩:=iK hb;exact Ow _ _ _ _ _ _ _ _ hg
 ·intro b o' hb;obtain⟨rfl,rfl⟩:=iK hb;exact .inl ⟨_,by rw[hh];exact cT b _⟩
 ·intro b hb1 hb2;refine G4 _ _ _ _ _ _ _ _ hb2 λh=>?_;subst h;rw[hh,cT]at hb1;cases hb1
section
variable (w:aW)(g o m:Nat)(dk:bB Int)(os:bB Obj)
theorem Mz{b:Nat}(hb:b<w.heap.size)(hg:b≠g):(grow (putRow (Value.int .i64) (Go.Sort.ahead w m) g o dk) os).heap[b]? =w.heap[b]? :=by
 simp only[grow,putRow,mapBlock,Go.Sort.ahead];rw[Array.getElem?_append_left (by simpa using hb),Array.getElem?_modify,aF<|λh=>hg h.symm]
theorem Ox{cur:bB aV}{e:bR}{fr:Nat×Nat}(hg:w.heap[g]? =some (.cells cur e fr)):
  (grow (putRow (Value.int .i64) (Go.Sort.ahead w m) g o dk) os).heap[g]? =some (.cells (putCells (Value.int .i64) o dk cur) e fr):=by
 have hb:g<w.heap.size:=(Array.getElem?_eq_some_iff.1 hg).1;simp only[grow,putRow,mapBlock,Go.Sort.ahead];rw[Array.getElem?_append_left (by simpa using hb),Array.getElem?_modify,aH rfl,hg];rfl
end
theorem MA{P:bP}{ρ:Shelf.Ren}(L:SlLaysM.n5 P ρ){E w:aW}{V:aL HP}{e:bR}{v:aV}{l l':aL Int}(hw:Holds E w (own e v l::V))(hb:vn l=some l'):
  Calls P (ρ.f 5) [v].toArray w (fG λz w'=>z = .tuple #[]/\Holds E w' (own e v l'::V)):=by
 unfold vn at hb;split at hb
 case isFalse=>cases hb
 rename_i hbig;injection hb with hb
 by_cases hn:l.length=0
 ·have hl:l= []:=List.length_eq_zero_iff.1 hn;subst hl;have e1:l'= []:=by rw[<-hb];exact List.length_eq_zero_iff.1 (by rw[List.length_mergeSort];rfl)
  subst e1;obtain⟨a,c,hv⟩:=hw.lS (i:=0) rfl;subst hv;refine Calls.mono (AnyM.slices_Sort_int_none L a c w) λex w' h=>?_;obtain⟨rfl,rfl⟩:=h;exact⟨_,rfl,rfl,hw⟩
 obtain⟨M,hs,gd⟩:=hw
 rcases gd.sat 0 _ rfl with⟨_,h2,_⟩|⟨g,o,cap,cur,xs,rfl,hcap,hmax,hh,hsz,hx,hcs⟩
 ·rw[h2]at hn;exact absurd rfl hn
 have hg:w.heap[g]? =some (.cells cur e (0,0)):=gd.le 0 g _ (by simp) (by rw[hh];exact cT g _);have hgs:g<w.heap.size:=(Array.getElem?_eq_some_iff.1 hg).1;have hsz1:GT.sz Int=1:=rfl;rw[hsz1,Nat.mul_one]at hsz hx;subst hx;have hel:∀i(hi:i<l.length),cur.toList[o+i]? =some (.int .i64 l[i]):=λi hi=>by
  have:=hcs.2 i l[i]<|aM hi
  rw[hsz1,Nat.mul_one,List.drop_take,List.take_take,List.drop_drop]at this;have h3:(cur.toList.drop<|o+i).take (min 1<|l.length - i)= [Sc.toV l[i]]:=this;have h4:=congrArg (λz=>z[0]?) h3;simp only[gZ,j7,Nat.add_zero]at h4;rw[aH (by omega)]at h4;exact h4
 have hH:Go.Sort.Holds (Value.int .i64) w g o l.toArray:=by
  intro j hj;have hj':j<l.length:=by simpa using hj
  have hin:o+j<cur.size:=by omega
  have h1:=hel j hj';rw[Array.getElem?_toList,iI hin]at h1;injection h1 with h1
  refine⟨?_,?_⟩
  ·rw[getElem!_pos l.toArray j hj];simp only[World.cell?,hg];simp[iI hin,h1]
  ·simp only[World.frozen?,hg];simp
 refine Calls.mono (AnyM.slices_Sort_int L g o cap l w hH hgs hbig) λex w' h=>?_;obtain⟨rfl,n,os,rfl⟩:=h;refine⟨_,rfl,rfl,?_⟩;rw[hb];have hll:l'.length=l.length:=by rw[<-hb,List.length_mergeSort]
 have hpc:(putCells (Value.int .i64) o l'.toArray cur).size=cur.size:=by simp[putCells]
 have h2:=gd.update (w':=grow (putRow (Value.int .i64) (Go.Sort.ahead w n) g o l'.toArray) os) (P':=own e (.slice (some ⟨g,o,none⟩) l.length cap) l') (i:=0) (by simp) (Gk.one g<|.cells (putCells (Value.int .i64) o l'.toArray cur) e (0,0)) ?_ rfl rfl rfl ?_ ?_ ?_<|Nat.le_add_right _ _
 ·exact⟨M,_,h2⟩
 ·refine .inr ⟨g,o,cap,_,_,by rw[hll],by rw[hll];exact hcap,hmax,rfl,by rw[hpc,hsz1,Nat.mul_one];exact hsz,rfl,?_⟩;rw[hll,hsz1,Nat.mul_one];refine⟨?_,λa x hx=>?_⟩
  ·have e1:(putCells (Value.int .i64) o l'.toArray cur).toList.length=cur.size:=by rw[Array.length_toList,hpc]
   rw[dD,f9,e1,hll,hsz1];omega
  ·have ha:a<l'.length:=(bN.1 hx).1;rw[hsz1,Nat.mul_one,List.drop_take,List.take_take,List.drop_drop];show List.take _ _= [Sc.toV x];apply List.ext_getElem?;intro t;rw[gZ,j7]
   by_cases ht:t=0
   ·subst ht;have hin:o+a+0<(putCells (Value.int .i64) o l'.toArray cur).size:=by rw[hpc];omega
    rw[aH (by omega),Array.getElem?_toList,iI hin];simp only[putCells,Array.getElem_mapIdx,Nat.add_zero,List.size_toArray];rw[aH (by omega)];have e2:o+a - o=a:=by omega
    rw[aM ha]at hx;injection hx with hx
    rw[e2,getElem!_pos l'.toArray a (by simpa using ha)];simp[hx];rfl
   ·rw[aF (by omega),List.getElem?_eq_none (by simp;omega)]
 ·intro b o' hb;obtain⟨rfl,rfl⟩:=iK hb;exact Ox _ _ _ _ _ _ hg
 ·intro b o' hb;obtain⟨rfl,rfl⟩:=iK hb;exact .inl ⟨_,by rw[hh];exact cT b _⟩
 ·intro b hb1 hb2;refine Mz _ _ _ _ _ _ hb2 λh=>?_;subst h;rw[hh,cT]at hb1;cases hb1
end Go.Gk
namespace Go.Gk
open Go IntKind
theorem zr{α:Type _}{a:α}:a=a:=rfl
theorem zt:True:=True.intro
theorem cg{ops:bB bL}{U:Nat->aV}{j d:Nat}{a b:Bool}(h:a=b)(h1:(ops[j]?).bind (·.dst)=some d:=by rfl)(h2:U d = .bool a:=by rfl):Wn ops U (some (j,b)):=⟨d,h1,h2.trans<|cb h⟩
abbrev e_:aV:=.int .i64 0
abbrev n_:aV:=.slice none 0 0
theorem q_{α β:Type}{o:aU α}{f:α->aU β}{r:β}{G:Prop}(h:o.bind f=some r)(k: ∀x,o=some x->f x=some r->G):G:=by
 cases o with
 | none=>cases h
 | some x=>exact k x rfl h
theorem z_{c:Bool}(v:aV)(h:c=true):cv c v=v:=kO h
abbrev aN(x y:Int):Int:=if x<y then x else y
abbrev cJ(x y:Int):Int:=if x<y then y else x
abbrev fC{α:Type}[GT α](V:List HP)(i:Nat)(v:Value)(x:α):=V[i]? =some (rd v x)
abbrev fI{α:Type}[GT α](V:List HP)(i:Nat)(v:Value)(x:α):=V[i]? =some (pt v x)
def fR(a:Nat):Nat->List Nat->List Nat|0,l=>l|n+1,l=>a::fR (a+1) n l
def ix:Nat->Nat->List Nat|0,_=>[]|n+1,x=>x%10::ix n (x/10)
theorem jn{α:Type}[GT α]{E w:World}{v:Value}{x:α}{V:List HP}{M hs}(g:Good E w M hs (rd v x::V)):xH M v x/\True:=⟨(g.sat 0 _ rfl).1,trivial⟩
abbrev jP(p:Prop)[Decidable p]:Bool:=decide p
abbrev jQ(x:Int):Nat:=Int.toNat x
abbrev nb(N:Nat):Prop:=4398046511104<=N
end Go.Gk
