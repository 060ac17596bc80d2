/-
  Helping texts on the memory of the model. No statement of the seed is proved here.
-/
import Derived.Test.YtopjilpddngibaaGreatDoorA1
import Derived.KernelRfl
import Derived.Shelf.SlSortCmp.NoneTotal
import Derived.Shelf.SortM.Plain
import Derived.Shelf.SortM.SortNone
import Derived.Maps.RangeRun
set_option linter.unusedVariables false
set_option linter.unusedSimpArgs false
set_option linter.unusedSectionVars false
namespace Go.Gk
open Go
def me (o:Oper) (U:Nat->Value) (v:Value):Nat->Value:=match o.dst with | some d=>cS U d v | none=>U
def sN (acc:List Nat):List Edge->Nat
 | []=>0
 | e::r=>bif Region.binds .any e then Nat.lor (Nat.lor (Nat.shiftLeft 1 e.on) (acc.getD e.on 0)) (sN acc r) else sN acc r
def xm:List Oper->List Nat->List Nat
 | [],acc=>acc
 | o::l,acc=>xm l (acc++[sN acc o.after.toList])
def xn (l:List Oper) (i:Nat) (rest:List Nat):Bool:=(List.range l.length).all fun k=>Nat.beq k i||(rest.any fun q=>Nat.beq q k)||Nat.testBit ((xm l []).getD i 0) k
section
variable {P:Program} {n:Nat} {l:List Oper} {mk:List Nat} {Q:d7} {U:Nat->Value} {w:World} {i:Nat} {rest:List Nat} {o:Oper}
def DP (P:Program) (n:Nat) (l:List Oper) (mk:List Nat) (Q:d7): (World->Prop)->List Nat->(Nat->Value)->World->Prop
 | _,[],U,w=>Q .normal U w
 | S,i::rest,U,w=>∃o,l[i]? =some o/\
  ((mk.getD i 0=0/\RL P n l.toArray [o] U w (fun ex σ' w'=>ex = .normal/\w'=w/\DP P n l mk Q S rest σ' w))\/
   (mk.getD i 0=1/\∃v,∃S1:World->Prop,(∀w2,S1 w2->S w2)/\(S w->S1 w)/\(∀w',S1 w'->RL P n l.toArray [o] U w' (fun ex σ' w''=>ex = .normal/\w''=w'/\σ'=me o U v))/\DP P n l mk Q S1 rest (me o U v) w)\/
   (mk.getD i 0=2/\∃S1:World->Prop,((∀w2,S1 w2->S w2)\/xn l i rest=true)/\RL P n l.toArray [o] U w (fun ex σ' w'=>ex = .normal/\S1 w'/\DP P n l mk Q S1 rest σ' w'))\/
   (mk.getD i 0=3/\∃T q b m row e ag k,o.op = .load T q/\ev U q = .pointer (some ⟨b,m,none⟩)/\ki P T ag k/\m+k<=row.size/\m<row.size/\w.heap[b]? =some (.cells row e (0,0))/\
    RL P n l.toArray [o] U w (fun ex σ' w'=>ex = .normal/\w'=w/\DP P n l mk Q (fun w2=>S w2/\w2.heap[b]? =some (.cells row e (0,0))) rest σ' w)))
section
variable {S:World->Prop}
theorem DP.e0 (ho:l[i]? =some o) (hm:mk.getD i 0=0) (h:RL P n l.toArray [o] U w (fun ex σ' w'=>ex = .normal/\w'=w/\DP P n l mk Q S rest σ' w)):DP P n l mk Q S (i::rest) U w:=⟨o,ho, .inl ⟨hm,h⟩⟩
theorem DP.e1 (v:Value) (ho:l[i]? =some o) (h1: ∀w',RL P n l.toArray [o] U w' (fun ex σ' w''=>ex = .normal/\w''=w'/\σ'=me o U v)) (h:DP P n l mk Q S rest (me o U v) w) (hm:mk.getD i 0=1:=by exact rfl):DP P n l mk Q S (i::rest) U w:=⟨o,ho, .inr (.inl ⟨hm,v,S,fun _ h=>h,fun h=>h,fun w' _=>h1 w',h⟩)⟩
theorem DP.Cs (v:Value) (ho:l[i]? =some o) (hm:mk.getD i 0=1) (h1: ∀w',S w'->RL P n l.toArray [o] U w' (fun ex σ' w''=>ex = .normal/\w''=w'/\σ'=me o U v)) (h:DP P n l mk Q S rest (me o U v) w):DP P n l mk Q S (i::rest) U w:=⟨o,ho, .inr (.inl ⟨hm,v,S,fun _ h=>h,fun h=>h,h1,h⟩)⟩
theorem DP.e2 (ho:l[i]? =some o) (hm:mk.getD i 0=2) (h:RL P n l.toArray [o] U w (fun ex σ' w'=>ex = .normal/\S w'/\DP P n l mk Q S rest σ' w')):DP P n l mk Q S (i::rest) U w:=⟨o,ho, .inr (.inr (.inl ⟨hm,S, .inl fun _ h=>h,h⟩))⟩
theorem DP.E0 (ho:l[i]? =some o) (hm:mk.getD i 0=2) (h:RL P n l.toArray [o] U w (fun ex σ' w'=>ex = .normal/\True/\DP P n l mk Q (fun _=>True) rest σ' w')) (hk:xn l i rest=true:=by kernel_rfl):DP P n l mk Q S (i::rest) U w:=⟨o,ho, .inr (.inr (.inl ⟨hm,fun _=>True, .inr hk,h⟩))⟩
theorem DP.e3 {T e:TypeId} {q:Operand} {b m k:Nat} {row:Array Value} {ag:Bool} (ho:l[i]? =some o) (hm:mk.getD i 0=3) (hop:o.op = .load T q) (hp:ev U q = .pointer (some ⟨b,m,none⟩)) (hT:ki P T ag k) (hh:w.heap[b]? =some (.cells row e (0,0))/\m+k<=row.size/\m<row.size)
  (h:RL P n l.toArray [o] U w (fun ex σ' w'=>ex = .normal/\w'=w/\DP P n l mk Q (fun w2=>S w2/\w2.heap[b]? =some (.cells row e (0,0))) rest σ' w)):DP P n l mk Q S (i::rest) U w:=
 ⟨o,ho, .inr (.inr (.inr ⟨hm,T,q,b,m,row,e,ag,k,hop,hp,hT,hh.2.1,hh.2.2,hh.1,h⟩))⟩
theorem DP.z (h:Q .normal U w):DP P n l mk Q S [] U w:=by grind [DP]
theorem DP.d0 {ops:Array Oper} (h:DP P n l mk Q S rest U w):RL P n ops [] U w (fun ex σ' w'=>ex = .normal/\w'=w/\DP P n l mk Q S rest σ' w):=by grind [RL.nil]
theorem DP.d2 {ops:Array Oper} (hS:S w) (h:DP P n l mk Q S rest U w):RL P n ops [] U w (fun ex σ' w'=>ex = .normal/\S w'/\DP P n l mk Q S rest σ' w'):=by grind [RL.nil]
theorem DP.d1 {ops:Array Oper} {σ0:Nat->Value} (h:U=σ0:=by exact rfl):RL P n ops [] U w (fun ex σ' w'=>ex = .normal/\w'=w/\σ'=σ0):=by grind [RL.nil]
end
end
section
variable {P:Program} {n:Nat} {ops:Array Oper} {U:Nat->Value} {w:World} {o:Oper}
theorem uN {a:Act} {d:Nat} {C: (Nat->Value)->Prop} (hs:Sl n U a) (hk:n7 o.op=true) (hd:o.dst=some d) (hdn:Nat.blt d n=true)
  (h:RL P n ops [o] U w (fun ex σ' w'=>ex = .normal/\w'=w/\C σ')): ∃v,vA P ops w a o v/\C (cS U d v):=by
 have h1:=h a hs
 unfold wpList at h1
 split at h1
 ·rename_i hw
  rcases h1 with h1 | ⟨_,h1⟩
  ·unfold Oper.wp at h1
   cases hr: (execOp a.eval o).run P w with
   | ok nx w'=>
    rw [hr] at h1
    obtain⟨v,rfl⟩:=vY hk hr
    obtain⟨σ',hs',_,hw',hrest⟩:=h1
    have hw':w'=w:=hw'
    subst hw'
    rw [hd] at hs'
    have:=hs'.uniq (hs.put hdn v)
    subst this
    exact⟨v, .inl ⟨hw,hr⟩,hrest⟩
   | halt x w'=>
    rw [hr] at h1
    cases x with
    | panic v=>obtain⟨_,_,hbad,_⟩:=h1;cases hbad
    | _=>exact h1.elim
  ·obtain⟨_,_,_,_,hbad,_⟩:=h1;cases hbad
 ·rename_i hw
  obtain⟨σ',hs',_,_,hrest⟩:=h1
  rw [hd] at hs'
  have:=hs'.uniq (hs.put hdn undef)
  subst this
  exact⟨undef, .inr ⟨by grind,rfl⟩,hrest⟩
end
theorem wa {P:Program} {w:World} {b k:Nat} {row:Array Value} {e:TypeId} (h:w.heap[b]? =some (.cells row e (0,0))) (hk:k<row.size): (load ⟨b,k,none⟩).run P w = .ok row[k] w:=by
 have hc:w.cell? ⟨b,k,none⟩=some row[k]:=by rw [cell_of_row w b _ _ _ _ h];simp [hk]
 simp_all
theorem tU {P:Program} {b k:Nat} {row:Array Value} {e:TypeId}: ∀(n i:Nat) (acc:Array Value),k+i+n<=row.size->∃cs,∀w:World,w.heap[b]? =some (.cells row e (0,0))->(loadCellsFrom ⟨b,k,none⟩ i n acc).run P w = .ok cs w
 | 0,i,acc,_=>⟨acc,fun w _=>rfl⟩
 | n+1,i,acc,h=>by
  obtain⟨cs,hcs⟩:=tU (P:=P) (b:=b) (k:=k) (row:=row) (e:=e) n (i+1) (acc.push (row[k+i]'(by omega))) (by omega)
  refine⟨cs,fun w hw=>?_⟩
  unfold loadCellsFrom
  have hl:=wa (P:=P) (k:=k+i) hw (by omega)
  rw [aL,Addr.add_lit,hl]
  exact hcs w hw
theorem wb {P:Program} {b k m:Nat} {row:Array Value} {e T:TypeId} {ag:Bool} (hT:ki P T ag m) (h1:k+m<=row.size) (h2:k<row.size): ∃v,∀w:World,w.heap[b]? =some (.cells row e (0,0))->(loadVar T ⟨b,k,none⟩).run P w = .ok v w:=by
 cases ag with
 | false=>
  refine⟨row[k],fun w hw=>?_⟩
  unfold loadVar
  rw [aL,hT.B8]
  exact wa hw h2
 | true=>
  obtain⟨cs,hcs⟩:=tU (P:=P) (b:=b) (k:=k) (row:=row) (e:=e) m 0 #[] (by omega)
  refine⟨.agg cs,fun w hw=>?_⟩
  unfold loadVar
  rw [aL,hT.B8]
  simp only [Result.andThen,if_true]
  rw [aL,hT.sz]
  simp_all [Result.andThen,aL,loadCells]
theorem zQ {P:Program} {ops:Array Oper} {w w2:World} {a:Act} {n:Nat} {U:Nat->Value} {o:Oper} {T e0:TypeId} {q:Operand} {b m k:Nat} {v:Value} {row:Array Value} {ag:Bool} (hs:Sl n U a) (ho:o.op = .load T q) (hp:ev U q = .pointer (some ⟨b,m,none⟩))
  (hT:ki P T ag k) (h1:m+k<=row.size) (h2:m<row.size) (hw:w.heap[b]? =some (.cells row e0 (0,0))) (hw2:w2.heap[b]? =some (.cells row e0 (0,0))) (hst:vA P ops w a o v):vA P ops w2 a o v:=by
 rcases hst with ⟨h3,h4⟩ | h3
 ·refine .inl ⟨h3,?_⟩
  obtain⟨dst,op,ty,pos,af,g⟩:=o
  have ho:op = .load T q:=ho
  subst ho
  have e: ∀w,(execOp a.eval ⟨dst, .load T q,ty,pos,af,g⟩).run P w= ((loadVar T ⟨b,m,none⟩).run P w).andThen fun v w=> .ok (.value v) w:=fun w=>by
   simp only [execOp,hs.ev,hp,Instr.loadAt,Instr.sureAddr,aL,aS,aR]
  rw [e] at h4 ⊢
  obtain⟨u,hu⟩:=wb (b:=b) (e:=e0) hT h1 h2
  simp_all
 ·exact .inr h3
def iw (l:List Oper) (U:Nat->Value):List Nat->List Value->(Nat->Value)
 | i::is,v::vs=>iw l (match l[i]? with | some o=>me o U v | none=>U) is vs
 | _,_=>U
section
variable {l:List Oper}
theorem rH (U:Nat->Value): ∀(is js:List Nat) (vs us:List Value),vs.length=is.length->iw l U (is++js) (vs++us)=iw l (iw l U is vs) js us
 | [],js,[],us,_=>rfl
 | i::is,js,v::vs,us,h=>by
  rw [List.cons_append,List.cons_append]
  unfold iw
  rw [rH _ is js vs us (by simpa using h)]
  cases js <;> cases us <;> rfl
 | [],_,_::_,_,h=>by cases h
 | _::_,_,[],_,h=>by cases h
theorem uO {o:Oper} {U:Nat->Value} {v:Value} {t:Nat} (h:o.dst≠some t):me o U v t=U t:=by
 unfold me
 cases hd:o.dst with
 | none=>rfl
 | some d=>
  grind [cS,Nat.beq,dF]
theorem xY {o:Oper} {U:Nat->Value} {v:Value} {t:Nat} (h:o.dst=some t):me o U v t=v:=by
 simp_all [me,cS,Nat.beq_refl]
theorem mu {t:Nat}: ∀(is:List Nat) (vs:List Value) (U:Nat->Value),(∀i∈is,∀o,l[i]? =some o->o.dst≠some t)->iw l U is vs t=U t
 | [],_,U,_=>rfl
 | _::_,[],U,_=>rfl
 | i::is,v::vs,U,h=>by
  unfold iw
  rw [mu is vs _ (fun j hj=>h j (by simp [hj]))]
  cases ho:l[i]? with
  | none=>rfl
  | some o=>exact uO (h i (by simp) o ho)
theorem uP {t:Nat}: ∀(is:List Nat) (vs:List Value) (U:Nat->Value) (j i:Nat) (o:Oper) (v:Value),is[j]? =some i->vs[j]? =some v->l[i]? =some o->o.dst=some t->
  (∀(k:Nat) i' o',is[k]? =some i'->l[i']? =some o'->k≠j->o'.dst≠some t)->iw l U is vs t=v
 | [],_,_,_,_,_,_,h,_,_,_,_=>by simp at h
 | _::_,[],_,_,_,_,_,_,h,_,_,_=>by simp at h
 | i0::is,v0::vs,U,0,i,o,v,hi,hv,ho,hd,hu=>by
  simp at hi hv;subst hi;subst hv
  unfold iw
  rw [mu is vs _ (fun j hj o' ho'=>by
   obtain⟨k,hk⟩:=List.mem_iff_getElem?.1 hj
   exact hu (k+1) j o' (by grind) ho' (by omega)),ho]
  exact xY hd
 | i0::is,v0::vs,U,j+1,i,o,v,hi,hv,ho,hd,hu=>by
  unfold iw
  exact uP is vs _ j i o v (by grind) (by grind) ho hd (fun k i2 o2 hk ho2 hne=>hu (k+1) i2 o2 (by grind) ho2 (by omega))
end
inductive ll (l:List Oper):Nat->Nat->Prop
 | edge {i k:Nat} {o:Oper}:l[i]? =some o->qq o k=true->ll l i k
 | trans {i j k:Nat}:ll l i j->ll l j k->ll l i k
theorem ll.first {l:List Oper} {i k:Nat} (h:ll l i k): ∃o j,l[i]? =some o/\qq o j=true/\(j=k\/ll l j k):=by
 induction h with
 | edge ho he=>grind
 | trans h1 h2 ih1 ih2=>
  obtain⟨o,j,ho,he,hr⟩:=ih1
  rcases hr with rfl | hr
  ·grind
  ·exact⟨o,j,ho,he, .inr (hr.trans h2)⟩
theorem ll.done {l:List Oper} {D:Nat->Bool} (hcl:mW l D) {i k:Nat} (h:ll l i k): (∃o,l[i]? =some o/\jM D o.after.toList)->D k=true:=by
 induction h with
 | edge ho he=>
  rintro⟨o2,ho2,hd⟩
  rw [ho] at ho2;injection ho2 with ho2;subst ho2
  exact jw hd he
 | trans h1 h2 ih1 ih2=>
  intro hd
  have hj:=ih1 hd
  obtain⟨o,_,ho,_,_⟩:=h2.first
  exact ih2 ⟨o,ho,hcl _ o ho hj⟩
def Sound (l:List Oper) (acc:List Nat):Prop:=∀i k,Nat.testBit (acc.getD i 0) k=true->ll l i k
theorem sO {l:List Oper} {acc:List Nat} {i k:Nat} {o:Oper} (hs:Sound l acc) (ho:l[i]? =some o): ∀(es:List Edge),(∀e∈es,e∈o.after.toList)->Nat.testBit (sN acc es) k=true->ll l i k
 | [],_,h=>by unfold sN at h;simp at h
 | e::r,hm,h=>by
  unfold sN at h
  cases hb:Region.binds .any e with
  | false=>rw [hb] at h;exact sO hs ho r (fun e he=>hm e (by simp [he])) h
  | true=>
   rw [hb] at h
   have h:Nat.testBit (((1 <<< e.on)||| acc.getD e.on 0)||| sN acc r) k=true:=h
   rw [Nat.testBit_or,Nat.testBit_or,eC,eC] at h
   have hedge: ∀k,e.on=k->qq o k=true:=fun k hk=>by
    subst hk
    unfold qq
    rw [jJ]
    exact⟨e,hm e (by simp),by simp_all⟩
   rcases h with (h | h) | h
   ·rw [Nat.one_shiftLeft,Nat.testBit_two_pow,fx] at h
    exact .edge ho (hedge k h)
   ·exact .trans (.edge ho (hedge e.on rfl)) (hs e.on k h)
   ·exact sO hs ho r (fun e he=>hm e (by simp [he])) h
theorem xZ: ∀(l l0:List Oper) (acc:List Nat),(∀(j:Nat),l[j]? =l0[acc.length+j]?)->Sound l0 acc->Sound l0 (xm l acc)
 | [],_,_,_,h=>h
 | o::l,l0,acc,hl,h=>by
  unfold xm
  refine xZ l l0 _ (fun j=>?_) fun i k hb=>?_
  ·have:=hl (j+1)
   rw [cN,kS,List.length_nil]
   rw [show acc.length+ (0+1)+j=acc.length+ (j+1) by omega,<-this];simp
  ·rw [List.getD_eq_getElem?_getD,List.getElem?_append] at hb
   split at hb
   ·rw [<-List.getD_eq_getElem?_getD] at hb;exact h i k hb
   ·rename_i hlt
    by_cases he:i=acc.length
    ·subst he
     simp at hb
     have ho:=hl 0
     exact sO h (o:=o) (by grind) _ (fun e he=>he) hb
    ·have: (i - acc.length)≠0:=by omega
     rw [List.getElem?_eq_none (by simp;omega)] at hb
     simp at hb
def uQ (ops:Array Oper) (i:Nat) (o:Oper) (k:Nat) (o':Oper):Bool:=
 Nat.beq i k||match o'.dst with
  | some d=>(match o.dst with | some d2=> !Nat.beq d d2 | none=>true)&&(!rT ops o d||(bif Nat.blt k i then qq o k else qq o' i))
  | none=>true
def m0 (ops:Array Oper) (i:Nat) (o:Oper):Nat->List Oper->Bool
 | _,[]=>true
 | k,o'::l=>uQ ops i o k o'&&m0 ops i o (k+1) l
def Ct:Op->Bool | .select .. =>false | _=>true
def kindOk (n:Nat) (o:Oper) (m:Nat):Bool:=Ct o.op&&(bif Nat.beq m 2 then (match o.dst with | some d=>Nat.blt d n | none=>true) else n7 o.op&&(match o.dst with | some d=>Nat.blt d n | none=>false))
def sP (n:Nat) (ops:Array Oper) (l:List Oper) (mk:List Nat):Nat->List Oper->Bool
 | _,[]=>true
 | i,o::l'=>kindOk n o (mk.getD i 0)&&m0 ops i o 0 l&&sP n ops l mk (i+1) l'
def wc (A mk:List Nat):List Nat->List Nat->Bool
 | _,[]=>true
 | pre,i::post=>(bif Nat.beq (mk.getD i 0) 2 then (post.all fun q=>Nat.testBit (A.getD q 0) i)&&(pre.all fun q=>Nat.beq (mk.getD q 0) 1||Nat.beq (mk.getD q 0) 3||Nat.testBit (A.getD i 0) q) else true)&&wc A mk (pre++[i]) post
def uR:List Nat->Bool
 | []=>true
 | a::l=> !(l.any fun b=>Nat.beq a b)&&uR l
def zR (l:List Oper):List Nat->Bool
 | []=>true
 | i::post=>(match l[i]? with | some o=>post.all fun q=> !qq o q | none=>true)&&zR l post
theorem uS {l:List Oper}: ∀{ord:List Nat},zR l ord=true->∀(p1:List Nat) (i:Nat) (p2:List Nat),ord=p1++i::p2->∀o,l[i]? =some o->∀q∈p2,qq o q=false
 | [],_,p1,i,p2,e,_,_,_,_=>by cases p1 <;> cases e
 | a::ord,h,[],i,p2,e,o,ho,q,hq=>by
  injection e with e1 e2;subst e1;subst e2
  unfold zR at h
  rw [ho,cC] at h
  have:=iK.1 h.1 q hq
  rwa [Bool.not_eq_true'] at this
 | a::ord,h,b::p1,i,p2,e,o,ho,q,hq=>by
  injection e with e1 e2
  unfold zR at h
  rw [cC] at h
  exact uS h.2 p1 i p2 e2 o ho q hq
def zS (n:Nat) (l:List Oper) (mk ord:List Nat):Bool:=
 uR ord&&(List.range l.length).all (fun i=>ord.any fun j=>Nat.beq i j)&&(ord.all fun i=>Nat.blt i l.length)&&sP n l.toArray l mk 0 l&&wc (xm l []) mk [] ord&&zR l ord
theorem tV: ∀{l:List Nat},uR l=true->l.Nodup
 | [],_=>List.nodup_nil
 | a::l,h=>by
  unfold uR at h
  rw [cC,Bool.not_eq_true'] at h
  refine List.nodup_cons.2 ⟨fun hm=>?_,tV h.2⟩
  have: (l.any fun b=>Nat.beq a b)=true:=jJ.2 ⟨a,hm,Nat.beq_refl a⟩
  rw [this] at h;cases h.1
theorem pM {ops:Array Oper} {i:Nat} {o:Oper}: ∀{k:Nat} {l:List Oper},m0 ops i o k l=true->∀(j:Nat) o',l[j]? =some o'->uQ ops i o (k+j) o'=true
 | _,[],_,j,o',h=>by simp at h
 | k,p::l,hs,0,o',h=>by
  unfold m0 at hs;rw [cC] at hs
  simp at h;subst h;exact hs.1
 | k,p::l,hs,j+1,o',h=>by
  unfold m0 at hs;rw [cC] at hs
  have:=pM hs.2 j o' (by simpa using h)
  rw [show k+ (j+1)=k+1+j by omega];exact this
theorem tW {n:Nat} {ops:Array Oper} {l0:List Oper} {mk:List Nat}: ∀{i:Nat} {l:List Oper},sP n ops l0 mk i l=true->∀(j:Nat) o,l[j]? =some o->kindOk n o (mk.getD (i+j) 0)=true/\m0 ops (i+j) o 0 l0=true
 | _,[],_,j,o',h=>by simp at h
 | i,p::l,hs,0,o',h=>by
  unfold sP at hs;simp only [cC] at hs
  simp at h;subst h;exact hs.1
 | i,p::l,hs,j+1,o',h=>by
  unfold sP at hs;simp only [cC] at hs
  have:=tW hs.2 j o' (by simpa using h)
  rw [show i+ (j+1)=i+1+j by omega];exact this
theorem we {A mk:List Nat}: ∀{post pre:List Nat},wc A mk pre post=true->∀(p1:List Nat) (i:Nat) (p2:List Nat),post=p1++i::p2->mk.getD i 0=2->
  (∀q∈p2,Nat.testBit (A.getD q 0) i=true)/\(∀q∈pre++p1,(mk.getD q 0=1\/mk.getD q 0=3)\/Nat.testBit (A.getD i 0) q=true)
 | [],_,_,p1,i,p2,e,_=>by cases p1 <;> cases e
 | a::post,pre,h,[],i,p2,e,hm=>by
  injection e with e1 e2;subst e1;subst e2
  unfold wc at h
  rw [hm] at h
  simp only [Nat.beq_refl,bJ,cC] at h
  refine⟨fun q hq=>iK.1 h.1.1 q hq,fun q hq=>?_⟩
  have:=iK.1 h.1.2 q (by grind)
  rw [eC,eC] at this
  rcases this with (h | h) | h
  ·exact .inl (.inl (dF h))
  ·exact .inl (.inr (dF h))
  ·exact .inr h
 | a::post,pre,h,b::p1,i,p2,e,hm=>by
  injection e with e1 e2;subst e1
  unfold wc at h
  rw [cC] at h
  have:=we h.2 p1 i p2 e2 hm
  refine⟨this.1,fun q hq=>this.2 q (by grind)⟩
theorem tr {P:Program} {o:Oper} {a a':Act} {next next':Act->World->Prop} {Qf Qf':Exit->Act->World->Prop} {r:Result Next} (ha:a.defers= [])
  (hn: ∀v w,next (a.put o.dst v) w->next' (a'.put o.dst v) w) (hdf: ∀(b:Act) w,next b w->b.defers= []) (hp: ∀c b w,¬Qf (.panic c) b w) (hl: ¬LetsOut Qf) (h:o.upon P a next Qf r):o.upon P a' next' Qf' r:=by
 cases r with
 | ok nx w'=>
  cases nx with
  | value v=>exact hn v w' h
  | skip=>exact hn undef w' h
  | defer d=>
   have h:next ({a with defers:=d::a.defers}.put o.dst undef) w':=h
   have:=hdf _ _ h
   cases hd:o.dst with
   | none=>rw [hd] at this;cases this
   | some t=>rw [hd] at this;cases this
  | enter f args=>
   refine Calls.mono h fun e w'' he=>?_
   grind
  | row row args=>exact Rows.mono h fun v w'' he=>hn v w'' he
  | _=>exact h.elim
 | halt x w'=>
  cases x with
  | panic v=>exact(hp _ _ _ h).elim
  | _=>exact h.elim
section
variable {P:Program} {n:Nat} {l:List Oper} {mk:List Nat} {Q:d7}
theorem DP.norm: ∀(ord:List Nat) (S:World->Prop) (U:Nat->Value) (w:World) (a:Act),Sl n U a->S w->(∀i∈ord,∀o,l[i]? =some o->kindOk n o (mk.getD i 0)=true)->DP P n l mk Q S ord U w->
  ∃pre vs post a' S',ord=pre++post/\vs.length=pre.length/\Sl n (iw l U pre vs) a'/\DP P n l mk Q S' post (iw l U pre vs) w/\(∀e rest,post=e::rest->mk.getD e 0=2)/\
   (∀(j i:Nat) v,pre[j]? =some i->vs[j]? =some v->mk.getD i 0≠2/\∃o aj,l[i]? =some o/\Sl n (iw l U (pre.take j) (vs.take j)) aj/\
    ((mk.getD i 0≠0/\∀w2,S' w2->vA P l.toArray w2 aj o v)\/(mk.getD i 0=0/\vA P l.toArray w aj o v)))/\S' w/\(∀w2,S' w2->S w2):=by
 intro ord
 induction ord with
 | nil=>intro S U w a hs hS _ h;exact⟨[],[],[],a,S,rfl,rfl,hs,h,fun _ _ e=>(by cases e),fun j i v hi=>(by simp at hi),hS,fun _ h=>h⟩
 | cons i ord ih=>
  intro S U w a hs hS hk h
  have h0:=h
  unfold DP at h
  obtain⟨o,ho,h⟩:=h
  have hko:=hk i (by simp) o ho
  have cont: ∀(S1:World->Prop) v d,o.dst=some d->Nat.blt d n=true->mk.getD i 0≠2->S1 w->(∀w2,S1 w2->S w2)->((mk.getD i 0≠0/\∀w2,S1 w2->vA P l.toArray w2 a o v)\/(mk.getD i 0=0/\vA P l.toArray w a o v))->DP P n l mk Q S1 ord (cS U d v) w->
    ∃pre vs post a' S',i::ord=pre++post/\vs.length=pre.length/\Sl n (iw l U pre vs) a'/\DP P n l mk Q S' post (iw l U pre vs) w/\(∀e rest,post=e::rest->mk.getD e 0=2)/\
     (∀(j i:Nat) v,pre[j]? =some i->vs[j]? =some v->mk.getD i 0≠2/\∃o aj,l[i]? =some o/\Sl n (iw l U (pre.take j) (vs.take j)) aj/\
      ((mk.getD i 0≠0/\∀w2,S' w2->vA P l.toArray w2 aj o v)\/(mk.getD i 0=0/\vA P l.toArray w aj o v)))/\S' w/\(∀w2,S' w2->S w2):=by
   intro S1 v d hd hdn hn2 hS1 hSS hev hrest
   have hstep: ∀is us,iw l U (i::is) (v::us)=iw l (cS U d v) is us:=fun is us=>by
    unfold iw
    rw [ho]
    have:me o U v=cS U d v:=by unfold me;rw [hd]
    simp only [this]
    cases is <;> cases us <;> rfl
   obtain⟨pre,vs,post,a',S',e1,e2,e3,e4,e5,e6,e7,e8⟩:=ih S1 (cS U d v) w _ (hs.put hdn v) hS1 (fun j hj=>hk j (by simp [hj])) hrest
   refine⟨i::pre,v::vs,post,a',S',by rw [e1];rfl,by simp [e2],by rw [hstep];exact e3,by rw [hstep];exact e4,e5,fun j i' v' hi' hv'=>?_,e7,fun w2 h=>hSS w2 (e8 w2 h)⟩
   cases j with
   | zero=>
    simp at hi' hv';subst hi';subst hv'
    refine⟨hn2,o,a,ho,hs,?_⟩
    rcases hev with ⟨h1,h2⟩ | h1
    ·exact .inl ⟨h1,fun w2 h=>h2 w2 (e8 w2 h)⟩
    ·exact .inr h1
   | succ j=>
    obtain⟨hn,o',aj,h1,h2,h3⟩:=e6 j i' v' (by simpa using hi') (by simpa using hv')
    exact⟨hn,o',aj,h1,by rw [List.take_succ_cons,List.take_succ_cons,hstep];exact h2,h3⟩
  unfold kindOk at hko
  rw [cC] at hko
  have dst:mk.getD i 0≠2->n7 o.op=true/\∃d,o.dst=some d/\Nat.blt d n=true:=fun hn=>by
   have hk2:=hko.2
   have hb:Nat.beq (mk.getD i 0) 2=false:=by
    cases hx:Nat.beq (mk.getD i 0) 2 with
    | false=>rfl
    | true=>exact absurd (dF hx) hn
   rw [hb,bL,cC] at hk2
   refine⟨hk2.1,?_⟩
   cases hd:o.dst with
   | none=>rw [hd] at hk2;cases hk2.2
   | some d=>rw [hd] at hk2;exact⟨d,rfl,hk2.2⟩
  rcases h with ⟨hm,h⟩ | ⟨hm,v,S1,hSS,hS1,h1,h⟩ | ⟨hm,h⟩ | ⟨hm,T,q,b,m,row,e,ag,k,hop,hp,hT,h3,h4,hh,h⟩
  ·have hn2:mk.getD i 0≠2:=by rw [hm];decide
   obtain⟨hr,d,hd,hdn⟩:=dst hn2
   obtain⟨v,hst,hrest⟩:=uN (C:=fun σ'=>DP P n l mk Q S ord σ' w) hs hr hd hdn h
   exact cont S v d hd hdn hn2 hS (fun _ h=>h) (.inr ⟨hm,hst⟩) hrest
  ·have hn2:mk.getD i 0≠2:=by rw [hm];decide
   obtain⟨hr,d,hd,hdn⟩:=dst hn2
   have hu:me o U v=cS U d v:=by unfold me;rw [hd]
   rw [hu] at h
   refine cont S1 v d hd hdn hn2 (hS1 hS) hSS (.inl ⟨by rw [hm];decide,fun w2 hS2=>?_⟩) h
   obtain⟨v',hst,he⟩:=uN (C:=fun σ'=>σ'=me o U v) hs hr hd hdn (h1 w2 hS2)
   rw [hu] at he
   have:=congrFun he d
   unfold cS at this
   rw [Nat.beq_refl] at this
   have:v'=v:=this
   subst this;exact hst
  ·exact⟨[],[],i::ord,a,S,rfl,rfl,hs,h0,fun e rest he=>by injection he with h1 _;subst h1;exact hm,fun j i v hi=>(by simp at hi),hS,fun _ h=>h⟩
  ·have hn2:mk.getD i 0≠2:=by rw [hm];decide
   obtain⟨hr,d,hd,hdn⟩:=dst hn2
   obtain⟨v,hst,hrest⟩:=uN (C:=fun σ'=>DP P n l mk Q (fun w2=>S w2/\w2.heap[b]? =some (.cells row e (0,0))) ord σ' w) hs hr hd hdn h
   exact cont _ v d hd hdn hn2 ⟨hS,hh⟩ (fun _ h=>h.1) (.inl ⟨by rw [hm];decide,fun w2 hS2=>zQ hs hop hp hT h3 h4 hh hS2.2 hst⟩) hrest
theorem RC.zT (S0:World->Prop) {U:Nat->Value} {w:World} {id:Nat} (hm:P.follows .mixedOrders=true) (hdep:nZ 0 l=true) (mk ord:List Nat) (hS0:S0 w.drew) (h:DP P n l mk Q S0 ord U w.drew) (hc:zS n l mk ord=true:=by kernel_rfl):RC P n (.region id l.toArray true) U w Q:=by
 intro a0 ha0
 unfold zS at hc
 simp only [cC] at hc
 obtain⟨⟨⟨⟨⟨c1,c2⟩,c3⟩,c4⟩,c5⟩,c6⟩:=hc
 have hnd:=tV c1
 have hall: ∀i,i<l.length->i∈ord:=fun i hi=>by
  simp_all
 have hlt: ∀i∈ord,i<l.length:=fun i hi=>Nat.blt_eq▸iK.1 c3 i hi
 have hK: ∀i o,l[i]? =some o->kindOk n o (mk.getD i 0)=true/\m0 l.toArray i o 0 l=true:=fun i o ho=>by
  have:=tW c4 i o ho;grind
 have hA:Sound l (xm l []):=xZ l l [] (fun j=>by simp) (fun i k hb=>by simp at hb)
 have hdist: ∀(i k:Nat) o o' t,l[i]? =some o->l[k]? =some o'->k≠i->o.dst=some t->o'.dst≠some t:=fun i k o o' t ho ho' hne hd hd'=>by
  have hp:=pM (hK i o ho).2 k o' ho'
  grind [uQ,dF,Bool.not_eq_true',Nat.beq_refl]
 have hsee: ∀(i k:Nat) o o' t,l[i]? =some o->l[k]? =some o'->k≠i->o'.dst=some t->rT l.toArray o t=true->(k<i/\qq o k=true)\/(i<k/\qq o' i=true):=fun i k o o' t ho ho' hne hd' hs=>by
  have hp:=pM (hK i o ho).2 k o' ho'
  rw [eD] at hp
  grind [uQ,dF,Bool.not_eq_true',Nat.blt,Nat.blt_eq]
 have hsz: ∀(g:Nat) o2 d,l.toArray[g]? =some o2->o2.dst=some d->d<n:=fun g o2 d ho hd=>by
  grind [kindOk,Nat.beq,Nat.blt_eq]
 refine RC.BH (U:=U) (w:=w) hm hdep (fun D σ' w'=>∃pre vs post a S,ord=pre++post/\vs.length=pre.length/\Sl n (iw l U pre vs) a/\DP P n l mk Q S post (iw l U pre vs) w'/\(∀e rest,post=e::rest->mk.getD e 0=2)/\
   (∀i∈post,D i=false)/\
   (∀(j i:Nat) v,pre[j]? =some i->vs[j]? =some v->D i=false->mk.getD i 0≠2/\∃o aj,l[i]? =some o/\Sl n (iw l U (pre.take j) (vs.take j)) aj/\((mk.getD i 0≠0/\∀w2,S w2->vA P l.toArray w2 aj o v)\/(mk.getD i 0=0/\vA P l.toArray w' aj o v)))/\S w'/\
   (∀(j i:Nat) v o t,pre[j]? =some i->vs[j]? =some v->l[i]? =some o->o.dst=some t->D i=true->σ' t=v)/\
   (∀t,(∀(i:Nat) o,l[i]? =some o->o.dst=some t->D i=false)->σ' t=U t)) ?_ ?_ ?_ a0 ha0
 ·obtain⟨pre,vs,post,a',S,e1,e2,e3,e4,e5,e6,eS,_⟩:=DP.norm ord _ U w.drew a0 ha0 hS0 (fun i _ o ho=>(hK i o ho).1) h
  exact⟨pre,vs,post,a',S,e1,e2,e3,e4,e5,fun _ _=>rfl,fun j i v hi hv _=>e6 j i v hi hv,eS,fun j i v o t _ _ _ _ hD=>(by cases hD),fun t _=>rfl⟩
 ·refine mZ fun i o ho=>?_
  rw [eD]
  rintro D σ' w' hD hdeps hcl ⟨pre,vs,post,a,S,e1,e2,e3,e4,e5,e6,e7,eS,e8,e9⟩
  have hil:i<l.length:=(bM.1 ho).1
  have hio:=hall i hil
  have hancD: ∀k,Nat.testBit ((xm l []).getD i 0) k=true->D k=true:=fun k hb=>(hA i k hb).done hcl ⟨o,ho,hdeps⟩
  have hag: ∀(p1:List Nat) (vs1:List Value) (p2:List Nat),p1++i::p2=ord->vs1.length=p1.length->(∀(j i':Nat) v o' t,p1[j]? =some i'->vs1[j]? =some v->l[i']? =some o'->o'.dst=some t->D i'=true->σ' t=v)->
    ∀t,rT l.toArray o t=true->iw l U p1 vs1 t=σ' t:=by
   intro p1 vs1 p2 he hl1 h8 t ht
   have hni:i∉p1:=fun hm=>by
    rw [<-he] at hnd
    exact(List.nodup_append.1 hnd).2.2 i hm i (by simp) rfl
   have hnd1:p1.Nodup:=by rw [<-he] at hnd;exact(List.nodup_append.1 hnd).1
   by_cases hex: ∃(k:Nat) (o':Oper),l[k]? =some o'/\o'.dst=some t
   ·obtain⟨k,o',ho',hd'⟩:=hex
    have hkd:k≠i->D k=true->k∈p1\/k∈p2:=fun hne _=>by
     have:=hall k (bM.1 ho').1
     rw [<-he] at this
     simp at this
     rcases this with h | h | h
     ·exact .inl h
     ·exact absurd h hne
     ·exact .inr h
    by_cases hki:k=i
    ·subst hki
     rw [mu p1 vs1 U (fun i' hi' o2 ho2 hd2=>hdist k i' o' o2 t ho' ho2 (fun e=>hni (e▸hi')) hd' hd2)]
     refine(e9 t fun k2 o2 ho2 hd2=>?_).symm
     by_cases he2:k2=k
     ·subst he2;exact hD
     ·exact absurd hd2 (hdist k k2 o' o2 t ho' ho2 he2 hd')
    ·rcases hsee i k o o' t ho ho' hki hd' ht with ⟨_,hE⟩ | ⟨hlt2,hE⟩
     ·have hDk:=jw hdeps hE
      by_cases hp:k∈p1
      ·obtain⟨j,hj⟩:=List.mem_iff_getElem?.1 hp
       have hjl:j<vs1.length:=by rw [hl1];exact(bM.1 hj).1
       rw [h8 j k vs1[j] o' t hj (aN hjl) ho' hd' hDk]
       refine uP p1 vs1 U j k o' vs1[j] hj (aN hjl) ho' hd' fun k2 i2 o2 hk2 ho2 hne=>?_
       refine hdist k i2 o' o2 t ho' ho2 (fun e=>hne ?_) hd'
       subst e
       exact(List.getElem?_inj (bM.1 hk2).1 hnd1).1 (by rw [hk2,hj])
      ·rcases hkd hki hDk with h | h
       ·exact absurd h hp
       ·rw [uS c6 p1 i p2 he.symm o ho k h] at hE;cases hE
     ·have hDk:D k=false:=nf fun hDk=>by
       have:=jw (hcl k o' ho' hDk) hE
       rw [hD] at this;cases this
      rw [mu p1 vs1 U (fun i' hi' o2 ho2 hd2=>?_)]
      ·refine(e9 t fun k2 o2 ho2 hd2=>?_).symm
       by_cases he2:k2=k
       ·subst he2;exact hDk
       ·exact absurd hd2 (hdist k k2 o' o2 t ho' ho2 he2 hd')
      ·by_cases he2:i'=k
       ·subst he2
        obtain⟨q1,q2,hq⟩:=List.append_of_mem hi'
        have:=uS c6 q1 i' (q2++i::p2) (by rw [<-he,hq];simp) o' ho' i (by simp)
        rw [this] at hE;cases hE
       ·exact hdist k i' o' o2 t ho' ho2 he2 hd' hd2
   ·rw [e9 t fun k o' ho' hd'=>absurd ⟨k,o',ho',hd'⟩ hex]
    exact mu p1 vs1 U (fun i' hi' o2 ho2 hd2=>hex ⟨i',o2,ho2,hd2⟩)
  have hrunC: ∀(σ1:Nat->Value) (a1 a2:Act),Sl n σ1 a1->Sl n σ' a2->(∀t,rT l.toArray o t=true->σ1 t=σ' t)->execOp a2.eval o=execOp a1.eval o:=fun σ1 a1 a2 hs1 hs2 hag=>by
   refine execOp_congr o (fun cs b e=>?_) fun x hx=>?_
   ·have:=(hK i o ho).1
    unfold kindOk at this
    rw [e] at this;cases this
   ·rw [hs2.ev,hs1.ev]
    cases x with
    | tmp t=>
     refine(hag t ?_).symm
     unfold rT Oper.looksAt
     rw [List.any_append,eC]
     left
     rw [jJ]
     exact⟨t,List.mem_filterMap.2 ⟨.tmp t,by simpa using hx,rfl⟩,Nat.beq_refl t⟩
    | _=>rfl
  by_cases hip:i∈pre
  ·
   obtain⟨p1,p2,hpre⟩:=List.append_of_mem hip
   have hjv:p1.length<vs.length:=by rw [e2,hpre];simp
   have hpj:pre[p1.length]? =some i:=by rw [hpre];simp
   obtain⟨v1,hv1⟩: ∃v,vs[p1.length]? =some v:=⟨_,aN hjv⟩
   obtain⟨hn2,o2,aj,ho2,hsj,hev⟩:=e7 p1.length i v1 hpj hv1 hD
   rw [ho] at ho2;injection ho2 with ho2;subst ho2
   have htk:pre.take p1.length=p1:=by rw [hpre];simp
   rw [htk] at hsj
   have hst:vA P l.toArray w' aj o v1:=by
    rcases hev with ⟨_,h⟩ | ⟨_,h⟩
    ·exact h w' eS
    ·exact h
   have hag1:=hag p1 (vs.take p1.length) (p2++post) (by rw [e1,hpre];simp) (by rw [bO];omega) (fun j i' v o' t hj hv ho' hd' hDi=>by
    have hjl:=(bM.1 hj).1
    rw [cQ,aG hjl] at hv
    exact e8 j i' v o' t (by rw [hpre,il hjl];exact hj) hv ho' hd' hDi)
   have hmk: ∃d,o.dst=some d/\Nat.blt d n=true:=by
    have:=(hK i o ho).1
    unfold kindOk at this
    rw [cC] at this
    have h2:=this.2
    have hne:Nat.beq (mk.getD i 0) 2=false:=by
     cases hx:Nat.beq (mk.getD i 0) 2 with
     | false=>rfl
     | true=>exact absurd (dF hx) hn2
    rw [hne,bL,cC] at h2
    cases hd:o.dst with
    | none=>rw [hd] at h2;cases h2.2
    | some d=>rw [hd] at h2;exact⟨d,rfl,h2.2⟩
   obtain⟨d,hd,hdn⟩:=hmk
   have hJ: ∃pre vs post a S,ord=pre++post/\vs.length=pre.length/\Sl n (iw l U pre vs) a/\DP P n l mk Q S post (iw l U pre vs) w'/\(∀e rest,post=e::rest->mk.getD e 0=2)/\
     (∀i'∈post,ins D i i'=false)/\
     (∀(j i':Nat) v,pre[j]? =some i'->vs[j]? =some v->ins D i i'=false->mk.getD i' 0≠2/\∃o aj,l[i']? =some o/\Sl n (iw l U (pre.take j) (vs.take j)) aj/\((mk.getD i' 0≠0/\∀w2,S w2->vA P l.toArray w2 aj o v)\/(mk.getD i' 0=0/\vA P l.toArray w' aj o v)))/\S w'/\
     (∀(j i':Nat) v o' t,pre[j]? =some i'->vs[j]? =some v->l[i']? =some o'->o'.dst=some t->ins D i i'=true->cS σ' d v1 t=v)/\
     (∀t,(∀(i':Nat) o',l[i']? =some o'->o'.dst=some t->ins D i i'=false)->cS σ' d v1 t=U t):=by
    refine⟨pre,vs,post,a,S,e1,e2,e3,e4,e5,fun i' hi'=>?_,fun j i' v hj hv hDi=>?_,eS,fun j i' v o' t hj hv ho' hd' hDi=>?_,fun t ht=>?_⟩
    ·rw [kJ (fun e=>by
      subst e
      rw [e1] at hnd
      exact(List.nodup_append.1 hnd).2.2 i' hip i' hi' rfl)]
     exact e6 i' hi'
    ·refine e7 j i' v hj hv ?_
     by_cases he:i'=i
     ·subst he;exact hD
     ·rwa [kJ he] at hDi
    ·by_cases he:i'=i
     ·subst he
      rw [ho] at ho';injection ho' with ho';subst ho'
      rw [hd] at hd';injection hd' with hd';subst hd'
      have hndp:pre.Nodup:=by rw [e1] at hnd;exact(List.nodup_append.1 hnd).1
      have:j=p1.length:=(List.getElem?_inj (bM.1 hj).1 hndp).1 (by rw [hj,hpj])
      subst this
      rw [hv1] at hv
      injection hv with hv
      unfold cS;rw [Nat.beq_refl];exact hv
     ·rw [kJ he] at hDi
      have hne:t≠d:=fun e=>by subst e;exact hdist i i' o o' t ho ho' he hd hd'
      unfold cS
      cases hb:Nat.beq t d with
      | true=>exact absurd (dF hb) hne
      | false=>exact e8 j i' v o' t hj hv ho' hd' hDi
    ·have hne:t≠d:=fun e=>by
      subst e
      have:=ht i o ho hd
      rw [qt] at this;cases this
     unfold cS
     cases hb:Nat.beq t d with
     | true=>exact absurd (dF hb) hne
     | false=>
      refine e9 t fun k2 o2 ho2 hd2=>?_
      have:=ht k2 o2 ho2 hd2
      by_cases he:k2=i
      ·subst he;exact hD
      ·rwa [kJ he] at this
   intro a2 hs2
   have hrun:=hrunC _ aj a2 hsj hs2 hag1
   have hwant:=mY (ops:=l.toArray) (o:=o) hsj hs2 hag1 hsz
   unfold wpList
   rcases hst with ⟨hw1,hr1⟩ | ⟨hw1,hvu⟩
   ·rw [hwant] at hw1
    rw [aG hw1]
    left
    unfold Oper.wp
    rw [hrun,hr1]
    refine⟨cS σ' d v1,?_,rfl,hJ⟩
    rw [hd];exact hs2.put hdn _
   ·rw [hwant] at hw1
    rw [aJ (by rw [hw1];exact Bool.false_ne_true)]
    rw [hvu] at hJ
    refine⟨cS σ' d undef,?_,rfl,hJ⟩
    rw [hd];exact hs2.put hdn _
  ·
   have hipo:i∈post:=by
    rw [e1] at hio
    rcases jH.1 hio with h | h
    ·exact absurd h hip
    ·exact h
   cases post with
   | nil=>cases hipo
   | cons e rest=>
    have hme:=e5 e rest rfl
    have hoa:=we c5 pre e rest e1 hme
    have hie:i=e:=by
     rcases ja.1 hipo with h | h
     ·exact h
     ·have:=hancD e (hoa.1 i h)
      rw [e6 e (by simp)] at this;cases this
    subst hie
    unfold DP at e4
    obtain⟨o2,ho2,hdp⟩:=e4
    rw [ho] at ho2;injection ho2 with ho2;subst ho2
    obtain⟨S1,ph,hdp⟩: ∃S1:World->Prop,((∀w2,S1 w2->S w2)\/xn l i rest=true)/\RL P n l.toArray [o] (iw l U pre vs) w' (fun ex σ' w'=>ex = .normal/\S1 w'/\DP P n l mk Q S1 rest σ' w'):=by
     rcases hdp with ⟨h,_⟩ | ⟨h,_⟩ | ⟨_,h⟩ | ⟨h,_⟩
     ·rw [hme] at h;cases h
     ·rw [hme] at h;cases h
     ·exact h
     ·rw [hme] at h;cases h
    have hag1:=hag pre vs rest e1.symm e2 e8
    have hdn: ∀d,o.dst=some d->Nat.blt d n=true:=fun d hd=>by
     have:=(hK i o ho).1
     unfold kindOk at this
     rw [hme,cC] at this
     have h2:=this.2
     rw [hd] at h2;exact h2
    have hput: ∀(σ1:Nat->Value) (a1:Act) v,Sl n σ1 a1->Sl n (me o σ1 v) (a1.put o.dst v):=fun σ1 a1 v hs1=>by
     unfold me
     cases hd:o.dst with
     | none=>exact hs1.sj v
     | some d=>exact hs1.put (hdn d hd) v
    have hni:i∉pre:=hip
    have hnr:i∉rest:=fun hm=>by
     rw [e1] at hnd
     exact(List.nodup_cons.1 (List.nodup_append.1 hnd).2.1).1 hm
    have key: ∀(a2:Act) v w1,Sl n σ' a2->Lf n (fun ex σ' w'=>ex = .normal/\S1 w'/\DP P n l mk Q S1 rest σ' w') .normal (a.put o.dst v) w1->
      Lf n (fun ex σ' w1=>ex = .normal/\∃pre vs post a S,ord=pre++post/\vs.length=pre.length/\Sl n (iw l U pre vs) a/\DP P n l mk Q S post (iw l U pre vs) w1/\(∀e rest,post=e::rest->mk.getD e 0=2)/\
       (∀i'∈post,ins D i i'=false)/\
       (∀(j i':Nat) v,pre[j]? =some i'->vs[j]? =some v->ins D i i'=false->mk.getD i' 0≠2/\∃o aj,l[i']? =some o/\Sl n (iw l U (pre.take j) (vs.take j)) aj/\((mk.getD i' 0≠0/\∀w2,S w2->vA P l.toArray w2 aj o v)\/(mk.getD i' 0=0/\vA P l.toArray w1 aj o v)))/\S w1/\
       (∀(j i':Nat) v o' t,pre[j]? =some i'->vs[j]? =some v->l[i']? =some o'->o'.dst=some t->ins D i i'=true->σ' t=v)/\
       (∀t,(∀(i':Nat) o',l[i']? =some o'->o'.dst=some t->ins D i i'=false)->σ' t=U t)) .normal (a2.put o.dst v) w1:=by
     rintro a2 v w1 hs2 ⟨σ1,hs1,_,hS1,hdp1⟩
     have hσ1:σ1=me o (iw l U pre vs) v:=hs1.uniq (hput _ a v e3)
     subst hσ1
     obtain⟨pre2,vs2,post2,a3,S2,f1,f2,f3,f4,f5,f6,f7,f8⟩:=DP.norm rest S1 _ w1 _ hs1 hS1 (fun i' _ o' ho'=>(hK i' o' ho').1) hdp1
     have hX: ∀is us,iw l U (pre++i::is) (vs++v::us)=iw l (me o (iw l U pre vs) v) is us:=fun is us=>by
      rw [rH U pre (i::is) vs (v::us) e2]
      conv=>lhs;unfold iw
      rw [ho]
     refine⟨me o σ' v,hput _ a2 v hs2,rfl,pre++i::pre2,vs++v::vs2,post2,a3,S2,by rw [e1,f1];simp,by simp [e2,f2],by rw [hX];exact f3,by rw [hX];exact f4,f5,fun i' hi'=>?_,fun j i' u hj hu hDi=>?_,f7,fun j i' u o' t hj hu ho' hd' hDi=>?_,fun t ht=>?_⟩
     ·have hir:i'∈rest:=by rw [f1];simp [hi']
      rw [kJ (fun e:i'=i=>hnr (by rw [<-e];exact hir))]
      exact e6 i' (by simp [hir])
     ·have hne:i'≠i:=fun e=>by subst e;rw [qt] at hDi;cases hDi
      have hDi2:D i'=false:=by rwa [kJ hne] at hDi
      by_cases hjl:j<pre.length
      ·rw [il hjl] at hj
       rw [il (by omega)] at hu
       obtain⟨hn3,o3,aj,ho3,hsj,hev⟩:=e7 j i' u hj hu hDi2
       have t1: (pre++i::pre2).take j=pre.take j:=List.take_append_of_le_length (by omega)
       have t2: (vs++v::vs2).take j=vs.take j:=List.take_append_of_le_length (by omega)
       refine⟨hn3,o3,aj,ho3,by rw [t1,t2];exact hsj,?_⟩
       rcases hev with ⟨h,hh⟩ | ⟨h,_⟩
       ·rcases ph with ph | ph
        ·exact .inl ⟨h,fun w2 h2=>hh w2 (ph w2 (f8 w2 h2))⟩
        ·have hmem:i'∈pre:=eR hj
         have hil':i'<l.length:=(bM.1 ho3).1
         have hk:=iK.1 ph i' (by simpa using hil')
         rw [eC,eC] at hk
         rcases hk with (hk | hk) | hk
         ·exact absurd (dF hk) hne
         ·obtain⟨q,hq,hqe⟩:=jJ.1 hk
          have:=dF hqe
          subst this
          rw [e1] at hnd
          exact absurd rfl ((List.nodup_append.1 hnd).2.2 q hmem q (by simp [hq]))
         ·have:=hancD i' hk
          rw [hDi2] at this;cases this
       ·rcases hoa.2 i' (by simp [eR hj]) with (h2 | h2) | h2
        ·rw [h] at h2;cases h2
        ·rw [h] at h2;cases h2
        ·rw [hancD i' h2] at hDi2;cases hDi2
      ·rw [iq (by omega)] at hj
       rw [iq (by omega),e2] at hu
       cases hq:j - pre.length with
       | zero=>
        rw [hq] at hj;simp at hj
        exact absurd hj.symm hne
       | succ q=>
        rw [hq] at hj hu
        obtain⟨hn3,o3,aj,ho3,hsj,hev⟩:=f6 q i' u (by simpa using hj) (by simpa using hu)
        have hjq:j=pre.length+ (q+1):=by omega
        have t1: (pre++i::pre2).take j=pre++i::pre2.take q:=by rw [hjq,List.take_length_add_append,List.take_succ_cons]
        have t2: (vs++v::vs2).take j=vs++v::vs2.take q:=by rw [hjq,<-e2,List.take_length_add_append,List.take_succ_cons]
        exact⟨hn3,o3,aj,ho3,by rw [t1,t2,hX];exact hsj,hev⟩
     ·have hnd2: (pre++i::pre2).Nodup:=by
       rw [e1,f1] at hnd
       have:pre++i::(pre2++post2)= (pre++i::pre2)++post2:=by simp
       rw [this] at hnd
       exact(List.nodup_append.1 hnd).1
      by_cases hne:i'=i
      ·subst hne
       rw [ho] at ho';injection ho' with ho';subst ho'
       have hjp: (pre++i'::pre2)[pre.length]? =some i':=by simp
       have:j=pre.length:=(List.getElem?_inj (bM.1 hj).1 hnd2).1 (by rw [hj,hjp])
       subst this
       rw [<-e2] at hu
       simp at hu;subst hu
       exact xY hd'
      ·rw [kJ hne] at hDi
       rw [uO (fun hd=>hdist i i' o o' t ho ho' hne hd hd')]
       by_cases hjl:j<pre.length
       ·rw [il hjl] at hj
        rw [il (by omega)] at hu
        exact e8 j i' u o' t hj hu ho' hd' hDi
       ·rw [iq (by omega)] at hj
        cases hq:j - pre.length with
        | zero=>rw [hq] at hj;simp at hj;exact absurd hj.symm hne
        | succ q=>
         rw [hq] at hj
         have hm2:i'∈pre2:=eR (i:=q) (by simpa using hj)
         have:=e6 i' (by rw [f1];simp [hm2])
         rw [this] at hDi;cases hDi
     ·rw [uO (fun hd=>by have:=ht i o ho hd;rw [qt] at this;cases this)]
      refine e9 t fun k2 o2 ho2 hd2=>?_
      have:=ht k2 o2 ho2 hd2
      by_cases he:k2=i
      ·subst he;exact hD
      ·rwa [kJ he] at this
    intro a2 hs2
    have hrun:=hrunC _ a a2 e3 hs2 hag1
    have hwant:=mY (ops:=l.toArray) (o:=o) e3 hs2 hag1 hsz
    have h1:=hdp a e3
    unfold wpList at h1 ⊢
    split at h1
    ·rename_i hw1
     rw [hwant] at hw1
     rw [aG hw1]
     rcases h1 with h1 | ⟨_,h1⟩
     ·left
      unfold Oper.wp at h1 ⊢
      rw [hrun]
      refine tr e3.defers (fun v w1 hk=>key a2 v w1 hs2 hk) (fun b w1 hk=>?_) (fun c b w1 hk=>?_) (fun hk=>?_) h1
      ·obtain⟨_,hsb,_⟩:=hk;exact hsb.defers
      ·obtain⟨_,_,hbad,_⟩:=hk;cases hbad
      ·obtain⟨_,_,_,_,hbad,_⟩:=hk;cases hbad
     ·obtain⟨_,_,_,_,hbad,_⟩:=h1;cases hbad
    ·rename_i hw1
     rw [hwant] at hw1
     rw [aJ hw1]
     exact key a2 undef w' hs2 h1
 ·rintro D σ' w' hDall ⟨pre,vs,post,a,S,e1,e2,e3,e4,e5,e6,e7,eS,e8,e9⟩
  have hpost:post= []:=by
   cases post with
   | nil=>rfl
   | cons e rest=>
    have h1:=e6 e (by simp)
    rw [hDall e (hlt e (by rw [e1];simp))] at h1;cases h1
  subst hpost
  rw [f9] at e1
  subst e1
  have:σ'=iw l U ord vs:=by
   funext t
   by_cases hex: ∃(k:Nat) (o':Oper),l[k]? =some o'/\o'.dst=some t
   ·obtain⟨k,o',ho',hd'⟩:=hex
    have hkl:=(bM.1 ho').1
    obtain⟨j,hj⟩:=List.mem_iff_getElem?.1 (hall k hkl)
    have hjl:j<vs.length:=by rw [e2];exact(bM.1 hj).1
    rw [e8 j k vs[j] o' t hj (aN hjl) ho' hd' (hDall k hkl)]
    refine(uP ord vs U j k o' vs[j] hj (aN hjl) ho' hd' fun k2 i2 o2 hk2 ho2 hne=>?_).symm
    refine hdist k i2 o' o2 t ho' ho2 (fun e=>hne ?_) hd'
    subst e
    exact(List.getElem?_inj (bM.1 hk2).1 hnd).1 (by rw [hk2,hj])
   ·rw [e9 t fun k o' ho' hd'=>absurd ⟨k,o',ho',hd'⟩ hex]
    exact(mu ord vs U (fun i' hi' o2 ho2 hd2=>hex ⟨i',o2,ho2,hd2⟩)).symm
  rw [this];unfold DP at e4;exact e4
theorem RC.Bo {U:Nat->Value} {w:World} {id:Nat} (hm:P.follows .mixedOrders=true) (mk ord:List Nat) (h:DP P n l mk Q (fun _=>True) ord U w.drew) (hdep:nZ 0 l=true:=by exact rfl) (hc:zS n l mk ord=true:=by kernel_rfl):RC P n (.region id l.toArray true) U w Q:=RC.zT (hc:=hc) _ hm hdep mk ord trivial h
end
end Go.Gk
namespace Go.Gk
open Go
def yz (m:Nat):List Nat->Bool
 | []=>true
 | i::l=>Nat.blt i m&& !(l.any fun j=>Nat.beq i j)&&yz m l
theorem qu {m:Nat}: ∀{l:List Nat},yz m l=true->l.Nodup/\∀i∈l,i<m
 | [],_=>⟨List.nodup_nil,fun i h=>by cases h⟩
 | a::l,h=>by
  unfold yz at h
  simp only [cC,Bool.not_eq_true'] at h
  obtain⟨h1,h2⟩:=qu h.2
  refine⟨List.nodup_cons.2 ⟨fun hm=>?_,h1⟩,fun i hi=>?_⟩
  ·have: (l.any fun b=>Nat.beq a b)=true:=jJ.2 ⟨a,hm,Nat.beq_refl a⟩
   rw [this] at h;cases h.1.2
  ·rcases ja.1 hi with e | hi
   ·rw [e];exact Nat.blt_eq▸h.1.1
   ·exact h2 i hi
section
variable {E w:World} {V Γ0 new:List HP}
theorem Holds.pk (h:Holds E w V) (m:Nat) (idx:List Nat) (e: (V.drop m,idx.map (fun i=>V[i]?),yz m idx)= (Γ0,new.map some,true):=by exact rfl):Holds E w (new++Γ0):=by
 injection e with e1 e;injection e with e2 e3
 exact h.pick m idx e1 e2 (qu e3).1 (qu e3).2
def Cu (m:Nat) (idx:List Nat) (V:List HP):List HP:=idx.map (fun i=>V.getD i bB)++V.drop m
theorem Holds.pl (h:Holds E w V) (m:Nat) (idx:List Nat) (e: (yz m idx&&(idx.all fun i=>Nat.blt i V.length))=true):Holds E w (Cu m idx V):=by
 rw [cC] at e
 refine h.pick m idx rfl ?_ (qu e.1).1 (qu e.1).2
 simp_all
end
section
variable {P:Program} {n:Nat} {l:List Oper} {mk:List Nat} {Q:d7} {U:Nat->Value} {w:World} {i:Nat} {rest:List Nat} {o:Oper} {ops:Array Oper} {S:World->Prop}
theorem eM (ho:l[i]? =some o) (h:RL P n l.toArray [o] U w (fun ex σ' w'=>ex = .normal/\w'=w/\DP P n l mk Q S rest σ' w)) (hm:mk.getD i 0=0:=by exact rfl):RL P n ops [] U w (fun ex σ' w'=>ex = .normal/\w'=w/\DP P n l mk Q S (i::rest) σ' w):=DP.d0 (DP.e0 ho hm h)
theorem wg (ho:l[i]? =some o) (h:RL P n l.toArray [o] U w (fun ex σ' w'=>ex = .normal/\S w'/\DP P n l mk Q S rest σ' w')) (hm:mk.getD i 0=2:=by exact rfl):RL P n ops [] U w (fun ex σ' w'=>ex = .normal/\w'=w/\DP P n l mk Q S (i::rest) σ' w):=DP.d0 (DP.e2 ho hm h)
theorem Bp (ho:l[i]? =some o) (h:RL P n l.toArray [o] U w (fun ex σ' w'=>ex = .normal/\w'=w/\DP P n l mk Q S rest σ' w)) (hS:S w:=by exact trivial) (hm:mk.getD i 0=0:=by exact rfl):RL P n ops [] U w (fun ex σ' w'=>ex = .normal/\S w'/\DP P n l mk Q S (i::rest) σ' w'):=by simp_all [DP.d2,DP.e0]
theorem E1 (hS:S w) (ho:l[i]? =some o) (hm:mk.getD i 0=2) (h:RL P n l.toArray [o] U w (fun ex σ' w'=>ex = .normal/\S w'/\DP P n l mk Q S rest σ' w')):RL P n ops [] U w (fun ex σ' w'=>ex = .normal/\S w'/\DP P n l mk Q S (i::rest) σ' w'):=by simp_all [DP.d2,DP.e2]
end
theorem Fb {P:Program} {n:Nat} {q:Operand} {x y:Code} {U:Nat->Value} {w:World} {Q:d7} {β:Type} {b:Bool} {A B:Option β} {r:β} (hb: (bif b then A else B)=some r) (hc:ev U q = .bool b)
  (ht:b=true->A=some r->RC P n x U w Q) (hf:b=false->B=some r->RC P n y U w Q):RC P n (.cond q x y) U w Q:=
 by grind [RC.cond]
theorem iW {G:Prop} {β:Type} {b:Bool} {A B:Option β} {r:β} (hb: (bif b then A else B)=some r) (ht:b=true->A=some r->G) (hf:b=false->B=some r->G):G:=by
 grind
end Go.Gk
namespace Go.Gk
open Go
section
variable {α β:Type} [GT α] [GT β] {E w:World} {V:List HP} {P:Program} {n:Nat} {l:List Oper} {mk:List Nat} {Q:d7} {U:Nat->Value} {i j0:Nat} {rest:List Nat} {S:World->Prop}
variable {d:Nat} {ty:TypeId} {pos:String} {af:Array Edge} {g:Option (Nat×Bool)} {q r:Operand} {T e:TypeId} {x:α} {p:Value}
end
def SH (E:World) (V:List HP) (l:List (Nat×Value)) (G:List HP) (U:Nat->Value) (w:World):Prop:=∃O,U=pq l O/\Holds E w (G++V)
theorem sh {U:Nat->Value} {w E:World} {l:List (Nat×Value)} {G V:List HP} (h:agree U l) (hw:Holds E w (G++V)):SH E V l G U w:=by
 obtain⟨O,e⟩:=h.pq
 exact⟨O,e,hw⟩
end Go.Gk
namespace Go.Gk
open Go
theorem x0 {U:Nat->Value}: ∀{l:List (Nat×Value)},l.map (fun p=>U p.1)=l.map (fun p=>p.2)->agree U l
 | [],_=>True.intro
 | (d,v)::l,h=>by
  rw [iJ,iJ] at h
  injection h with h1 h2
  exact⟨h1,x0 h2⟩
section
variable {P:Program} {n:Nat} {U:Nat->Value} {w:World} {Q:d7} {E:World} {V Γ1 new:List HP} {ops:Array Oper} {rest:List Oper} {d t j:Nat} {ty:TypeId} {pos:String} {af:Array Edge} {g:Option (Nat×Bool)} {x y z:Operand} {op:Op}
theorem bS {a b:Bool} (h:a = !b) (k:RL P n ops rest (cS U d undef) w Q) (ht: (ops[j]?).bind (·.dst)=some t:=by exact rfl) (hv:U t = .bool a:=by exact rfl) (hd:Nat.blt d n=true:=by exact rfl):
  RL P n ops (⟨some d,op,ty,pos,af,some (j,b)⟩::rest) U w Q:=sk ht (.inl (hv.trans (cb h))) hd k
theorem xp {b:Bool} (k:RL P n ops rest (cS U d undef) w Q) (ht: (ops[j]?).bind (·.dst)=some t:=by exact rfl) (hv:U t = .bool (!b):=by exact rfl) (hd:Nat.blt d n=true:=by exact rfl):
  RL P n ops (⟨some d,op,ty,pos,af,some (j,b)⟩::rest) U w Q:=sk ht (.inl hv) hd k
theorem qw {b:Bool} (k:RL P n ops rest (cS U d undef) w Q) (ht: (ops[j]?).bind (·.dst)=some t:=by exact rfl) (hv:U t=undef:=by exact rfl) (hd:Nat.blt d n=true:=by exact rfl):
  RL P n ops (⟨some d,op,ty,pos,af,some (j,b)⟩::rest) U w Q:=sk ht (.inr hv) hd k
theorem iQ {b c:Bool} (h:b=c) (v:Value) (k:RL P n ops rest (cS U d v) w Q) (hg:Wn ops U g:=by exact trivial) (hd:Nat.blt d n=true:=by exact rfl) (hx:ev U x = .bool b:=by exact rfl) (hv: (if c=true then ev U y else ev U z)=v:=by exact rfl):
  RL P n ops (⟨some d, .pick x y z,ty,pos,af,g⟩::rest) U w Q:=by grind [RL.pick]
theorem Holds.sp {l:List (Nat×Value)} (h:Holds E w Γ1) (m:Nat) (idx:List Nat) (e: (Γ1.drop m,idx.map (fun i=>Γ1[i]?),yz m idx)= (V,new.map some,true):=by exact rfl)
  (ha:l.map (fun p=>U p.1)=l.map (fun p=>p.2):=by exact rfl):SH E V l new U w:=sh (x0 ha) (h.pk (e:=e) m idx)
end
section
variable {S T γ:Type} [GT S] [GT T] [GT γ] {m:Nat}
theorem Fd.v {r:S->γ} (g:S->T) {f:T->γ} (h:Fd m f) (ho: ∀M cs x,GT.ok (α:=S) M cs x=GT.ok M cs (g x):=by exact fun _ _ _=>rfl) (e: ∀x,f (g x)=r x:=by exact fun _=>rfl):Fd m r:=fun M cs x hx=>by
 rw [<-e];exact h M cs (g x) (ho M cs x▸hx)
theorem Fs.v {r:S->γ->S} (g:S->T) {f:T->γ->T} (h:Fs m γ f) (ho: ∀M cs x,GT.ok (α:=S) M cs x=GT.ok M cs (g x):=by exact fun _ _ _=>rfl) (e: ∀x y,f (g x) y=g (r x y):=by exact fun _ _=>rfl):Fs m γ r:=fun M cs ds x y hx hy=>by
 rw [ho,<-e];exact h M cs ds (g x) y (ho M cs x▸hx) hy
end
section
variable {P:Program} {T e i k m f:Nat} {fn:Func} {ag:Bool} {zs:List Value}
theorem fC {f:FuncId} (h:P.funcs[f]? =some fn) (h1: (fn.name== "runtime.NumGoroutine")=false:=by kernel_rfl) (h2:fn.body.isNone=false:=by exact rfl):eY P f:=⟨fun _ _=>uA h h1 h2⟩
theorem rU {T:TypeId} (h: ∀a w,(Instr.fieldAt T (.pointer (some a)) i).run P w = .ok (.pointer (some (a.add k))) w:=by intro _ _;kernel_rfl):qb P T i k:=⟨h⟩
theorem sd {T:TypeId} (h: ∀w,(isAgg T).run P w = .ok ag w:=by intro _;kernel_rfl) (h2: ∀w,(sizeOf T).run P w = .ok k w:=by intro _;kernel_rfl):ki P T ag k:=⟨h,h2⟩
theorem yA {T e:TypeId} (h:P.underlying T=some (.slice e):=by kernel_rfl) (h2: ∀w,(sizeOf e).run P w = .ok k w:=by intro _;kernel_rfl):oJ P T e k:=⟨h,h2⟩
theorem yB {e:TypeId} (z:Value) (h: ∀w,(zeroValue e).run P w = .ok z w:=by intro _;kernel_rfl) (h1:z.cells.size=m:=by exact rfl) (h2: ∀w,(sizeOf e).run P w = .ok m w:=by intro _;kernel_rfl):xf P e m:=⟨⟨z,h,h1⟩,h2⟩
end
section
variable {l:List Oper} {D:Nat->Bool} {U:Nat->Value} {j d n:Nat} {v v':Value} {dv:List (Nat×Nat×Value)} {ag:List (Nat×Value)}
theorem nh (hcl:mW l D) (hD:D j=false) (K:Nat) (h: ((l[K]?).any fun o=>qq o j)=true:=by exact rfl):D K=false:=nf fun h1=>by
 cases ho:l[K]? with
 | none=>rw [ho] at h;cases h
 | some o=>
  rw [ho] at h
  have:=jw (hcl K o ho h1) h
  rw [hD] at this;cases this
theorem r9 (h: ∀i,i<n->D i=true) (i:Nat) (hi:Nat.blt i n=true:=by exact rfl):D i=true:=h i (Nat.blt_eq.mp hi)
theorem cA.pu (h:cA D U dv) (k:Nat) (h1:dv[k]? =some (j,d,v):=by exact rfl) (h2:sB j d k dv=true:=by exact rfl):cA (ins D j) (cS U d v') (dv.set k (j,d,v')):=h.put k h1 h2
theorem cA.n1 (h:cA D U dv) (h1: (dv.all fun x=> !Nat.beq x.1 j)=true:=by exact rfl):cA (ins D j) U dv:=h.no h1
theorem agree.u (h:agree U ag) (h1:lZ d ag=true:=by exact rfl):agree (cS U d v) ag:=h.up h1
end
end Go.Gk
namespace Go.Gk
open Go
def Cv:List (Nat×Value)->Bool
 | []=>true
 | (d,_)::l=>lZ d l&&Cv l
theorem tX {d:Nat}: ∀{l k:List (Nat×Value)},lZ d (l++k)=true->lZ d l=true/\lZ d k=true
 | [],_,h=>⟨rfl,h⟩
 | (t,v)::l,k,h=>by
  have h: (!Nat.beq t d&&lZ d (l++k))=true:=h
  rw [cC] at h
  have:=tX h.2
  exact⟨by show (!Nat.beq t d&&lZ d l)=true;rw [cC];exact⟨h.1,this.1⟩,this.2⟩
theorem tY {O:Nat->Value}: ∀{l:List (Nat×Value)},Cv l=true->agree (pq l O) l
 | [],_=>trivial
 | (d,v)::l,h=>by
  have h: (lZ d l&&Cv l)=true:=h
  rw [cC] at h
  refine⟨?_,(tY h.2).up h.1⟩
  show (bif Nat.beq d d then v else _)=v
  rw [Nat.beq_refl];rfl
theorem tZ {U:Nat->Value}: ∀{l k:List (Nat×Value)},agree U (l++k)->agree U l
 | [],_,_=>trivial
 | (d,v)::l,k,h=>⟨h.1,tZ h.2⟩
section
variable {S R X Y β:Type} {res:β} {P:Program} {n:Nat} {U:Nat->Value} {w E:World} {Q:d7} {z:Code} {b0 id d A B:Nat} {T T' ty:TypeId} {pos:String} {af:Array Edge} {V:List HP}
theorem SH.out {W L:List (Nat×Value)} {C:List HP} {U:Nat->Value} {w:World} (h:SH E V (W++L) C U w) (hf: (lZ d (W++L)&&Cv (W++L))=true) (v:Value):SH E V W C (cS U d v) w:=by
 obtain⟨O,rfl,hw⟩:=h
 rw [cC] at hf
 exact sh ((tZ (tY hf.2)).up (tX hf.1).1) hw
theorem qx {U:Nat->Value} {v:Value}:ev (cS U d v) (.tmp d)=v:=by
 show (bif Nat.beq d d then v else U d)=v
 rw [Nat.beq_refl];rfl
abbrev cl (id d A B b0:Nat) (T T' ty:TypeId) (pos:String) (af:Array Edge) (z:Code):Code:= .block b0 (.loop (.seq (.region id [(⟨some d, .binOp .lss T (.tmp A) (.tmp B) T',ty,pos,af,none⟩:Oper)].toArray false) (.seq (.cond (.tmp d) .skip (.exit b0)) z)))
def lv (d A B k m:Nat) (l:List (Nat×Value)):Prop:=(lZ d l&&Cv l)=true/\(∀O,pq l O A = .int .i64 (k:Int))/\∀O,pq l O B = .int .i64 (m:Int)
theorem SH.hd {d A B k m:Nat} {l C} {U:Nat->Value} {w:World} (h:SH E V l C U w) (hl:lv d A B k m l):U A = .int .i64 (k:Int)/\U B = .int .i64 (m:Int):=by
 obtain⟨O,rfl,_⟩:=h
 exact⟨hl.2.1 O,hl.2.2 O⟩
theorem RC.hd {I:Nat->S->(Nat->Value)->World->Prop} {J:S->(Nat->Value)->World->Prop} {K:R->(Nat->Value)->World->Prop}
  {body:Nat->S->Option (Fl S R)} {f:S->Option β} {g:R->Option β} {m:Nat} {s0:S} (hb: ((kW m body s0).bind fun o=>o.cs f g)=some res) (h0:I 0 s0 U w) (hd:Nat.blt d n=true)
  (hJ: ∀s U v w,I m s U w->J s (cS U d v) w) (hx: ∀k s U w,I k s U w->U A = .int .i64 (k:Int)/\U B = .int .i64 (m:Int))
  (step:m<=4611686018427387904->∀k s fl U w,k<m->I k s U w->body k s=some fl->RC P n z (cS U d (.bool (decide ((k:Int)< (m:Int))))) w (zz I b0 J K k fl))
  (hrt: ∀r U w,g r=some res->K r U w->Q .ret U w) (hgo: ∀s U w,f s=some res->J s U w->Q .normal U w):RC P n (cl id d A B b0 T T' ty pos af z) U w Q:=by
 obtain⟨out,hN,hb⟩:=bd hb
 exact RC.range I J K hN h0
  (fun hm s U w h=>RC.sr (ic (hd:=hd) (hx:=(hx m s U w h).1) (hy:=(hx m s U w h).2) (K:= .i64) m m (RL.nq (RC.xg (qx.trans Dm) (RC.ex ⟨rfl,hJ s U _ w h⟩)))))
  (fun hm k s fl U w hk h hb=>RC.sr (ic (hd:=hd) (hx:=(hx k s U w h).1) (hy:=(hx k s U w h).2) (K:= .i64) k m (RL.nq (RC.sy (qx.trans (Dl hk)) (RC.sn (step hm k s fl U w hk h hb)))))) (fun r U w e=>by subst e;exact hrt r U w hb) (fun s U w e=>by subst e;exact hgo s U w hb)
theorem RC.hf {I:Nat->S->(Nat->Value)->World->Prop} {J:S->(Nat->Value)->World->Prop}
  {body:Nat->S->Option S} {f:S->Option β} {m:Nat} {s0:S} (hb: (iY m body s0).bind f=some res) (h0:I 0 s0 U w) (hd:Nat.blt d n=true)
  (hJ: ∀s U v w,I m s U w->J s (cS U d v) w) (hx: ∀k s U w,I k s U w->U A = .int .i64 (k:Int)/\U B = .int .i64 (m:Int))
  (step:m<=4611686018427387904->∀k s s' U w,k<m->I k s U w->body k s=some s'->RC P n z (cS U d (.bool (decide ((k:Int)< (m:Int))))) w (fun ex U w=>ex = .normal/\I (k+1) s' U w))
  (hgo: ∀s U w,f s=some res->J s U w->Q .normal U w):RC P n (cl id d A B b0 T T' ty pos af z) U w Q:=by
 obtain⟨out,hN,hb⟩:=bd hb
 exact RC.fold I J hN h0
  (fun hm s U w h=>RC.sr (ic (hd:=hd) (hx:=(hx m s U w h).1) (hy:=(hx m s U w h).2) (K:= .i64) m m (RL.nq (RC.xg (qx.trans Dm) (RC.ex ⟨rfl,hJ s U _ w h⟩)))))
  (fun hm k s fl U w hk h hb=>RC.sr (ic (hd:=hd) (hx:=(hx k s U w h).1) (hy:=(hx k s U w h).2) (K:= .i64) k m (RL.nq (RC.sy (qx.trans (Dl hk)) (RC.sn (step hm k s fl U w hk h hb)))))) (fun U w=>hgo out U w hb)
theorem RC.f0 (E:World) (V:List HP) (C:S->List HP) (W:S->List (Nat×Value)) (L:Nat->S->List (Nat×Value)) {body:Nat->S->Option S} {f:S->Option β} {m:Nat} {s0:S} (hb: (iY m body s0).bind f=some res) (h0:SH E V (W s0++L 0 s0) (C s0) U w)
  (step:m<=4611686018427387904->∀k s s' U w,k<m->SH E V (W s++L k s) (C s) U w->body k s=some s'->RC P n z (cS U d (.bool (decide ((k:Int)< (m:Int))))) w (fun ex U w=>ex = .normal/\SH E V (W s'++L (k+1) s') (C s') U w))
  (hgo: ∀s U w,f s=some res->SH E V (W s) (C s) U w->Q .normal U w) (hd:Nat.blt d n=true:=by exact rfl) (hl: ∀k s,lv d A B k m (W s++L k s):=by exact fun _ _=>⟨rfl,fun _=>rfl,fun _=>rfl⟩):RC P n (cl id d A B b0 T T' ty pos af z) U w Q:=
 RC.hf (I:=fun k s U w=>SH E V (W s++L k s) (C s) U w) (J:=fun s U w=>SH E V (W s) (C s) U w) hb h0 hd (fun s U v w h=>h.out (hl m s).1 v) (fun k s U w h=>h.hd (hl k s)) step hgo
theorem RC.r0 (E:World) (V:List HP) (C:S->List HP) (W:S->List (Nat×Value)) (L:Nat->S->List (Nat×Value)) (K:R->(Nat->Value)->World->Prop) {body:Nat->S->Option (Fl S R)} {f:S->Option β} {g:R->Option β} {m:Nat} {s0:S} (hb: ((kW m body s0).bind fun o=>o.cs f g)=some res) (h0:SH E V (W s0++L 0 s0) (C s0) U w)
  (step:m<=4611686018427387904->∀k s fl U w,k<m->SH E V (W s++L k s) (C s) U w->body k s=some fl->RC P n z (cS U d (.bool (decide ((k:Int)< (m:Int))))) w (zz (fun k s U w=>SH E V (W s++L k s) (C s) U w) b0 (fun s U w=>SH E V (W s) (C s) U w) K k fl))
  (hrt: ∀r U w,g r=some res->K r U w->Q .ret U w) (hgo: ∀s U w,f s=some res->SH E V (W s) (C s) U w->Q .normal U w) (hd:Nat.blt d n=true:=by exact rfl) (hl: ∀k s,lv d A B k m (W s++L k s):=by exact fun _ _=>⟨rfl,fun _=>rfl,fun _=>rfl⟩):RC P n (cl id d A B b0 T T' ty pos af z) U w Q:=
 RC.hd (I:=fun k s U w=>SH E V (W s++L k s) (C s) U w) (J:=fun s U w=>SH E V (W s) (C s) U w) hb h0 hd (fun s U v w h=>h.out (hl m s).1 v) (fun k s U w h=>h.hd (hl k s)) step hrt hgo
theorem RC.i0 {c:Code} (E:World) (V:List HP) (C:S->List HP) (W L:S->List (Nat×Value)) (K:R->(Nat->Value)->World->Prop) {body:S->Option (Fl S R)} {f:S->Option β} {g:R->Option β} {N:Nat} {s0:S} (hb: ((lh body N s0).bind fun o=>o.cs f g)=some res) (h0:SH E V (W s0++L s0) (C s0) U w)
  (step: ∀s fl U w,SH E V (W s++L s) (C s) U w->body s=some fl->RC P n c U w (xe (fun s U w=>SH E V (W s++L s) (C s) U w) b0 (fun s U w=>SH E V (W s) (C s) U w) K fl))
  (hrt: ∀r U w,g r=some res->K r U w->Q .ret U w) (hgo: ∀s U w,f s=some res->SH E V (W s) (C s) U w->Q .normal U w):RC P n (.block b0 (.loop c)) U w Q:=by
 obtain⟨out,hN,hb⟩:=bd hb
 exact RC.iter _ _ K hN h0 step (fun r U w e=>by subst e;exact hrt r U w hb) (fun s U w e=>by subst e;exact hgo s U w hb)
theorem RC.e0 {c:Code} (E:World) (V:List HP) (C:S->List HP) (W L:S->List (Nat×Value)) {body:S->Option (Fl S Empty)} {f:S->Option β} {g:Empty->Option β} {N:Nat} {s0:S} (hb: ((lh body N s0).bind fun o=>o.cs f g)=some res) (h0:SH E V (W s0++L s0) (C s0) U w)
  (step: ∀s fl U w,SH E V (W s++L s) (C s) U w->body s=some fl->RC P n c U w (xe (fun s U w=>SH E V (W s++L s) (C s) U w) b0 (fun s U w=>SH E V (W s) (C s) U w) (fun r _ _=>r.elim) fl))
  (hgo: ∀s U w,f s=some res->SH E V (W s) (C s) U w->Q .normal U w):RC P n (.block b0 (.loop c)) U w Q:=
 RC.i0 E V C W L (fun r _ _=>r.elim) hb h0 step (fun r _ _ _=>r.elim) hgo
theorem RC.f1 (E:World) (V:List HP) (C:S->X->List HP) (W:S->X->List (Nat×Value)) (L:Nat->S->X->List (Nat×Value)) {body:Nat->S->Option S} {f:S->Option β} {m:Nat} {s0:S} (hb: (iY m body s0).bind f=some res) (h0: (∃x,SH E V (W s0 x++L 0 s0 x) (C s0 x) U w))
  (step:m<=4611686018427387904->∀k s s' U w,k<m->(∃x,SH E V (W s x++L k s x) (C s x) U w)->body k s=some s'->RC P n z (cS U d (.bool (decide ((k:Int)< (m:Int))))) w (fun ex U w=>ex = .normal/\(∃x,SH E V (W s' x++L (k+1) s' x) (C s' x) U w)))
  (hgo: ∀s U w,f s=some res->(∃x,SH E V (W s x) (C s x) U w)->Q .normal U w) (hd:Nat.blt d n=true:=by exact rfl) (hl: ∀k s x,lv d A B k m (W s x++L k s x):=by exact fun _ _ _=>⟨rfl,fun _=>rfl,fun _=>rfl⟩):RC P n (cl id d A B b0 T T' ty pos af z) U w Q:=
 RC.hf (I:=fun k s U w=>(∃x,SH E V (W s x++L k s x) (C s x) U w)) (J:=fun s U w=>(∃x,SH E V (W s x) (C s x) U w)) hb h0 hd (fun s U v w ⟨x,h⟩=>⟨x,h.out (hl m s x).1 v⟩) (fun k s U w ⟨x,h⟩=>h.hd (hl k s x)) step hgo
theorem RC.r1 (E:World) (V:List HP) (C:S->X->List HP) (W:S->X->List (Nat×Value)) (L:Nat->S->X->List (Nat×Value)) (K:R->(Nat->Value)->World->Prop) {body:Nat->S->Option (Fl S R)} {f:S->Option β} {g:R->Option β} {m:Nat} {s0:S} (hb: ((kW m body s0).bind fun o=>o.cs f g)=some res) (h0: (∃x,SH E V (W s0 x++L 0 s0 x) (C s0 x) U w))
  (step:m<=4611686018427387904->∀k s fl U w,k<m->(∃x,SH E V (W s x++L k s x) (C s x) U w)->body k s=some fl->RC P n z (cS U d (.bool (decide ((k:Int)< (m:Int))))) w (zz (fun k s U w=>(∃x,SH E V (W s x++L k s x) (C s x) U w)) b0 (fun s U w=>(∃x,SH E V (W s x) (C s x) U w)) K k fl))
  (hrt: ∀r U w,g r=some res->K r U w->Q .ret U w) (hgo: ∀s U w,f s=some res->(∃x,SH E V (W s x) (C s x) U w)->Q .normal U w) (hd:Nat.blt d n=true:=by exact rfl) (hl: ∀k s x,lv d A B k m (W s x++L k s x):=by exact fun _ _ _=>⟨rfl,fun _=>rfl,fun _=>rfl⟩):RC P n (cl id d A B b0 T T' ty pos af z) U w Q:=
 RC.hd (I:=fun k s U w=>(∃x,SH E V (W s x++L k s x) (C s x) U w)) (J:=fun s U w=>(∃x,SH E V (W s x) (C s x) U w)) hb h0 hd (fun s U v w ⟨x,h⟩=>⟨x,h.out (hl m s x).1 v⟩) (fun k s U w ⟨x,h⟩=>h.hd (hl k s x)) step hrt hgo
theorem RC.i1 {c:Code} (E:World) (V:List HP) (C:S->X->List HP) (W L:S->X->List (Nat×Value)) (K:R->(Nat->Value)->World->Prop) {body:S->Option (Fl S R)} {f:S->Option β} {g:R->Option β} {N:Nat} {s0:S} (hb: ((lh body N s0).bind fun o=>o.cs f g)=some res) (h0: (∃x,SH E V (W s0 x++L s0 x) (C s0 x) U w))
  (step: ∀s fl U w,(∃x,SH E V (W s x++L s x) (C s x) U w)->body s=some fl->RC P n c U w (xe (fun s U w=>(∃x,SH E V (W s x++L s x) (C s x) U w)) b0 (fun s U w=>(∃x,SH E V (W s x) (C s x) U w)) K fl))
  (hrt: ∀r U w,g r=some res->K r U w->Q .ret U w) (hgo: ∀s U w,f s=some res->(∃x,SH E V (W s x) (C s x) U w)->Q .normal U w):RC P n (.block b0 (.loop c)) U w Q:=by
 obtain⟨out,hN,hb⟩:=bd hb
 exact RC.iter _ _ K hN h0 step (fun r U w e=>by subst e;exact hrt r U w hb) (fun s U w e=>by subst e;exact hgo s U w hb)
theorem RC.e1 {c:Code} (E:World) (V:List HP) (C:S->X->List HP) (W L:S->X->List (Nat×Value)) {body:S->Option (Fl S Empty)} {f:S->Option β} {g:Empty->Option β} {N:Nat} {s0:S} (hb: ((lh body N s0).bind fun o=>o.cs f g)=some res) (h0: (∃x,SH E V (W s0 x++L s0 x) (C s0 x) U w))
  (step: ∀s fl U w,(∃x,SH E V (W s x++L s x) (C s x) U w)->body s=some fl->RC P n c U w (xe (fun s U w=>(∃x,SH E V (W s x++L s x) (C s x) U w)) b0 (fun s U w=>(∃x,SH E V (W s x) (C s x) U w)) (fun r _ _=>r.elim) fl))
  (hgo: ∀s U w,f s=some res->(∃x,SH E V (W s x) (C s x) U w)->Q .normal U w):RC P n (.block b0 (.loop c)) U w Q:=
 RC.i1 E V C W L (fun r _ _=>r.elim) hb h0 step (fun r _ _ _=>r.elim) hgo
theorem RC.f2 (E:World) (V:List HP) (C:S->X->Y->List HP) (W:S->X->Y->List (Nat×Value)) (L:Nat->S->X->Y->List (Nat×Value)) {body:Nat->S->Option S} {f:S->Option β} {m:Nat} {s0:S} (hb: (iY m body s0).bind f=some res) (h0: (∃x y,SH E V (W s0 x y++L 0 s0 x y) (C s0 x y) U w))
  (step:m<=4611686018427387904->∀k s s' U w,k<m->(∃x y,SH E V (W s x y++L k s x y) (C s x y) U w)->body k s=some s'->RC P n z (cS U d (.bool (decide ((k:Int)< (m:Int))))) w (fun ex U w=>ex = .normal/\(∃x y,SH E V (W s' x y++L (k+1) s' x y) (C s' x y) U w)))
  (hgo: ∀s U w,f s=some res->(∃x y,SH E V (W s x y) (C s x y) U w)->Q .normal U w) (hd:Nat.blt d n=true:=by exact rfl) (hl: ∀k s x y,lv d A B k m (W s x y++L k s x y):=by exact fun _ _ _ _=>⟨rfl,fun _=>rfl,fun _=>rfl⟩):RC P n (cl id d A B b0 T T' ty pos af z) U w Q:=
 RC.hf (I:=fun k s U w=>(∃x y,SH E V (W s x y++L k s x y) (C s x y) U w)) (J:=fun s U w=>(∃x y,SH E V (W s x y) (C s x y) U w)) hb h0 hd (fun s U v w ⟨x,y,h⟩=>⟨x,y,h.out (hl m s x y).1 v⟩) (fun k s U w ⟨x,y,h⟩=>h.hd (hl k s x y)) step hgo
theorem RC.r2 (E:World) (V:List HP) (C:S->X->Y->List HP) (W:S->X->Y->List (Nat×Value)) (L:Nat->S->X->Y->List (Nat×Value)) (K:R->(Nat->Value)->World->Prop) {body:Nat->S->Option (Fl S R)} {f:S->Option β} {g:R->Option β} {m:Nat} {s0:S} (hb: ((kW m body s0).bind fun o=>o.cs f g)=some res) (h0: (∃x y,SH E V (W s0 x y++L 0 s0 x y) (C s0 x y) U w))
  (step:m<=4611686018427387904->∀k s fl U w,k<m->(∃x y,SH E V (W s x y++L k s x y) (C s x y) U w)->body k s=some fl->RC P n z (cS U d (.bool (decide ((k:Int)< (m:Int))))) w (zz (fun k s U w=>(∃x y,SH E V (W s x y++L k s x y) (C s x y) U w)) b0 (fun s U w=>(∃x y,SH E V (W s x y) (C s x y) U w)) K k fl))
  (hrt: ∀r U w,g r=some res->K r U w->Q .ret U w) (hgo: ∀s U w,f s=some res->(∃x y,SH E V (W s x y) (C s x y) U w)->Q .normal U w) (hd:Nat.blt d n=true:=by exact rfl) (hl: ∀k s x y,lv d A B k m (W s x y++L k s x y):=by exact fun _ _ _ _=>⟨rfl,fun _=>rfl,fun _=>rfl⟩):RC P n (cl id d A B b0 T T' ty pos af z) U w Q:=
 RC.hd (I:=fun k s U w=>(∃x y,SH E V (W s x y++L k s x y) (C s x y) U w)) (J:=fun s U w=>(∃x y,SH E V (W s x y) (C s x y) U w)) hb h0 hd (fun s U v w ⟨x,y,h⟩=>⟨x,y,h.out (hl m s x y).1 v⟩) (fun k s U w ⟨x,y,h⟩=>h.hd (hl k s x y)) step hrt hgo
theorem RC.i2 {c:Code} (E:World) (V:List HP) (C:S->X->Y->List HP) (W L:S->X->Y->List (Nat×Value)) (K:R->(Nat->Value)->World->Prop) {body:S->Option (Fl S R)} {f:S->Option β} {g:R->Option β} {N:Nat} {s0:S} (hb: ((lh body N s0).bind fun o=>o.cs f g)=some res) (h0: (∃x y,SH E V (W s0 x y++L s0 x y) (C s0 x y) U w))
  (step: ∀s fl U w,(∃x y,SH E V (W s x y++L s x y) (C s x y) U w)->body s=some fl->RC P n c U w (xe (fun s U w=>(∃x y,SH E V (W s x y++L s x y) (C s x y) U w)) b0 (fun s U w=>(∃x y,SH E V (W s x y) (C s x y) U w)) K fl))
  (hrt: ∀r U w,g r=some res->K r U w->Q .ret U w) (hgo: ∀s U w,f s=some res->(∃x y,SH E V (W s x y) (C s x y) U w)->Q .normal U w):RC P n (.block b0 (.loop c)) U w Q:=by
 obtain⟨out,hN,hb⟩:=bd hb
 exact RC.iter _ _ K hN h0 step (fun r U w e=>by subst e;exact hrt r U w hb) (fun s U w e=>by subst e;exact hgo s U w hb)
theorem RC.e2 {c:Code} (E:World) (V:List HP) (C:S->X->Y->List HP) (W L:S->X->Y->List (Nat×Value)) {body:S->Option (Fl S Empty)} {f:S->Option β} {g:Empty->Option β} {N:Nat} {s0:S} (hb: ((lh body N s0).bind fun o=>o.cs f g)=some res) (h0: (∃x y,SH E V (W s0 x y++L s0 x y) (C s0 x y) U w))
  (step: ∀s fl U w,(∃x y,SH E V (W s x y++L s x y) (C s x y) U w)->body s=some fl->RC P n c U w (xe (fun s U w=>(∃x y,SH E V (W s x y++L s x y) (C s x y) U w)) b0 (fun s U w=>(∃x y,SH E V (W s x y) (C s x y) U w)) (fun r _ _=>r.elim) fl))
  (hgo: ∀s U w,f s=some res->(∃x y,SH E V (W s x y) (C s x y) U w)->Q .normal U w):RC P n (.block b0 (.loop c)) U w Q:=
 RC.i2 E V C W L (fun r _ _=>r.elim) hb h0 step (fun r _ _ _=>r.elim) hgo
end
end Go.Gk
namespace Go.Gk
open Go
section
variable {P:Program} {n:Nat} {U:Nat->Value} {w E:World} {V:List HP} {D:Nat->Bool} {dv dv':List (Nat×Nat×Value)} {e e':Edge} {l:List Edge} {d d' j:Nat} {v v' u:Value} {ag:List (Nat×Value)} {ops:Array Oper}
theorem cA.o0 (h:cA D U dv) (k:Nat) (hp:jM D (e::l)) (h1:dv[k]? =some (e.on,d,v)) (hb:Region.binds .any e=true):U d=v:=h.at k h1 (hp.1 hb)
theorem cA.o1 (h:cA D U dv) (k:Nat) (hp:jM D (e::l)) (h1:dv[k]? =some (e.on,d,v):=by exact rfl) (hb:Region.binds .any e=true:=by exact rfl): ∃O,U=pq [(d,v)] O:=
 agree.pq (l:=[(d,v)]) ⟨h.o0 k hp h1 hb,trivial⟩
theorem cA.o2 (h:cA D U dv) (k m:Nat) (hp:jM D (e::e'::l)) (h1:dv[k]? =some (e.on,d,v):=by exact rfl) (hb:Region.binds .any e=true:=by exact rfl)
  (h2:dv[m]? =some (e'.on,d',v'):=by exact rfl) (hb2:Region.binds .any e'=true:=by exact rfl): ∃O,U=pq [(d,v),(d',v')] O:=
 agree.pq (l:=[(d,v),(d',v')]) ⟨h.o0 k hp h1 hb,h.o0 m hp.2 h2 hb2,trivial⟩
theorem Holds.nw {c:HP} (h:Holds E w (c::V)) (k:Nat) (hk:Nat.blt k V.length=true:=by exact rfl):Holds E w (V.set k (bif true then c else Gk.bB)):=by
 have hk:k<V.length:=Nat.blt_eq.mp hk
 have h2:=h.pick (V.length+1) ((List.range V.length).map fun i=>if i=k then 0 else i+1) (Γ0:=[]) (new:=V.set k c) (by simp) (by
  apply List.ext_getElem
  ·simp
  ·intro i h1 h2
   simp only [dD,List.length_range] at h1
   simp only [List.getElem_map,List.getElem_range,List.getElem_set]
   by_cases hi:i=k
   ·subst hi;simp
   ·simp [hi,Ne.symm hi]) (by
  rw [List.nodup_iff_pairwise_ne,List.pairwise_map]
  exact List.nodup_range.imp fun{a b} hab=>by
   by_cases ha:a=k <;> by_cases hb:b=k <;> simp [ha,hb] <;> omega) (by
  intro i hi
  rw [ez] at hi
  obtain⟨a,ha,rfl⟩:=hi
  rw [d5] at ha
  split <;> omega)
 rw [f9] at h2
 exact h2
theorem RL.ep {X:Type} {G:X->List HP} {f:X->List (Nat×Nat×Value)} (x:X) (k:Nat) (hv:cA D U dv) (ha:agree U ag) (hw:Holds E w (G x)) (h1:dv[k]? =some (j,d,v):=by exact rfl) (h2:sB j d k dv=true:=by exact rfl)
  (h3:f x=dv.set k (j,d,u):=by exact rfl) (h4:lZ d ag=true:=by exact rfl):RL P n ops [] (cS U d u) w (fun ex U w=>ex = .normal/\∃x,cA (ins D j) U (f x)/\agree U ag/\mq (ins D j) U []/\Holds E w (G x)):=
 RL.nil ⟨rfl,x,h3▸hv.put k h1 h2,ha.up h4,trivial,hw⟩
theorem RL.eo {X:Type} {G:X->List HP} {f:X->List (Nat×Nat×Value)} (x:X) (hv:cA D U dv) (ha:agree U ag) (hw:Holds E w (G x)) (h1: (dv.all fun x=> !Nat.beq x.1 j)=true:=by exact rfl)
  (h3:f x=dv:=by exact rfl):RL P n ops [] U w (fun ex U w=>ex = .normal/\∃x,cA (ins D j) U (f x)/\agree U ag/\mq (ins D j) U []/\Holds E w (G x)):=
 RL.nil ⟨rfl,x,h3▸hv.no h1,ha,trivial,hw⟩
end
section
variable {P:Program} {n:Nat} {U:Nat->Value} {w:World} {Q:d7} {d:Nat} {ops:Array Oper} {rest:List Oper} {ty:TypeId} {pos:String} {af:Array Edge} {q:Operand}
theorem aX (a:Int) (k:RL P n ops rest (cS U d (vi a)) w Q) (hd:Nat.blt d n=true:=by exact rfl) (hx:ev U q=vi a:=by exact rfl):RL P n ops (⟨some d, .move q,ty,pos,af,none⟩::rest) U w Q:=mv (hd:=hd) (hx:=hx) (vi a) k
theorem jG (a:Bool) (k:RL P n ops rest (cS U d (vb a)) w Q) (hd:Nat.blt d n=true:=by exact rfl) (hx:ev U q=vb a:=by exact rfl):RL P n ops (⟨some d, .move q,ty,pos,af,none⟩::rest) U w Q:=mv (hd:=hd) (hx:=hx) (vb a) k
theorem aI (a:Int) (k:RL P n ops rest (cS U d (vi a)) w Q) (hd:Nat.blt d n=true:=by exact rfl) (hx:ev U q=vi a:=by exact rfl):RL P n ops (⟨some d, .assign q,ty,pos,af,none⟩::rest) U w Q:=cT (hd:=hd) (hx:=hx) (vi a) k
theorem bY (a:Bool) (k:RL P n ops rest (cS U d (vb a)) w Q) (hd:Nat.blt d n=true:=by exact rfl) (hx:ev U q=vb a:=by exact rfl):RL P n ops (⟨some d, .assign q,ty,pos,af,none⟩::rest) U w Q:=cT (hd:=hd) (hx:=hx) (vb a) k
end
theorem dX {P:Program} {n:Nat} {q:Operand} {x y:Code} {U:Nat->Value} {w:World} {Q:d7} {β:Type} {b:Bool} {A B:Option β} {r:β} (hb: (bif b then A else B)=some r) (ht:A=some r->RC P n x U w Q) (hf:B=some r->RC P n y U w Q) (hc:ev U q = .bool b:=by exact rfl):RC P n (.cond q x y) U w Q:=Fb hb hc (fun _=>ht) fun _=>hf
section
variable {α:Type} [GT α] {P:Program} {n:Nat} {U:Nat->Value} {w:World} {Q:d7} {E:World} {V:List HP} {ops:Array Oper} {rest:List Oper} {d:Nat} {ty T e:TypeId} {pos:String} {af:Array Edge} {g:Option (Nat×Bool)} {v u:Value} {q r:Operand} {l:List α} {x y:α} {jj:Int} {vs:List Value}
theorem RL.cl {f:FuncId} {args:Array Operand} {ts:Array TypeId} {R:Value->World->Prop} (hf:eY P f) (h:Calls P f vs.toArray w (eT R)) (k: ∀v w',R v w'->RL P n ops rest (cS U d v) w' Q)
  (hg:Wn ops U g:=by exact trivial) (hd:Nat.blt d n=true:=by exact rfl) (hv:args.toList.map (ev U)=vs:=by exact rfl):RL P n ops (⟨some d, .call ⟨.value (.func f),args,ts⟩,ty,pos,af,g⟩::rest) U w Q:=
 RL.call hg hd hf vs hv (eg h k)
theorem RL.cs {f:FuncId} {args:Array Operand} {ts:Array TypeId} {S:World->Prop} (hf:eY P f) (h:Calls P f vs.toArray w (eT fun v w=>v=u/\S w)) (k: ∀w',S w'->RL P n ops rest (cS U d u) w' Q)
  (hg:Wn ops U g:=by exact trivial) (hd:Nat.blt d n=true:=by exact rfl) (hv:args.toList.map (ev U)=vs:=by exact rfl):RL P n ops (⟨some d, .call ⟨.value (.func f),args,ts⟩,ty,pos,af,g⟩::rest) U w Q:=
 RL.cl hf h (fun v w ⟨e,h⟩=>e▸k w h) hg hd hv
theorem RL.b1 {b:Nat} (i:Nat) (hw:Holds E w V) (hi:V[i]? =some (bx e b x)) (hT:ki P T (GT.agg α) (GT.sz α)) (k: ∀v,Holds E w (rd v x::V)->RL P n ops rest (cS U d v) w Q) (hg:Wn ops U g:=by exact trivial) (hd:Nat.blt d n=true:=by exact rfl)
  (hx:ev U q = .pointer (some ⟨b,0,none⟩):=by exact rfl):RL P n ops (⟨some d, .load T q,ty,pos,af,g⟩::rest) U w Q:=RL.bI (hg:=hg) (hd:=hd) (hx:=hx) (f:=fun x=>x) _ hw hi Fd.self hT k
theorem RL.l2 (i:Nat) (hw:Holds E w V) (h:idx l jj=some x) (hT:ki P T (GT.agg α) (GT.sz α)) (k: ∀v,Holds E w (rd v x::V)->RL P n ops rest (cS U d v) w Q) (hg:Wn ops U g:=by exact trivial) (hd:Nat.blt d n=true:=by exact rfl)
  (hi:V[i]? =some (own e v l):=by exact rfl) (hx:ev U q=tn v jj.toNat (GT.sz α) 0:=by exact rfl):RL P n ops (⟨some d, .load T q,ty,pos,af,g⟩::rest) U w Q:=
 RL.qj (f:=fun x=>x) hg hd hw hx (qY (hi:=hi) _ hw h 0) hi (cX h).2.1 Fd.self hT k
theorem RL.l1 {γ:Type} [Sc γ] {l:List γ} {x:γ} (i:Nat) (hw:Holds E w V) (h:idx l jj=some x) (hT:ki P T false 1) (k:RL P n ops rest (cS U d (Sc.toV x)) w Q) (hg:Wn ops U g:=by exact trivial) (hd:Nat.blt d n=true:=by exact rfl)
  (hi:V[i]? =some (own e v l):=by exact rfl) (hx:ev U q=tn v jj.toNat (GT.sz γ) 0:=by exact rfl):RL P n ops (⟨some d, .load T q,ty,pos,af,g⟩::rest) U w Q:=
 RL.fK (f:=fun x=>x) hg hd hw hx (qY (hi:=hi) _ hw h 0) hi (cX h).2.1 Fd.self hT k
theorem RL.s1 (i j:Nat) (hw:Holds E w V) (h:idx l jj=some x) (hT:ki P T (GT.agg α) (GT.sz α)) (k: ∀w',Holds E w' (V.set i (own e v (l.set jj.toNat y)))->RL P n ops rest U w' Q) (hg:Wn ops U g:=by exact trivial)
  (hi:V[i]? =some (own e v l):=by exact rfl) (hx:ev U q=tn v jj.toNat (GT.sz α) 0:=by exact rfl) (hy:ev U r=u:=by exact rfl) (hj:V[j]? =some (rd u y):=by exact rfl):RL P n ops (⟨none, .store T q r,ty,pos,af,g⟩::rest) U w Q:=
 RL.vN (f:=fun _ y=>y) hg hw hx hy (qY (hi:=hi) _ hw h 0) hi (cX h).2.1 hj Fs.self (by omega) hT k
end
theorem E2 (U:Nat->Value): ∃O,U=pq [] O:=⟨U,rfl⟩
end Go.Gk
namespace Go.Gk
open Go
section
variable {P:Program} {n:Nat} {U:Nat->Value} {w:World} {Q:d7} {ops:Array Oper} {rest:List Oper} {d:Nat} {ty T T':TypeId} {pos:String} {af:Array Edge} {v:Value} {x y z q:Operand}
theorem gx {C:Bool} (hq:ev U q=cv C v) (h:C=true):ev U q=v:=hq.trans (pF h)
theorem BO {C B:Bool} (hq:ev U q=cv C v) (h: (C&&B)=true):ev U q=v:=hq.trans (pF (zw h))
theorem xq {C B B':Bool} (hq:ev U q=cv C v) (h: ((C&&B)&&B')=true):ev U q=v:=hq.trans (pF (zw (zw h)))
theorem RL.g1 {j t:Nat} {want b:Bool} {op:Op} (v:Value) (ht: (ops[j]?).bind (·.dst)=some t) (hv:U t = .bool b)
  (hrun: (true&&(b==want))=true->(execOp (ev U) ⟨some d,op,ty,pos,af,some (j,want)⟩).run P w = .ok (.value v) w)
  (k:RL P n ops rest (cS U d (cv (true&&(b==want)) v)) w Q) (hd:Nat.blt d n=true:=by exact rfl):RL P n ops (⟨some d,op,ty,pos,af,some (j,want)⟩::rest) U w Q:=
 RL.gs true _ _ ht hv hd hrun k
theorem RL.g2 {j t:Nat} {c want b:Bool} {op:Op} (v:Value) (ht: (ops[j]?).bind (·.dst)=some t) (hv:U t=cv c (.bool b))
  (hrun: (c&&(b==want))=true->(execOp (ev U) ⟨some d,op,ty,pos,af,some (j,want)⟩).run P w = .ok (.value v) w)
  (k:RL P n ops rest (cS U d (cv (c&&(b==want)) v)) w Q) (hd:Nat.blt d n=true:=by exact rfl):RL P n ops (⟨some d,op,ty,pos,af,some (j,want)⟩::rest) U w Q:=
 RL.gs _ _ _ ht hv hd hrun k
theorem se {C:Bool} {o:Oper} (ho:o.op = .move x:=by exact rfl) (hx:C=true->ev U x=v:=by first | exact gx rfl | exact BO rfl | exact xq rfl | exact fun _=>rfl):C=true->(execOp (ev U) o).run P w = .ok (.value v) w:=AE ho hx
theorem vB {C:Bool} {o:Oper} {K:IntKind} {a b:Int} (bop:BinOp) (ho:o.op = .binOp bop T x y T':=by exact rfl) (hx:C=true->ev U x = .int K a:=by first | exact gx rfl | exact BO rfl | exact xq rfl | exact fun _=>rfl)
  (hy:C=true->ev U y = .int K b:=by first | exact gx rfl | exact BO rfl | exact xq rfl | exact fun _=>rfl) (hc:qf bop=true:=by exact rfl):
  C=true->(execOp (ev U) o).run P w = .ok (.value (.bool (kr bop a b))) w:=AF ho hx hy hc
theorem Dt {C:Bool} {o:Oper} {a b:aT} (bop:BinOp) (ho:o.op = .binOp bop T x y T':=by exact rfl) (hx:C=true->ev U x=str a:=by first | exact gx rfl | exact BO rfl | exact xq rfl | exact fun _=>rfl)
  (hy:C=true->ev U y=str b:=by first | exact gx rfl | exact BO rfl | exact xq rfl | exact fun _=>rfl) (hc:qf bop=true:=by exact rfl):
  C=true->(execOp (ev U) o).run P w = .ok (.value (.bool (lR bop a b))) w:=AG ho hx hy hc
theorem Fc {C a b:Bool} {o:Oper} (ho:o.op = .pick x y z:=by exact rfl) (hx:C=true->ev U x = .bool a:=by first | exact gx rfl | exact BO rfl | exact xq rfl | exact fun _=>rfl)
  (hy:ev U y=cv (C&&(a==true)) (.bool b):=by exact rfl) (hz:ev U z = .bool false:=by exact rfl):C=true->(execOp (ev U) o).run P w = .ok (.value (.bool (a&&b))) w:=
 xQ ho hx fun h=>by rw [hy,hz];exact lg (h:=h) _
theorem Dd {C a b:Bool} {o:Oper} (ho:o.op = .pick x y z:=by exact rfl) (hx:C=true->ev U x = .bool a:=by first | exact gx rfl | exact BO rfl | exact xq rfl | exact fun _=>rfl)
  (hy:ev U y = .bool true:=by exact rfl) (hz:ev U z=cv (C&&(a==false)) (.bool b):=by exact rfl):C=true->(execOp (ev U) o).run P w = .ok (.value (.bool (a||b))) w:=
 xQ ho hx fun h=>by rw [hy,hz];exact sq _ h
end
end Go.Gk
namespace Go.Gk
open Go
section
variable {α β:Type} [GT α] [GT β]
def Cw:Nat->List (α->β)->Prop
 | _,[]=>True
 | off,f::fs=>Fd off f/\Cw (off+GT.sz β) fs
theorem Cw.get: ∀{fs:List (α->β)} {off i:Nat} {f:α->β},Cw off fs->fs[i]? =some f->Fd (off+i*GT.sz β) f
 | [],_,_,_,_,h=>by simp at h
 | f::fs,off,0,f',h,h2=>by
  simp at h2;subst h2
  rw [Nat.zero_mul,Nat.add_zero];exact h.1
 | f::fs,off,i+1,f',h,h2=>by
  have:=Cw.get (i:=i) h.2 (by simpa using h2)
  rw [Nat.add_mul,Nat.one_mul,Nat.add_comm (i*GT.sz β),<-Nat.add_assoc];exact this
variable {P:Program} {n:Nat} {U:Nat->Value} {w:World} {Q:d7} {E:World} {V:List HP} {i:Nat}
variable {ops:Array Oper} {rest:List Oper} {d:Nat} {T ty e:TypeId} {pos:String} {af:Array Edge} {g:Option (Nat×Bool)} {p:Value} {q:Operand} {x:α} {m:Nat}
theorem zU {sz:Nat} (hT:Ca P T m e sz) (ad:Addr) (w:World): (Instr.sliceAt T (.pointer (some ad)) none none none).run P w = .ok (.slice (some ad) m m) w:=by
 unfold Instr.sliceAt
 simp only [aL,run_underlying hT.nY,aR,Instr.sureAddr,Instr.sliceBounds,aS,hT.sz,Nat.zero_mul,Nat.sub_zero]
 congr 3
 split <;> rfl
theorem RL.x4 {fs:List (α->β)} (l:List β) (i:Nat) (hg:Wn ops U g) (hd:Nat.blt d n=true) (hw:Holds E w V) (hx:ev U q=p) (hi:V[i]? =some (pt p x)) (hA:Ca P T m e (GT.sz β)) (hF:Cw 0 fs) (hn:fs.length=m) (hl:fs.map (fun f=>f x)=l) (k: ∀v,Holds E w (rd v l::V)->RL P n ops rest (cS U d v) w Q) (hm:m<=maxLen:=by decide):
  RL P n ops (⟨some d, .slice T q none none none,ty,pos,af,g⟩::rest) U w Q:=by
 obtain⟨M,hs,gd⟩:=hw
 obtain⟨⟨ad,cs,hv,ho,ha⟩,_⟩:=gd.sat i _ hi
 have hok:jf M (.slice (some ad) m m) l:=by
  refine⟨some ad,m,m,rfl,by rw [<-hl,dD,hn],bP _,hm,fun j y hy=>?_⟩
  rw [<-hl,jI] at hy
  cases hf:fs[j]? with
  | none=>rw [hf] at hy;cases hy
  | some f=>
   rw [hf] at hy
   injection hy with hy
   subst hy
   have h1:=hF.get hf M cs x ho
   rw [eD] at h1
   exact⟨ad,_,rfl,h1,ha.sub (j*GT.sz β) (GT.sz β)⟩
 refine RL.val hg hd ?_ (k _ ⟨M,_,gd.fJ ⟨iz.2 hok,rfl⟩⟩)
 simp only [execOp,hx,hv,Option.map_none,aL,zU hA,aR,aS]
end
end Go.Gk
namespace Go.Gk
open Go Go.Proofs Go.Sort
def vf (w:World):HP:=⟨fun M _=>∀b,b<w.heap.size->M b=w.heap[b]?,fun h hk b hb=>by
 have:=hk b hb
 rw [dw hb] at this ⊢
 exact h b _ this⟩
theorem Holds.all (w:World):Holds w w [vf w]:=by
 refine⟨fun b=>w.heap[b]?,fun _=>kF,⟨rfl,rfl,rfl,bP _,fun _ _ h=>h,fun i P hP=>?_,fun _ _ _ _ h=>(by cases h),fun _ _ _ _ h=>(by cases h),fun _ _ _ _ _ _ _ h=>(by cases h)⟩⟩
 cases i with
 | zero=>simp at hP;subst hP;exact fun _ _=>rfl
 | succ i=>simp at hP
theorem Holds.grown {w w':World} {V:List HP} {i:Nat} (h:Holds w w' V) (hi:V[i]? =some (vf w)): ∃q os,w'=grow (w.drewN q) os:=by
 obtain⟨M,hs,g⟩:=h
 have hk:=g.sat i _ hi
 have key: ∀b,b<w.heap.size->w'.heap[b]? =w.heap[b]? :=fun b hb=>by
  have:=hk b hb
  rw [dw hb] at this
  rw [g.im b _ this,dw hb]
 have hsz:w.heap.size<=w'.heap.size:=by
  rcases Nat.lt_or_ge w'.heap.size w.heap.size with h | h
  ·have:=key w'.heap.size h
   rw [Array.getElem?_eq_none (bP _),dw h] at this
   cases this
  ·exact h
 refine⟨w'.drawn - w.drawn,w'.heap.extract w.heap.size w'.heap.size,?_⟩
 have e1:w'.heap=w.heap++w'.heap.extract w.heap.size w'.heap.size:=by
  apply Array.ext_getElem?
  intro k
  rw [Array.getElem?_append]
  split
  ·rename_i hk;exact key k hk
  ·rename_i hk
   rw [Array.getElem?_extract]
   by_cases h2:k<w'.heap.size
   ·rw [aG (by omega)];congr 1;omega
   ·rw [aJ (by omega),Array.getElem?_eq_none (by omega)]
 obtain⟨h1,h2,h3,h4,h5⟩:=w'
 obtain⟨k1,k2,k3,k4,k5⟩:=w
 have a1:=g.os;have a2:=g.tape;have a3:=g.out;have a4:=g.dr
 simp only at a1 a2 a3 a4 e1
 subst a1;subst a2;subst a3
 simp only [grow,World.drewN,World.mk.injEq,and_true,true_and]
 exact⟨e1,by omega⟩
section
variable {β:Type} [Inhabited β] (enc:β->List Value) (k:Nat) (w:World) (g o m:Nat) (dk:Array β) (os:Array Obj)
theorem wD {b:Nat} (hb:b<w.heap.size) (hg:b≠g): (sortWorldK enc k w g o m dk os).heap[b]? =w.heap[b]? :=by
 simp only [sortWorldK,grow,putRowK,putRow,mapBlock,Go.Sort.ahead]
 rw [Array.getElem?_append_left (by simpa using hb),Array.getElem?_modify,aJ (fun h=>hg h.symm)]
theorem A5 {cur:Array Value} {e:TypeId} {fr:Nat×Nat} (hg:w.heap[g]? =some (.cells cur e fr)):
  (sortWorldK enc k w g o m dk os).heap[g]? =some (.cells (putCells id o (flatK enc k dk) cur) e fr):=by
 have hb:g<w.heap.size:=(Array.getElem?_eq_some_iff.1 hg).1
 simp only [sortWorldK,grow,putRowK,putRow,mapBlock,Go.Sort.ahead]
 rw [Array.getElem?_append_left (by simpa using hb),Array.getElem?_modify,aG rfl,hg]
 rfl
end
theorem xA {β:Type} [Inhabited β] {enc:β->List Value} {k:Nat} (hk: ∀x,(enc x).length=k) (hk0:0<k) (d:Array β) (o:Nat) (cur:Array Value) (ho:o+d.size*k<=cur.size) (a:Nat) (ha:a<d.size):
  (((putCells id o (flatK enc k d) cur).toList.drop o).drop (a*k)).take k=enc d[a]! :=by
 apply List.ext_getElem?
 intro t
 rw [List.drop_drop,cQ]
 by_cases ht:t<k
 ·have h1:a*k+t<d.size*k:=by
   have:=Nat.mul_le_mul_right k (show a+1<=d.size from ha)
   rw [Nat.add_mul,Nat.one_mul] at this;omega
  rw [aG ht,dU,Array.getElem?_toList]
  have hsz:o+a*k+t< (putCells id o (flatK enc k d) cur).size:=by simp only [putCells,Array.size_mapIdx];omega
  rw [dw hsz]
  simp only [putCells,Array.getElem_mapIdx,size_flatK]
  rw [aG (by omega),aN (by rw [hk];exact ht)]
  have e1:o+a*k+t - o=a*k+t:=by omega
  rw [e1,get_flatK _ _ _ _ h1]
  have e2: (a*k+t) / k=a:=by rw [Nat.mul_comm,Nat.mul_add_div hk0,Nat.div_eq_of_lt ht,Nat.add_zero]
  have e3: (a*k+t) % k=t:=by rw [Nat.mul_comm,Nat.mul_add_mod,Nat.mod_eq_of_lt ht]
  rw [e2,e3,getElem!_pos _ t (by rw [hk];exact ht)]
  rfl
 ·rw [aJ ht,List.getElem?_eq_none (by rw [hk];omega)]
theorem A6 {P:Program} {ρ:Shelf.Ren} (L:SlLaysF0.n6 P ρ) {α:Type} [GT α] (hag:GT.agg α=true) (aE: ∀w,(isAgg (ρ.t 24)).run P w = .ok true w) (zE: ∀w,(Go.sizeOf (ρ.t 24)).run P w = .ok (GT.sz α) w)
  {E w:World} {V:List HP} {e:TypeId} {v:Value} {l l':List α} {gf:Nat} {φ:α->α->Option Int} (hfn:eY P gf)
  (hcl: ∀{E' w':World} {Γ':List HP} {u u':Value} {x x':α} {r:Int} {i j:Nat},Holds E' w' Γ'->Γ'[i]? =some (rd u x)->Γ'[j]? =some (rd u' x')->φ x x'=some r->Calls P gf [u,u'].toArray w' (eT fun z w''=>z = .int .i64 r/\Holds E' w'' Γ'))
  (hw:Holds E w (own e v l::V)) (hb:nG φ l=some l'):
  Calls P (ρ.f 6) [v, .func (.func gf) #[] #[]].toArray w (eT fun z w'=>z = .tuple #[]/\Holds E w' (own e v l'::V)):=by
 unfold nG at hb
 split at hb
 case isFalse=>cases hb
 rename_i hc
 obtain⟨⟨hφ,hO⟩,hbig⟩:=hc
 have hO:SWO (ltOf (sK φ l)):=hO
 injection hb with hb
 by_cases hn:0<l.length
 case neg=>
  have hl:l= []:=List.length_eq_zero_iff.1 (by omega)
  subst hl
  have e1:l'= []:=by rw [<-hb];rfl
  subst e1
  obtain⟨a,c,hv⟩:=hw.gZ (i:=0) rfl
  subst hv
  refine Calls.mono (AnyF.slices_SortFunc_none L a c _ w) fun ex w' h=>?_
  obtain⟨rfl,rfl⟩:=h
  exact⟨_,rfl,rfl,hw⟩
 letI inh:Inhabited (Fin l.length):=⟨⟨0,hn⟩⟩
 obtain⟨M,hs,gd⟩:=hw
 rcases gd.sat 0 _ rfl with ⟨_,h2,_⟩ | ⟨g,o,cap,cur,xs,rfl,hcap,hmax,hh,hsz,hx,hcs⟩
 ·rw [h2] at hn;exact absurd hn (by simp)
 have hg:w.heap[g]? =some (.cells cur e (0,0)):=gd.le 0 g _ (by simp) (by rw [hh];exact bN g _)
 have hgs:g<w.heap.size:=(Array.getElem?_eq_some_iff.1 hg).1
 have hMg:M g=none:=gd.dm 0 g _ (by simp) (by rw [hh];exact bN g _)
 generalize hK:GT.sz α=k at *
 have hk0:0<k:=by rw [<-hK];exact GT.pos
 subst hx
 have hlen:l.length*k<=cap*k:=Nat.mul_le_mul_right k hcap
 let enc:Fin l.length->List Value:=fun i=>(((cur.toList.drop o).take (l.length*k)).drop (i.val*k)).take k
 have henc: ∀i:Fin l.length,enc i= (cur.toList.drop (o+i.val*k)).take k:=fun i=>by
  have:=kP (sz:=k) i.isLt
  show (((cur.toList.drop o).take (l.length*k)).drop (i.val*k)).take k=_
  rw [List.drop_take,List.take_take,List.drop_drop,Nat.min_eq_left (by omega)]
 have hlk: ∀i,(enc i).length=k:=fun i=>by
  have:=kP (sz:=k) i.isLt
  rw [henc,bO,dG,Array.length_toList];omega
 have hel: ∀i:Fin l.length,GT.ok M (enc i) l[i]:=fun i=>by
  have:=hcs.2 i.val l[i] (aN i.isLt)
  rw [hK] at this;exact this
 have hone: ∀x,∀v∈enc x,v.oneCell'=true:=fun x v hv=>GT.one (hel x) v hv
 let d:Array (Fin l.length):=Array.ofFn fun i:Fin l.length=>i
 have hds:d.size=l.length:=by simp [d]
 have hdi: ∀i (hi:i<l.length),d[i]! = ⟨i,hi⟩:=fun i hi=>by rw [getElem!_pos d i (by rw [hds];exact hi)];simp [d]
 have hH:HoldsK enc k w g o d:=by
  intro j hj
  rw [size_flatK,hds] at hj
  have hj2:j / k<l.length:=Nat.div_lt_of_lt_mul (by rw [Nat.mul_comm];exact hj)
  have hjm:j % k<k:=Nat.mod_lt _ hk0
  have hdm:j / k*k+j % k=j:=by rw [Nat.mul_comm];exact Nat.div_add_mod j k
  have hbd:=kP (sz:=k) hj2
  have hin:o+j<cur.size:=by omega
  refine⟨?_,?_⟩
  ·rw [get_flatK _ _ _ _ (by rw [hds];exact hj),hdi _ hj2]
   have e1: (enc ⟨j / k,hj2⟩)[j % k]! =cur[o+j]:=by
    rw [getElem!_pos _ _ (by rw [hlk];exact hjm)]
    apply Option.some.inj
    rw [<-aN,henc,cQ,aG hjm,dU,Array.getElem?_toList,<-dw]
    congr 1;show o+j / k*k+j % k=o+j;omega
   rw [e1]
   simp only [World.cell?,hg]
   simp [dw hin]
  ·simp only [World.frozen?,hg]
   simp
 have hsort:=AnyQ.slices_SortFunc_eq L k aE zE enc hlk hone (sK φ l) hO gf #[] g o cap d w hfn.run ?_ hH hgs ?_
 case refine_2=>rw [hds];exact hbig
 case refine_1=>
  intro m os dk hdk x y
  have hxy:φ l[x] l[y]=some (sK φ l x y):=by obtain⟨c,hc⟩:=hφ x y;unfold sK;rw [hc];rfl
  generalize hW:sortWorldK enc k w g o m dk os=W
  have hMW:hle M (fun b=>W.heap[b]?):=fun b o' hb=>by
   have hbw:=gd.im b o' hb
   have hne:b≠g:=fun h=>by rw [h,hMg] at hb;cases hb
   show W.heap[b]? =some o'
   rw [<-hW,wD _ _ _ _ _ _ _ _ (Array.getElem?_eq_some_iff.1 hbw).1 hne];exact hbw
  have h0:Holds W W [rd (.agg (enc x).toArray) l[x],rd (.agg (enc y).toArray) l[y],vf W]:=by
   refine⟨fun b=>W.heap[b]?,fun _=>kF,⟨rfl,rfl,rfl,bP _,fun _ _ h=>h,fun i P hP=>?_,fun _ _ _ _ h=>(by cases h),fun _ _ _ _ h=>(by cases h),fun _ _ _ _ _ _ _ h=>(by cases h)⟩⟩
   match i,hP with
   | 0,hP=>simp at hP;subst hP;exact⟨⟨_,by simp [qT,hag],GT.mono hMW (hel x)⟩,rfl⟩
   | 1,hP=>simp at hP;subst hP;exact⟨⟨_,by simp [qT,hag],GT.mono hMW (hel y)⟩,rfl⟩
   | 2,hP=>simp at hP;subst hP;exact fun _ _=>rfl
   | i+3,hP=>simp at hP
  refine Calls.mono (hcl (i:=0) (j:=1) h0 rfl rfl hxy) fun ex w' h=>?_
  obtain⟨z,rfl,rfl,h⟩:=h
  exact⟨rfl,h.grown (i:=2) rfl⟩
 refine Calls.mono (by rw [hds] at hsort;exact hsort) fun ex w' h=>?_
 obtain⟨rfl,n,os,rfl⟩:=h
 refine⟨_,rfl,rfl,?_⟩
 obtain⟨hp,_⟩:=pdq_sorts (ltOf (sK φ l)) hO d 0 l.length (Lib.bitLen l.length) true true (kU _) (by rw [hds];exact bP _) (Or.inl rfl)
 have hl':l'= (pdq (ltOf (sK φ l)) d 0 l.length (Lib.bitLen l.length) true true).toList.map fun i=>l[i]:=by
  rw [<-hb];unfold vX;rw [dif_pos hn];rfl
 generalize hd':pdq (ltOf (sK φ l)) d 0 l.length (Lib.bitLen l.length) true true=d' at hp hl' ⊢
 have hds':d'.size=l.length:=by rw [hp.1,hds]
 have hll:l'.length=l.length:=by rw [hl',dD,Array.length_toList,hds']
 have hpc: (putCells id o (flatK enc k d') cur).size=cur.size:=by simp [putCells]
 have h2:=gd.update (w':=sortWorldK enc k w g o n d' os) (P':=own e (.slice (some ⟨g,o,none⟩) l.length cap) l') (i:=0) (by simp) (Gk.one g (.cells (putCells id o (flatK enc k d') cur) e (0,0))) ?_ rfl rfl rfl ?_ ?_ ?_ (Nat.le_add_right _ _)
 ·exact⟨M,_,h2⟩
 ·refine .inr ⟨g,o,cap,_,_,by rw [hll],by rw [hll];exact hcap,hmax,rfl,by rw [hpc,hK];exact hsz,rfl,?_⟩
  rw [hll,hK]
  refine⟨?_,fun a x hx=>?_⟩
  ·have e1: (putCells id o (flatK enc k d') cur).toList.length=cur.size:=by rw [Array.length_toList,hpc]
   rw [bO,dG,e1,hll,hK];omega
  ·have ha:a<l.length:=by rw [<-hll];exact(bM.1 hx).1
   have hax:=kP (sz:=k) ha
   rw [hK,List.drop_take,List.take_take,Nat.min_eq_left (by omega),xA hlk hk0 d' o cur (by rw [hds'];omega) a (by rw [hds'];exact ha)]
   have hda:d'.toList[a]? =some d'[a]! :=by rw [Array.getElem?_toList,dw (by rw [hds'];exact ha),getElem!_pos d' a (by rw [hds'];exact ha)]
   generalize d'[a]! =q at hda ⊢
   have h3:=congrArg (fun z=>z[a]?) hl'
   simp only [jI,hda,hx,Option.map_some] at h3
   injection h3 with h3
   rw [h3]
   exact hel q
 ·intro b o' hb
  obtain⟨rfl,rfl⟩:=eX hb
  exact A5 _ _ _ _ _ _ _ _ hg
 ·intro b o' hb
  obtain⟨rfl,rfl⟩:=eX hb
  exact .inl ⟨_,by rw [hh];exact bN b _⟩
 ·intro b hb1 hb2
  refine wD _ _ _ _ _ _ _ _ hb2 fun h=>?_
  subst h
  rw [hh,bN] at hb1;cases hb1
end Go.Gk
namespace Go.Gk
open Go Go.Proofs Go.Sort
section
variable (w:World) (g o m:Nat) (dk:Array Int) (os:Array Obj)
theorem Aa {b:Nat} (hb:b<w.heap.size) (hg:b≠g): (grow (putRow (Value.int .i64) (Go.Sort.ahead w m) g o dk) os).heap[b]? =w.heap[b]? :=by
 simp only [grow,putRow,mapBlock,Go.Sort.ahead]
 rw [Array.getElem?_append_left (by simpa using hb),Array.getElem?_modify,aJ (fun h=>hg h.symm)]
theorem A7 {cur:Array Value} {e:TypeId} {fr:Nat×Nat} (hg:w.heap[g]? =some (.cells cur e fr)):
  (grow (putRow (Value.int .i64) (Go.Sort.ahead w m) g o dk) os).heap[g]? =some (.cells (putCells (Value.int .i64) o dk cur) e fr):=by
 have hb:g<w.heap.size:=(Array.getElem?_eq_some_iff.1 hg).1
 simp only [grow,putRow,mapBlock,Go.Sort.ahead]
 rw [Array.getElem?_append_left (by simpa using hb),Array.getElem?_modify,aG rfl,hg]
 rfl
end
theorem Ab {P:Program} {ρ:Shelf.Ren} (L:SlLaysM.n5 P ρ) {E w:World} {V:List HP} {e:TypeId} {v:Value} {l l':List Int} (hw:Holds E w (own e v l::V)) (hb:uJ l=some l'):
  Calls P (ρ.f 5) [v].toArray w (eT fun z w'=>z = .tuple #[]/\Holds E w' (own e v l'::V)):=by
 unfold uJ at hb
 split at hb
 case isFalse=>cases hb
 rename_i hbig
 injection hb with hb
 by_cases hn:l.length=0
 ·have hl:l= []:=List.length_eq_zero_iff.1 hn
  subst hl
  have e1:l'= []:=by rw [<-hb];exact List.length_eq_zero_iff.1 (by rw [List.length_mergeSort];rfl)
  subst e1
  obtain⟨a,c,hv⟩:=hw.gZ (i:=0) rfl
  subst hv
  refine Calls.mono (AnyM.slices_Sort_int_none L a c w) fun ex w' h=>?_
  obtain⟨rfl,rfl⟩:=h
  exact⟨_,rfl,rfl,hw⟩
 obtain⟨M,hs,gd⟩:=hw
 rcases gd.sat 0 _ rfl with ⟨_,h2,_⟩ | ⟨g,o,cap,cur,xs,rfl,hcap,hmax,hh,hsz,hx,hcs⟩
 ·rw [h2] at hn;exact absurd rfl hn
 have hg:w.heap[g]? =some (.cells cur e (0,0)):=gd.le 0 g _ (by simp) (by rw [hh];exact bN g _)
 have hgs:g<w.heap.size:=(Array.getElem?_eq_some_iff.1 hg).1
 have hsz1:GT.sz Int=1:=rfl
 rw [hsz1,Nat.mul_one] at hsz hx
 subst hx
 have hel: ∀i (hi:i<l.length),cur.toList[o+i]? =some (.int .i64 l[i]):=fun i hi=>by
  have:=hcs.2 i l[i] (aN hi)
  rw [hsz1,Nat.mul_one,List.drop_take,List.take_take,List.drop_drop] at this
  have h3: (cur.toList.drop (o+i)).take (min 1 (l.length - i))= [Sc.toV l[i]]:=this
  have h4:=congrArg (fun z=>z[0]?) h3
  simp only [cQ,dU,Nat.add_zero] at h4
  rw [aG (by omega)] at h4
  exact h4
 have hH:Go.Sort.Holds (Value.int .i64) w g o l.toArray:=by
  intro j hj
  have hj':j<l.length:=by simpa using hj
  have hin:o+j<cur.size:=by omega
  have h1:=hel j hj'
  rw [Array.getElem?_toList,dw hin] at h1
  injection h1 with h1
  refine⟨?_,?_⟩
  ·rw [getElem!_pos l.toArray j hj]
   simp only [World.cell?,hg]
   simp [dw hin,h1]
  ·simp only [World.frozen?,hg]
   simp
 refine Calls.mono (AnyM.slices_Sort_int L g o cap l w hH hgs hbig) fun ex w' h=>?_
 obtain⟨rfl,n,os,rfl⟩:=h
 refine⟨_,rfl,rfl,?_⟩
 rw [hb]
 have hll:l'.length=l.length:=by rw [<-hb,List.length_mergeSort]
 have hpc: (putCells (Value.int .i64) o l'.toArray cur).size=cur.size:=by simp [putCells]
 have h2:=gd.update (w':=grow (putRow (Value.int .i64) (Go.Sort.ahead w n) g o l'.toArray) os) (P':=own e (.slice (some ⟨g,o,none⟩) l.length cap) l') (i:=0) (by simp) (Gk.one g (.cells (putCells (Value.int .i64) o l'.toArray cur) e (0,0))) ?_ rfl rfl rfl ?_ ?_ ?_ (Nat.le_add_right _ _)
 ·exact⟨M,_,h2⟩
 ·refine .inr ⟨g,o,cap,_,_,by rw [hll],by rw [hll];exact hcap,hmax,rfl,by rw [hpc,hsz1,Nat.mul_one];exact hsz,rfl,?_⟩
  rw [hll,hsz1,Nat.mul_one]
  refine⟨?_,fun a x hx=>?_⟩
  ·have e1: (putCells (Value.int .i64) o l'.toArray cur).toList.length=cur.size:=by rw [Array.length_toList,hpc]
   rw [bO,dG,e1,hll,hsz1];omega
  ·have ha:a<l'.length:=(bM.1 hx).1
   rw [hsz1,Nat.mul_one,List.drop_take,List.take_take,List.drop_drop]
   show List.take _ _= [Sc.toV x]
   apply List.ext_getElem?
   intro t
   rw [cQ,dU]
   by_cases ht:t=0
   ·subst ht
    have hin:o+a+0< (putCells (Value.int .i64) o l'.toArray cur).size:=by rw [hpc];omega
    rw [aG (by omega),Array.getElem?_toList,dw hin]
    simp only [putCells,Array.getElem_mapIdx,Nat.add_zero,List.size_toArray]
    rw [aG (by omega)]
    have e2:o+a - o=a:=by omega
    rw [aN ha] at hx
    injection hx with hx
    rw [e2,getElem!_pos l'.toArray a (by simpa using ha)]
    simp [hx];rfl
   ·rw [aJ (by omega),List.getElem?_eq_none (by simp;omega)]
 ·intro b o' hb
  obtain⟨rfl,rfl⟩:=eX hb
  exact A7 _ _ _ _ _ _ hg
 ·intro b o' hb
  obtain⟨rfl,rfl⟩:=eX hb
  exact .inl ⟨_,by rw [hh];exact bN b _⟩
 ·intro b hb1 hb2
  refine Aa _ _ _ _ _ _ hb2 fun h=>?_
  subst h
  rw [hh,bN] at hb1;cases hb1
end Go.Gk
namespace Go.Gk
open Go Go.Proofs Go.Sort
section
variable (w:World) (g o m:Nat) (dk:Array (List UInt8)) (os:Array Obj)
theorem Ac {b:Nat} (hb:b<w.heap.size) (hg:b≠g): (grow (putRow encStr (Go.Sort.ahead w m) g o dk) os).heap[b]? =w.heap[b]? :=by
 simp only [grow,putRow,mapBlock,Go.Sort.ahead]
 rw [Array.getElem?_append_left (by simpa using hb),Array.getElem?_modify,aJ (fun h=>hg h.symm)]
theorem A8 {cur:Array Value} {e:TypeId} {fr:Nat×Nat} (hg:w.heap[g]? =some (.cells cur e fr)):
  (grow (putRow encStr (Go.Sort.ahead w m) g o dk) os).heap[g]? =some (.cells (putCells encStr o dk cur) e fr):=by
 have hb:g<w.heap.size:=(Array.getElem?_eq_some_iff.1 hg).1
 simp only [grow,putRow,mapBlock,Go.Sort.ahead]
 rw [Array.getElem?_append_left (by simpa using hb),Array.getElem?_modify,aG rfl,hg]
 rfl
end
theorem Ad {P:Program} {ρ:Shelf.Ren} (L:SlLaysM.n6 P ρ) {E w:World} {V:List HP} {e:TypeId} {v:Value} {l l':List aT} (hw:Holds E w (own e v l::V)) (hb:uK l=some l'):
  Calls P (ρ.f 6) [v].toArray w (eT fun z w'=>z = .tuple #[]/\Holds E w' (own e v l'::V)):=by
 unfold uK at hb
 split at hb
 case isFalse=>cases hb
 rename_i hbig
 injection hb with hb
 by_cases hn:l.length=0
 ·have hl:l= []:=List.length_eq_zero_iff.1 hn
  subst hl
  have e1:l'= []:=by rw [<-hb];exact List.length_eq_zero_iff.1 (by rw [dD,List.length_mergeSort];rfl)
  subst e1
  obtain⟨a,c,hv⟩:=hw.gZ (i:=0) rfl
  subst hv
  refine Calls.mono (AnyM.slices_Sort_string_none L a c w) fun ex w' h=>?_
  obtain⟨rfl,rfl⟩:=h
  exact⟨_,rfl,rfl,hw⟩
 obtain⟨M,hs,gd⟩:=hw
 rcases gd.sat 0 _ rfl with ⟨_,h2,_⟩ | ⟨g,o,cap,cur,xs,rfl,hcap,hmax,hh,hsz,hx,hcs⟩
 ·rw [h2] at hn;exact absurd rfl hn
 have hg:w.heap[g]? =some (.cells cur e (0,0)):=gd.le 0 g _ (by simp) (by rw [hh];exact bN g _)
 have hgs:g<w.heap.size:=(Array.getElem?_eq_some_iff.1 hg).1
 have hsz1:GT.sz aT=1:=rfl
 rw [hsz1,Nat.mul_one] at hsz hx
 subst hx
 have hel: ∀i (hi:i<l.length),cur.toList[o+i]? =some (encStr l[i].bQ):=fun i hi=>by
  have:=hcs.2 i l[i] (aN hi)
  rw [hsz1,Nat.mul_one,List.drop_take,List.take_take,List.drop_drop] at this
  have h3: (cur.toList.drop (o+i)).take (min 1 (l.length - i))= [Sc.toV l[i]]:=this
  have h4:=congrArg (fun z=>z[0]?) h3
  simp only [cQ,dU,Nat.add_zero] at h4
  rw [aG (by omega)] at h4
  exact h4
 have hH:Go.Sort.Holds encStr w g o (l.map aT.bQ).toArray:=by
  intro j hj
  have hj':j<l.length:=by simpa using hj
  have hin:o+j<cur.size:=by omega
  have h1:=hel j hj'
  rw [Array.getElem?_toList,dw hin] at h1
  injection h1 with h1
  refine⟨?_,?_⟩
  ·rw [getElem!_pos (l.map aT.bQ).toArray j hj]
   simp only [World.cell?,hg]
   simp [dw hin,h1]
  ·simp only [World.frozen?,hg]
   simp
 have hC:=AnyM.slices_Sort_string L g o cap (l.map aT.bQ) w hH hgs (by rw [dD];exact hbig)
 rw [dD] at hC
 have hb': (l.map aT.bQ).mergeSort (fun x y=>decide (x<=y))=l'.map aT.bQ:=by rw [<-hb,List.map_map];exact(List.map_id' _).symm
 rw [hb'] at hC
 refine Calls.mono hC fun ex w' h=>?_
 obtain⟨rfl,n,os,rfl⟩:=h
 refine⟨_,rfl,rfl,?_⟩
 have hll:l'.length=l.length:=by rw [<-hb,dD,List.length_mergeSort,dD]
 have hpc: (putCells encStr o (l'.map aT.bQ).toArray cur).size=cur.size:=by simp [putCells]
 have h2:=gd.update (w':=grow (putRow encStr (Go.Sort.ahead w n) g o (l'.map aT.bQ).toArray) os) (P':=own e (.slice (some ⟨g,o,none⟩) l.length cap) l') (i:=0) (by simp) (Gk.one g (.cells (putCells encStr o (l'.map aT.bQ).toArray cur) e (0,0))) ?_ rfl rfl rfl ?_ ?_ ?_ (Nat.le_add_right _ _)
 ·exact⟨M,_,h2⟩
 ·refine .inr ⟨g,o,cap,_,_,by rw [hll],by rw [hll];exact hcap,hmax,rfl,by rw [hpc,hsz1,Nat.mul_one];exact hsz,rfl,?_⟩
  rw [hll,hsz1,Nat.mul_one]
  refine⟨?_,fun a x hx=>?_⟩
  ·have e1: (putCells encStr o (l'.map aT.bQ).toArray cur).toList.length=cur.size:=by rw [Array.length_toList,hpc]
   rw [bO,dG,e1,hll,hsz1];omega
  ·have ha:a<l'.length:=(bM.1 hx).1
   rw [hsz1,Nat.mul_one,List.drop_take,List.take_take,List.drop_drop]
   show List.take _ _= [Sc.toV x]
   apply List.ext_getElem?
   intro t
   rw [cQ,dU]
   by_cases ht:t=0
   ·subst ht
    have hin:o+a+0< (putCells encStr o (l'.map aT.bQ).toArray cur).size:=by rw [hpc];omega
    rw [aG (by omega),Array.getElem?_toList,dw hin]
    simp only [putCells,Array.getElem_mapIdx,Nat.add_zero,List.size_toArray,dD]
    rw [aG (by omega)]
    have e2:o+a - o=a:=by omega
    rw [aN ha] at hx
    injection hx with hx
    rw [e2,getElem!_pos (l'.map aT.bQ).toArray a (by simpa using ha)]
    simp [hx];rfl
   ·rw [aJ (by omega),List.getElem?_eq_none (by simp;omega)]
 ·intro b o' hb
  obtain⟨rfl,rfl⟩:=eX hb
  exact A8 _ _ _ _ _ _ hg
 ·intro b o' hb
  obtain⟨rfl,rfl⟩:=eX hb
  exact .inl ⟨_,by rw [hh];exact bN b _⟩
 ·intro b hb1 hb2
  refine Ac _ _ _ _ _ _ hb2 fun h=>?_
  subst h
  rw [hh,bN] at hb1;cases hb1
end Go.Gk
namespace Go.Gk
open Go Go.Proofs Go.Sort
section
variable {β:Type} [Inhabited β] (enc:β->Value) (w:World) (g o m:Nat) (dk:Array β) (os:Array Obj)
theorem t7 {b:Nat} (hb:b<w.heap.size) (hg:b≠g): (sortWorld enc w g o m dk os).heap[b]? =w.heap[b]? :=by
 simp only [sortWorld,grow,putRow,mapBlock,Go.Sort.ahead]
 rw [Array.getElem?_append_left (by simpa using hb),Array.getElem?_modify,aJ (fun h=>hg h.symm)]
theorem Ae {cur:Array Value} {e:TypeId} {fr:Nat×Nat} (hg:w.heap[g]? =some (.cells cur e fr)):
  (sortWorld enc w g o m dk os).heap[g]? =some (.cells (putCells enc o dk cur) e fr):=by
 have hb:g<w.heap.size:=(Array.getElem?_eq_some_iff.1 hg).1
 simp only [sortWorld,grow,putRow,mapBlock,Go.Sort.ahead]
 rw [Array.getElem?_append_left (by simpa using hb),Array.getElem?_modify,aG rfl,hg]
 rfl
end
theorem yU {β:Type} [Inhabited β] {enc:β->Value} (d:Array β) (o:Nat) (cur:Array Value) (ho:o+d.size<=cur.size) (a:Nat) (ha:a<d.size): (putCells enc o d cur)[o+a]? =some (enc d[a]!):=by
 have hsz:o+a< (putCells enc o d cur).size:=by simp only [putCells,Array.size_mapIdx];omega
 rw [dw hsz]
 simp only [putCells,Array.getElem_mapIdx]
 rw [aG (by omega),show o+a - o=a by omega]
theorem wE {P:Program} {ρ:Shelf.Ren} (L:SlLaysF.n6 P ρ) (α:Type) [GT α] (hag:GT.agg α=false) {E w:World} {V:List HP} {e:TypeId} {v:Value} {l l':List α} {gf:Nat} {φ:α->α->Option Int} (hfn:eY P gf) (hcl: ∀{E' w':World} {Γ':List HP} {u u':Value} {x x':α} {r:Int} {i j:Nat},Holds E' w' Γ'->Γ'[i]? =some (rd u x)->Γ'[j]? =some (rd u' x')->φ x x'=some r->Calls P gf [u,u'].toArray w' (eT fun z w''=>z = .int .i64 r/\Holds E' w'' Γ')) (hw:Holds E w (own e v l::V)) (hb:nG φ l=some l'):
  Calls P (ρ.f 6) [v, .func (.func gf) #[] #[]].toArray w (eT fun z w'=>z = .tuple #[]/\Holds E w' (own e v l'::V)):=by
 unfold nG at hb
 split at hb
 case isFalse=>cases hb
 rename_i hc
 obtain⟨⟨hφ,hO⟩,hbig⟩:=hc
 have hO:SWO (ltOf (sK φ l)):=hO
 injection hb with hb
 by_cases hn:0<l.length
 case neg=>
  have hl:l= []:=List.length_eq_zero_iff.1 (by omega)
  subst hl
  have e1:l'= []:=by rw [<-hb];rfl
  subst e1
  obtain⟨a,c,hv⟩:=hw.gZ (i:=0) rfl
  subst hv
  refine Calls.mono (AnyF.slices_SortFunc_none (P:=P) (ρ:=ρ) {L with} a c _ w) fun ex w' h=>?_
  obtain⟨rfl,rfl⟩:=h
  exact⟨_,rfl,rfl,hw⟩
 letI inh:Inhabited (Fin l.length):=⟨⟨0,hn⟩⟩
 obtain⟨M,hs,gd⟩:=hw
 rcases gd.sat 0 _ rfl with ⟨_,h2,_⟩ | ⟨g,o,cap,cur,xs,rfl,hcap,hmax,hh,hsz,hx,hcs⟩
 ·rw [h2] at hn;exact absurd hn (by simp)
 have hg:w.heap[g]? =some (.cells cur e (0,0)):=gd.le 0 g _ (by simp) (by rw [hh];exact bN g _)
 have hgs:g<w.heap.size:=(Array.getElem?_eq_some_iff.1 hg).1
 have hMg:M g=none:=gd.dm 0 g _ (by simp) (by rw [hh];exact bN g _)
 have hK:GT.sz α=1:=GT.ag1 hag
 rw [hK,Nat.mul_one] at hsz
 subst hx
 let enc:Fin l.length->Value:=fun i=>cur[o+i.val]!
 have hin: ∀i:Fin l.length,o+i.val<cur.size:=fun i=>by have:=i.isLt;omega
 have henc: ∀i:Fin l.length,cur[o+i.val]? =some (enc i):=fun i=>by
  rw [dw (hin i)]
  show some cur[o+i.val]=some cur[o+i.val]!
  rw [getElem!_pos cur (o+i.val) (hin i)]
 have hel: ∀i:Fin l.length,GT.ok M [enc i] l[i]:=fun i=>by
  have:=hcs.2 i.val l[i] (aN i.isLt)
  rw [hK,Nat.mul_one] at this
  have e1: (((cur.toList.drop o).take (l.length*1)).drop i.val).take 1= [enc i]:=by
   have hil:=i.isLt
   rw [Nat.mul_one,List.drop_take,List.take_take,List.drop_drop]
   have h3: (cur.toList.drop (o+i.val))=enc i::cur.toList.drop (o+i.val+1):=by
    have hi':o+i.val<cur.toList.length:=by simpa using hin i
    rw [kV hi']
    congr 1
    apply Option.some.inj
    rw [<-henc i,dw (hin i)];simp
   rw [h3,show min 1 (l.length - i.val)=1 by omega];rfl
  rw [<-e1]
  simpa [hK] using this
 have hone: ∀x,(enc x).oneCell'=true:=fun x=>GT.one (hel x) _ (by simp)
 let d:Array (Fin l.length):=Array.ofFn fun i:Fin l.length=>i
 have hds:d.size=l.length:=by simp [d]
 have hdi: ∀i (hi:i<l.length),d[i]! = ⟨i,hi⟩:=fun i hi=>by rw [getElem!_pos d i (by rw [hds];exact hi)];simp [d]
 have hH:Go.Sort.Holds enc w g o d:=by
  intro j hj
  rw [hds] at hj
  refine⟨?_,?_⟩
  ·rw [hdi j hj]
   simp only [World.cell?,hg]
   simp [henc ⟨j,hj⟩]
  ·simp only [World.frozen?,hg]
   simp
 have hsort:=Any.slices_SortFunc_eq L enc hone (sK φ l) hO gf #[] g o cap d w hfn.run ?_ hH hgs ?_
 case refine_2=>rw [hds];exact hbig
 case refine_1=>
  intro m os dk hdk x y
  have hxy:φ l[x] l[y]=some (sK φ l x y):=by obtain⟨c,hc⟩:=hφ x y;unfold sK;rw [hc];rfl
  generalize hW:sortWorld enc w g o m dk os=W
  have hMW:hle M (fun b=>W.heap[b]?):=fun b o' hb=>by
   have hbw:=gd.im b o' hb
   have hne:b≠g:=fun h=>by rw [h,hMg] at hb;cases hb
   show W.heap[b]? =some o'
   rw [<-hW,t7 _ _ _ _ _ _ _ (Array.getElem?_eq_some_iff.1 hbw).1 hne];exact hbw
  have h0:Holds W W [rd (enc x) l[x],rd (enc y) l[y],vf W]:=by
   refine⟨fun b=>W.heap[b]?,fun _=>kF,⟨rfl,rfl,rfl,bP _,fun _ _ h=>h,fun i P hP=>?_,fun _ _ _ _ h=>(by cases h),fun _ _ _ _ h=>(by cases h),fun _ _ _ _ _ _ _ h=>(by cases h)⟩⟩
   match i,hP with
   | 0,hP=>simp at hP;subst hP;exact⟨⟨[enc x],by simp [qT,hag],GT.mono hMW (hel x)⟩,rfl⟩
   | 1,hP=>simp at hP;subst hP;exact⟨⟨[enc y],by simp [qT,hag],GT.mono hMW (hel y)⟩,rfl⟩
   | 2,hP=>simp at hP;subst hP;exact fun _ _=>rfl
   | i+3,hP=>simp at hP
  refine Calls.mono (hcl (i:=0) (j:=1) h0 rfl rfl hxy) fun ex w' h=>?_
  obtain⟨z,rfl,rfl,h⟩:=h
  exact⟨rfl,h.grown (i:=2) rfl⟩
 refine Calls.mono (by rw [hds] at hsort;exact hsort) fun ex w' h=>?_
 obtain⟨rfl,n,os,rfl⟩:=h
 refine⟨_,rfl,rfl,?_⟩
 obtain⟨hp,_⟩:=pdq_sorts (ltOf (sK φ l)) hO d 0 l.length (Lib.bitLen l.length) true true (kU _) (by rw [hds];exact bP _) (Or.inl rfl)
 have hl':l'= (pdq (ltOf (sK φ l)) d 0 l.length (Lib.bitLen l.length) true true).toList.map fun i=>l[i]:=by
  rw [<-hb];unfold vX;rw [dif_pos hn];rfl
 generalize hd':pdq (ltOf (sK φ l)) d 0 l.length (Lib.bitLen l.length) true true=d' at hp hl' ⊢
 have hds':d'.size=l.length:=by rw [hp.1,hds]
 have hll:l'.length=l.length:=by rw [hl',dD,Array.length_toList,hds']
 have hpc: (putCells enc o d' cur).size=cur.size:=by simp [putCells]
 have h2:=gd.update (w':=sortWorld enc w g o n d' os) (P':=own e (.slice (some ⟨g,o,none⟩) l.length cap) l') (i:=0) (by simp) (Gk.one g (.cells (putCells enc o d' cur) e (0,0))) ?_ rfl rfl rfl ?_ ?_ ?_ (Nat.le_add_right _ _)
 ·exact⟨M,_,h2⟩
 ·refine .inr ⟨g,o,cap,_,_,by rw [hll],by rw [hll];exact hcap,hmax,rfl,by rw [hpc,hK,Nat.mul_one];exact hsz,rfl,?_⟩
  rw [hll]
  refine⟨?_,fun a x hx=>?_⟩
  ·have e1: (putCells enc o d' cur).toList.length=cur.size:=by rw [Array.length_toList,hpc]
   rw [bO,dG,e1,hll,hK];omega
  ·have ha:a<l.length:=by rw [<-hll];exact(bM.1 hx).1
   have hda:d'.toList[a]? =some d'[a]! :=by rw [Array.getElem?_toList,dw (by rw [hds'];exact ha),getElem!_pos d' a (by rw [hds'];exact ha)]
   have hpa:=yU (enc:=enc) d' o cur (by rw [hds'];omega) a (by rw [hds'];exact ha)
   generalize d'[a]! =q at hda hpa ⊢
   have h3:=congrArg (fun z=>z[a]?) hl'
   simp only [jI,hda,hx,Option.map_some] at h3
   injection h3 with h3
   rw [h3]
   have e2: ((((putCells enc o d' cur).toList.drop o).take (l.length*GT.sz α)).drop (a*GT.sz α)).take (GT.sz α)= [enc q]:=by
    have r9:o+a< (putCells enc o d' cur).size:=by rw [hpc];omega
    rw [hK,Nat.mul_one,Nat.mul_one,List.drop_take,List.take_take,List.drop_drop]
    have h4: (putCells enc o d' cur).toList.drop (o+a)=enc q::(putCells enc o d' cur).toList.drop (o+a+1):=by
     have hal':o+a< (putCells enc o d' cur).toList.length:=by simpa using r9
     rw [kV hal']
     congr 1
     apply Option.some.inj
     rw [<-hpa,dw r9];simp
    rw [h4,show min 1 (l.length - a)=1 by omega];rfl
   rw [e2]
   exact hel q
 ·intro b o' hb
  obtain⟨rfl,rfl⟩:=eX hb
  exact Ae _ _ _ _ _ _ _ hg
 ·intro b o' hb
  obtain⟨rfl,rfl⟩:=eX hb
  exact .inl ⟨_,by rw [hh];exact bN b _⟩
 ·intro b hb1 hb2
  refine t7 _ _ _ _ _ _ _ hb2 fun h=>?_
  subst h
  rw [hh,bN] at hb1;cases hb1
end Go.Gk
namespace Go.Gk
open Go
section
variable {κ ν S R T:Type}
end
section
variable {κ ν:Type} [GT κ] [KV κ] [GT ν]
theorem jk.at {M:cG}: ∀{es:List MapEntry} {m:List (κ×ν)} {e:MapEntry} {x:κ×ν},jk M es m->(e,x)∈es.zip m->e.key=KV.enc x.1/\po M e.val x.2
 | [],[],_,_,_,h=>by simp at h
 | e::es,p::m,e',x,⟨h1,h2,h3⟩,h=>by
  rw [List.zip_cons_cons,ja] at h
  rcases h with h | h
  ·injection h with ha hb;subst ha;subst hb;exact⟨h1,h2⟩
  ·exact jk.at h3 h
 | [],_::_,_,_,h,_=>h.elim
 | _::_,[],_,_,h,_=>h.elim
end
section
variable {κ ν S R T:Type} [GT κ] [KV κ] [DecidableEq κ] [GT ν]
variable {P:Program} {n:Nat} {U:Nat->Value} {w:World} {Q:d7} {E:World} {V:List HP} {i:Nat}
variable {ops:Array Oper} {rest:List Oper} {d:Nat} {ty Ty kt et:TypeId} {pos:String} {af:Array Edge} {g:Option (Nat×Bool)} {v:Value} {q:Operand} {m pre:List (κ×ν)} {b:Nat}
theorem Holds.kv (h:Holds E w V) (k:κ):Holds E w (rd (KV.enc k) k::V):=h.tm fun _ _ _=>⟨KV.rd _ k,rfl⟩
end
end Go.Gk
namespace Go.Gk
open Go
theorem zr {α:Type _} {a:α}:a=a:=rfl
theorem zt:True:=True.intro
theorem cg {ops:Array Oper} {U:Nat->Value} {j d:Nat} {a b:Bool} (h:a=b) (h1: (ops[j]?).bind (·.dst)=some d:=by rfl) (h2:U d = .bool a:=by rfl):Wn ops U (some (j,b)):=⟨d,h1,h2.trans (cb h)⟩
end Go.Gk
