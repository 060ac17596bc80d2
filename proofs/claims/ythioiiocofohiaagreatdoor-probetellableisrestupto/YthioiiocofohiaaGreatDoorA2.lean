/-
  Helping texts on the memory of the model. No statement of the seed is proved here.
-/
import Derived.Test.YthioiiocofohiaaGreatDoorA1
import Derived.KernelRfl
import Derived.Laws.IdiomStrings
import Derived.Laws.BytesString
import Derived.Shelf.SlSortCmp.NoneTotal
import Derived.Shelf.SortM.Plain
import Derived.Shelf.SortM.SortNone
set_option linter.unusedVariables false
set_option linter.unusedSimpArgs false
set_option linter.unusedSectionVars false
namespace Go.Gk
open Go
def nE (o:Oper) (U:Nat->Value) (v:Value):Nat->Value:=match o.dst with | some d=>eL U d v | none=>U
def xx (acc:List Nat):List Edge->Nat
 | []=>0
 | e::r=>bif Region.binds .any e then Nat.lor (Nat.lor (Nat.shiftLeft 1 e.on) (acc.getD e.on 0)) (xx acc r) else xx acc r
def CE:List Oper->List Nat->List Nat
 | [],acc=>acc
 | o::l,acc=>CE l (acc++[xx acc o.after.toList])
def CF (l:List Oper) (i:Nat) (rest:List Nat):Bool:=(List.range l.length).all fun k=>Nat.beq k i||(rest.any fun q=>Nat.beq q k)||Nat.testBit ((CE l []).getD i 0) k
section
variable {P:Program} {n:Nat} {l:List Oper} {mk:List Nat} {Q:gq} {U:Nat->Value} {w:World} {i:Nat} {rest:List Nat} {o:Oper}
def DP (P:Program) (n:Nat) (l:List Oper) (mk:List Nat) (Q:gq): (World->Prop)->List Nat->(Nat->Value)->World->Prop
 | _,[],U,w=>Q .normal U w
 | S,i::rest,U,w=>∃o,l[i]? =some o/\
  ((mk.getD i 0=0/\RL P n l.toArray [o] U w (fun ex σ' w'=>ex = .normal/\w'=w/\DP P n l mk Q S rest σ' w))\/
   (mk.getD i 0=1/\∃v,∃S1:World->Prop,(∀w2,S1 w2->S w2)/\(S w->S1 w)/\(∀w',S1 w'->RL P n l.toArray [o] U w' (fun ex σ' w''=>ex = .normal/\w''=w'/\σ'=nE o U v))/\DP P n l mk Q S1 rest (nE o U v) w)\/
   (mk.getD i 0=2/\∃S1:World->Prop,((∀w2,S1 w2->S w2)\/CF l i rest=true)/\RL P n l.toArray [o] U w (fun ex σ' w'=>ex = .normal/\S1 w'/\DP P n l mk Q S1 rest σ' w'))\/
   (mk.getD i 0=3/\∃T q b m row e ag k,o.op = .load T q/\ev U q = .pointer (some ⟨b,m,none⟩)/\ld P T ag k/\m+k<=row.size/\m<row.size/\w.heap[b]? =some (.cells row e (0,0))/\
    RL P n l.toArray [o] U w (fun ex σ' w'=>ex = .normal/\w'=w/\DP P n l mk Q (fun w2=>S w2/\w2.heap[b]? =some (.cells row e (0,0))) rest σ' w)))
section
variable {S:World->Prop}
theorem DP.e0 (ho:l[i]? =some o) (h:RL P n l.toArray [o] U w (fun ex σ' w'=>ex = .normal/\w'=w/\DP P n l mk Q S rest σ' w)) (hm:mk.getD i 0=0:=by exact rfl):DP P n l mk Q S (i::rest) U w:=⟨o,ho, .inl ⟨hm,h⟩⟩
theorem DP.e1 (v:Value) (ho:l[i]? =some o) (h1: ∀w',RL P n l.toArray [o] U w' (fun ex σ' w''=>ex = .normal/\w''=w'/\σ'=nE o U v)) (h:DP P n l mk Q S rest (nE o U v) w) (hm:mk.getD i 0=1:=by exact rfl):DP P n l mk Q S (i::rest) U w:=⟨o,ho, .inr (.inl ⟨hm,v,S,fun _ h=>h,fun h=>h,fun w' _=>h1 w',h⟩)⟩
theorem DP.IF (v:Value) (ho:l[i]? =some o) (h1: ∀w',S w'->RL P n l.toArray [o] U w' (fun ex σ' w''=>ex = .normal/\w''=w'/\σ'=nE o U v)) (h:DP P n l mk Q S rest (nE o U v) w) (hm:mk.getD i 0=1:=by exact rfl):DP P n l mk Q S (i::rest) U w:=⟨o,ho, .inr (.inl ⟨hm,v,S,fun _ h=>h,fun h=>h,h1,h⟩)⟩
theorem DP.MM (v:Value) (S1:World->Prop) (hS: ∀w2,S1 w2->S w2) (hS':S w->S1 w) (ho:l[i]? =some o) (hm:mk.getD i 0=1) (h1: ∀w',S1 w'->RL P n l.toArray [o] U w' (fun ex σ' w''=>ex = .normal/\w''=w'/\σ'=nE o U v)) (h:DP P n l mk Q S1 rest (nE o U v) w):DP P n l mk Q S (i::rest) U w:=⟨o,ho, .inr (.inl ⟨hm,v,S1,hS,hS',h1,h⟩)⟩
theorem DP.e2 (ho:l[i]? =some o) (h:RL P n l.toArray [o] U w (fun ex σ' w'=>ex = .normal/\S w'/\DP P n l mk Q S rest σ' w')) (hm:mk.getD i 0=2:=by exact rfl):DP P n l mk Q S (i::rest) U w:=⟨o,ho, .inr (.inr (.inl ⟨hm,S, .inl fun _ h=>h,h⟩))⟩
theorem DP.My (ho:l[i]? =some o) (hm:mk.getD i 0=2) (h:RL P n l.toArray [o] U w (fun ex σ' w'=>ex = .normal/\True/\DP P n l mk Q (fun _=>True) rest σ' w')) (hk:CF l i rest=true:=by kernel_rfl):DP P n l mk Q S (i::rest) U w:=⟨o,ho, .inr (.inr (.inl ⟨hm,fun _=>True, .inr hk,h⟩))⟩
theorem DP.e3 {T e:TypeId} {q:Operand} {b m k:Nat} {row:Array Value} {ag:Bool} (ho:l[i]? =some o) (hm:mk.getD i 0=3) (hop:o.op = .load T q) (hp:ev U q = .pointer (some ⟨b,m,none⟩)) (hT:ld P T ag k) (hh:w.heap[b]? =some (.cells row e (0,0))/\m+k<=row.size/\m<row.size)
  (h:RL P n l.toArray [o] U w (fun ex σ' w'=>ex = .normal/\w'=w/\DP P n l mk Q (fun w2=>S w2/\w2.heap[b]? =some (.cells row e (0,0))) rest σ' w)):DP P n l mk Q S (i::rest) U w:=
 ⟨o,ho, .inr (.inr (.inr ⟨hm,T,q,b,m,row,e,ag,k,hop,hp,hT,hh.2.1,hh.2.2,hh.1,h⟩))⟩
theorem DP.z (h:Q .normal U w):DP P n l mk Q S [] U w:=by unfold DP;exact h
theorem DP.d0 {ops:Array Oper} (h:DP P n l mk Q S rest U w):RL P n ops [] U w (fun ex σ' w'=>ex = .normal/\w'=w/\DP P n l mk Q S rest σ' w):=RL.nil ⟨rfl,rfl,h⟩
theorem DP.d2 {ops:Array Oper} (hS:S w) (h:DP P n l mk Q S rest U w):RL P n ops [] U w (fun ex σ' w'=>ex = .normal/\S w'/\DP P n l mk Q S rest σ' w'):=RL.nil ⟨rfl,hS,h⟩
theorem DP.d1 {ops:Array Oper} {σ0:Nat->Value} (h:U=σ0:=by exact rfl):RL P n ops [] U w (fun ex σ' w'=>ex = .normal/\w'=w/\σ'=σ0):=RL.nil ⟨rfl,rfl,h⟩
end
end
section
variable {P:Program} {n:Nat} {ops:Array Oper} {U:Nat->Value} {w:World} {o:Oper}
theorem Ac {a:Act} {d:Nat} {C: (Nat->Value)->Prop} (hs:Sl n U a) (hk:ra o.op=true) (hd:o.dst=some d) (hdn:Nat.blt d n=true)
  (h:RL P n ops [o] U w (fun ex σ' w'=>ex = .normal/\w'=w/\C σ')): ∃v,AX P ops w a o v/\C (eL U d v):=by
 have h1:=h a hs
 unfold wpList at h1
 split at h1
 ·rename_i hw
  rcases h1 with h1 | ⟨_,h1⟩
  ·unfold Oper.wp at h1
   cases hr: (execOp a.eval o).run P w with
   | ok nx w'=>
    rw [hr] at h1
    obtain⟨v,rfl⟩:=Bp hk hr
    obtain⟨σ',hs',_,hw',hrest⟩:=h1
    have hw':w'=w:=hw'
    subst hw'
    rw [hd] at hs'
    have:=hs'.uniq (hs.put hdn v)
    subst this
    exact⟨v, .inl ⟨hw,hr⟩,hrest⟩
   | halt x w'=>
    rw [hr] at h1
    cases x with
    | panic v=>obtain⟨_,_,hbad,_⟩:=h1;cases hbad
    | _=>exact h1.elim
  ·obtain⟨_,_,_,_,hbad,_⟩:=h1;cases hbad
 ·rename_i hw
  obtain⟨σ',hs',_,_,hrest⟩:=h1
  rw [hd] at hs'
  have:=hs'.uniq (hs.put hdn undef)
  subst this
  exact⟨undef, .inr ⟨by simpa using hw,rfl⟩,hrest⟩
end
theorem Bx {P:Program} {w:World} {b k:Nat} {row:Array Value} {e:TypeId} (h:w.heap[b]? =some (.cells row e (0,0))) (hk:k<row.size): (load ⟨b,k,none⟩).run P w = .ok row[k] w:=by
 have hc:w.cell? ⟨b,k,none⟩=some row[k]:=by rw [cell_of_row w b _ _ _ _ h];simp [hk]
 unfold load
 simp only [Sem.run,hc]
theorem zh {P:Program} {b k:Nat} {row:Array Value} {e:TypeId}: ∀(n i:Nat) (acc:Array Value),k+i+n<=row.size->∃cs,∀w:World,w.heap[b]? =some (.cells row e (0,0))->(loadCellsFrom ⟨b,k,none⟩ i n acc).run P w = .ok cs w
 | 0,i,acc,_=>⟨acc,fun w _=>rfl⟩
 | n+1,i,acc,h=>by
  obtain⟨cs,hcs⟩:=zh (P:=P) (b:=b) (k:=k) (row:=row) (e:=e) n (i+1) (acc.push (row[k+i]'(by omega))) (by omega)
  refine⟨cs,fun w hw=>?_⟩
  unfold loadCellsFrom
  have hl:=Bx (P:=P) (k:=k+i) hw (by omega)
  rw [aO,Addr.add_lit,hl]
  exact hcs w hw
theorem Bz {P:Program} {b k m:Nat} {row:Array Value} {e T:TypeId} {ag:Bool} (hT:ld P T ag m) (h1:k+m<=row.size) (h2:k<row.size): ∃v,∀w:World,w.heap[b]? =some (.cells row e (0,0))->(loadVar T ⟨b,k,none⟩).run P w = .ok v w:=by
 cases ag with
 | false=>
  refine⟨row[k],fun w hw=>?_⟩
  unfold loadVar
  rw [aO,hT.GR]
  exact Bx hw h2
 | true=>
  obtain⟨cs,hcs⟩:=zh (P:=P) (b:=b) (k:=k) (row:=row) (e:=e) m 0 #[] (by omega)
  refine⟨.agg cs,fun w hw=>?_⟩
  unfold loadVar
  rw [aO,hT.GR]
  simp only [Result.andThen,if_true]
  rw [aO,hT.sz]
  simp only [Result.andThen]
  rw [aO]
  have:=hcs w hw
  unfold loadCells
  rw [this];rfl
theorem Fp {P:Program} {ops:Array Oper} {w w2:World} {a:Act} {n:Nat} {U:Nat->Value} {o:Oper} {T e0:TypeId} {q:Operand} {b m k:Nat} {v:Value} {row:Array Value} {ag:Bool} (hs:Sl n U a) (ho:o.op = .load T q) (hp:ev U q = .pointer (some ⟨b,m,none⟩))
  (hT:ld P T ag k) (h1:m+k<=row.size) (h2:m<row.size) (hw:w.heap[b]? =some (.cells row e0 (0,0))) (hw2:w2.heap[b]? =some (.cells row e0 (0,0))) (hst:AX P ops w a o v):AX P ops w2 a o v:=by
 rcases hst with ⟨h3,h4⟩ | h3
 ·refine .inl ⟨h3,?_⟩
  obtain⟨dst,op,ty,pos,af,g⟩:=o
  have ho:op = .load T q:=ho
  subst ho
  have e: ∀w,(execOp a.eval ⟨dst, .load T q,ty,pos,af,g⟩).run P w= ((loadVar T ⟨b,m,none⟩).run P w).andThen fun v w=> .ok (.value v) w:=fun w=>by
   simp only [execOp,hs.ev,hp,Instr.loadAt,Instr.sureAddr,aO,aW,aU]
  rw [e] at h4 ⊢
  obtain⟨u,hu⟩:=Bz (b:=b) (e:=e0) hT h1 h2
  rw [hu w hw] at h4
  rw [hu w2 hw2]
  simp only [Result.andThen] at h4 ⊢
  injection h4 with h5 _
  rw [h5]
 ·exact .inr h3
def ku (l:List Oper) (U:Nat->Value):List Nat->List Value->(Nat->Value)
 | i::is,v::vs=>ku l (match l[i]? with | some o=>nE o U v | none=>U) is vs
 | _,_=>U
section
variable {l:List Oper}
theorem wk (U:Nat->Value): ∀(is js:List Nat) (vs us:List Value),vs.length=is.length->ku l U (is++js) (vs++us)=ku l (ku l U is vs) js us
 | [],js,[],us,_=>rfl
 | i::is,js,v::vs,us,h=>by
  rw [List.cons_append,List.cons_append]
  unfold ku
  rw [wk _ is js vs us (by simpa using h)]
  cases js <;> cases us <;> rfl
 | [],_,_::_,_,h=>by cases h
 | _::_,_,[],_,h=>by cases h
theorem Ad {o:Oper} {U:Nat->Value} {v:Value} {t:Nat} (h:o.dst≠some t):nE o U v t=U t:=by
 unfold nE
 cases hd:o.dst with
 | none=>rfl
 | some d=>
  have hne:t≠d:=fun e=>h (by rw [hd,e])
  show eL U d v t=U t
  unfold eL
  cases hb:Nat.beq t d with
  | true=>exact absurd (eC hb) hne
  | false=>rfl
theorem Dt {o:Oper} {U:Nat->Value} {v:Value} {t:Nat} (h:o.dst=some t):nE o U v t=v:=by
 unfold nE
 rw [h]
 show eL U t v t=v
 unfold eL;rw [Nat.beq_refl];rfl
theorem py {t:Nat}: ∀(is:List Nat) (vs:List Value) (U:Nat->Value),(∀i∈is,∀o,l[i]? =some o->o.dst≠some t)->ku l U is vs t=U t
 | [],_,U,_=>rfl
 | _::_,[],U,_=>rfl
 | i::is,v::vs,U,h=>by
  unfold ku
  rw [py is vs _ (fun j hj=>h j (by simp [hj]))]
  cases ho:l[i]? with
  | none=>rfl
  | some o=>exact Ad (h i (by simp) o ho)
theorem Ae {t:Nat}: ∀(is:List Nat) (vs:List Value) (U:Nat->Value) (j i:Nat) (o:Oper) (v:Value),is[j]? =some i->vs[j]? =some v->l[i]? =some o->o.dst=some t->
  (∀(k:Nat) i' o',is[k]? =some i'->l[i']? =some o'->k≠j->o'.dst≠some t)->ku l U is vs t=v
 | [],_,_,_,_,_,_,h,_,_,_,_=>by simp at h
 | _::_,[],_,_,_,_,_,_,h,_,_,_=>by simp at h
 | i0::is,v0::vs,U,0,i,o,v,hi,hv,ho,hd,hu=>by
  simp at hi hv;subst hi;subst hv
  unfold ku
  rw [py is vs _ (fun j hj o' ho'=>by
   obtain⟨k,hk⟩:=List.mem_iff_getElem?.1 hj
   exact hu (k+1) j o' (by simpa using hk) ho' (by omega)),ho]
  exact Dt hd
 | i0::is,v0::vs,U,j+1,i,o,v,hi,hv,ho,hd,hu=>by
  unfold ku
  exact Ae is vs _ j i o v (by simpa using hi) (by simpa using hv) ho hd (fun k i2 o2 hk ho2 hne=>hu (k+1) i2 o2 (by simpa using hk) ho2 (by omega))
end
inductive nY (l:List Oper):Nat->Nat->Prop
 | edge {i k:Nat} {o:Oper}:l[i]? =some o->uh o k=true->nY l i k
 | trans {i j k:Nat}:nY l i j->nY l j k->nY l i k
theorem nY.first {l:List Oper} {i k:Nat} (h:nY l i k): ∃o j,l[i]? =some o/\uh o j=true/\(j=k\/nY l j k):=by
 induction h with
 | edge ho he=>exact⟨_,_,ho,he, .inl rfl⟩
 | trans h1 h2 ih1 ih2=>
  obtain⟨o,j,ho,he,hr⟩:=ih1
  rcases hr with rfl | hr
  ·exact⟨o,_,ho,he, .inr h2⟩
  ·exact⟨o,j,ho,he, .inr (hr.trans h2)⟩
theorem nY.done {l:List Oper} {D:Nat->Bool} (hcl:qc l D) {i k:Nat} (h:nY l i k): (∃o,l[i]? =some o/\nu D o.after.toList)->D k=true:=by
 induction h with
 | edge ho he=>
  rintro⟨o2,ho2,hd⟩
  rw [ho] at ho2;injection ho2 with ho2;subst ho2
  exact lV hd he
 | trans h1 h2 ih1 ih2=>
  intro hd
  have hj:=ih1 hd
  obtain⟨o,_,ho,_,_⟩:=h2.first
  exact ih2 ⟨o,ho,hcl _ o ho hj⟩
def Sound (l:List Oper) (acc:List Nat):Prop:=∀i k,Nat.testBit (acc.getD i 0) k=true->nY l i k
theorem xy {l:List Oper} {acc:List Nat} {i k:Nat} {o:Oper} (hs:Sound l acc) (ho:l[i]? =some o): ∀(es:List Edge),(∀e∈es,e∈o.after.toList)->Nat.testBit (xx acc es) k=true->nY l i k
 | [],_,h=>by unfold xx at h;simp at h
 | e::r,hm,h=>by
  unfold xx at h
  cases hb:Region.binds .any e with
  | false=>rw [hb] at h;exact xy hs ho r (fun e he=>hm e (by simp [he])) h
  | true=>
   rw [hb] at h
   have h:Nat.testBit (((1 <<< e.on)||| acc.getD e.on 0)||| xx acc r) k=true:=h
   rw [Nat.testBit_or,Nat.testBit_or,dU,dU] at h
   have hedge: ∀k,e.on=k->uh o k=true:=fun k hk=>by
    subst hk
    unfold uh
    rw [jQ]
    exact⟨e,hm e (by simp),by rw [hb,Nat.beq_refl];rfl⟩
   rcases h with (h | h) | h
   ·rw [Nat.one_shiftLeft,Nat.testBit_two_pow,bP] at h
    exact .edge ho (hedge k h)
   ·exact .trans (.edge ho (hedge e.on rfl)) (hs e.on k h)
   ·exact xy hs ho r (fun e he=>hm e (by simp [he])) h
theorem Du: ∀(l l0:List Oper) (acc:List Nat),(∀(j:Nat),l[j]? =l0[acc.length+j]?)->Sound l0 acc->Sound l0 (CE l acc)
 | [],_,_,_,h=>h
 | o::l,l0,acc,hl,h=>by
  unfold CE
  refine Du l l0 _ (fun j=>?_) fun i k hb=>?_
  ·have:=hl (j+1)
   rw [dR,fI,List.length_nil]
   rw [show acc.length+ (0+1)+j=acc.length+ (j+1) by omega,<-this];simp
  ·rw [List.getD_eq_getElem?_getD,List.getElem?_append] at hb
   split at hb
   ·rw [<-List.getD_eq_getElem?_getD] at hb;exact h i k hb
   ·rename_i hlt
    by_cases he:i=acc.length
    ·subst he
     simp at hb
     have ho:=hl 0
     exact xy h (o:=o) (by rw [Nat.add_zero] at ho;rw [<-ho];rfl) _ (fun e he=>he) hb
    ·have: (i - acc.length)≠0:=by omega
     rw [List.getElem?_eq_none (by simp;omega)] at hb
     simp at hb
def Af (ops:Array Oper) (i:Nat) (o:Oper) (k:Nat) (o':Oper):Bool:=
 Nat.beq i k||match o'.dst with
  | some d=>(match o.dst with | some d2=> !Nat.beq d d2 | none=>true)&&(!wH ops o d||(bif Nat.blt k i then uh o k else uh o' i))
  | none=>true
def qj (ops:Array Oper) (i:Nat) (o:Oper):Nat->List Oper->Bool
 | _,[]=>true
 | k,o'::l=>Af ops i o k o'&&qj ops i o (k+1) l
def Jr:Op->Bool | .select .. =>false | _=>true
def kindOk (n:Nat) (o:Oper) (m:Nat):Bool:=Jr o.op&&(bif Nat.beq m 2 then (match o.dst with | some d=>Nat.blt d n | none=>true) else ra o.op&&(match o.dst with | some d=>Nat.blt d n | none=>false))
def xz (n:Nat) (ops:Array Oper) (l:List Oper) (mk:List Nat):Nat->List Oper->Bool
 | _,[]=>true
 | i,o::l'=>kindOk n o (mk.getD i 0)&&qj ops i o 0 l&&xz n ops l mk (i+1) l'
def BA (A mk:List Nat):List Nat->List Nat->Bool
 | _,[]=>true
 | pre,i::post=>(bif Nat.beq (mk.getD i 0) 2 then (post.all fun q=>Nat.testBit (A.getD q 0) i)&&(pre.all fun q=>Nat.beq (mk.getD q 0) 1||Nat.beq (mk.getD q 0) 3||Nat.testBit (A.getD i 0) q) else true)&&BA A mk (pre++[i]) post
def Ag:List Nat->Bool
 | []=>true
 | a::l=> !(l.any fun b=>Nat.beq a b)&&Ag l
def Fq (l:List Oper):List Nat->Bool
 | []=>true
 | i::post=>(match l[i]? with | some o=>post.all fun q=> !uh o q | none=>true)&&Fq l post
theorem Ah {l:List Oper}: ∀{ord:List Nat},Fq l ord=true->∀(p1:List Nat) (i:Nat) (p2:List Nat),ord=p1++i::p2->∀o,l[i]? =some o->∀q∈p2,uh o q=false
 | [],_,p1,i,p2,e,_,_,_,_=>by cases p1 <;> cases e
 | a::ord,h,[],i,p2,e,o,ho,q,hq=>by
  injection e with e1 e2;subst e1;subst e2
  unfold Fq at h
  rw [ho,bT] at h
  have:=jD.1 h.1 q hq
  rwa [Bool.not_eq_true'] at this
 | a::ord,h,b::p1,i,p2,e,o,ho,q,hq=>by
  injection e with e1 e2
  unfold Fq at h
  rw [bT] at h
  exact Ah h.2 p1 i p2 e2 o ho q hq
def Ft (n:Nat) (l:List Oper) (mk ord:List Nat):Bool:=
 Ag ord&&(List.range l.length).all (fun i=>ord.any fun j=>Nat.beq i j)&&(ord.all fun i=>Nat.blt i l.length)&&xz n l.toArray l mk 0 l&&BA (CE l []) mk [] ord&&Fq l ord
theorem zi: ∀{l:List Nat},Ag l=true->l.Nodup
 | [],_=>List.nodup_nil
 | a::l,h=>by
  unfold Ag at h
  rw [bT,Bool.not_eq_true'] at h
  refine List.nodup_cons.2 ⟨fun hm=>?_,zi h.2⟩
  have: (l.any fun b=>Nat.beq a b)=true:=jQ.2 ⟨a,hm,Nat.beq_refl a⟩
  rw [this] at h;cases h.1
theorem tm {ops:Array Oper} {i:Nat} {o:Oper}: ∀{k:Nat} {l:List Oper},qj ops i o k l=true->∀(j:Nat) o',l[j]? =some o'->Af ops i o (k+j) o'=true
 | _,[],_,j,o',h=>by simp at h
 | k,p::l,hs,0,o',h=>by
  unfold qj at hs;rw [bT] at hs
  simp at h;subst h;exact hs.1
 | k,p::l,hs,j+1,o',h=>by
  unfold qj at hs;rw [bT] at hs
  have:=tm hs.2 j o' (by simpa using h)
  rw [show k+ (j+1)=k+1+j by omega];exact this
theorem zj {n:Nat} {ops:Array Oper} {l0:List Oper} {mk:List Nat}: ∀{i:Nat} {l:List Oper},xz n ops l0 mk i l=true->∀(j:Nat) o,l[j]? =some o->kindOk n o (mk.getD (i+j) 0)=true/\qj ops (i+j) o 0 l0=true
 | _,[],_,j,o',h=>by simp at h
 | i,p::l,hs,0,o',h=>by
  unfold xz at hs;simp only [bT] at hs
  simp at h;subst h;exact hs.1
 | i,p::l,hs,j+1,o',h=>by
  unfold xz at hs;simp only [bT] at hs
  have:=zj hs.2 j o' (by simpa using h)
  rw [show i+ (j+1)=i+1+j by omega];exact this
theorem BB {A mk:List Nat}: ∀{post pre:List Nat},BA A mk pre post=true->∀(p1:List Nat) (i:Nat) (p2:List Nat),post=p1++i::p2->mk.getD i 0=2->
  (∀q∈p2,Nat.testBit (A.getD q 0) i=true)/\(∀q∈pre++p1,(mk.getD q 0=1\/mk.getD q 0=3)\/Nat.testBit (A.getD i 0) q=true)
 | [],_,_,p1,i,p2,e,_=>by cases p1 <;> cases e
 | a::post,pre,h,[],i,p2,e,hm=>by
  injection e with e1 e2;subst e1;subst e2
  unfold BA at h
  rw [hm] at h
  simp only [Nat.beq_refl,aR,bT] at h
  refine⟨fun q hq=>jD.1 h.1.1 q hq,fun q hq=>?_⟩
  have:=jD.1 h.1.2 q (by simpa using hq)
  rw [dU,dU] at this
  rcases this with (h | h) | h
  ·exact .inl (.inl (eC h))
  ·exact .inl (.inr (eC h))
  ·exact .inr h
 | a::post,pre,h,b::p1,i,p2,e,hm=>by
  injection e with e1 e2;subst e1
  unfold BA at h
  rw [bT] at h
  have:=BB h.2 p1 i p2 e2 hm
  refine⟨this.1,fun q hq=>this.2 q (by simpa using hq)⟩
theorem yG {P:Program} {o:Oper} {a a':Act} {next next':Act->World->Prop} {Qf Qf':Exit->Act->World->Prop} {r:Result Next} (ha:a.defers= [])
  (hn: ∀v w,next (a.put o.dst v) w->next' (a'.put o.dst v) w) (hdf: ∀(b:Act) w,next b w->b.defers= []) (hp: ∀c b w,¬Qf (.panic c) b w) (hl: ¬LetsOut Qf) (h:o.upon P a next Qf r):o.upon P a' next' Qf' r:=by
 cases r with
 | ok nx w'=>
  cases nx with
  | value v=>exact hn v w' h
  | skip=>exact hn undef w' h
  | defer d=>
   have h:next ({a with defers:=d::a.defers}.put o.dst undef) w':=h
   have:=hdf _ _ h
   cases hd:o.dst with
   | none=>rw [hd] at this;cases this
   | some t=>rw [hd] at this;cases this
  | enter f args=>
   refine Calls.mono h fun e w'' he=>?_
   cases e with
   | returned v=>exact hn v w'' he
   | panicked c=>exact(hp _ _ _ he).elim
   | outgrown=>exact(hl he).elim
  | row row args=>exact Rows.mono h fun v w'' he=>hn v w'' he
  | _=>exact h.elim
 | halt x w'=>
  cases x with
  | panic v=>exact(hp _ _ _ h).elim
  | _=>exact h.elim
section
variable {P:Program} {n:Nat} {l:List Oper} {mk:List Nat} {Q:gq}
theorem DP.norm: ∀(ord:List Nat) (S:World->Prop) (U:Nat->Value) (w:World) (a:Act),Sl n U a->S w->(∀i∈ord,∀o,l[i]? =some o->kindOk n o (mk.getD i 0)=true)->DP P n l mk Q S ord U w->
  ∃pre vs post a' S',ord=pre++post/\vs.length=pre.length/\Sl n (ku l U pre vs) a'/\DP P n l mk Q S' post (ku l U pre vs) w/\(∀e rest,post=e::rest->mk.getD e 0=2)/\
   (∀(j i:Nat) v,pre[j]? =some i->vs[j]? =some v->mk.getD i 0≠2/\∃o aj,l[i]? =some o/\Sl n (ku l U (pre.take j) (vs.take j)) aj/\
    ((mk.getD i 0≠0/\∀w2,S' w2->AX P l.toArray w2 aj o v)\/(mk.getD i 0=0/\AX P l.toArray w aj o v)))/\S' w/\(∀w2,S' w2->S w2):=by
 intro ord
 induction ord with
 | nil=>intro S U w a hs hS _ h;exact⟨[],[],[],a,S,rfl,rfl,hs,h,fun _ _ e=>(by cases e),fun j i v hi=>(by simp at hi),hS,fun _ h=>h⟩
 | cons i ord ih=>
  intro S U w a hs hS hk h
  have h0:=h
  unfold DP at h
  obtain⟨o,ho,h⟩:=h
  have hko:=hk i (by simp) o ho
  have cont: ∀(S1:World->Prop) v d,o.dst=some d->Nat.blt d n=true->mk.getD i 0≠2->S1 w->(∀w2,S1 w2->S w2)->((mk.getD i 0≠0/\∀w2,S1 w2->AX P l.toArray w2 a o v)\/(mk.getD i 0=0/\AX P l.toArray w a o v))->DP P n l mk Q S1 ord (eL U d v) w->
    ∃pre vs post a' S',i::ord=pre++post/\vs.length=pre.length/\Sl n (ku l U pre vs) a'/\DP P n l mk Q S' post (ku l U pre vs) w/\(∀e rest,post=e::rest->mk.getD e 0=2)/\
     (∀(j i:Nat) v,pre[j]? =some i->vs[j]? =some v->mk.getD i 0≠2/\∃o aj,l[i]? =some o/\Sl n (ku l U (pre.take j) (vs.take j)) aj/\
      ((mk.getD i 0≠0/\∀w2,S' w2->AX P l.toArray w2 aj o v)\/(mk.getD i 0=0/\AX P l.toArray w aj o v)))/\S' w/\(∀w2,S' w2->S w2):=by
   intro S1 v d hd hdn hn2 hS1 hSS hev hrest
   have hstep: ∀is us,ku l U (i::is) (v::us)=ku l (eL U d v) is us:=fun is us=>by
    unfold ku
    rw [ho]
    have:nE o U v=eL U d v:=by unfold nE;rw [hd]
    simp only [this]
    cases is <;> cases us <;> rfl
   obtain⟨pre,vs,post,a',S',e1,e2,e3,e4,e5,e6,e7,e8⟩:=ih S1 (eL U d v) w _ (hs.put hdn v) hS1 (fun j hj=>hk j (by simp [hj])) hrest
   refine⟨i::pre,v::vs,post,a',S',by rw [e1];rfl,by simp [e2],by rw [hstep];exact e3,by rw [hstep];exact e4,e5,fun j i' v' hi' hv'=>?_,e7,fun w2 h=>hSS w2 (e8 w2 h)⟩
   cases j with
   | zero=>
    simp at hi' hv';subst hi';subst hv'
    refine⟨hn2,o,a,ho,hs,?_⟩
    rcases hev with ⟨h1,h2⟩ | h1
    ·exact .inl ⟨h1,fun w2 h=>h2 w2 (e8 w2 h)⟩
    ·exact .inr h1
   | succ j=>
    obtain⟨hn,o',aj,h1,h2,h3⟩:=e6 j i' v' (by simpa using hi') (by simpa using hv')
    exact⟨hn,o',aj,h1,by rw [List.take_succ_cons,List.take_succ_cons,hstep];exact h2,h3⟩
  unfold kindOk at hko
  rw [bT] at hko
  have dst:mk.getD i 0≠2->ra o.op=true/\∃d,o.dst=some d/\Nat.blt d n=true:=fun hn=>by
   have hk2:=hko.2
   have hb:Nat.beq (mk.getD i 0) 2=false:=by
    cases hx:Nat.beq (mk.getD i 0) 2 with
    | false=>rfl
    | true=>exact absurd (eC hx) hn
   rw [hb,aS,bT] at hk2
   refine⟨hk2.1,?_⟩
   cases hd:o.dst with
   | none=>rw [hd] at hk2;cases hk2.2
   | some d=>rw [hd] at hk2;exact⟨d,rfl,hk2.2⟩
  rcases h with ⟨hm,h⟩ | ⟨hm,v,S1,hSS,hS1,h1,h⟩ | ⟨hm,h⟩ | ⟨hm,T,q,b,m,row,e,ag,k,hop,hp,hT,h3,h4,hh,h⟩
  ·have hn2:mk.getD i 0≠2:=by rw [hm];decide
   obtain⟨hr,d,hd,hdn⟩:=dst hn2
   obtain⟨v,hst,hrest⟩:=Ac (C:=fun σ'=>DP P n l mk Q S ord σ' w) hs hr hd hdn h
   exact cont S v d hd hdn hn2 hS (fun _ h=>h) (.inr ⟨hm,hst⟩) hrest
  ·have hn2:mk.getD i 0≠2:=by rw [hm];decide
   obtain⟨hr,d,hd,hdn⟩:=dst hn2
   have hu:nE o U v=eL U d v:=by unfold nE;rw [hd]
   rw [hu] at h
   refine cont S1 v d hd hdn hn2 (hS1 hS) hSS (.inl ⟨by rw [hm];decide,fun w2 hS2=>?_⟩) h
   obtain⟨v',hst,he⟩:=Ac (C:=fun σ'=>σ'=nE o U v) hs hr hd hdn (h1 w2 hS2)
   rw [hu] at he
   have:=congrFun he d
   unfold eL at this
   rw [Nat.beq_refl] at this
   have:v'=v:=this
   subst this;exact hst
  ·exact⟨[],[],i::ord,a,S,rfl,rfl,hs,h0,fun e rest he=>by injection he with h1 _;subst h1;exact hm,fun j i v hi=>(by simp at hi),hS,fun _ h=>h⟩
  ·have hn2:mk.getD i 0≠2:=by rw [hm];decide
   obtain⟨hr,d,hd,hdn⟩:=dst hn2
   obtain⟨v,hst,hrest⟩:=Ac (C:=fun σ'=>DP P n l mk Q (fun w2=>S w2/\w2.heap[b]? =some (.cells row e (0,0))) ord σ' w) hs hr hd hdn h
   exact cont _ v d hd hdn hn2 ⟨hS,hh⟩ (fun _ h=>h.1) (.inl ⟨by rw [hm];decide,fun w2 hS2=>Fp hs hop hp hT h3 h4 hh hS2.2 hst⟩) hrest
theorem RC.Fu (S0:World->Prop) {U:Nat->Value} {w:World} {id:Nat} (hm:P.follows .mixedOrders=true) (hdep:qZ 0 l=true) (mk ord:List Nat) (hS0:S0 w.drew) (h:DP P n l mk Q S0 ord U w.drew) (hc:Ft n l mk ord=true:=by kernel_rfl):RC P n (.region id l.toArray true) U w Q:=by
 intro a0 ha0
 unfold Ft at hc
 simp only [bT] at hc
 obtain⟨⟨⟨⟨⟨c1,c2⟩,c3⟩,c4⟩,c5⟩,c6⟩:=hc
 have hnd:=zi c1
 have hall: ∀i,i<l.length->i∈ord:=fun i hi=>by
  have:=jD.1 c2 i (by simpa using hi)
  obtain⟨j,hj,e⟩:=jQ.1 this
  rw [eC e];exact hj
 have hlt: ∀i∈ord,i<l.length:=fun i hi=>Nat.blt_eq▸jD.1 c3 i hi
 have hK: ∀i o,l[i]? =some o->kindOk n o (mk.getD i 0)=true/\qj l.toArray i o 0 l=true:=fun i o ho=>by
  have:=zj c4 i o ho;rwa [gj] at this
 have hA:Sound l (CE l []):=Du l l [] (fun j=>by simp) (fun i k hb=>by simp at hb)
 have hdist: ∀(i k:Nat) o o' t,l[i]? =some o->l[k]? =some o'->k≠i->o.dst=some t->o'.dst≠some t:=fun i k o o' t ho ho' hne hd hd'=>by
  have hp:=tm (hK i o ho).2 k o' ho'
  rw [gj] at hp
  unfold Af at hp
  rw [hd',hd,dU] at hp
  rcases hp with hp | hp
  ·have:=eC hp;omega
  ·simp only [bT,Bool.not_eq_true'] at hp
   have:=hp.1
   rw [Nat.beq_refl] at this;cases this
 have hsee: ∀(i k:Nat) o o' t,l[i]? =some o->l[k]? =some o'->k≠i->o'.dst=some t->wH l.toArray o t=true->(k<i/\uh o k=true)\/(i<k/\uh o' i=true):=fun i k o o' t ho ho' hne hd' hs=>by
  have hp:=tm (hK i o ho).2 k o' ho'
  rw [gj] at hp
  unfold Af at hp
  rw [hd',dU] at hp
  rcases hp with hp | hp
  ·have:=eC hp;omega
  simp only [bT,dU,Bool.not_eq_true'] at hp
  have hp2:=hp.2
  rw [hs] at hp2
  rcases hp2 with hp2 | hp2
  ·cases hp2
  by_cases hki:k<i
  ·have hb:Nat.blt k i=true:=by rw [Nat.blt_eq];exact hki
   rw [hb] at hp2
   exact .inl ⟨hki,hp2⟩
  ·have hb:Nat.blt k i=false:=by
    cases hx:Nat.blt k i with
    | false=>rfl
    | true=>rw [Nat.blt_eq] at hx;omega
   rw [hb] at hp2
   exact .inr ⟨by omega,hp2⟩
 have hsz: ∀(g:Nat) o2 d,l.toArray[g]? =some o2->o2.dst=some d->d<n:=fun g o2 d ho hd=>by
  have:=(hK g o2 (by simpa using ho)).1
  unfold kindOk at this
  rw [bT] at this
  have h2:=this.2
  rw [hd] at h2
  cases hb:Nat.beq (mk.getD g 0) 2 with
  | true=>rw [hb] at h2;exact Nat.blt_eq▸h2
  | false=>rw [hb] at h2;rw [aS,bT] at h2;exact Nat.blt_eq▸h2.2
 refine RC.Ll (U:=U) (w:=w) hm hdep (fun D σ' w'=>∃pre vs post a S,ord=pre++post/\vs.length=pre.length/\Sl n (ku l U pre vs) a/\DP P n l mk Q S post (ku l U pre vs) w'/\(∀e rest,post=e::rest->mk.getD e 0=2)/\
   (∀i∈post,D i=false)/\
   (∀(j i:Nat) v,pre[j]? =some i->vs[j]? =some v->D i=false->mk.getD i 0≠2/\∃o aj,l[i]? =some o/\Sl n (ku l U (pre.take j) (vs.take j)) aj/\((mk.getD i 0≠0/\∀w2,S w2->AX P l.toArray w2 aj o v)\/(mk.getD i 0=0/\AX P l.toArray w' aj o v)))/\S w'/\
   (∀(j i:Nat) v o t,pre[j]? =some i->vs[j]? =some v->l[i]? =some o->o.dst=some t->D i=true->σ' t=v)/\
   (∀t,(∀(i:Nat) o,l[i]? =some o->o.dst=some t->D i=false)->σ' t=U t)) ?_ ?_ ?_ a0 ha0
 ·obtain⟨pre,vs,post,a',S,e1,e2,e3,e4,e5,e6,eS,_⟩:=DP.norm ord _ U w.drew a0 ha0 hS0 (fun i _ o ho=>(hK i o ho).1) h
  exact⟨pre,vs,post,a',S,e1,e2,e3,e4,e5,fun _ _=>rfl,fun j i v hi hv _=>e6 j i v hi hv,eS,fun j i v o t _ _ _ _ hD=>(by cases hD),fun t _=>rfl⟩
 ·refine qh fun i o ho=>?_
  rw [gj]
  rintro D σ' w' hD hdeps hcl ⟨pre,vs,post,a,S,e1,e2,e3,e4,e5,e6,e7,eS,e8,e9⟩
  have hil:i<l.length:=(bC.1 ho).1
  have hio:=hall i hil
  have hancD: ∀k,Nat.testBit ((CE l []).getD i 0) k=true->D k=true:=fun k hb=>(hA i k hb).done hcl ⟨o,ho,hdeps⟩
  have hag: ∀(p1:List Nat) (vs1:List Value) (p2:List Nat),p1++i::p2=ord->vs1.length=p1.length->(∀(j i':Nat) v o' t,p1[j]? =some i'->vs1[j]? =some v->l[i']? =some o'->o'.dst=some t->D i'=true->σ' t=v)->
    ∀t,wH l.toArray o t=true->ku l U p1 vs1 t=σ' t:=by
   intro p1 vs1 p2 he hl1 h8 t ht
   have hni:i∉p1:=fun hm=>by
    rw [<-he] at hnd
    exact(List.nodup_append.1 hnd).2.2 i hm i (by simp) rfl
   have hnd1:p1.Nodup:=by rw [<-he] at hnd;exact(List.nodup_append.1 hnd).1
   by_cases hex: ∃(k:Nat) (o':Oper),l[k]? =some o'/\o'.dst=some t
   ·obtain⟨k,o',ho',hd'⟩:=hex
    have hkd:k≠i->D k=true->k∈p1\/k∈p2:=fun hne _=>by
     have:=hall k (bC.1 ho').1
     rw [<-he] at this
     simp at this
     rcases this with h | h | h
     ·exact .inl h
     ·exact absurd h hne
     ·exact .inr h
    by_cases hki:k=i
    ·subst hki
     rw [py p1 vs1 U (fun i' hi' o2 ho2 hd2=>hdist k i' o' o2 t ho' ho2 (fun e=>hni (e▸hi')) hd' hd2)]
     refine(e9 t fun k2 o2 ho2 hd2=>?_).symm
     by_cases he2:k2=k
     ·subst he2;exact hD
     ·exact absurd hd2 (hdist k k2 o' o2 t ho' ho2 he2 hd')
    ·rcases hsee i k o o' t ho ho' hki hd' ht with ⟨_,hE⟩ | ⟨hlt2,hE⟩
     ·have hDk:=lV hdeps hE
      by_cases hp:k∈p1
      ·obtain⟨j,hj⟩:=List.mem_iff_getElem?.1 hp
       have hjl:j<vs1.length:=by rw [hl1];exact(bC.1 hj).1
       rw [h8 j k vs1[j] o' t hj (aJ hjl) ho' hd' hDk]
       refine Ae p1 vs1 U j k o' vs1[j] hj (aJ hjl) ho' hd' fun k2 i2 o2 hk2 ho2 hne=>?_
       refine hdist k i2 o' o2 t ho' ho2 (fun e=>hne ?_) hd'
       subst e
       exact(List.getElem?_inj (bC.1 hk2).1 hnd1).1 (by rw [hk2,hj])
      ·rcases hkd hki hDk with h | h
       ·exact absurd h hp
       ·rw [Ah c6 p1 i p2 he.symm o ho k h] at hE;cases hE
     ·have hDk:D k=false:=nf fun hDk=>by
       have:=lV (hcl k o' ho' hDk) hE
       rw [hD] at this;cases this
      rw [py p1 vs1 U (fun i' hi' o2 ho2 hd2=>?_)]
      ·refine(e9 t fun k2 o2 ho2 hd2=>?_).symm
       by_cases he2:k2=k
       ·subst he2;exact hDk
       ·exact absurd hd2 (hdist k k2 o' o2 t ho' ho2 he2 hd')
      ·by_cases he2:i'=k
       ·subst he2
        obtain⟨q1,q2,hq⟩:=List.append_of_mem hi'
        have:=Ah c6 q1 i' (q2++i::p2) (by rw [<-he,hq];simp) o' ho' i (by simp)
        rw [this] at hE;cases hE
       ·exact hdist k i' o' o2 t ho' ho2 he2 hd' hd2
   ·rw [e9 t fun k o' ho' hd'=>absurd ⟨k,o',ho',hd'⟩ hex]
    exact py p1 vs1 U (fun i' hi' o2 ho2 hd2=>hex ⟨i',o2,ho2,hd2⟩)
  have hrunC: ∀(σ1:Nat->Value) (a1 a2:Act),Sl n σ1 a1->Sl n σ' a2->(∀t,wH l.toArray o t=true->σ1 t=σ' t)->execOp a2.eval o=execOp a1.eval o:=fun σ1 a1 a2 hs1 hs2 hag=>by
   refine execOp_congr o (fun cs b e=>?_) fun x hx=>?_
   ·have:=(hK i o ho).1
    unfold kindOk at this
    rw [e] at this;cases this
   ·rw [hs2.ev,hs1.ev]
    cases x with
    | tmp t=>
     refine(hag t ?_).symm
     unfold wH Oper.looksAt
     rw [List.any_append,dU]
     left
     rw [jQ]
     exact⟨t,List.mem_filterMap.2 ⟨.tmp t,by simpa using hx,rfl⟩,Nat.beq_refl t⟩
    | _=>rfl
  by_cases hip:i∈pre
  ·
   obtain⟨p1,p2,hpre⟩:=List.append_of_mem hip
   have hjv:p1.length<vs.length:=by rw [e2,hpre];simp
   have hpj:pre[p1.length]? =some i:=by rw [hpre];simp
   obtain⟨v1,hv1⟩: ∃v,vs[p1.length]? =some v:=⟨_,aJ hjv⟩
   obtain⟨hn2,o2,aj,ho2,hsj,hev⟩:=e7 p1.length i v1 hpj hv1 hD
   rw [ho] at ho2;injection ho2 with ho2;subst ho2
   have htk:pre.take p1.length=p1:=by rw [hpre];simp
   rw [htk] at hsj
   have hst:AX P l.toArray w' aj o v1:=by
    rcases hev with ⟨_,h⟩ | ⟨_,h⟩
    ·exact h w' eS
    ·exact h
   have hag1:=hag p1 (vs.take p1.length) (p2++post) (by rw [e1,hpre];simp) (by rw [dE];omega) (fun j i' v o' t hj hv ho' hd' hDi=>by
    have hjl:=(bC.1 hj).1
    rw [dM,aC hjl] at hv
    exact e8 j i' v o' t (by rw [hpre,fO hjl];exact hj) hv ho' hd' hDi)
   have hmk: ∃d,o.dst=some d/\Nat.blt d n=true:=by
    have:=(hK i o ho).1
    unfold kindOk at this
    rw [bT] at this
    have h2:=this.2
    have hne:Nat.beq (mk.getD i 0) 2=false:=by
     cases hx:Nat.beq (mk.getD i 0) 2 with
     | false=>rfl
     | true=>exact absurd (eC hx) hn2
    rw [hne,aS,bT] at h2
    cases hd:o.dst with
    | none=>rw [hd] at h2;cases h2.2
    | some d=>rw [hd] at h2;exact⟨d,rfl,h2.2⟩
   obtain⟨d,hd,hdn⟩:=hmk
   have hJ: ∃pre vs post a S,ord=pre++post/\vs.length=pre.length/\Sl n (ku l U pre vs) a/\DP P n l mk Q S post (ku l U pre vs) w'/\(∀e rest,post=e::rest->mk.getD e 0=2)/\
     (∀i'∈post,ins D i i'=false)/\
     (∀(j i':Nat) v,pre[j]? =some i'->vs[j]? =some v->ins D i i'=false->mk.getD i' 0≠2/\∃o aj,l[i']? =some o/\Sl n (ku l U (pre.take j) (vs.take j)) aj/\((mk.getD i' 0≠0/\∀w2,S w2->AX P l.toArray w2 aj o v)\/(mk.getD i' 0=0/\AX P l.toArray w' aj o v)))/\S w'/\
     (∀(j i':Nat) v o' t,pre[j]? =some i'->vs[j]? =some v->l[i']? =some o'->o'.dst=some t->ins D i i'=true->eL σ' d v1 t=v)/\
     (∀t,(∀(i':Nat) o',l[i']? =some o'->o'.dst=some t->ins D i i'=false)->eL σ' d v1 t=U t):=by
    refine⟨pre,vs,post,a,S,e1,e2,e3,e4,e5,fun i' hi'=>?_,fun j i' v hj hv hDi=>?_,eS,fun j i' v o' t hj hv ho' hd' hDi=>?_,fun t ht=>?_⟩
    ·rw [na (fun e=>by
      subst e
      rw [e1] at hnd
      exact(List.nodup_append.1 hnd).2.2 i' hip i' hi' rfl)]
     exact e6 i' hi'
    ·refine e7 j i' v hj hv ?_
     by_cases he:i'=i
     ·subst he;exact hD
     ·rwa [na he] at hDi
    ·by_cases he:i'=i
     ·subst he
      rw [ho] at ho';injection ho' with ho';subst ho'
      rw [hd] at hd';injection hd' with hd';subst hd'
      have hndp:pre.Nodup:=by rw [e1] at hnd;exact(List.nodup_append.1 hnd).1
      have:j=p1.length:=(List.getElem?_inj (bC.1 hj).1 hndp).1 (by rw [hj,hpj])
      subst this
      rw [hv1] at hv
      injection hv with hv
      unfold eL;rw [Nat.beq_refl];exact hv
     ·rw [na he] at hDi
      have hne:t≠d:=fun e=>by subst e;exact hdist i i' o o' t ho ho' he hd hd'
      unfold eL
      cases hb:Nat.beq t d with
      | true=>exact absurd (eC hb) hne
      | false=>exact e8 j i' v o' t hj hv ho' hd' hDi
    ·have hne:t≠d:=fun e=>by
      subst e
      have:=ht i o ho hd
      rw [uj] at this;cases this
     unfold eL
     cases hb:Nat.beq t d with
     | true=>exact absurd (eC hb) hne
     | false=>
      refine e9 t fun k2 o2 ho2 hd2=>?_
      have:=ht k2 o2 ho2 hd2
      by_cases he:k2=i
      ·subst he;exact hD
      ·rwa [na he] at this
   intro a2 hs2
   have hrun:=hrunC _ aj a2 hsj hs2 hag1
   have hwant:=qg (ops:=l.toArray) (o:=o) hsj hs2 hag1 hsz
   unfold wpList
   rcases hst with ⟨hw1,hr1⟩ | ⟨hw1,hvu⟩
   ·rw [hwant] at hw1
    rw [aC hw1]
    left
    unfold Oper.wp
    rw [hrun,hr1]
    refine⟨eL σ' d v1,?_,rfl,hJ⟩
    rw [hd];exact hs2.put hdn _
   ·rw [hwant] at hw1
    rw [aD (by rw [hw1];exact ji)]
    rw [hvu] at hJ
    refine⟨eL σ' d undef,?_,rfl,hJ⟩
    rw [hd];exact hs2.put hdn _
  ·
   have hipo:i∈post:=by
    rw [e1] at hio
    rcases cS.1 hio with h | h
    ·exact absurd h hip
    ·exact h
   cases post with
   | nil=>cases hipo
   | cons e rest=>
    have hme:=e5 e rest rfl
    have hoa:=BB c5 pre e rest e1 hme
    have hie:i=e:=by
     rcases fQ.1 hipo with h | h
     ·exact h
     ·have:=hancD e (hoa.1 i h)
      rw [e6 e (by simp)] at this;cases this
    subst hie
    unfold DP at e4
    obtain⟨o2,ho2,hdp⟩:=e4
    rw [ho] at ho2;injection ho2 with ho2;subst ho2
    obtain⟨S1,oF,hdp⟩: ∃S1:World->Prop,((∀w2,S1 w2->S w2)\/CF l i rest=true)/\RL P n l.toArray [o] (ku l U pre vs) w' (fun ex σ' w'=>ex = .normal/\S1 w'/\DP P n l mk Q S1 rest σ' w'):=by
     rcases hdp with ⟨h,_⟩ | ⟨h,_⟩ | ⟨_,h⟩ | ⟨h,_⟩
     ·rw [hme] at h;cases h
     ·rw [hme] at h;cases h
     ·exact h
     ·rw [hme] at h;cases h
    have hag1:=hag pre vs rest e1.symm e2 e8
    have hdn: ∀d,o.dst=some d->Nat.blt d n=true:=fun d hd=>by
     have:=(hK i o ho).1
     unfold kindOk at this
     rw [hme,bT] at this
     have h2:=this.2
     rw [hd] at h2;exact h2
    have hput: ∀(σ1:Nat->Value) (a1:Act) v,Sl n σ1 a1->Sl n (nE o σ1 v) (a1.put o.dst v):=fun σ1 a1 v hs1=>by
     unfold nE
     cases hd:o.dst with
     | none=>exact hs1.xf v
     | some d=>exact hs1.put (hdn d hd) v
    have hni:i∉pre:=hip
    have hnr:i∉rest:=fun hm=>by
     rw [e1] at hnd
     exact(List.nodup_cons.1 (List.nodup_append.1 hnd).2.1).1 hm
    have key: ∀(a2:Act) v w1,Sl n σ' a2->Lf n (fun ex σ' w'=>ex = .normal/\S1 w'/\DP P n l mk Q S1 rest σ' w') .normal (a.put o.dst v) w1->
      Lf n (fun ex σ' w1=>ex = .normal/\∃pre vs post a S,ord=pre++post/\vs.length=pre.length/\Sl n (ku l U pre vs) a/\DP P n l mk Q S post (ku l U pre vs) w1/\(∀e rest,post=e::rest->mk.getD e 0=2)/\
       (∀i'∈post,ins D i i'=false)/\
       (∀(j i':Nat) v,pre[j]? =some i'->vs[j]? =some v->ins D i i'=false->mk.getD i' 0≠2/\∃o aj,l[i']? =some o/\Sl n (ku l U (pre.take j) (vs.take j)) aj/\((mk.getD i' 0≠0/\∀w2,S w2->AX P l.toArray w2 aj o v)\/(mk.getD i' 0=0/\AX P l.toArray w1 aj o v)))/\S w1/\
       (∀(j i':Nat) v o' t,pre[j]? =some i'->vs[j]? =some v->l[i']? =some o'->o'.dst=some t->ins D i i'=true->σ' t=v)/\
       (∀t,(∀(i':Nat) o',l[i']? =some o'->o'.dst=some t->ins D i i'=false)->σ' t=U t)) .normal (a2.put o.dst v) w1:=by
     rintro a2 v w1 hs2 ⟨σ1,hs1,_,hS1,hdp1⟩
     have hσ1:σ1=nE o (ku l U pre vs) v:=hs1.uniq (hput _ a v e3)
     subst hσ1
     obtain⟨pre2,vs2,post2,a3,S2,f1,f2,f3,f4,f5,f6,f7,f8⟩:=DP.norm rest S1 _ w1 _ hs1 hS1 (fun i' _ o' ho'=>(hK i' o' ho').1) hdp1
     have hX: ∀is us,ku l U (pre++i::is) (vs++v::us)=ku l (nE o (ku l U pre vs) v) is us:=fun is us=>by
      rw [wk U pre (i::is) vs (v::us) e2]
      conv=>lhs;unfold ku
      rw [ho]
     refine⟨nE o σ' v,hput _ a2 v hs2,rfl,pre++i::pre2,vs++v::vs2,post2,a3,S2,by rw [e1,f1];simp,by simp [e2,f2],by rw [hX];exact f3,by rw [hX];exact f4,f5,fun i' hi'=>?_,fun j i' u hj hu hDi=>?_,f7,fun j i' u o' t hj hu ho' hd' hDi=>?_,fun t ht=>?_⟩
     ·have hir:i'∈rest:=by rw [f1];simp [hi']
      rw [na (fun e:i'=i=>hnr (by rw [<-e];exact hir))]
      exact e6 i' (by simp [hir])
     ·have hne:i'≠i:=fun e=>by subst e;rw [uj] at hDi;cases hDi
      have hDi2:D i'=false:=by rwa [na hne] at hDi
      by_cases hjl:j<pre.length
      ·rw [fO hjl] at hj
       rw [fO (by omega)] at hu
       obtain⟨hn3,o3,aj,ho3,hsj,hev⟩:=e7 j i' u hj hu hDi2
       have t1: (pre++i::pre2).take j=pre.take j:=List.take_append_of_le_length (by omega)
       have t2: (vs++v::vs2).take j=vs.take j:=List.take_append_of_le_length (by omega)
       refine⟨hn3,o3,aj,ho3,by rw [t1,t2];exact hsj,?_⟩
       rcases hev with ⟨h,hh⟩ | ⟨h,_⟩
       ·rcases oF with oF | oF
        ·exact .inl ⟨h,fun w2 h2=>hh w2 (oF w2 (f8 w2 h2))⟩
        ·have hmem:i'∈pre:=gH hj
         have hil':i'<l.length:=(bC.1 ho3).1
         have hk:=jD.1 oF i' (by simpa using hil')
         rw [dU,dU] at hk
         rcases hk with (hk | hk) | hk
         ·exact absurd (eC hk) hne
         ·obtain⟨q,hq,hqe⟩:=jQ.1 hk
          have:=eC hqe
          subst this
          rw [e1] at hnd
          exact absurd rfl ((List.nodup_append.1 hnd).2.2 q hmem q (by simp [hq]))
         ·have:=hancD i' hk
          rw [hDi2] at this;cases this
       ·rcases hoa.2 i' (by simp [gH hj]) with (h2 | h2) | h2
        ·rw [h] at h2;cases h2
        ·rw [h] at h2;cases h2
        ·rw [hancD i' h2] at hDi2;cases hDi2
      ·rw [fz (by omega)] at hj
       rw [fz (by omega),e2] at hu
       cases hq:j - pre.length with
       | zero=>
        rw [hq] at hj;simp at hj
        exact absurd hj.symm hne
       | succ q=>
        rw [hq] at hj hu
        obtain⟨hn3,o3,aj,ho3,hsj,hev⟩:=f6 q i' u (by simpa using hj) (by simpa using hu)
        have hjq:j=pre.length+ (q+1):=by omega
        have t1: (pre++i::pre2).take j=pre++i::pre2.take q:=by rw [hjq,List.take_length_add_append,List.take_succ_cons]
        have t2: (vs++v::vs2).take j=vs++v::vs2.take q:=by rw [hjq,<-e2,List.take_length_add_append,List.take_succ_cons]
        exact⟨hn3,o3,aj,ho3,by rw [t1,t2,hX];exact hsj,hev⟩
     ·have hnd2: (pre++i::pre2).Nodup:=by
       rw [e1,f1] at hnd
       have:pre++i::(pre2++post2)= (pre++i::pre2)++post2:=by simp
       rw [this] at hnd
       exact(List.nodup_append.1 hnd).1
      by_cases hne:i'=i
      ·subst hne
       rw [ho] at ho';injection ho' with ho';subst ho'
       have hjp: (pre++i'::pre2)[pre.length]? =some i':=by simp
       have:j=pre.length:=(List.getElem?_inj (bC.1 hj).1 hnd2).1 (by rw [hj,hjp])
       subst this
       rw [<-e2] at hu
       simp at hu;subst hu
       exact Dt hd'
      ·rw [na hne] at hDi
       rw [Ad (fun hd=>hdist i i' o o' t ho ho' hne hd hd')]
       by_cases hjl:j<pre.length
       ·rw [fO hjl] at hj
        rw [fO (by omega)] at hu
        exact e8 j i' u o' t hj hu ho' hd' hDi
       ·rw [fz (by omega)] at hj
        cases hq:j - pre.length with
        | zero=>rw [hq] at hj;simp at hj;exact absurd hj.symm hne
        | succ q=>
         rw [hq] at hj
         have hm2:i'∈pre2:=gH (i:=q) (by simpa using hj)
         have:=e6 i' (by rw [f1];simp [hm2])
         rw [this] at hDi;cases hDi
     ·rw [Ad (fun hd=>by have:=ht i o ho hd;rw [uj] at this;cases this)]
      refine e9 t fun k2 o2 ho2 hd2=>?_
      have:=ht k2 o2 ho2 hd2
      by_cases he:k2=i
      ·subst he;exact hD
      ·rwa [na he] at this
    intro a2 hs2
    have hrun:=hrunC _ a a2 e3 hs2 hag1
    have hwant:=qg (ops:=l.toArray) (o:=o) e3 hs2 hag1 hsz
    have h1:=hdp a e3
    unfold wpList at h1 ⊢
    split at h1
    ·rename_i hw1
     rw [hwant] at hw1
     rw [aC hw1]
     rcases h1 with h1 | ⟨_,h1⟩
     ·left
      unfold Oper.wp at h1 ⊢
      rw [hrun]
      refine yG e3.defers (fun v w1 hk=>key a2 v w1 hs2 hk) (fun b w1 hk=>?_) (fun c b w1 hk=>?_) (fun hk=>?_) h1
      ·obtain⟨_,hsb,_⟩:=hk;exact hsb.defers
      ·obtain⟨_,_,hbad,_⟩:=hk;cases hbad
      ·obtain⟨_,_,_,_,hbad,_⟩:=hk;cases hbad
     ·obtain⟨_,_,_,_,hbad,_⟩:=h1;cases hbad
    ·rename_i hw1
     rw [hwant] at hw1
     rw [aD hw1]
     exact key a2 undef w' hs2 h1
 ·rintro D σ' w' hDall ⟨pre,vs,post,a,S,e1,e2,e3,e4,e5,e6,e7,eS,e8,e9⟩
  have hpost:post= []:=by
   cases post with
   | nil=>rfl
   | cons e rest=>
    have h1:=e6 e (by simp)
    rw [hDall e (hlt e (by rw [e1];simp))] at h1;cases h1
  subst hpost
  rw [kl] at e1
  subst e1
  have:σ'=ku l U ord vs:=by
   funext t
   by_cases hex: ∃(k:Nat) (o':Oper),l[k]? =some o'/\o'.dst=some t
   ·obtain⟨k,o',ho',hd'⟩:=hex
    have hkl:=(bC.1 ho').1
    obtain⟨j,hj⟩:=List.mem_iff_getElem?.1 (hall k hkl)
    have hjl:j<vs.length:=by rw [e2];exact(bC.1 hj).1
    rw [e8 j k vs[j] o' t hj (aJ hjl) ho' hd' (hDall k hkl)]
    refine(Ae ord vs U j k o' vs[j] hj (aJ hjl) ho' hd' fun k2 i2 o2 hk2 ho2 hne=>?_).symm
    refine hdist k i2 o' o2 t ho' ho2 (fun e=>hne ?_) hd'
    subst e
    exact(List.getElem?_inj (bC.1 hk2).1 hnd).1 (by rw [hk2,hj])
   ·rw [e9 t fun k o' ho' hd'=>absurd ⟨k,o',ho',hd'⟩ hex]
    exact(py ord vs U (fun i' hi' o2 ho2 hd2=>hex ⟨i',o2,ho2,hd2⟩)).symm
  rw [this];unfold DP at e4;exact e4
theorem RC.yC {U:Nat->Value} {w:World} {id:Nat} (hm:P.follows .mixedOrders=true) (mk ord:List Nat) (h:DP P n l mk Q (fun _=>True) ord U w.drew) (hdep:qZ 0 l=true:=by exact rfl) (hc:Ft n l mk ord=true:=by kernel_rfl):RC P n (.region id l.toArray true) U w Q:=RC.Fu (hc:=hc) _ hm hdep mk ord trivial h
end
end Go.Gk
namespace Go.Gk
open Go
def D8 (m:Nat):List Nat->Bool
 | []=>true
 | i::l=>Nat.blt i m&& !(l.any fun j=>Nat.beq i j)&&D8 m l
theorem uk {m:Nat}: ∀{l:List Nat},D8 m l=true->l.Nodup/\∀i∈l,i<m
 | [],_=>⟨List.nodup_nil,fun i h=>by cases h⟩
 | a::l,h=>by
  unfold D8 at h
  simp only [bT,Bool.not_eq_true'] at h
  obtain⟨h1,h2⟩:=uk h.2
  refine⟨List.nodup_cons.2 ⟨fun hm=>?_,h1⟩,fun i hi=>?_⟩
  ·have: (l.any fun b=>Nat.beq a b)=true:=jQ.2 ⟨a,hm,Nat.beq_refl a⟩
   rw [this] at h;cases h.1.2
  ·rcases fQ.1 hi with e | hi
   ·rw [e];exact Nat.blt_eq▸h.1.1
   ·exact h2 i hi
section
variable {E w:World} {V Γ0 new:List HP}
theorem Holds.pk (h:Holds E w V) (m:Nat) (idx:List Nat) (e: (V.drop m,idx.map (fun i=>V[i]?),D8 m idx)= (Γ0,new.map some,true):=by exact rfl):Holds E w (new++Γ0):=by
 injection e with e1 e;injection e with e2 e3
 exact h.pick m idx e1 e2 (uk e3).1 (uk e3).2
def Js (m:Nat) (idx:List Nat) (V:List HP):List HP:=idx.map (fun i=>V.getD i aX)++V.drop m
theorem Holds.pl (h:Holds E w V) (m:Nat) (idx:List Nat) (e: (D8 m idx&&(idx.all fun i=>Nat.blt i V.length))=true:=by exact rfl):Holds E w (Js m idx V):=by
 rw [bT] at e
 refine h.pick m idx rfl ?_ (uk e.1).1 (uk e.1).2
 rw [List.map_map]
 refine List.map_congr_left fun i hi=>?_
 have hlt:i<V.length:=Nat.blt_eq▸jD.1 e.2 i hi
 simp [List.getD_eq_getElem?_getD,aJ hlt]
end
section
variable {P:Program} {n:Nat} {l:List Oper} {mk:List Nat} {Q:gq} {U:Nat->Value} {w:World} {i:Nat} {rest:List Nat} {o:Oper} {ops:Array Oper} {S:World->Prop}
theorem cB (ho:l[i]? =some o) (h:RL P n l.toArray [o] U w (fun ex σ' w'=>ex = .normal/\w'=w/\DP P n l mk Q S rest σ' w)) (hm:mk.getD i 0=0:=by exact rfl):RL P n ops [] U w (fun ex σ' w'=>ex = .normal/\w'=w/\DP P n l mk Q S (i::rest) σ' w):=DP.d0 (DP.e0 (hm:=hm) ho h)
theorem um (ho:l[i]? =some o) (h:RL P n l.toArray [o] U w (fun ex σ' w'=>ex = .normal/\S w'/\DP P n l mk Q S rest σ' w')) (hm:mk.getD i 0=2:=by exact rfl):RL P n ops [] U w (fun ex σ' w'=>ex = .normal/\w'=w/\DP P n l mk Q S (i::rest) σ' w):=DP.d0 (DP.e2 (hm:=hm) ho h)
theorem yD (ho:l[i]? =some o) (h:RL P n l.toArray [o] U w (fun ex σ' w'=>ex = .normal/\w'=w/\DP P n l mk Q S rest σ' w)) (hS:S w:=by exact trivial) (hm:mk.getD i 0=0:=by exact rfl):RL P n ops [] U w (fun ex σ' w'=>ex = .normal/\S w'/\DP P n l mk Q S (i::rest) σ' w'):=DP.d2 hS (DP.e0 (hm:=hm) ho h)
theorem Hd (ho:l[i]? =some o) (h:RL P n l.toArray [o] U w (fun ex σ' w'=>ex = .normal/\S w'/\DP P n l mk Q S rest σ' w')) (hS:S w:=by exact trivial) (hm:mk.getD i 0=2:=by exact rfl):RL P n ops [] U w (fun ex σ' w'=>ex = .normal/\S w'/\DP P n l mk Q S (i::rest) σ' w'):=DP.d2 hS (DP.e2 (hm:=hm) ho h)
end
theorem eQ {P:Program} {n:Nat} {q:Operand} {x y:Code} {U:Nat->Value} {w:World} {Q:gq} {β:Type} {b:Bool} {A B:Option β} {r:β} (hb: (bif b then A else B)=some r) (ht:b=true->A=some r->RC P n x U w Q) (hf:b=false->B=some r->RC P n y U w Q) (hc:ev U q = .bool b:=by exact rfl):RC P n (.cond q x y) U w Q:=
 RC.cond hc (fun h=>ht h (by rw [h] at hb;exact hb)) (fun h=>hf h (by rw [h] at hb;exact hb))
theorem fM {G:Prop} {β:Type} {b:Bool} {A B:Option β} {r:β} (hb: (bif b then A else B)=some r) (ht:b=true->A=some r->G) (hf:b=false->B=some r->G):G:=by
 cases h:b with
 | true=>rw [h] at hb;exact ht h hb
 | false=>rw [h] at hb;exact hf h hb
end Go.Gk
namespace Go.Gk
open Go
def IG (ad:Addr) (cs:List Value):HP:=⟨fun M h=>At M ad cs/\h=oE,fun k ⟨a,b⟩=>⟨a.mono k,b⟩⟩
section
variable {α β:Type} [GT α] [GT β] {E w:World} {V:List HP} {P:Program} {n:Nat} {l:List Oper} {mk:List Nat} {Q:gq} {U:Nat->Value} {i j0:Nat} {rest:List Nat} {S:World->Prop}
variable {d:Nat} {ty:TypeId} {pos:String} {af:Array Edge} {g:Option (Nat×Bool)} {q r:Operand} {T e:TypeId} {x:α} {p:Value}
theorem Holds.j9 (h:Holds E w V) (i:Nat) {A:HP} (hi:V[i]? =some A:=by exact rfl):Holds E w [A]:=by
 have hlt:=(bC.1 hi).1
 have:=h.pick V.length [i] (Γ0:=[]) (new:=[A]) (by simp) (by simp [hi]) (by simp) (fun k hk=>by simp at hk;subst hk;exact hlt)
 simpa using this
theorem RL.Ls {v:Value} (hg:Wn l.toArray U g) (hd:Nat.blt d n=true) {op:Op} {w':World} (hrun: (execOp (ev U) ⟨some d,op,ty,pos,af,g⟩).run P w' = .ok (.value v) w'):
  RL P n l.toArray [⟨some d,op,ty,pos,af,g⟩] U w' (fun ex σ' w''=>ex = .normal/\w''=w'/\σ'=nE ⟨some d,op,ty,pos,af,g⟩ U v):=
 RL.val hg hd hrun (RL.nil ⟨rfl,rfl,rfl⟩)
theorem DP.IH {ls:List α} {sv:Value} {K:IntKind} {j:Int} (i:Nat) (ho:l[j0]? =some ⟨some d, .indexAddr T q r,ty,pos,af,g⟩) (hm:mk.getD j0 0=1) (hg:Wn l.toArray U g) (hd:Nat.blt d n=true) (hw:Holds E w V) (hx:ev U q=sv) (hy:ev U r = .int K j) (hi:V[i]? =some (rd sv ls))
  (hT:sI P T e (GT.sz α)) (hj: (if 0<=j then ls[j.toNat]? else none)=some x)
  (k: ∀v,Holds E w (pt v x::V)->DP P n l mk Q S rest (eL U d v) w):DP P n l mk Q S (j0::rest) U w:=by
 obtain⟨M,hs,gd⟩:=hw
 obtain⟨a,m,cap,hv,hmm,hc,hmx,hel⟩:=j7.1 (gd.sat i _ hi).1
 have h0:0<=j:=by
  rcases Int.lt_or_le j 0 with h | h
  ·rw [aD (by omega)] at hj;cases hj
  ·exact h
 rw [aC h0] at hj
 obtain⟨ad,cs,hae,hok,ha⟩:=hel _ _ hj
 have hlt:j<m:=by have:=(bC.1 hj).1;omega
 refine DP.e1 (hm:=hm) (.pointer (some (ad.add (j.toNat*GT.sz α)))) ho (fun w'=>RL.Ls hg hd ?_) (k _ ⟨M,_,gd.fX ⟨⟨_,cs,rfl,hok,ha⟩,rfl⟩⟩)
 simp only [execOp,hx,hv,hae,hy,Instr.indexAt,asIntOf,aO,aW,aU,run_underlying hT.wW,hT.sz,h0,hlt,and_self,if_true]
theorem DP.He {j m:Nat} {f:α->β} (i:Nat) (ho:l[j0]? =some ⟨some d, .fieldAddr T q j,ty,pos,af,g⟩) (hm:mk.getD j0 0=1) (hg:Wn l.toArray U g) (hd:Nat.blt d n=true) (hw:Holds E w V) (hx:ev U q=p) (hi:V[i]? =some (pt p x)) (hf:l9 P T j m) (hF:Fd m f)
  (k: ∀v,Holds E w (pt v (f x)::V)->DP P n l mk Q S rest (eL U d v) w):DP P n l mk Q S (j0::rest) U w:=by
 obtain⟨M,hs,gd⟩:=hw
 obtain⟨⟨ad,cs,hv,hok,ha⟩,_⟩:=gd.sat i _ hi
 refine DP.e1 (hm:=hm) (.pointer (some (ad.add m))) ho (fun w'=>RL.Ls hg hd ?_) (k _ ⟨M,_,gd.fX ⟨⟨ad.add m,_,rfl,hF M cs x hok,ha.sub m (GT.sz β)⟩,rfl⟩⟩)
 simp only [execOp,hx,hv,aO,hf.run,aU,aW]
theorem DP.wJ (x:α) (i:Nat) (ho:l[j0]? =some ⟨some d, .load T q,ty,pos,af,g⟩) (hw:Holds E w V) (hT:ld P T (GT.agg α) (GT.sz α)) (k: ∀v ad cs,Holds E w (IG ad cs::rd v x::V)->DP P n l mk Q (fun w2=>S w2/\Holds E w2 [IG ad cs]) rest (eL U d v) w) (hm:mk.getD j0 0=1:=by exact rfl) (hg:Wn l.toArray U g:=by exact trivial) (hd:Nat.blt d n=true:=by exact rfl) (hx:ev U q=p:=by exact rfl) (hi:V[i]? =some (pt p x):=by exact rfl):DP P n l mk Q S (j0::rest) U w:=by
 have hw0:=hw
 obtain⟨M,hs,gd⟩:=hw
 obtain⟨⟨ad,cs,hv,hok,ha⟩,_⟩:=gd.sat i _ hi
 have hw1:Holds E w (rd (qX α cs) x::V):=⟨M,_,gd.fX ⟨⟨cs,rfl,hok⟩,rfl⟩⟩
 have hw2:Holds E w (IG ad cs::rd (qX α cs) x::V):=⟨M,_,(gd.fX (P:=rd (qX α cs) x) ⟨⟨cs,rfl,hok⟩,rfl⟩).fX ⟨ha,rfl⟩⟩
 refine DP.MM (qX α cs) (fun w2=>S w2/\Holds E w2 [IG ad cs]) (fun _ h=>h.1) (fun h=>⟨h,hw2.j9 0⟩) ho hm (fun w' hS=>RL.Ls hg hd ?_) (k _ _ _ hw2)
 obtain⟨M',hs',gd'⟩:=hS.2
 obtain⟨ha',_⟩:=gd'.sat 0 _ rfl
 simp only [execOp,hx,hv,Instr.loadAt,Instr.sureAddr,aO,aW,aU,kx hT hok (fun j u hu=>oN gd'.im (ha' j u hu))]
theorem DP.Dv {γ:Type} [Sc γ] (y:γ) (i:Nat) (ho:l[j0]? =some ⟨some d, .load T q,ty,pos,af,g⟩) (hm:mk.getD j0 0=1) (hd:Nat.blt d n=true) (hw:Holds E w V) (hx:ev U q=p) (hi:V[i]? =some (pt p y)) (hT:ld P T false 1) (k: ∀ad cs,Holds E w (IG ad cs::V)->DP P n l mk Q (fun w2=>S w2/\Holds E w2 [IG ad cs]) rest (eL U d (Sc.toV y)) w) (hg:Wn l.toArray U g:=by exact trivial):DP P n l mk Q S (j0::rest) U w:=by
 refine DP.wJ (hm:=hm) (hg:=hg) (hd:=hd) (hx:=hx) (hi:=hi) y i ho hw hT fun v ad cs h=>?_
 have hv:v=Sc.toV y:=h.zY (i:=1) rfl
 subst hv
 refine k ad cs ?_
 obtain⟨M,hs,gd⟩:=hw
 obtain⟨M2,hs2,gd2⟩:=h
 exact Holds.pick ⟨M2,hs2,gd2⟩ 2 [0] (Γ0:=V) (new:=[IG ad cs]) rfl rfl (by simp) (fun k hk=>by simp at hk;subst hk;omega)
end
def SH (E:World) (V:List HP) (l:List (Nat×Value)) (G:List HP) (U:Nat->Value) (w:World):Prop:=∃O,U=eT l O/\Holds E w (G++V)
theorem sh {U:Nat->Value} {w E:World} {l:List (Nat×Value)} {G V:List HP} (h:agree U l) (hw:Holds E w (G++V)):SH E V l G U w:=by
 obtain⟨O,e⟩:=h.eT
 exact⟨O,e,hw⟩
end Go.Gk
namespace Go.Gk
open Go
theorem Cr {U:Nat->Value}: ∀{l:List (Nat×Value)},l.map (fun p=>U p.1)=l.map (fun p=>p.2)->agree U l
 | [],_=>True.intro
 | (d,v)::l,h=>by
  rw [dV,dV] at h
  injection h with h1 h2
  exact⟨h1,Cr h2⟩
section
variable {P:Program} {n:Nat} {U:Nat->Value} {w:World} {Q:gq} {E:World} {V Γ1 new:List HP} {ops:Array Oper} {rest:List Oper} {d t j:Nat} {ty:TypeId} {pos:String} {af:Array Edge} {g:Option (Nat×Bool)} {x y z:Operand} {op:Op}
theorem bO {a b:Bool} (h:a = !b) (k:RL P n ops rest (eL U d undef) w Q) (ht: (ops[j]?).bind (·.dst)=some t:=by exact rfl) (hv:U t = .bool a:=by exact rfl) (hd:Nat.blt d n=true:=by exact rfl):
  RL P n ops (⟨some d,op,ty,pos,af,some (j,b)⟩::rest) U w Q:=sk ht (.inl (hv.trans (cb h))) hd k
theorem oT {b:Bool} (k:RL P n ops rest (eL U d undef) w Q) (ht: (ops[j]?).bind (·.dst)=some t:=by exact rfl) (hv:U t = .bool (!b):=by exact rfl) (hd:Nat.blt d n=true:=by exact rfl):
  RL P n ops (⟨some d,op,ty,pos,af,some (j,b)⟩::rest) U w Q:=sk ht (.inl hv) hd k
theorem yE {b:Bool} (k:RL P n ops rest (eL U d undef) w Q) (ht: (ops[j]?).bind (·.dst)=some t:=by exact rfl) (hv:U t=undef:=by exact rfl) (hd:Nat.blt d n=true:=by exact rfl):
  RL P n ops (⟨some d,op,ty,pos,af,some (j,b)⟩::rest) U w Q:=sk ht (.inr hv) hd k
theorem fJ {b c:Bool} (h:b=c) (v:Value) (k:RL P n ops rest (eL U d v) w Q) (hg:Wn ops U g:=by exact trivial) (hd:Nat.blt d n=true:=by exact rfl) (hx:ev U x = .bool b:=by exact rfl) (hv: (if c=true then ev U y else ev U z)=v:=by exact rfl):
  RL P n ops (⟨some d, .pick x y z,ty,pos,af,g⟩::rest) U w Q:=RL.pick (hg:=hg) (hd:=hd) (hx:=hx) _ _ (by rw [h];exact hv) k
theorem Holds.sp {l:List (Nat×Value)} (h:Holds E w Γ1) (m:Nat) (idx:List Nat) (e: (Γ1.drop m,idx.map (fun i=>Γ1[i]?),D8 m idx)= (V,new.map some,true):=by exact rfl)
  (ha:l.map (fun p=>U p.1)=l.map (fun p=>p.2):=by exact rfl):SH E V l new U w:=sh (Cr ha) (h.pk (e:=e) m idx)
end
section
variable {S T γ:Type} [GT S] [GT T] [GT γ] {m:Nat}
theorem Fd.v {r:S->γ} (g:S->T) {f:T->γ} (h:Fd m f) (ho: ∀M cs x,GT.ok (α:=S) M cs x=GT.ok M cs (g x):=by exact fun _ _ _=>rfl) (e: ∀x,f (g x)=r x:=by exact fun _=>rfl):Fd m r:=fun M cs x hx=>by
 rw [<-e];exact h M cs (g x) (ho M cs x▸hx)
theorem Fs.v {r:S->γ->S} (g:S->T) {f:T->γ->T} (h:Fs m γ f) (ho: ∀M cs x,GT.ok (α:=S) M cs x=GT.ok M cs (g x):=by exact fun _ _ _=>rfl) (e: ∀x y,f (g x) y=g (r x y):=by exact fun _ _=>rfl):Fs m γ r:=fun M cs ds x y hx hy=>by
 rw [ho,<-e];exact h M cs ds (g x) y (ho M cs x▸hx) hy
end
section
variable {P:Program} {T e i k m f:Nat} {fn:Func} {ag:Bool} {zs:List Value}
theorem iD {f:FuncId} (h:P.funcs[f]? =some fn) (h1: (fn.name== "runtime.NumGoroutine")=false:=by kernel_rfl) (h2:fn.body.isNone=false:=by exact rfl):g8 P f:=⟨fun _ _=>zX h h1 h2⟩
theorem nb {T:TypeId} (h: ∀a w,(Instr.fieldAt T (.pointer (some a)) i).run P w = .ok (.pointer (some (a.add k))) w:=by intro _ _;kernel_rfl):l9 P T i k:=⟨h⟩
theorem r9 {T:TypeId} (h: ∀w,(isAgg T).run P w = .ok ag w:=by intro _;kernel_rfl) (h2: ∀w,(sizeOf T).run P w = .ok k w:=by intro _;kernel_rfl):ld P T ag k:=⟨h,h2⟩
theorem Ai {T e:TypeId} (h:P.underlying T=some (.slice e):=by kernel_rfl) (h2: ∀w,(sizeOf e).run P w = .ok k w:=by intro _;kernel_rfl):sI P T e k:=⟨h,h2⟩
theorem yH {e:TypeId} (z:Value) (h: ∀w,(zeroValue e).run P w = .ok z w:=by intro _;kernel_rfl) (h1:z.cells.size=m:=by exact rfl) (h2: ∀w,(sizeOf e).run P w = .ok m w:=by intro _;kernel_rfl):xh P e m:=⟨⟨z,h,h1⟩,h2⟩
end
section
variable {l:List Oper} {D:Nat->Bool} {U:Nat->Value} {j d n:Nat} {v v':Value} {dv:List (Nat×Nat×Value)} {ag:List (Nat×Value)}
theorem nh (hcl:qc l D) (hD:D j=false) (K:Nat) (h: ((l[K]?).any fun o=>uh o j)=true:=by exact rfl):D K=false:=nf fun h1=>by
 cases ho:l[K]? with
 | none=>rw [ho] at h;cases h
 | some o=>
  rw [ho] at h
  have:=lV (hcl K o ho h1) h
  rw [hD] at this;cases this
theorem jk (h: ∀i,i<n->D i=true) (i:Nat) (hi:Nat.blt i n=true:=by exact rfl):D i=true:=h i (Nat.blt_eq.mp hi)
theorem dX.pu (h:dX D U dv) (k:Nat) (h1:dv[k]? =some (j,d,v):=by exact rfl) (h2:zb j d k dv=true:=by exact rfl):dX (ins D j) (eL U d v') (dv.set k (j,d,v')):=h.put k h1 h2
theorem dX.n1 (h:dX D U dv) (h1: (dv.all fun x=> !Nat.beq x.1 j)=true:=by exact rfl):dX (ins D j) U dv:=h.no h1
theorem agree.u (h:agree U ag) (h1:Di d ag=true:=by exact rfl):agree (eL U d v) ag:=h.up h1
end
end Go.Gk
namespace Go.Gk
open Go
section
variable {P:Program} {n:Nat} {U:Nat->Value} {w:World} {Q:gq} {E:World} {V:List HP} {i:Nat}
variable {ops:Array Oper} {rest:List Oper} {d:Nat} {ty:TypeId} {pos:String} {af:Array Edge} {g:Option (Nat×Bool)} {v:Value} {q:Operand} {T T' e:TypeId}
theorem RL.Dw (l:List UInt8) (i:Nat) (hg:Wn ops U g) (hd:Nat.blt d n=true) (hw:Holds E w V) (hx:ev U q=v) (hi:V[i]? =some (rd v l)) (hs:P.underlying T=some (.slice e)) (he:P.underlying e=some (.int .u8)) (ht:P.underlying T'=some .string) (k:RL P n ops rest (eL U d (str ⟨l⟩)) w Q):RL P n ops (⟨some d, .convert T T' q,ty,pos,af,g⟩::rest) U w Q:=by
 obtain⟨M,hh,gd⟩:=hw
 obtain⟨a,m,c,hv,hm,_,_,hl⟩:=j7.1 (gd.sat i _ hi).1
 refine RL.val hg hd ?_ k
 have: (convert T T' v).run P w = .ok (str ⟨l⟩) w:=by
  subst hv;subst hm
  cases a with
  | none=>
   have e0:l= []:=by
    cases l with
    | nil=>rfl
    | cons b l=>
     obtain⟨ad,cs,h1,_⟩:=hl 0 b rfl
     cases h1
   subst e0
   rw [run_convert_bytes_string w T T' e none _ c hs he ht]
   rfl
  | some ad=>
   refine run_convert_bytes_back w T T' e ad c l hs he ht fun j hj=>?_
   obtain⟨ad',cs,h1,h2,h3⟩:=hl j l[j] (aJ hj)
   injection h1 with h1;subst h1
   have h2:cs= [Value.int .u8 (l[j].toNat:Int)]:=h2
   subst h2
   have:=oN gd.im (h3 0 _ rfl)
   rw [add_add] at this
   have e1:j*GT.sz UInt8+0=j:=by show j*1+0=j;omega
   rw [e1] at this;exact this
 simp only [execOp,hx,aO,this,aU,aW]
end
end Go.Gk
namespace Go.Gk
open Go
structure Lt (P:Program) (T:TypeId) (i:Nat) (ft:TypeId) (m:Nat):Prop where
 run: ∀cs w,(Instr.field T (.agg cs) i).run P w= (part ft cs m).run P w
section
variable {α β:Type} [GT α] [GT β] {P:Program} {n:Nat} {U:Nat->Value} {w:World} {Q:gq} {E:World} {V:List HP} {i:Nat}
variable {ops:Array Oper} {rest:List Oper} {d:Nat} {ty:TypeId} {pos:String} {af:Array Edge} {g:Option (Nat×Bool)} {v:Value} {q:Operand} {T ft:TypeId} {x:α}
theorem Hf {cs:List Value} {m:Nat} {y:β} {M:dJ} (ho:GT.ok M ((cs.drop m).take (GT.sz β)) y) (hT:ld P ft (GT.agg β) (GT.sz β)): (part ft cs.toArray m).run P w = .ok (qX β ((cs.drop m).take (GT.sz β))) w:=by
 unfold qX
 cases e:GT.agg β with
 | true=>
  rw [e] at hT
  rw [aC rfl]
  refine vz hT ?_ w
  simp [List.extract_toArray,List.extract_eq_take_drop]
 | false=>
  rw [e,GT.ag1 e] at hT
  rw [aD ji,GT.ag1 e]
  have hl:=GT.len ho
  rw [GT.ag1 e] at hl
  refine dZ (h:=?_) hT w
  rw [List.getElem?_toArray]
  cases hc:cs.drop m with
  | nil=>rw [hc] at hl;simp at hl
  | cons c l=>
   have:cs[m]? = (cs.drop m)[0]? :=by rw [eH];simp
   rw [this,hc];rfl
theorem RL.Fv {m j:Nat} {f:α->β} (hg:Wn ops U g) (hd:Nat.blt d n=true) (hw:Holds E w V) (hx:ev U q=v) (hi:V[i]? =some (rd v x)) (ha:GT.agg α=true) (hf:Lt P T j ft m) (hF:Fd m f) (hT:ld P ft (GT.agg β) (GT.sz β))
  (k: ∀v,Holds E w (rd v (f x)::V)->RL P n ops rest (eL U d v) w Q):RL P n ops (⟨some d, .field T q j,ty,pos,af,g⟩::rest) U w Q:=by
 obtain⟨M,hs,gd⟩:=hw
 obtain⟨⟨cs,hv,ho⟩,_⟩:=gd.sat i _ hi
 have hv':v = .agg cs.toArray:=by rw [hv];unfold qX;rw [aC ha]
 have ho':=hF M cs x ho
 refine RL.val (v:=qX β ((cs.drop m).take (GT.sz β))) hg hd ?_ (k _ ⟨M,_,gd.fX ⟨⟨_,rfl,ho'⟩,rfl⟩⟩)
 simp only [execOp,hx,hv',aO,hf.run,Hf ho' hT,aU,aW]
theorem RL.D9 {γ:Type} [Sc γ] {m j:Nat} {f:α->γ} (hg:Wn ops U g) (hd:Nat.blt d n=true) (hw:Holds E w V) (hx:ev U q=v) (hi:V[i]? =some (rd v x)) (ha:GT.agg α=true) (hf:Lt P T j ft m) (hF:Fd m f) (hT:ld P ft false 1)
  (k:RL P n ops rest (eL U d (Sc.toV (f x))) w Q):RL P n ops (⟨some d, .field T q j,ty,pos,af,g⟩::rest) U w Q:=by
 refine RL.Fv (f:=f) hg hd hw hx hi ha hf hF hT fun v h=>?_
 rw [h.zY (i:=0) rfl];exact k
end
end Go.Gk
namespace Go.Gk
open Go Go.Proofs Go.Sort
def CT (w:World):HP:=⟨fun M _=>∀b,b<w.heap.size->M b=w.heap[b]?,fun h hk b hb=>by
 have:=hk b hb
 rw [fN hb] at this ⊢
 exact h b _ this⟩
theorem Holds.all (w:World):Holds w w [CT w]:=by
 refine⟨fun b=>w.heap[b]?,fun _=>oE,⟨rfl,rfl,rfl,bM _,fun _ _ h=>h,fun i P hP=>?_,fun _ _ _ _ h=>(by cases h),fun _ _ _ _ h=>(by cases h),fun _ _ _ _ _ _ _ h=>(by cases h)⟩⟩
 cases i with
 | zero=>simp at hP;subst hP;exact fun _ _=>rfl
 | succ i=>simp at hP
theorem Holds.grown {w w':World} {V:List HP} {i:Nat} (h:Holds w w' V) (hi:V[i]? =some (CT w)): ∃q os,w'=grow (w.drewN q) os:=by
 obtain⟨M,hs,g⟩:=h
 have hk:=g.sat i _ hi
 have key: ∀b,b<w.heap.size->w'.heap[b]? =w.heap[b]? :=fun b hb=>by
  have:=hk b hb
  rw [fN hb] at this
  rw [g.im b _ this,fN hb]
 have hsz:w.heap.size<=w'.heap.size:=by
  rcases Nat.lt_or_ge w'.heap.size w.heap.size with h | h
  ·have:=key w'.heap.size h
   rw [Array.getElem?_eq_none (bM _),fN h] at this
   cases this
  ·exact h
 refine⟨w'.drawn - w.drawn,w'.heap.extract w.heap.size w'.heap.size,?_⟩
 have e1:w'.heap=w.heap++w'.heap.extract w.heap.size w'.heap.size:=by
  apply Array.ext_getElem?
  intro k
  rw [Array.getElem?_append]
  split
  ·rename_i hk;exact key k hk
  ·rename_i hk
   rw [Array.getElem?_extract]
   by_cases h2:k<w'.heap.size
   ·rw [aC (by omega)];congr 1;omega
   ·rw [aD (by omega),Array.getElem?_eq_none (by omega)]
 obtain⟨h1,h2,h3,h4,h5⟩:=w'
 obtain⟨k1,k2,k3,k4,k5⟩:=w
 have a1:=g.os;have a2:=g.tape;have a3:=g.out;have a4:=g.dr
 simp only at a1 a2 a3 a4 e1
 subst a1;subst a2;subst a3
 simp only [grow,World.drewN,World.mk.injEq,and_true,true_and]
 exact⟨e1,by omega⟩
section
variable {β:Type} [Inhabited β] (enc:β->List Value) (k:Nat) (w:World) (g o m:Nat) (dk:Array β) (os:Array Obj)
theorem BS {b:Nat} (hb:b<w.heap.size) (hg:b≠g): (sortWorldK enc k w g o m dk os).heap[b]? =w.heap[b]? :=by
 simp only [sortWorldK,grow,putRowK,putRow,mapBlock,Go.Sort.ahead]
 rw [Array.getElem?_append_left (by simpa using hb),Array.getElem?_modify,aD (fun h=>hg h.symm)]
theorem Hy {cur:Array Value} {e:TypeId} {fr:Nat×Nat} (hg:w.heap[g]? =some (.cells cur e fr)):
  (sortWorldK enc k w g o m dk os).heap[g]? =some (.cells (putCells id o (flatK enc k dk) cur) e fr):=by
 have hb:g<w.heap.size:=(Array.getElem?_eq_some_iff.1 hg).1
 simp only [sortWorldK,grow,putRowK,putRow,mapBlock,Go.Sort.ahead]
 rw [Array.getElem?_append_left (by simpa using hb),Array.getElem?_modify,aC rfl,hg]
 rfl
end
theorem CU {β:Type} [Inhabited β] {enc:β->List Value} {k:Nat} (hk: ∀x,(enc x).length=k) (hk0:0<k) (d:Array β) (o:Nat) (cur:Array Value) (ho:o+d.size*k<=cur.size) (a:Nat) (ha:a<d.size):
  (((putCells id o (flatK enc k d) cur).toList.drop o).drop (a*k)).take k=enc d[a]! :=by
 apply List.ext_getElem?
 intro t
 rw [List.drop_drop,dM]
 by_cases ht:t<k
 ·have h1:a*k+t<d.size*k:=by
   have:=Nat.mul_le_mul_right k (show a+1<=d.size from ha)
   rw [Nat.add_mul,Nat.one_mul] at this;omega
  rw [aC ht,eH,Array.getElem?_toList]
  have hsz:o+a*k+t< (putCells id o (flatK enc k d) cur).size:=by simp only [putCells,Array.size_mapIdx];omega
  rw [fN hsz]
  simp only [putCells,Array.getElem_mapIdx,size_flatK]
  rw [aC (by omega),aJ (by rw [hk];exact ht)]
  have e1:o+a*k+t - o=a*k+t:=by omega
  rw [e1,get_flatK _ _ _ _ h1]
  have e2: (a*k+t) / k=a:=by rw [Nat.mul_comm,Nat.mul_add_div hk0,Nat.div_eq_of_lt ht,Nat.add_zero]
  have e3: (a*k+t) % k=t:=by rw [Nat.mul_comm,Nat.mul_add_mod,Nat.mod_eq_of_lt ht]
  rw [e2,e3,getElem!_pos _ t (by rw [hk];exact ht)]
  rfl
 ·rw [aD ht,List.getElem?_eq_none (by rw [hk];omega)]
theorem DI {P:Program} {ρ:Shelf.Ren} (L:SlLaysF0.n6 P ρ) (α:Type) [GT α] (hag:GT.agg α=true) (aE: ∀w,(isAgg (ρ.t 24)).run P w = .ok true w) (zE: ∀w,(Go.sizeOf (ρ.t 24)).run P w = .ok (GT.sz α) w) {E w:World} {V:List HP} {e:TypeId} {v:Value} {l l':List α} {gf:Nat} {φ:α->α->Option Int} (hfn:g8 P gf) (hcl: ∀{E' w':World} {Γ':List HP} {u u':Value} {x x':α} {r:Int} {i j:Nat},Holds E' w' Γ'->Γ'[i]? =some (rd u x)->Γ'[j]? =some (rd u' x')->φ x x'=some r->Calls P gf [u,u'].toArray w' (gI fun z w''=>z = .int .i64 r/\Holds E' w'' Γ')) (hw:Holds E w (own e v l::V)) (hb:ue φ l=some l'):
  Calls P (ρ.f 6) [v, .func (.func gf) #[] #[]].toArray w (gI fun z w'=>z = .tuple #[]/\Holds E w' (own e v l'::V)):=by
 unfold ue at hb
 split at hb
 case isFalse=>cases hb
 rename_i hc
 obtain⟨⟨hφ,hO⟩,hbig⟩:=hc
 have hO:SWO (ltOf (Bo φ l)):=hO
 injection hb with hb
 by_cases hn:0<l.length
 case neg=>
  have hl:l= []:=List.length_eq_zero_iff.1 (by omega)
  subst hl
  have e1:l'= []:=by rw [<-hb];rfl
  subst e1
  obtain⟨a,c,hv⟩:=hw.kc (i:=0) rfl
  subst hv
  refine Calls.mono (AnyF.slices_SortFunc_none L a c _ w) fun ex w' h=>?_
  obtain⟨rfl,rfl⟩:=h
  exact⟨_,rfl,rfl,hw⟩
 letI inh:Inhabited (Fin l.length):=⟨⟨0,hn⟩⟩
 obtain⟨M,hs,gd⟩:=hw
 rcases gd.sat 0 _ rfl with ⟨_,h2,_⟩ | ⟨g,o,cap,cur,xs,rfl,hcap,hmax,hh,hsz,hx,hcs⟩
 ·rw [h2] at hn;exact absurd hn (by simp)
 have hg:w.heap[g]? =some (.cells cur e (0,0)):=gd.le 0 g _ (by simp) (by rw [hh];exact dC g _)
 have hgs:g<w.heap.size:=(Array.getElem?_eq_some_iff.1 hg).1
 have hMg:M g=none:=gd.dm 0 g _ (by simp) (by rw [hh];exact dC g _)
 generalize hK:GT.sz α=k at *
 have hk0:0<k:=by rw [<-hK];exact GT.pos
 subst hx
 have hlen:l.length*k<=cap*k:=Nat.mul_le_mul_right k hcap
 let enc:Fin l.length->List Value:=fun i=>(((cur.toList.drop o).take (l.length*k)).drop (i.val*k)).take k
 have henc: ∀i:Fin l.length,enc i= (cur.toList.drop (o+i.val*k)).take k:=fun i=>by
  have:=oS (sz:=k) i.isLt
  show (((cur.toList.drop o).take (l.length*k)).drop (i.val*k)).take k=_
  rw [List.drop_take,List.take_take,List.drop_drop,Nat.min_eq_left (by omega)]
 have hlk: ∀i,(enc i).length=k:=fun i=>by
  have:=oS (sz:=k) i.isLt
  rw [henc,dE,gR,Array.length_toList];omega
 have hel: ∀i:Fin l.length,GT.ok M (enc i) l[i]:=fun i=>by
  have:=hcs.2 i.val l[i] (aJ i.isLt)
  rw [hK] at this;exact this
 have hone: ∀x,∀v∈enc x,v.oneCell'=true:=fun x v hv=>GT.one (hel x) v hv
 let d:Array (Fin l.length):=Array.ofFn fun i:Fin l.length=>i
 have hds:d.size=l.length:=by simp [d]
 have hdi: ∀i (hi:i<l.length),d[i]! = ⟨i,hi⟩:=fun i hi=>by rw [getElem!_pos d i (by rw [hds];exact hi)];simp [d]
 have hH:HoldsK enc k w g o d:=by
  intro j hj
  rw [size_flatK,hds] at hj
  have hj2:j / k<l.length:=Nat.div_lt_of_lt_mul (by rw [Nat.mul_comm];exact hj)
  have hjm:j % k<k:=Nat.mod_lt _ hk0
  have hdm:j / k*k+j % k=j:=by rw [Nat.mul_comm];exact Nat.div_add_mod j k
  have hbd:=oS (sz:=k) hj2
  have hin:o+j<cur.size:=by omega
  refine⟨?_,?_⟩
  ·rw [get_flatK _ _ _ _ (by rw [hds];exact hj),hdi _ hj2]
   have e1: (enc ⟨j / k,hj2⟩)[j % k]! =cur[o+j]:=by
    rw [getElem!_pos _ _ (by rw [hlk];exact hjm)]
    apply Option.some.inj
    rw [<-aJ,henc,dM,aC hjm,eH,Array.getElem?_toList,<-fN]
    congr 1;show o+j / k*k+j % k=o+j;omega
   rw [e1]
   simp only [World.cell?,hg]
   simp [fN hin]
  ·simp only [World.frozen?,hg]
   simp
 have hsort:=AnyQ.slices_SortFunc_eq L k aE zE enc hlk hone (Bo φ l) hO gf #[] g o cap d w hfn.run ?_ hH hgs ?_
 case refine_2=>rw [hds];exact hbig
 case refine_1=>
  intro m os dk hdk x y
  have hxy:φ l[x] l[y]=some (Bo φ l x y):=by obtain⟨c,hc⟩:=hφ x y;unfold Bo;rw [hc];rfl
  generalize hW:sortWorldK enc k w g o m dk os=W
  have hMW:hle M (fun b=>W.heap[b]?):=fun b o' hb=>by
   have hbw:=gd.im b o' hb
   have hne:b≠g:=fun h=>by rw [h,hMg] at hb;cases hb
   show W.heap[b]? =some o'
   rw [<-hW,BS _ _ _ _ _ _ _ _ (Array.getElem?_eq_some_iff.1 hbw).1 hne];exact hbw
  have h0:Holds W W [rd (.agg (enc x).toArray) l[x],rd (.agg (enc y).toArray) l[y],CT W]:=by
   refine⟨fun b=>W.heap[b]?,fun _=>oE,⟨rfl,rfl,rfl,bM _,fun _ _ h=>h,fun i P hP=>?_,fun _ _ _ _ h=>(by cases h),fun _ _ _ _ h=>(by cases h),fun _ _ _ _ _ _ _ h=>(by cases h)⟩⟩
   match i,hP with
   | 0,hP=>simp at hP;subst hP;exact⟨⟨_,by simp [qX,hag],GT.mono hMW (hel x)⟩,rfl⟩
   | 1,hP=>simp at hP;subst hP;exact⟨⟨_,by simp [qX,hag],GT.mono hMW (hel y)⟩,rfl⟩
   | 2,hP=>simp at hP;subst hP;exact fun _ _=>rfl
   | i+3,hP=>simp at hP
  refine Calls.mono (hcl (i:=0) (j:=1) h0 rfl rfl hxy) fun ex w' h=>?_
  obtain⟨z,rfl,rfl,h⟩:=h
  exact⟨rfl,h.grown (i:=2) rfl⟩
 refine Calls.mono (by rw [hds] at hsort;exact hsort) fun ex w' h=>?_
 obtain⟨rfl,n,os,rfl⟩:=h
 refine⟨_,rfl,rfl,?_⟩
 obtain⟨hp,_⟩:=pdq_sorts (ltOf (Bo φ l)) hO d 0 l.length (Lib.bitLen l.length) true true (mP _) (by rw [hds];exact bM _) (Or.inl rfl)
 have hl':l'= (pdq (ltOf (Bo φ l)) d 0 l.length (Lib.bitLen l.length) true true).toList.map fun i=>l[i]:=by
  rw [<-hb];unfold Dr;rw [dif_pos hn];rfl
 generalize hd':pdq (ltOf (Bo φ l)) d 0 l.length (Lib.bitLen l.length) true true=d' at hp hl' ⊢
 have hds':d'.size=l.length:=by rw [hp.1,hds]
 have hll:l'.length=l.length:=by rw [hl',eY,Array.length_toList,hds']
 have hpc: (putCells id o (flatK enc k d') cur).size=cur.size:=by simp [putCells]
 have h2:=gd.update (w':=sortWorldK enc k w g o n d' os) (P':=own e (.slice (some ⟨g,o,none⟩) l.length cap) l') (i:=0) (by simp) (Gk.one g (.cells (putCells id o (flatK enc k d') cur) e (0,0))) ?_ rfl rfl rfl ?_ ?_ ?_ (Nat.le_add_right _ _)
 ·exact⟨M,_,h2⟩
 ·refine .inr ⟨g,o,cap,_,_,by rw [hll],by rw [hll];exact hcap,hmax,rfl,by rw [hpc,hK];exact hsz,rfl,?_⟩
  rw [hll,hK]
  refine⟨?_,fun a x hx=>?_⟩
  ·have e1: (putCells id o (flatK enc k d') cur).toList.length=cur.size:=by rw [Array.length_toList,hpc]
   rw [dE,gR,e1,hll,hK];omega
  ·have ha:a<l.length:=by rw [<-hll];exact(bC.1 hx).1
   have hax:=oS (sz:=k) ha
   rw [hK,List.drop_take,List.take_take,Nat.min_eq_left (by omega),CU hlk hk0 d' o cur (by rw [hds'];omega) a (by rw [hds'];exact ha)]
   have hda:d'.toList[a]? =some d'[a]! :=by rw [Array.getElem?_toList,fN (by rw [hds'];exact ha),getElem!_pos d' a (by rw [hds'];exact ha)]
   generalize d'[a]! =q at hda ⊢
   have h3:=congrArg (fun z=>z[a]?) hl'
   simp only [fP,hda,hx,Option.map_some] at h3
   injection h3 with h3
   rw [h3]
   exact hel q
 ·intro b o' hb
  obtain⟨rfl,rfl⟩:=jF hb
  exact Hy _ _ _ _ _ _ _ _ hg
 ·intro b o' hb
  obtain⟨rfl,rfl⟩:=jF hb
  exact .inl ⟨_,by rw [hh];exact dC b _⟩
 ·intro b hb1 hb2
  refine BS _ _ _ _ _ _ _ _ hb2 fun h=>?_
  subst h
  rw [hh,dC] at hb1;cases hb1
end Go.Gk
namespace Go.Gk
open Go Go.Proofs Go.Sort
section
variable (w:World) (g o m:Nat) (dk:Array Int) (os:Array Obj)
theorem F8 {b:Nat} (hb:b<w.heap.size) (hg:b≠g): (grow (putRow (Value.int .i64) (Go.Sort.ahead w m) g o dk) os).heap[b]? =w.heap[b]? :=by
 simp only [grow,putRow,mapBlock,Go.Sort.ahead]
 rw [Array.getElem?_append_left (by simpa using hb),Array.getElem?_modify,aD (fun h=>hg h.symm)]
theorem Hz {cur:Array Value} {e:TypeId} {fr:Nat×Nat} (hg:w.heap[g]? =some (.cells cur e fr)):
  (grow (putRow (Value.int .i64) (Go.Sort.ahead w m) g o dk) os).heap[g]? =some (.cells (putCells (Value.int .i64) o dk cur) e fr):=by
 have hb:g<w.heap.size:=(Array.getElem?_eq_some_iff.1 hg).1
 simp only [grow,putRow,mapBlock,Go.Sort.ahead]
 rw [Array.getElem?_append_left (by simpa using hb),Array.getElem?_modify,aC rfl,hg]
 rfl
end
theorem F9 {P:Program} {ρ:Shelf.Ren} (L:SlLaysM.n5 P ρ) {E w:World} {V:List HP} {e:TypeId} {v:Value} {l l':List Int} (hw:Holds E w (own e v l::V)) (hb:q9 l=some l'):
  Calls P (ρ.f 5) [v].toArray w (gI fun z w'=>z = .tuple #[]/\Holds E w' (own e v l'::V)):=by
 unfold q9 at hb
 split at hb
 case isFalse=>cases hb
 rename_i hbig
 injection hb with hb
 by_cases hn:l.length=0
 ·have hl:l= []:=List.length_eq_zero_iff.1 hn
  subst hl
  have e1:l'= []:=by rw [<-hb];exact List.length_eq_zero_iff.1 (by rw [List.length_mergeSort];rfl)
  subst e1
  obtain⟨a,c,hv⟩:=hw.kc (i:=0) rfl
  subst hv
  refine Calls.mono (AnyM.slices_Sort_int_none L a c w) fun ex w' h=>?_
  obtain⟨rfl,rfl⟩:=h
  exact⟨_,rfl,rfl,hw⟩
 obtain⟨M,hs,gd⟩:=hw
 rcases gd.sat 0 _ rfl with ⟨_,h2,_⟩ | ⟨g,o,cap,cur,xs,rfl,hcap,hmax,hh,hsz,hx,hcs⟩
 ·rw [h2] at hn;exact absurd rfl hn
 have hg:w.heap[g]? =some (.cells cur e (0,0)):=gd.le 0 g _ (by simp) (by rw [hh];exact dC g _)
 have hgs:g<w.heap.size:=(Array.getElem?_eq_some_iff.1 hg).1
 have hsz1:GT.sz Int=1:=rfl
 rw [hsz1,Nat.mul_one] at hsz hx
 subst hx
 have hel: ∀i (hi:i<l.length),cur.toList[o+i]? =some (.int .i64 l[i]):=fun i hi=>by
  have:=hcs.2 i l[i] (aJ hi)
  rw [hsz1,Nat.mul_one,List.drop_take,List.take_take,List.drop_drop] at this
  have h3: (cur.toList.drop (o+i)).take (min 1 (l.length - i))= [Sc.toV l[i]]:=this
  have h4:=congrArg (fun z=>z[0]?) h3
  simp only [dM,eH,Nat.add_zero] at h4
  rw [aC (by omega)] at h4
  exact h4
 have hH:Go.Sort.Holds (Value.int .i64) w g o l.toArray:=by
  intro j hj
  have hj':j<l.length:=by simpa using hj
  have hin:o+j<cur.size:=by omega
  have h1:=hel j hj'
  rw [Array.getElem?_toList,fN hin] at h1
  injection h1 with h1
  refine⟨?_,?_⟩
  ·rw [getElem!_pos l.toArray j hj]
   simp only [World.cell?,hg]
   simp [fN hin,h1]
  ·simp only [World.frozen?,hg]
   simp
 refine Calls.mono (AnyM.slices_Sort_int L g o cap l w hH hgs hbig) fun ex w' h=>?_
 obtain⟨rfl,n,os,rfl⟩:=h
 refine⟨_,rfl,rfl,?_⟩
 rw [hb]
 have hll:l'.length=l.length:=by rw [<-hb,List.length_mergeSort]
 have hpc: (putCells (Value.int .i64) o l'.toArray cur).size=cur.size:=by simp [putCells]
 have h2:=gd.update (w':=grow (putRow (Value.int .i64) (Go.Sort.ahead w n) g o l'.toArray) os) (P':=own e (.slice (some ⟨g,o,none⟩) l.length cap) l') (i:=0) (by simp) (Gk.one g (.cells (putCells (Value.int .i64) o l'.toArray cur) e (0,0))) ?_ rfl rfl rfl ?_ ?_ ?_ (Nat.le_add_right _ _)
 ·exact⟨M,_,h2⟩
 ·refine .inr ⟨g,o,cap,_,_,by rw [hll],by rw [hll];exact hcap,hmax,rfl,by rw [hpc,hsz1,Nat.mul_one];exact hsz,rfl,?_⟩
  rw [hll,hsz1,Nat.mul_one]
  refine⟨?_,fun a x hx=>?_⟩
  ·have e1: (putCells (Value.int .i64) o l'.toArray cur).toList.length=cur.size:=by rw [Array.length_toList,hpc]
   rw [dE,gR,e1,hll,hsz1];omega
  ·have ha:a<l'.length:=(bC.1 hx).1
   rw [hsz1,Nat.mul_one,List.drop_take,List.take_take,List.drop_drop]
   show List.take _ _= [Sc.toV x]
   apply List.ext_getElem?
   intro t
   rw [dM,eH]
   by_cases ht:t=0
   ·subst ht
    have hin:o+a+0< (putCells (Value.int .i64) o l'.toArray cur).size:=by rw [hpc];omega
    rw [aC (by omega),Array.getElem?_toList,fN hin]
    simp only [putCells,Array.getElem_mapIdx,Nat.add_zero,List.size_toArray]
    rw [aC (by omega)]
    have e2:o+a - o=a:=by omega
    rw [aJ ha] at hx
    injection hx with hx
    rw [e2,getElem!_pos l'.toArray a (by simpa using ha)]
    simp [hx];rfl
   ·rw [aD (by omega),List.getElem?_eq_none (by simp;omega)]
 ·intro b o' hb
  obtain⟨rfl,rfl⟩:=jF hb
  exact Hz _ _ _ _ _ _ hg
 ·intro b o' hb
  obtain⟨rfl,rfl⟩:=jF hb
  exact .inl ⟨_,by rw [hh];exact dC b _⟩
 ·intro b hb1 hb2
  refine F8 _ _ _ _ _ _ hb2 fun h=>?_
  subst h
  rw [hh,dC] at hb1;cases hb1
end Go.Gk
namespace Go.Gk
open Go
theorem zr {α:Type _} {a:α}:a=a:=rfl
theorem zt:True:=True.intro
theorem cg {ops:Array Oper} {U:Nat->Value} {j d:Nat} {a b:Bool} (h:a=b) (h1: (ops[j]?).bind (·.dst)=some d:=by rfl) (h2:U d = .bool a:=by rfl):Wn ops U (some (j,b)):=⟨d,h1,h2.trans (cb h)⟩
end Go.Gk
