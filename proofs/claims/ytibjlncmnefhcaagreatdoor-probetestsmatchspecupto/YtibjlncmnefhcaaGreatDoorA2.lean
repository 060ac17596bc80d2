/-
  Helping texts on the memory of the model. No statement of the seed is proved here.
-/
import Derived.Test.YtibjlncmnefhcaaGreatDoorA1
import Derived.KernelRfl
import Derived.Shelf.SlSortCmp.NoneTotal
import Derived.Shelf.SortM.Plain
import Derived.Shelf.SortM.SortNone
set_option linter.defProp false
set_option linter.unusedVariables false
set_option linter.unusedSimpArgs false
set_option linter.unusedSectionVars false
open Bool renaming true→aA,false→aK
open List renaming length→Z
open Option renaming bind→D,some→O,none→aQ
namespace Go.Gk
open Go IntKind
def xf(o:bC)(U:Nat->F)(v:F):Nat->F:=match o.dst with|some d=>fo U d v|none=>U
def J5(a:aG Nat):aG Edge->Nat
 | []=>0
 |e::r=>bif Region.binds .any e then Nat.lor (Nat.lor (Nat.shiftLeft 1 e.on) (a.getD e.on 0)) (J5 a r)else J5 a r
def Q0:aG bC->aG Nat->aG Nat
 | [],a=>a
 |o::l,a=>Q0 l (a++[J5 a o.after.toList])
def Q1(l:aG bC)(i:Nat)(a:aG Nat):Bool:=(List.range (Z l)).all λk=>Nat.beq k i||(a.any λq=>Nat.beq q k)||Nat.testBit ((Q0 l []).getD i 0) k
section
variable {P:bG}{n:Nat}{l:aG bC}{mk:aG Nat}{Q:jl}{U:Nat->F}{w:aT}{i:Nat}{c:aG Nat}{o:bC}
def DP(P:bG)(n:Nat)(l:aG bC)(mk:aG Nat)(Q:jl):(aT->Prop)->aG Nat->(Nat->F)->aT->Prop
 |_,[],U,w=>Q .normal U w
 |S,i::c,U,w=>∃o,l[i]? =O o/\
  ((mk.getD i 0=0/\RL P n l.toArray [o] U w (λf g w'=>f = .normal/\w'=w/\DP P n l mk Q S c g w))\/
   (mk.getD i 0=1/\∃v,∃a:aT->Prop,(∀d,a d->S d)/\(S w->a w)/\(∀w',a w'->RL P n l.toArray [o] U w' (λf g j=>f = .normal/\j=w'/\g=xf o U v))/\DP P n l mk Q a c (xf o U v) w)\/
   (mk.getD i 0=2/\∃a:aT->Prop,((∀d,a d->S d)\/Q1 l i c=aA)/\RL P n l.toArray [o] U w (λf g w'=>f = .normal/\a w'/\DP P n l mk Q a c g w'))\/
   (mk.getD i 0=3/\∃h q b m row e ag k,o.op = .load h q/\ev U q = .pointer (O ⟨b,m,aQ⟩)/\nT P h ag k/\m+k<=row.size/\m<row.size/\w.heap[b]? =O (.cells row e (0,0))/\
    RL P n l.toArray [o] U w (λf g w'=>f = .normal/\w'=w/\DP P n l mk Q (λd=>S d/\d.heap[b]? =O (.cells row e (0,0))) c g w)))
section
variable {S:aT->Prop}
def ge(b:l[i]? =O o)(hm:mk.getD i 0=0)(h:RL P n l.toArray [o] U w (λa e d=>a = .normal/\d=w/\DP P n l mk Q S c e w)):DP P n l mk Q S (i::c) U w:=⟨o,b, .inl ⟨hm,h⟩⟩
def ek(v:F)(b:l[i]? =O o)(h1:∀w',RL P n l.toArray [o] U w'<|λa e d=>a = .normal/\d=w'/\e=xf o U v)(h:DP P n l mk Q S c (xf o U v) w)(hm:mk.getD i 0=1:=by exact rfl):DP P n l mk Q S (i::c) U w:=⟨o,b, .inr<|.inl ⟨hm,v,S,λ_ h=>h,λh=>h,λw' _=>h1 w',h⟩⟩
def si(v:F)(b:l[i]? =O o)(h1:∀w',S w'->RL P n l.toArray [o] U w' (λa e d=>a = .normal/\d=w'/\e=xf o U v))(h:DP P n l mk Q S c (xf o U v) w)(hm:mk.getD i 0=1:=by exact rfl):DP P n l mk Q S (i::c) U w:=⟨o,b, .inr<|.inl ⟨hm,v,S,λ_ h=>h,λh=>h,h1,h⟩⟩
def au0(v:F)(a:aT->Prop)(d:∀b,a b->S b)(e:S w->a w)(f:l[i]? =O o)(hm:mk.getD i 0=1)(h1:∀w',a w'->RL P n l.toArray [o] U w' (λb j g=>b = .normal/\g=w'/\j=xf o U v))(h:DP P n l mk Q a c (xf o U v) w):DP P n l mk Q S (i::c) U w:=⟨o,f, .inr<|.inl ⟨hm,v,a,d,e,h1,h⟩⟩
def io(d:l[i]? =O o)(hm:mk.getD i 0=2)(h:RL P n l.toArray [o] U w (λb e a=>b = .normal/\S a/\DP P n l mk Q S c e a)):DP P n l mk Q S (i::c) U w:=⟨o,d, .inr<|.inr<|.inl ⟨hm,S, .inl λ_ h=>h,h⟩⟩
def Nk(b:l[i]? =O o)(hm:mk.getD i 0=2)(h:RL P n l.toArray [o] U w (λa e d=>a = .normal/\True/\DP P n l mk Q (λ_=>True) c e d))(a:Q1 l i c=true:=by kernel_rfl):DP P n l mk Q S (i::c) U w:=⟨o,b, .inr<|.inr<|.inl ⟨hm,λ_=>True, .inr a,h⟩⟩
def k7(h:Q .normal U w):DP P n l mk Q S [] U w:=by grind [DP]
def dp{ops:aY bC}(h:DP P n l mk Q S c U w):RL P n ops [] U w (λa d b=>a = .normal/\b=w/\DP P n l mk Q S c d w):=by grind [J]
def gj{ops:aY bC}(a:S w)(h:DP P n l mk Q S c U w):RL P n ops [] U w (λb d a=>b = .normal/\S a/\DP P n l mk Q S c d a):=by grind [J]
def dT{ops:aY bC}{a:Nat->F}(h:U=a:=by exact rfl):RL P n ops [] U w (λb d c=>b = .normal/\c=w/\d=a):=by grind [J]
end
end
section
variable {P:bG}{n:Nat}{ops:aY bC}{U:Nat->F}{w:aT}{o:bC}
def Nu{a:Act}{d:Nat}{C:(Nat->F)->Prop}(j:Sl n U a)(r:C6 o.op=aA)(hd:o.dst=O d)(m:Nat.blt d n=aA)
  (h:RL P n ops [o] U w (λq l f=>q = .normal/\f=w/\C l)):∃v,OG P ops w a o v/\C (fo U d v):=by
 have b:=h a j;unfold wpList at b;split at b
 ·rename_i p
  rcases b with b|⟨_,b⟩
  ·unfold Oper.wp at b
   cases e:(execOp a.eval o).run P w with
   |ok t f=>
    rw[e]at b;obtain⟨v,rfl⟩:=O9 r e;obtain⟨l,c,_,k,i⟩:=b;have k:f=w:=k;subst k;rw[hd]at c;have:=c.uniq<|j.put m v
    subst this;exact⟨v, .inl ⟨p,e⟩,i⟩
   |halt s f=>
    rw[e]at b
    cases s with
    |panic v=>obtain⟨_,_,g,_⟩:=b;cases g
    |_=>exact b.elim
  ·obtain⟨_,_,_,_,g,_⟩:=b;cases g
 ·rename_i p;obtain⟨l,c,_,_,i⟩:=b;rw[hd]at c;have:=c.uniq<|j.put m undef
  subst this;exact⟨undef, .inr ⟨H,rfl⟩,i⟩
end
def Pe{P:bG}{w:aT}{b k:Nat}{row:aY F}{e:bJ}(h:w.heap[b]? =O (.cells row e (0,0)))(a:k<row.size):(load ⟨b,k,aQ⟩).run P w = .ok row[k] w:=by
 have c:w.cell? ⟨b,k,aQ⟩=O row[k]:=by rw[cell_of_row w b _ _ _ _ h];simp[a]
 simp_all
def Mu{P:bG}{b k:Nat}{row:aY F}{e:bJ}:∀(n i:Nat)(a:aY F),k+i+n<=row.size->∃cs,∀w:aT,w.heap[b]? =O (.cells row e (0,0))->(loadCellsFrom ⟨b,k,aQ⟩ i n a).run P w = .ok cs w
 | 0,i,a,_=>⟨a,λw _=>rfl⟩
 |n+1,i,a,c=>by
  obtain⟨cs,c⟩:=Mu (P:=P) (b:=b) (k:=k) (row:=row) (e:=e) n (i+1) (a.push<|row[k+i]' C) C;refine⟨cs,λw a=>?_⟩;unfold loadCellsFrom;have d:=Pe (P:=P) (k:=k+i) a C;rw[bQ,Addr.add_lit,d];exact c w a
def Pg{P:bG}{b k m:Nat}{row:aY F}{e c:bJ}{ag:Bool}(a:nT P c ag m)(h1:k+m<=row.size)(h2:k<row.size):∃v,∀w:aT,w.heap[b]? =O (.cells row e (0,0))->(loadVar c ⟨b,k,aQ⟩).run P w = .ok v w:=by
 cases ag with
 |false=>
  refine⟨row[k],λw c=>?_⟩;unfold loadVar;rw[bQ,a.Tc];exact Pe c h2
 |true=>
  obtain⟨d,f⟩:=Mu (P:=P) (b:=b) (k:=k) (row:=row) (e:=e) m 0 #[] C;refine⟨.agg d,λw c=>?_⟩;unfold loadVar;rw[bQ,a.Tc];simp only[Result.andThen,if_true];rw[bQ,a.sz]
  simp_all[Result.andThen,bQ,loadCells]
def UW{P:bG}{ops:aY bC}{w e:aT}{a:Act}{n:Nat}{U:Nat->F}{o:bC}{c d:bJ}{q:bB}{b m k:Nat}{v:F}{row:aY F}{ag:Bool}(r:Sl n U a)(f:o.op = .load c q)(p:ev U q = .pointer (O ⟨b,m,aQ⟩))
  (l:nT P c ag k) (h1:m+k<=row.size) (h2:m<row.size) (g:w.heap[b]? =O (.cells row d (0,0))) (g:e.heap[b]? =O (.cells row d (0,0))) (g:OG P ops w a o v):OG P ops e a o v:=by
 rcases g with⟨e,j⟩|e
 ·refine .inl ⟨e,?_⟩;obtain⟨h,s,u,t,g,i⟩:=o;have f:s = .load c q:=f;subst f;have f:∀w,(execOp a.eval ⟨h, .load c q,u,t,g,i⟩).run P w=((loadVar c ⟨b,m,aQ⟩).run P w).andThen λv w=> .ok (.value v) w:=λw=>by
   simp only[execOp,r.ev,p,Instr.loadAt,Instr.sureAddr,bQ,cB,bY]
  rw[f]at j ⊢;obtain⟨c,c⟩:=Pg (b:=b) (e:=d) l h1 h2
  simp_all
 ·exact .inr e
def rn(l:aG bC)(U:Nat->F):aG Nat->aG F->(Nat->F)
 |i::is,v::vs=>rn l (match l[i]? with|some o=>xf o U v|none=>U) is vs
 |_,_=>U
section
variable {l:aG bC}
def Iy(U:Nat->F):∀(is a:aG Nat)(d b:aG F),Z d=Z is->rn l U (is++a) (d++b)=rn l (rn l U is d) a b
 | [],a,[],b,_=>rfl
 |i::is,a,v::d,b,c=>by
  rw[List.cons_append,List.cons_append];unfold rn;rw[Iy _ is a d b (by simpa using c)]
  cases a <;> cases b <;> rfl
 | [],_,_::_,_,c=>by cases c
 |_::_,_,[],_,c=>by cases c
def Nv{o:bC}{U:Nat->F}{v:F}{t:Nat}(h:o.dst≠O t):xf o U v t=U t:=by
 unfold xf
 cases a:o.dst with
 |none=>rfl
 |some a=>
  grind [fo,Nat.beq,iJ]
def Sg{o:bC}{U:Nat->F}{v:F}{t:Nat}(h:o.dst=O t):xf o U v t=v:=by
 simp_all[xf,fo,Nat.beq_refl]
def zY{t:Nat}:∀(is:aG Nat)(a:aG F)(U:Nat->F),(∀i∈is,∀o,l[i]? =O o->o.dst≠O t)->rn l U is a t=U t
 | [],_,U,_=>rfl
 |_::_,[],U,_=>rfl
 |i::is,v::a,U,h=>by
  unfold rn;rw[zY is a _<|λb a=>h b (by simp[a])]
  cases a:l[i]? with
  |none=>rfl
  |some o=>exact Nv (h i G o a)
def Nw{t:Nat}:∀(is:aG Nat)(a:aG F)(U:Nat->F)(j i:Nat)(o:bC)(v:F),is[j]? =O i->a[j]? =O v->l[i]? =O o->o.dst=O t->
  (∀(k:Nat)c b,is[k]? =O c->l[c]? =O b->k≠j->b.dst≠O t)->rn l U is a t=v
 | [],_,_,_,_,_,_,c,_,_,_,_=>by simp at c
 |_::_,[],_,_,_,_,_,_,c,_,_,_=>by simp at c
 |i0::is,v0::a,U,0,i,o,v,hi,hv,ho,hd,hu=>by
  simp at hi hv;subst hi;subst hv;unfold rn
  rw[zY is a _ (λj c b e=>by
   obtain⟨k,d⟩:=List.mem_iff_getElem?.1 c
   exact hu (k+1) j b H e C),ho]
  exact Sg hd
 |i0::is,v0::a,U,j+1,i,o,v,hi,hv,ho,hd,hu=>by
  unfold rn;exact Nw is a _ j i o v H H ho hd<|λk b c d a d=>hu (k+1) b c H a C
end
inductive x8 (l:aG bC):Nat->Nat->Prop
 |edge {i k:Nat} {o:bC}:l[i]? =O o->Gv o k=aA->x8 l i k
 |trans {i j k:Nat}:x8 l i j->x8 l j k->x8 l i k
def x8.first{l:aG bC}{i k:Nat}(h:x8 l i k):∃o j,l[i]? =O o/\Gv o j=aA/\(j=k\/x8 l j k):=by
 induction h with
 |edge c b=>grind
 |trans h1 h2 ih1 ih2=>
  obtain⟨o,j,c,b,a⟩:=ih1
  rcases a with rfl|a
  ·grind
  ·exact⟨o,j,c,b, .inr<|a.trans h2⟩
def x8.done{l:aG bC}{c:Nat->Bool}(e:A6 l c){i k:Nat}(h:x8 l i k):(∃o,l[i]? =O o/\tV c o.after.toList)->c k=true:=by
 induction h with
 |edge a f=>
  rintro⟨j,b,d⟩;rw[a]at b;injection b with b;subst b
  exact tW d f
 |trans h1 h2 ih1 ih2=>
  intro d;have g:=ih1 d;obtain⟨o,_,a,_,_⟩:=h2.first;exact ih2 ⟨o,a,e _ o a g⟩
def uF(l:aG bC)(a:aG Nat):Prop:=∀i k,Nat.testBit (a.getD i 0) k=aA->x8 l i k
def J6{l:aG bC}{b:aG Nat}{i k:Nat}{o:bC}(g:uF l b)(c:l[i]? =O o):∀(es:aG Edge),(∀e∈es,e∈o.after.toList)->Nat.testBit (J5 b es) k=aA->x8 l i k
 | [],_,a=>by unfold J5 at a;simp at a
 |e::h,f,a=>by
  unfold J5 at a
  cases j:Region.binds .any e with
  |false=>rw[j]at a;exact J6 g c h (λe d=>f e (by simp[d])) a
  |true=>
   rw[j]at a;have a:Nat.testBit (((1 <<< e.on)|||b.getD e.on 0)|||J5 b h) k=true:=a;rw[Nat.testBit_or,Nat.testBit_or,jk,jk]at a;have b:∀k,e.on=k->Gv o k=true:=λk j=>by
    subst j;unfold Gv;rw[ky];exact⟨e,f e G,ta⟩
   rcases a with(a|a)|a
   ·rw[Nat.one_shiftLeft,Nat.testBit_two_pow,dZ]at a;exact .edge c<|b k a
   ·exact .trans (.edge c<|b e.on rfl)<|g e.on k a
   ·exact J6 g c h (λe d=>f e (by simp[d])) a
def Sh:∀(l c:aG bC)(a:aG Nat),(∀(j:Nat),l[j]? =c[Z a+j]?)->uF c a->uF c (Q0 l a)
 | [],_,_,_,d=>d
 |i::l,c,a,g,d=>by
  unfold Q0;refine Sh l c _ (λj=>?_) λf h b=>?_
  ·have:=g<|j+1
   rw[cK,eK,List.length_nil];rw[show Z a+(0+1)+j=Z a+(j+1)by omega,<-this];simp
  ·rw[List.getD_eq_getElem?_getD,List.getElem?_append]at b;split at b
   ·rw[<-List.getD_eq_getElem?_getD]at b;exact d f h b
   ·rename_i m
    by_cases e:f=Z a
    ·subst e;simp at b;have n:=g 0;exact J6 d (o:=i) H _ (λk e=>e) b
    ·have:(f - Z a)≠0:=C
     rw[List.getElem?_eq_none (by simp;omega)]at b;simp at b
def Ny(ops:aY bC)(i:Nat)(o:bC)(k:Nat)(a:bC):Bool:=
 Nat.beq i k||match a.dst with
  |some d=>(match o.dst with|some b=> !Nat.beq d b|none=>aA)&&(!Jc ops o d||(bif Nat.blt k i then Gv o k else Gv a i))
  |none=>aA
def Bb(ops:aY bC)(i:Nat)(o:bC):Nat->aG bC->Bool
 |_,[]=>aA
 |k,a::l=>Ny ops i o k a&&Bb ops i o (k+1) l
def aap:Op->Bool| .select .. =>aK|_=>aA
def ms(n:Nat)(o:bC)(m:Nat):Bool:=aap o.op&&(bif Nat.beq m 2 then(match o.dst with|some d=>Nat.blt d n|none=>aA)else C6 o.op&&(match o.dst with|some d=>Nat.blt d n|none=>aK))
def J7(n:Nat)(ops:aY bC)(l:aG bC)(mk:aG Nat):Nat->aG bC->Bool
 |_,[]=>aA
 |i,o::a=>ms n o (mk.getD i 0)&&Bb ops i o 0 l&&J7 n ops l mk (i+1) a
def Ph(A mk:aG Nat):aG Nat->aG Nat->Bool
 |_,[]=>aA
 |b,i::a=>(bif Nat.beq (mk.getD i 0) 2 then(a.all λq=>Nat.testBit (A.getD q 0) i)&&(b.all λq=>Nat.beq (mk.getD q 0) 1||Nat.beq (mk.getD q 0) 3||Nat.testBit (A.getD i 0) q)else aA)&&Ph A mk (b++[i]) a
def Nz:aG Nat->Bool
 | []=>aA
 |a::l=> !(l.any λb=>Nat.beq a b)&&Nz l
def UX(l:aG bC):aG Nat->Bool
 | []=>aA
 |i::a=>(match l[i]? with|some o=>a.all λq=> !Gv o q|none=>aA)&&UX l a
def NA{l:aG bC}:∀{c:aG Nat},UX l c=aA->∀(p1:aG Nat)(i:Nat)(p2:aG Nat),c=p1++i::p2->∀o,l[i]? =O o->∀q∈p2,Gv o q=aK
 | [],_,p1,i,p2,b,_,_,_,_=>by cases p1 <;> cases b
 |h::c,a,[],i,p2,b,o,e,q,f=>by
  injection b with g d;subst g;subst d
  unfold UX at a;rw[e,dE]at a;have:=qX.1 a.1 q f;rwa[Bool.not_eq_true']at this
 |h::c,a,j::p1,i,p2,b,o,e,q,f=>by
  injection b with g d
  unfold UX at a;rw[dE]at a;exact NA a.2 p1 i p2 d o e q f
def UY(n:Nat)(l:aG bC)(mk a:aG Nat):Bool:=
 Nz a&&(List.range (Z l)).all (λi=>a.any λj=>Nat.beq i j)&&(a.all λi=>Nat.blt i (Z l))&&J7 n l.toArray l mk 0 l&&Ph (Q0 l []) mk [] a&&UX l a
def Mv:∀{l:aG Nat},Nz l=aA->l.Nodup
 | [],_=>List.nodup_nil
 |b::l,a=>by
  unfold Nz at a;rw[dE,Bool.not_eq_true']at a;refine List.nodup_cons.2 ⟨λd=>?_,Mv a.2⟩;have:(l.any λc=>Nat.beq b c)=true:=ky.2 ⟨b,d,Nat.beq_refl b⟩;rw[this]at a;cases a.1
def FF{ops:aY bC}{i:Nat}{o:bC}:∀{k:Nat}{l:aG bC},Bb ops i o k l=aA->∀(j:Nat)c,l[j]? =O c->Ny ops i o (k+j) c=aA
 |_,[],_,j,c,b=>by simp at b
 |k,d::l,a,0,c,b=>by
  unfold Bb at a;rw[dE]at a;simp at b;subst b;exact a.1
 |k,d::l,a,j+1,c,b=>by
  unfold Bb at a;rw[dE]at a;have:=FF a.2 j c (by simpa using b);rw[show k+(j+1)=k+1+j by omega];exact this
def Mw{n:Nat}{ops:aY bC}{a:aG bC}{mk:aG Nat}:∀{i:Nat}{l:aG bC},J7 n ops a mk i l=aA->∀(j:Nat)o,l[j]? =O o->ms n o (mk.getD (i+j) 0)=aA/\Bb ops (i+j) o 0 a=aA
 |_,[],_,j,c,b=>by simp at b
 |i,d::l,a,0,c,b=>by
  unfold J7 at a;simp only[dE]at a;simp at b;subst b;exact a.1
 |i,d::l,a,j+1,c,b=>by
  unfold J7 at a;simp only[dE]at a;have:=Mw a.2 j c (by simpa using b);rw[show i+(j+1)=i+1+j by omega];exact this
def Pj{A mk:aG Nat}:∀{c d:aG Nat},Ph A mk d c=aA->∀(p1:aG Nat)(i:Nat)(p2:aG Nat),c=p1++i::p2->mk.getD i 0=2->
  (∀q∈p2,Nat.testBit (A.getD q 0) i=aA)/\(∀q∈d++p1,(mk.getD q 0=1\/mk.getD q 0=3)\/Nat.testBit (A.getD i 0) q=aA)
 | [],_,_,p1,i,p2,b,_=>by cases p1 <;> cases b
 |j::c,d,a,[],i,p2,b,g=>by
  injection b with e f;subst e;subst f
  unfold Ph at a;rw[g]at a;simp only[Nat.beq_refl,aN,dE]at a;refine⟨λq h=>qX.1 a.1.1 q h,λq h=>?_⟩;have:=qX.1 a.1.2 q H;rw[jk,jk]at this
  rcases this with(a|a)|a
  ·exact .inl<|.inl<|iJ a
  ·exact .inl<|.inr<|iJ a
  ·exact .inr a
 |j::c,d,a,k::p1,i,p2,b,g=>by
  injection b with e f;subst e
  unfold Ph at a;rw[dE]at a;have:=Pj a.2 p1 i p2 f g;refine⟨this.1,λq h=>this.2 q H⟩
def LV{P:bG}{o:bC}{a i:Act}{next l:Act->aT->Prop}{e n:Exit->Act->aT->Prop}{r:Result Next}(z:a.defers= [])
  (g:∀v w,next (a.put o.dst v) w->l (i.put o.dst v) w) (s:∀(b:Act)w,next b w->b.defers= []) (t:∀c b w,¬e (.panic c) b w) (hl:¬LetsOut e) (h:o.upon P a next e r):o.upon P i l n r:=by
 cases r with
 |ok u d=>
  cases u with
  |value v=>exact g v d h
  |skip=>exact g undef d h
  |defer q=>
   have h:next ({a with defers:=q::a.defers}.put o.dst undef) d:=h;have:=s _ _ h
   cases j:o.dst with
   |none=>rw[j]at this;cases this
   |some B=>rw[j]at this;cases this
  |enter f p=>
   refine Calls.mono h λy m k=>?_
   grind
  |row A p=>exact Rows.mono h λv m k=>g v m k
  |_=>exact h.elim
 |halt x d=>
  cases x with
  |panic v=>exact(t _ _ _ h).elim
  |_=>exact h.elim
section
variable {P:bG}{n:Nat}{l:aG bC}{mk:aG Nat}{Q:jl}
def Z9:∀(m:aG Nat)(S:aT->Prop)(U:Nat->F)(w:aT)(a:Act),Sl n U a->S w->(∀i∈m,∀o,l[i]? =O o->ms n o (mk.getD i 0)=aA)->DP P n l mk Q S m U w->
  ∃f h x B k,m=f++x/\Z h=Z f/\Sl n (rn l U f h) B/\DP P n l mk Q k x (rn l U f h) w/\(∀e J,x=e::J->mk.getD e 0=2)/\
   (∀(j i:Nat)v,f[j]? =O i->h[j]? =O v->mk.getD i 0≠2/\∃o s,l[i]? =O o/\Sl n (rn l U (f.take j) (h.take j)) s/\
    ((mk.getD i 0≠0/\∀b,k b->OG P l.toArray b s o v)\/(mk.getD i 0=0/\OG P l.toArray w s o v)))/\k w/\(∀b,k b->S b):=by
 intro m
 induction m with
 |nil=>intro S U w a u z _ c;exact⟨[],[],[],a,S,rfl,rfl,u,c,λ_ _ e=>(by cases e),λj i v X=>(by simp at X),z,λ_ c=>c⟩
 |cons i m ih=>
  intro S U w a u z hk c;have h0:=c;unfold DP at c;obtain⟨o,ho,c⟩:=c;have aa:=hk i G o ho;have L:∀(y:aT->Prop)v d,o.dst=O d->Nat.blt d n=aA->mk.getD i 0≠2->y w->(∀b,y b->S b)->((mk.getD i 0≠0/\∀b,y b->OG P l.toArray b a o v)\/(mk.getD i 0=0/\OG P l.toArray w a o v))->DP P n l mk Q y m (fo U d v) w->
    ∃f h x B k,i::m=f++x/\Z h=Z f/\Sl n (rn l U f h) B/\DP P n l mk Q k x (rn l U f h) w/\(∀e J,x=e::J->mk.getD e 0=2)/\
     (∀(j i:Nat)v,f[j]? =O i->h[j]? =O v->mk.getD i 0≠2/\∃o s,l[i]? =O o/\Sl n (rn l U (f.take j) (h.take j)) s/\
      ((mk.getD i 0≠0/\∀b,k b->OG P l.toArray b s o v)\/(mk.getD i 0=0/\OG P l.toArray w s o v)))/\k w/\(∀b,k b->S b):=by
   intro y v d g p r T W af D;have ab:∀is K,rn l U (i::is) (v::K)=rn l (fo U d v) is K:=λis K=>by
    unfold rn;rw[ho];have:xf o U v=fo U d v:=by unfold xf;rw[g]
    simp only[this]
    cases is <;> cases K <;> rfl
   obtain⟨f,h,x,B,k,e1,e2,e3,e4,e5,e6,e7,e8⟩:=ih y (fo U d v) w _ (u.put p v) T (λj hj=>hk j (by simp[hj])) D;refine⟨i::f,v::h,x,B,k,by rw[e1];rfl,by simp[e2],by rw[ab];exact e3,by rw[ab];exact e4,e5,λj i' v' Y ad=>?_,e7,λb c=>W b<|e8 b c⟩
   cases j with
   |zero=>
    simp at Y ad;subst Y;subst ad;refine⟨r,o,a,ho,u,?_⟩
    rcases af with⟨t,N⟩|t
    ·exact .inl ⟨t,λb c=>N b<|e8 b c⟩
    ·exact .inr t
   |succ j=>
    obtain⟨hn,o',s,t,N,R⟩:=e6 j i' v' (by simpa using Y) (by simpa using ad);exact⟨hn,o',s,t,by rw[List.take_succ_cons,List.take_succ_cons,ab];exact N,R⟩
  unfold ms at aa;rw[dE]at aa;have M:mk.getD i 0≠2->C6 o.op=aA/\∃d,o.dst=O d/\Nat.blt d n=true:=λhn=>by
   have A:=aa.2;have hb:Nat.beq (mk.getD i 0) 2=false:=by
    cases hx:Nat.beq (mk.getD i 0) 2 with
    |false=>rfl
    |true=>exact absurd (iJ hx) hn
   rw[hb,aR,dE]at A;refine⟨A.1,?_⟩
   cases g:o.dst with
   |none=>rw[g]at A;cases A.2
   |some d=>rw[g]at A;exact⟨d,rfl,A.2⟩
  rcases c with⟨q,c⟩|⟨q,v,y,W,T,t,c⟩|⟨q,c⟩|⟨q,ai,am,ae,al,ah,e,aj,ak,ag,hp,hT,R,h4,hh,c⟩
  ·have r:mk.getD i 0≠2:=by rw[q];decide
   obtain⟨C,d,g,p⟩:=M r;obtain⟨v,E,D⟩:=Nu (C:=λH=>DP P n l mk Q S m H w) u C g p c;exact L S v d g p r z (λ_ c=>c) (.inr ⟨q,E⟩) D
  ·have r:mk.getD i 0≠2:=by rw[q];decide
   obtain⟨C,d,g,p⟩:=M r;have hu:xf o U v=fo U d v:=by unfold xf;rw[g]
   rw[hu]at c;refine L y v d g p r (T z) W (.inl ⟨by rw[q];decide,λb V=>?_⟩) c;obtain⟨v',E,I⟩:=Nu (C:=λH=>H=xf o U v) u C g p<|t b V
   rw[hu]at I;have:=congrFun I d;unfold fo at this;rw[Nat.beq_refl]at this;have:v'=v:=this;subst this;exact E
  ·exact⟨[],[],i::m,a,S,rfl,rfl,u,h0,λe J I=>by injection I with t _;subst t;exact q,λj i v X=>(by simp at X),z,λ_ c=>c⟩
  ·have r:mk.getD i 0≠2:=by rw[q];decide
   obtain⟨C,d,g,p⟩:=M r;obtain⟨v,E,D⟩:=Nu (C:=λH=>DP P n l mk Q (λb=>S b/\b.heap[ae]? =O (.cells ah e (0,0))) m H w) u C g p c;exact L _ v d g p r ⟨z,hh⟩ (λ_ c=>c.1) (.inl ⟨by rw[q];decide,λb V=>UW u ag hp hT R h4 hh V.2 E⟩) D
def v_(S0:aT->Prop){U:Nat->F}{w:aT}{id:Nat}(hm:P.follows .mixedOrders=aA)(mk ab:aG Nat)(bz:S0 w.drew)(h:DP P n l mk Q S0 ab U w.drew)(hdep:C0 0 l=true:=by exact rfl)(hc:UY n l mk ab=true:=by kernel_rfl):RC P n (.region id l.toArray aA) U w Q:=by
 intro a8 be;unfold UY at hc;simp only[dE]at hc;obtain⟨⟨⟨⟨⟨c1,c2⟩,c3⟩,c4⟩,c5⟩,c6⟩:=hc;have M:=Mv c1;have a0:∀a,a<Z l->a∈ab:=λa hi=>ta
 have b8:∀a∈ab,a<Z l:=λa hi=>Nat.blt_eq▸qX.1 c3 a hi;have hK:∀a d,l[a]? =O d->ms n d (mk.getD a 0)=aA/\Bb l.toArray a d 0 l=true:=λa d s=>by
  have:=Mw c4 a d s;grind
 have hA:uF l (Q0 l []):=Sh l l [] (λe=>G) (λa j hb=>by simp at hb);have aj:∀(a j:Nat)d f c,l[a]? =O d->l[j]? =O f->j≠a->d.dst=O c->f.dst≠O c:=λa j d f c s m y E q=>by
  have hp:=FF (hK a d s).2 j f m
  grind [Ny,iJ,Bool.not_eq_true',Nat.beq_refl]
 have cn:∀(a j:Nat)d f c,l[a]? =O d->l[j]? =O f->j≠a->f.dst=O c->Jc l.toArray d c=aA->(j<a/\Gv d j=aA)\/(a<j/\Gv f a=aA):=λa j d f c s m y q hs=>by
  have hp:=FF (hK a d s).2 j f m;rw[kx]at hp
  grind [Ny,iJ,Bool.not_eq_true',Nat.blt,Nat.blt_eq]
 have bt:∀(ba:Nat)t x,l.toArray[ba]? =O t->t.dst=O x->x<n:=λba t x s E=>by
  grind [ms,Nat.beq,Nat.blt_eq]
 refine NT (U:=U) (w:=w) hm hdep (λA z I=>∃g k v Y J,ab=g++v/\Z k=Z g/\Sl n (rn l U g k) Y/\DP P n l mk Q J v (rn l U g k) I/\(∀p N,v=p::N->mk.getD p 0=2)/\
   (∀a∈v,A a=aK)/\
   (∀(e a:Nat)i,g[e]? =O a->k[e]? =O i->A a=aK->mk.getD a 0≠2/\∃d B,l[a]? =O d/\Sl n (rn l U (g.take e)<|k.take e) B/\((mk.getD a 0≠0/\∀T,J T->OG P l.toArray T B d i)\/(mk.getD a 0=0/\OG P l.toArray I B d i)))/\J I/\
   (∀(e a:Nat)i d c,g[e]? =O a->k[e]? =O i->l[a]? =O d->d.dst=O c->A a=aA->z c=i)/\
   (∀c,(∀(a:Nat)d,l[a]? =O d->d.dst=O c->A a=aK)->z c=U c)) ?_ ?_ ?_ a8 be
 ·obtain⟨g,k,v,a',J,K,e2,e3,e4,e5,e6,eS,_⟩:=Z9 ab _ U w.drew a8 be bz (λa _ d s=>(hK a d s).1) h;exact⟨g,k,v,a',J,K,e2,e3,e4,e5,λ_ _=>rfl,λe a i hi hv _=>e6 e a i hi hv,eS,λe a i d c _ _ _ _ hD=>(by cases hD),λc _=>rfl⟩
 ·refine Ba λa d s=>?_;rw[kx];rintro A z I hD bg bf⟨g,k,v,Y,J,K,e2,e3,e4,e5,e6,e7,eS,e8,e9⟩;have b2:a<Z l:=(bR.1 s).1;have bh:=a0 a b2;have a2:∀j,Nat.testBit ((Q0 l []).getD a 0) j=aA->A j=true:=λj hb=>(hA a j hb).done bf ⟨d,s,bg⟩;have aD:∀(u:aG Nat)(ae:aG F)(p2:aG Nat),u++a::p2=ab->Z ae=Z u->(∀(e b:Nat)i f c,u[e]? =O b->ae[e]? =O i->l[b]? =O f->f.dst=O c->A b=aA->z c=i)->
    ∀c,Jc l.toArray d c=aA->rn l U u ae c=z c:=by
   intro u ae p2 H b7 h8 c ht;have bn:a∉u:=λhm=>by
    rw[<-H]at M;exact(List.nodup_append.1 M).2.2 a hm a G rfl
   have cd:u.Nodup:=by rw[<-H]at M;exact(List.nodup_append.1 M).1
   by_cases al:∃(j:Nat)(f:bC),l[j]? =O f/\f.dst=O c
   ·obtain⟨j,f,m,q⟩:=al;have b6:j≠a->A j=aA->j∈u\/j∈p2:=λy _=>by
     have:=a0 j (bR.1 m).1;rw[<-H]at this;simp at this
     rcases this with h|h|h
     ·exact .inl h
     ·exact absurd h y
     ·exact .inr h
    by_cases a4:j=a
    ·subst a4;rw[zY u ae U<|λb af t r S=>aj j b f t c m r (λp=>bn<|p▸af) q S];refine(e9 c λX t r S=>?_).symm
     by_cases ak:X=j
     ·subst ak;exact hD
     ·exact absurd S<|aj j X f t c m r ak q
    ·rcases cn a j d f c s m a4 q ht with⟨_,hE⟩|⟨cw,hE⟩
     ·have ao:=tW bg hE
      by_cases hp:j∈u
      ·obtain⟨e,o⟩:=List.mem_iff_getElem?.1 hp;have aa:e<Z ae:=by rw[b7];exact(bR.1 o).1
       rw[h8 e j ae[e] f c o (aM aa) m q ao];refine Nw u ae U e j f ae[e] o (aM aa) m q λX i2 t au r y=>?_;refine aj j i2 f t c m r (λp=>y ?_) q;subst p;exact(List.getElem?_inj (bR.1 au).1 cd).1 (by rw[au,o])
      ·rcases b6 a4 ao with h|h
       ·exact absurd h hp
       ·rw[NA c6 u a p2 H.symm d s j h]at hE;cases hE
     ·have ao:A j=false:=nf λao=>by
       have:=tW (bf j f m ao) hE;rw[hD]at this;cases this
      rw[zY u ae U<|λb af t r S=>?_]
      ·refine(e9 c λX t r S=>?_).symm
       by_cases ak:X=j
       ·subst ak;exact ao
       ·exact absurd S<|aj j X f t c m r ak q
      ·by_cases ak:b=j
       ·subst ak;obtain⟨q1,q2,hq⟩:=List.append_of_mem af;have:=NA c6 q1 b (q2++a::p2) (by rw[<-H,hq];simp) f m a G;rw[this]at hE;cases hE
       ·exact aj j b f t c m r ak q S
   ·rw[e9 c λj f m q=>absurd ⟨j,f,m,q⟩ al];exact zY u ae U<|λb af t r S=>al ⟨b,t,r,S⟩
  have br:∀(ai:Nat->F)(a1 V:Act),Sl n ai a1->Sl n z V->(∀c,Jc l.toArray d c=aA->ai c=z c)->execOp V.eval d=execOp a1.eval d:=λai a1 V am W aD=>by
   refine execOp_congr d (λcu a9 p=>?_) λcs hx=>?_
   ·have:=(hK a d s).1;unfold ms at this;rw[p]at this;cases this
   ·rw[W.ev,am.ev]
    cases cs with
    |tmp c=>
     refine(aD c ?_).symm;unfold Jc Oper.looksAt;rw[List.any_append,jk];left;rw[ky];exact⟨c,List.mem_filterMap.2 ⟨.tmp c,by simpa using hx,rfl⟩,Nat.beq_refl c⟩
    |_=>rfl
  by_cases aS:a∈g
  ·
   obtain⟨u,p2,aw⟩:=List.append_of_mem aS;have b5:Z u<Z k:=by rw[e2,aw];simp
   have bp:g[Z u]? =O a:=by rw[aw];simp
   obtain⟨v1,bu⟩:∃i,k[Z u]? =O i:=⟨_,aM b5⟩;obtain⟨cc,t,B,r,an,ar⟩:=e7 (Z u) a v1 bp bu hD;rw[s]at r;injection r with r;subst r
   have cp:g.take (Z u)=u:=by rw[aw];simp
   rw[cp]at an;have co:OG P l.toArray I B d v1:=by
    rcases ar with⟨_,h⟩|⟨_,h⟩
    ·exact h I eS
    ·exact h
   have ap:=aD u (k.take (Z u)) (p2++v) (by rw[K,aw];simp) (by rw[cQ];omega) (λe b i f c o hv m q R=>by
    have aa:=(bR.1 o).1;rw[kC,aL aa]at hv
    exact e8 e b i f c (by rw[aw,my aa];exact o) hv m q R)
   have cb:∃x,d.dst=O x/\Nat.blt x n=true:=by
    have:=(hK a d s).1;unfold ms at this;rw[dE]at this;have D:=this.2;have y:Nat.beq (mk.getD a 0) 2=false:=by
     cases hx:Nat.beq (mk.getD a 0) 2 with
     |false=>rfl
     |true=>exact absurd (iJ hx) cc
    rw[y,aR,dE]at D
    cases E:d.dst with
    |none=>rw[E]at D;cases D.2
    |some x=>rw[E]at D;exact⟨x,rfl,D.2⟩
   obtain⟨x,E,aE⟩:=cb;have hJ:∃g k v Y J,ab=g++v/\Z k=Z g/\Sl n (rn l U g k) Y/\DP P n l mk Q J v (rn l U g k) I/\(∀p N,v=p::N->mk.getD p 0=2)/\
     (∀b∈v,k_ A a b=aK)/\
     (∀(e b:Nat)i,g[e]? =O b->k[e]? =O i->k_ A a b=aK->mk.getD b 0≠2/\∃d B,l[b]? =O d/\Sl n (rn l U (g.take e)<|k.take e) B/\((mk.getD b 0≠0/\∀T,J T->OG P l.toArray T B d i)\/(mk.getD b 0=0/\OG P l.toArray I B d i)))/\J I/\
     (∀(e b:Nat)i f c,g[e]? =O b->k[e]? =O i->l[b]? =O f->f.dst=O c->k_ A a b=aA->fo z x v1 c=i)/\
     (∀c,(∀(b:Nat)f,l[b]? =O f->f.dst=O c->k_ A a b=aK)->fo z x v1 c=U c):=by
    refine⟨g,k,v,Y,J,K,e2,e3,e4,e5,λb af=>?_,λe b i o hv R=>?_,eS,λe b i f c o hv m q R=>?_,λc ht=>?_⟩
    ·rw[wH (λp=>by
      subst p;rw[K]at M
      exact(List.nodup_append.1 M).2.2 b aS b af rfl)]
     exact e6 b af
    ·refine e7 e b i o hv ?_
     by_cases H:b=a
     ·subst H;exact hD
     ·rwa[wH H]at R
    ·by_cases H:b=a
     ·subst H;rw[s]at m;injection m with m;subst m
      rw[E]at q;injection q with q;subst q
      have cf:g.Nodup:=by rw[K]at M;exact(List.nodup_append.1 M).1
      have:e=Z u:=(List.getElem?_inj (bR.1 o).1 cf).1 (by rw[o,bp]);subst this;rw[bu]at hv;injection hv with hv
      unfold fo;rw[Nat.beq_refl];exact hv
     ·rw[wH H]at R;have y:c≠x:=λp=>by subst p;exact aj a b d f c s m H E q
      unfold fo
      cases hb:Nat.beq c x with
      |true=>exact absurd (iJ hb) y
      |false=>exact e8 e b i f c o hv m q R
    ·have y:c≠x:=λp=>by
      subst p;have:=ht a d s E;rw[Gx]at this;cases this
     unfold fo
     cases hb:Nat.beq c x with
     |true=>exact absurd (iJ hb) y
     |false=>
      refine e9 c λX t r S=>?_;have:=ht X t r S
      by_cases H:X=a
      ·subst H;exact hD
      ·rwa[wH H]at this
   intro V W;have a6:=br _ B V an W ap;have ax:=A9 (ops:=l.toArray) (o:=d) an W ap bt;unfold wpList
   rcases co with⟨ad,ck⟩|⟨ad,cq⟩
   ·rw[ax]at ad;rw[aL ad];left;unfold Oper.wp;rw[a6,ck];refine⟨fo z x v1,?_,rfl,hJ⟩;rw[E];exact W.put aE _
   ·rw[ax]at ad;rw[aJ (by rw[ad];exact A4)];rw[cq]at hJ;refine⟨fo z x undef,?_,rfl,hJ⟩;rw[E];exact W.put aE _
  ·
   have bi:a∈v:=by
    rw[K]at bh
    rcases dS.1 bh with h|h
    ·exact absurd h aS
    ·exact h
   cases v with
   |nil=>cases bi
   |cons p N=>
    have av:=e5 p N rfl;have bo:=Pj c5 g p N K av;have b1:a=p:=by
     rcases eO.1 bi with h|h
     ·exact h
     ·have:=a2 p<|bo.1 a h
      rw[e6 p G]at this;cases this
    subst b1;unfold DP at e4;obtain⟨t,r,a3⟩:=e4;rw[s]at r;injection r with r;subst r
    obtain⟨S1,wG,a3⟩:∃S1:aT->Prop,((∀T,S1 T->J T)\/Q1 l a N=aA)/\RL P n l.toArray [d] (rn l U g k) I (λex z I=>ex = .normal/\S1 I/\DP P n l mk Q S1 N z I):=by
     rcases a3 with⟨h,_⟩|⟨h,_⟩|⟨_,h⟩|⟨h,_⟩
     ·rw[av]at h;cases h
     ·rw[av]at h;cases h
     ·exact h
     ·rw[av]at h;cases h
    have ap:=aD g k N K.symm e2 e8;have aE:∀x,d.dst=O x->Nat.blt x n=true:=λx E=>by
     have:=(hK a d s).1;unfold ms at this;rw[av,dE]at this;have D:=this.2;rw[E]at D;exact D
    have bq:∀(ai:Nat->F)(a1:Act)i,Sl n ai a1->Sl n (xf d ai i) (a1.put d.dst i):=λai a1 i am=>by
     unfold xf
     cases E:d.dst with
     |none=>exact am.JS i
     |some x=>exact am.put (aE x E) i
    have bn:a∉g:=aS;have ch:a∉N:=λhm=>by
     rw[K]at M;exact(List.nodup_cons.1 (List.nodup_append.1 M).2.1).1 hm
    have bv:∀(V:Act)i w1,Sl n z V->Lf n (λex z I=>ex = .normal/\S1 I/\DP P n l mk Q S1 N z I) .normal (Y.put d.dst i) w1->
      Lf n (λex z w1=>ex = .normal/\∃g k v Y J,ab=g++v/\Z k=Z g/\Sl n (rn l U g k) Y/\DP P n l mk Q J v (rn l U g k) w1/\(∀p N,v=p::N->mk.getD p 0=2)/\
       (∀b∈v,k_ A a b=aK)/\
       (∀(e b:Nat)i,g[e]? =O b->k[e]? =O i->k_ A a b=aK->mk.getD b 0≠2/\∃d B,l[b]? =O d/\Sl n (rn l U (g.take e)<|k.take e) B/\((mk.getD b 0≠0/\∀T,J T->OG P l.toArray T B d i)\/(mk.getD b 0=0/\OG P l.toArray w1 B d i)))/\J w1/\
       (∀(e b:Nat)i f c,g[e]? =O b->k[e]? =O i->l[b]? =O f->f.dst=O c->k_ A a b=aA->z c=i)/\
       (∀c,(∀(b:Nat)f,l[b]? =O f->f.dst=O c->k_ A a b=aK)->z c=U c)) .normal (V.put d.dst i) w1:=by
     rintro V i w1 W⟨ai,am,_,bZ,b0⟩;have cr:ai=xf d (rn l U g k) i:=am.uniq<|bq _ Y i e3
     subst cr;obtain⟨ag,aZ,a7,bw,S2,f1,f2,f3,f4,f5,f6,f7,f8⟩:=Z9 N S1 _ w1 _ am bZ (λb _ f m=>(hK b f m).1) b0;have hX:∀is us,rn l U (g++a::is) (k++i::us)=rn l (xf d (rn l U g k) i) is us:=λis us=>by
      rw[Iy U g (a::is) k (i::us) e2]
      conv=>lhs;unfold rn
      rw[s]
     refine⟨xf d z i,bq _ V i W,rfl,g++a::ag,k++i::aZ,a7,bw,S2,by rw[K,f1];simp,by simp[e2,f2],by rw[hX];exact f3,by rw[hX];exact f4,f5,λb af=>?_,λe b aX o hu R=>?_,f7,λe b aX f c o hu m q R=>?_,λc ht=>?_⟩
     ·have bj:b∈N:=by rw[f1];simp[af]
      rw[wH (λp:b=a=>ch (by rw[<-p];exact bj))];exact e6 b (by simp[bj])
     ·have y:b≠a:=λp=>by subst p;rw[Gx]at R;cases R
      have ay:A b=false:=by rwa[wH y]at R
      by_cases aa:e<Z g
      ·rw[my aa]at o;rw[my C]at hu;obtain⟨a5,o3,B,aV,an,ar⟩:=e7 e b aX o hu ay;have t1:(g++a::ag).take e=g.take e:=List.take_append_of_le_length C;have t2:(k++i::aZ).take e=k.take e:=List.take_append_of_le_length C;refine⟨a5,o3,B,aV,by rw[t1,t2];exact an,?_⟩
       rcases ar with⟨h,hh⟩|⟨h,_⟩
       ·rcases wG with wG|wG
        ·exact .inl ⟨h,λT D=>hh T<|wG T<|f8 T D⟩
        ·have ca:b∈g:=eR o;have b3:b<Z l:=(bR.1 aV).1;have L:=qX.1 wG b (by simpa using b3);rw[jk,jk]at L
         rcases L with(L|L)|L
         ·exact absurd (iJ L) y
         ·obtain⟨ah,hq,cj⟩:=ky.1 L;have:=iJ cj;subst this;rw[K]at M;exact absurd rfl<|(List.nodup_append.1 M).2.2 ah ca ah (by simp[hq])
         ·have:=a2 b L;rw[ay]at this;cases this
       ·rcases bo.2 b (by simp[eR o])with(D|D)|D
        ·rw[h]at D;cases D
        ·rw[h]at D;cases D
        ·rw[a2 b D]at ay;cases ay
      ·rw[ly C]at o;rw[ly C,e2]at hu
       cases hq:e - Z g with
       |zero=>
        rw[hq]at o;simp at o;exact absurd o.symm y
       |succ ah=>
        rw[hq]at o hu;obtain⟨a5,o3,B,aV,an,ar⟩:=f6 ah b aX (by simpa using o) (by simpa using hu);have bl:e=Z g+(ah+1):=C
        have t1:(g++a::ag).take e=g++a::ag.take ah:=by rw[bl,List.take_length_add_append,List.take_succ_cons]
        have t2:(k++i::aZ).take e=k++i::aZ.take ah:=by rw[bl,<-e2,List.take_length_add_append,List.take_succ_cons]
        exact⟨a5,o3,B,aV,by rw[t1,t2,hX];exact an,ar⟩
     ·have ce:(g++a::ag).Nodup:=by
       rw[K,f1]at M;have:g++a::(ag++a7)=(g++a::ag)++a7:=G
       rw[this]at M;exact(List.nodup_append.1 M).1
      by_cases y:b=a
      ·subst y;rw[s]at m;injection m with m;subst m
       have b4:(g++b::ag)[Z g]? =O b:=G
       have:e=Z g:=(List.getElem?_inj (bR.1 o).1 ce).1 (by rw[o,b4]);subst this;rw[<-e2]at hu;simp at hu;subst hu;exact Sg q
      ·rw[wH y]at R;rw[Nv<|λE=>aj a b d f c s m y E q]
       by_cases aa:e<Z g
       ·rw[my aa]at o;rw[my C]at hu;exact e8 e b aX f c o hu m q R
       ·rw[ly C]at o
        cases hq:e - Z g with
        |zero=>rw[hq]at o;simp at o;exact absurd o.symm y
        |succ ah=>
         rw[hq]at o;have b9:b∈ag:=eR (i:=ah) (by simpa using o);have:=e6 b (by rw[f1];simp[b9]);rw[this]at R;cases R
     ·rw[Nv (λE=>by have:=ht a d s E;rw[Gx]at this;cases this)];refine e9 c λX t r S=>?_;have:=ht X t r S
      by_cases H:X=a
      ·subst H;exact hD
      ·rwa[wH H]at this
    intro V W;have a6:=br _ Y V e3 W ap;have ax:=A9 (ops:=l.toArray) (o:=d) e3 W ap bt;have h1:=a3 Y e3;unfold wpList at h1 ⊢;split at h1
    ·rename_i ad;rw[ax]at ad;rw[aL ad]
     rcases h1 with h1|⟨_,h1⟩
     ·left;unfold Oper.wp at h1 ⊢;rw[a6];refine LV e3.defers (λi w1 L=>bv V i w1 W L) (λa9 w1 L=>?_) (λct a9 w1 L=>?_) (λL=>?_) h1
      ·obtain⟨_,cm,_⟩:=L;exact cm.defers
      ·obtain⟨_,_,aq,_⟩:=L;cases aq
      ·obtain⟨_,_,_,_,aq,_⟩:=L;cases aq
     ·obtain⟨_,_,_,_,aq,_⟩:=h1;cases aq
    ·rename_i ad;rw[ax]at ad;rw[aJ ad];exact bv V undef I W h1
 ·rintro A z I bb⟨g,k,v,Y,J,K,e2,e3,e4,e5,e6,e7,eS,e8,e9⟩;have ci:v= []:=by
   cases v with
   |nil=>rfl
   |cons p N=>
    have h1:=e6 p G;rw[bb p<|b8 p (by rw[K];simp)]at h1;cases h1
  subst ci;rw[kY]at K;subst K;have:z=rn l U ab k:=by
   funext c
   by_cases al:∃(j:Nat)(f:bC),l[j]? =O f/\f.dst=O c
   ·obtain⟨j,f,m,q⟩:=al;have bm:=(bR.1 m).1;obtain⟨e,o⟩:=List.mem_iff_getElem?.1<|a0 j bm
    have aa:e<Z k:=by rw[e2];exact(bR.1 o).1
    rw[e8 e j k[e] f c o (aM aa) m q<|bb j bm];refine(Nw ab k U e j f k[e] o (aM aa) m q λX i2 t au r y=>?_).symm;refine aj j i2 f t c m r (λp=>y ?_) q;subst p;exact(List.getElem?_inj (bR.1 au).1 M).1 (by rw[au,o])
   ·rw[e9 c λj f m q=>absurd ⟨j,f,m,q⟩ al];exact(zY ab k U<|λb af t r S=>al ⟨b,t,r,S⟩).symm
  rw[this];unfold DP at e4;exact e4
def jb{U:Nat->F}{w:aT}{id:Nat}(hm:P.follows .mixedOrders=aA)(mk a:aG Nat)(h:DP P n l mk Q (λ_=>True) a U w.drew)(hdep:C0 0 l=true:=by exact rfl)(hc:UY n l mk a=true:=by kernel_rfl):RC P n (.region id l.toArray aA) U w Q:=v_ (hdep:=hdep) (hc:=hc) _ hm mk a trivial h
end
def Ti(m:Nat):aG Nat->Bool
 | []=>aA
 |i::l=>Nat.blt i m&& !(l.any λj=>Nat.beq i j)&&Ti m l
def Gy{m:Nat}:∀{l:aG Nat},Ti m l=aA->l.Nodup/\∀i∈l,i<m
 | [],_=>⟨List.nodup_nil,λi a=>by cases a⟩
 |b::l,a=>by
  unfold Ti at a;simp only[dE,Bool.not_eq_true']at a;obtain⟨c,e⟩:=Gy a.2;refine⟨List.nodup_cons.2 ⟨λf=>?_,c⟩,λi c=>?_⟩
  ·have:(l.any λd=>Nat.beq b d)=true:=ky.2 ⟨b,f,Nat.beq_refl b⟩;rw[this]at a;cases a.1.2
  ·rcases eO.1 c with b|c
   ·rw[b];exact Nat.blt_eq▸a.1.1
   ·exact e i c
section
variable {E w:aT}{V Γ0 new:aG HP}
def B.pk(h:B E w V)(m:Nat)(A:aG Nat)(e:(V.drop m,A.map<|λd=>V[d]?,Ti m A)=(Γ0,new.map O,aA):=by exact rfl):B E w (new++Γ0):=by
 injection e with b e;injection e with c a
 exact h.pick m A b c (Gy a).1 (Gy a).2
def aaq(m:Nat)(A:aG Nat)(V:aG HP):aG HP:=A.map (λi=>V.getD i aW)++V.drop m
def B.pl(h:B E w V)(m:Nat)(A:aG Nat)(e:(Ti m A&&(A.all λa=>Nat.blt a (Z V)))=true:=by exact rfl):B E w (aaq m A V):=by
 rw[dE]at e;refine h.pick m A rfl ?_ (Gy e.1).1 (Gy e.1).2
 simp_all
end
section
variable {P:bG}{n:Nat}{l:aG bC}{mk:aG Nat}{Q:jl}{U:Nat->F}{w:aT}{i:Nat}{b:aG Nat}{o:bC}{ops:aY bC}{S:aT->Prop}
def cX(e:l[i]? =O o)(h:RL P n l.toArray [o] U w (λa d c=>a = .normal/\c=w/\DP P n l mk Q S b d w))(hm:mk.getD i 0=0:=by exact rfl):RL P n ops [] U w (λa d c=>a = .normal/\c=w/\DP P n l mk Q S (i::b) d w):=dp<|ge e hm h
def oy(e:l[i]? =O o)(h:RL P n l.toArray [o] U w (λc d a=>c = .normal/\S a/\DP P n l mk Q S b d a))(hm:mk.getD i 0=2:=by exact rfl):RL P n ops [] U w (λc d a=>c = .normal/\a=w/\DP P n l mk Q S (i::b) d w):=dp<|io e hm h
def qY(a:l[i]? =O o)(h:RL P n l.toArray [o] U w (λc d a=>c = .normal/\a=w/\DP P n l mk Q S b d w))(e:S w:=by exact trivial)(hm:mk.getD i 0=0:=by exact rfl):RL P n ops [] U w (λc d a=>c = .normal/\S a/\DP P n l mk Q S (i::b) d a):=by simp_all[gj,ge]
def QL(a:l[i]? =O o)(h:RL P n l.toArray [o] U w (λc d a=>c = .normal/\S a/\DP P n l mk Q S b d a))(e:S w:=by exact trivial)(hm:mk.getD i 0=2:=by exact rfl):RL P n ops [] U w (λc d a=>c = .normal/\S a/\DP P n l mk Q S (i::b) d a):=by simp_all[gj,io]
end
def cnd{P:bG}{n:Nat}{q:bB}{x y:Code}{U:Nat->F}{w:aT}{Q:jl}{β:Type}{b:Bool}{A B:aP β}{r:β}(a:(bif b then A else B)=O r)(hc:ev U q = .bool b)
  (a:b=aA->A=O r->RC P n x U w Q) (a:b=aK->B=O r->RC P n y U w Q):RC P n (.cond q x y) U w Q:=
 by grind [K1]
def dU{G:Prop}{β:Type}{b:Bool}{A B:aP β}{r:β}(a:(bif b then A else B)=O r)(a:b=aA->A=O r->G)(a:b=aK->B=O r->G):G:=H
def Zf(ad:Addr)(cs:aG F):HP:=⟨λM h=>At M ad cs/\h=yO,λk⟨a,b⟩=>⟨a.mono k,b⟩⟩
section
variable {α β:Type}[s α][s β]{E w:aT}{V:aG HP}{P:bG}{n:Nat}{l:aG bC}{mk:aG Nat}{Q:jl}{U:Nat->F}{i o:Nat}{b:aG Nat}{S:aT->Prop}
variable {d:Nat}{ty:bJ}{c:String}{t:aY Edge}{g:aP (Nat×Bool)}{q r:bB}{T e:bJ}{x:α}{p:F}
def B.gE(h:B E w V)(i:Nat){A:HP}(hi:V[i]? =O A:=by exact rfl):B E w [A]:=by
 have a:=(bR.1 hi).1;have:=h.pick (Z V) [i] (Γ0:=[]) (new:=[A]) G (by simp[hi]) G (λa a=>H)
 grind
def QT{v:F}(hg:Wn l.toArray U g)(hd:Nat.blt d n=aA){op:Op}{w':aT}(b:(execOp (ev U) ⟨O d,op,ty,c,t,g⟩).run P w' = .ok (.value v) w'):
  RL P n l.toArray [⟨O d,op,ty,c,t,g⟩] U w' (λa f e=>a = .normal/\e=w'/\f=xf ⟨O d,op,ty,c,t,g⟩ U v):=
 jp hg hd b (J ⟨rfl,rfl,rfl⟩)
def um{ls:aG α}{a:F}{K:IntKind}{j:Int}(i:Nat)(C:l[o]? =O ⟨O d, .indexAddr T q r,ty,c,t,g⟩)(f:B E w V)(h:Cg P T e (s.sz α))(hj:(if 0<=j then ls[j.toNat]? else aQ)=O x)(k:∀v,B E w (pt v x::V)->DP P n l mk Q S b (fo U d v) w)(hm:mk.getD o 0=1:=by exact rfl)(hg:Wn l.toArray U g:=by exact trivial)(hd:Nat.blt d n=true:=by exact rfl)(hx:ev U q=a:=by exact rfl)(hy:ev U r = .int K j:=by exact rfl)(hi:V[i]? =O (Y a ls):=by exact rfl):DP P n l mk Q S (o::b) U w:=by
 obtain⟨m,a,a⟩:=f;obtain⟨f,I,f,G,f,f,f,A⟩:=sT.1 (a.sat i _ hi).1;have f:0<=j:=H
 rw[aL f]at hj;obtain⟨p,u,z,D,y⟩:=A _ _ hj;have A:j<I:=H
 refine ek (hm:=hm) (.pointer<|O<|p.add<|j.toNat*s.sz α) C (λp=>QT hg hd ?_)<|k _ ⟨m,_,a.iX ⟨⟨_,u,rfl,D,y⟩,rfl⟩⟩
 simp only[execOp,hx,G,z,hy,Instr.indexAt,asIntOf,bQ,cB,bY,run_underlying h.Iw,h.sz,f,A,and_self,if_true]
def wI{j m:Nat}{f:α->β}(i:Nat)(A:l[o]? =O ⟨O d, .fieldAddr T q j,ty,c,t,g⟩)(e:B E w V)(hi:V[i]? =O (pt p x))(z:oG P T j m)(u:Fd m f)(k:∀v,B E w (pt v (f x)::V)->DP P n l mk Q S b (fo U d v) w)(hm:mk.getD o 0=1:=by exact rfl)(hg:Wn l.toArray U g:=by exact trivial)(hd:Nat.blt d n=true:=by exact rfl)(hx:ev U q=p:=by exact rfl):DP P n l mk Q S (o::b) U w:=by
 obtain⟨a,h,h⟩:=e;obtain⟨⟨e,r,D,C,y⟩,_⟩:=h.sat i _ hi;refine ek (hm:=hm) (.pointer<|O<|e.add m) A (λA=>QT hg hd ?_)<|k _ ⟨a,_,h.iX ⟨⟨e.add m,_,rfl,u a r x C,y.sub m<|s.sz β⟩,rfl⟩⟩
 simp only[execOp,hx,D,bQ,z.run,bY,cB]
def rR(x:α)(i:Nat)(u:l[o]? =O ⟨O d, .load T q,ty,c,t,g⟩)(f:B E w V)(m:nT P T (s.agg α) (s.sz α))(k:∀v ad cs,B E w (Zf ad cs::Y v x::V)->DP P n l mk Q (λa=>S a/\B E a [Zf ad cs]) b (fo U d v) w)(hm:mk.getD o 0=1:=by exact rfl)(hg:Wn l.toArray U g:=by exact trivial)(hd:Nat.blt d n=true:=by exact rfl)(hx:ev U q=p:=by exact rfl)(hi:V[i]? =O (pt p x):=by exact rfl):DP P n l mk Q S (o::b) U w:=by
 have e:=f;obtain⟨h,e,e⟩:=f;obtain⟨⟨ad,cs,y,f,r⟩,_⟩:=e.sat i _ hi;have j:B E w (Y (CU α cs) x::V):=⟨h,_,e.iX ⟨⟨cs,rfl,f⟩,rfl⟩⟩;have j:B E w (Zf ad cs::Y (CU α cs) x::V):=⟨h,_,(e.iX (P:=Y (CU α cs) x) ⟨⟨cs,rfl,f⟩,rfl⟩).iX ⟨r,rfl⟩⟩;refine au0 (CU α cs) (λa=>S a/\B E a [Zf ad cs]) (λ_ a=>a.1) (λa=>⟨a,j.gE 0⟩) u hm (λa e=>QT hg hd ?_)<|k _ _ _ j
 obtain⟨a,a,a⟩:=e.2;obtain⟨e,_⟩:=a.sat 0 _ rfl;simp only[execOp,hx,y,Instr.loadAt,Instr.sureAddr,bQ,cB,bY,rA m f<|λh j f=>CY a.im<|e h j f]
def uH{γ:Type}[Sc γ](y:γ)(i:Nat)(h:l[o]? =O ⟨O d, .load T q,ty,c,t,g⟩)(e:B E w V)(f:nT P T aK 1)(k:∀ad cs,B E w (Zf ad cs::V)->DP P n l mk Q (λa=>S a/\B E a [Zf ad cs]) b (fo U d<|Sc.toV y) w)(hm:mk.getD o 0=1:=by exact rfl)(hg:Wn l.toArray U g:=by exact trivial)(hd:Nat.blt d n=true:=by exact rfl)(hx:ev U q=p:=by exact rfl)(hi:V[i]? =O (pt p y):=by exact rfl):DP P n l mk Q S (o::b) U w:=by
 refine rR (hm:=hm) (hg:=hg) (hd:=hd) (hx:=hx) (hi:=hi) y i h e f λh ad cs a=>?_;have f:h=Sc.toV y:=a.CZ (i:=1) rfl;subst f;refine k ad cs ?_;obtain⟨f,f,f⟩:=e;obtain⟨e,h,f⟩:=a;exact B.pick ⟨e,h,f⟩ 2 [0] (Γ0:=V) (new:=[Zf ad cs]) rfl rfl G (λk a=>H)
end
def SH(E:aT)(V:aG HP)(l:aG (Nat×F))(G:aG HP)(U:Nat->F)(w:aT):Prop:=∃a,U=v8 l a/\B E w (G++V)
def sh{U:Nat->F}{w E:aT}{l:aG (Nat×F)}{G V:aG HP}(h:d8 U l)(c:B E w (G++V)):SH E V l G U w:=by
 obtain⟨a,b⟩:=h.v8;exact⟨a,b,c⟩
def J9{U:Nat->F}:∀{l:aG (Nat×F)},l.map (λa=>U a.1)=l.map (λa=>a.2)->d8 U l
 | [],_=>True.intro
 |(e,f)::l,b=>by
  rw[gQ,gQ]at b;injection b with c d
  exact⟨c,J9 d⟩
section
variable {P:bG}{n:Nat}{U:Nat->F}{w:aT}{Q:jl}{E:aT}{V o new:aG HP}{ops:aY bC}{f:aG bC}{d t j:Nat}{ty:bJ}{i:String}{p:aY Edge}{g:aP (Nat×Bool)}{x y z:bB}{op:Op}
def kR{a b:Bool}(h:a = !b)(k:RL P n ops f (fo U d undef) w Q)(c:D (ops[j]?) (·.dst)=O t:=by exact rfl)(e:U t = .bool a:=by exact rfl)(hd:Nat.blt d n=true:=by exact rfl):
  RL P n ops (⟨O d,op,ty,i,p,O (j,b)⟩::f) U w Q:=sk c (.inl<|e.trans<|gt h) hd k
def QM{b:Bool}(k:RL P n ops f (fo U d undef) w Q)(a:D (ops[j]?) (·.dst)=O t:=by exact rfl)(c:U t = .bool (!b):=by exact rfl)(hd:Nat.blt d n=true:=by exact rfl):
  RL P n ops (⟨O d,op,ty,i,p,O (j,b)⟩::f) U w Q:=sk a (.inl c) hd k
def sku{b:Bool}(k:RL P n ops f (fo U d undef) w Q)(a:D (ops[j]?) (·.dst)=O t:=by exact rfl)(c:U t=undef:=by exact rfl)(hd:Nat.blt d n=true:=by exact rfl):
  RL P n ops (⟨O d,op,ty,i,p,O (j,b)⟩::f) U w Q:=sk a (.inr c) hd k
def NB{b c:Bool}(h:b=c)(v:F)(k:RL P n ops f (fo U d v) w Q)(hg:Wn ops U g:=by exact trivial)(hd:Nat.blt d n=true:=by exact rfl)(hx:ev U x = .bool b:=by exact rfl)(a:(if c=aA then ev U y else ev U z)=v:=by exact rfl):
  RL P n ops (⟨O d, .pick x y z,ty,i,p,g⟩::f) U w Q:=by grind [nt]
def B.sp{l:aG (Nat×F)}(h:B E w o)(m:Nat)(A:aG Nat)(e:(o.drop m,A.map<|λa=>o[a]?,Ti m A)=(V,new.map O,aA):=by exact rfl)
  (b:l.map (λa=>U a.1)=l.map (λa=>a.2):=by exact rfl):SH E V l new U w:=sh (J9 b)<|h.pk (e:=e) m A
end
section
variable {S T γ:Type}[s S][s T][s γ]{m:Nat}
def Fd.v{r:S->γ}(g:S->T){f:T->γ}(h:Fd m f)(a:∀M cs x,s.ok (α:=S) M cs x=s.ok M cs (g x):=by exact λ_ _ _=>rfl)(e:∀x,f (g x)=r x:=by exact λ_=>rfl):Fd m r:=λM cs x b=>by
 rw[<-e];exact h M cs (g x)<|a M cs x▸b
def Fs.v{r:S->γ->S}(g:S->T){f:T->γ->T}(h:Fs m γ f)(a:∀M cs x,s.ok (α:=S) M cs x=s.ok M cs (g x):=by exact λ_ _ _=>rfl)(e:∀x y,f (g x) y=g (r x y):=by exact λ_ _=>rfl):Fs m γ r:=λM cs b x y c d=>by
 rw[a,<-e];exact h M cs b (g x) y (a M cs x▸c) d
end
section
variable {P:bG}{T e i k m f:Nat}{b:Func}{ag:Bool}{zs:aG F}
def eP{f:FuncId}(h:P.funcs[f]? =O b)(h1:(b.name== "runtime.NumGoroutine")=false:=by kernel_rfl)(h2:b.body.isNone=false:=by exact rfl):eJ P f:=⟨λ_ _=>Nc h h1 h2⟩
def qm{T:bJ}(h:∀a w,(Instr.fieldAt T (.pointer<|O a) i).run P w = .ok (.pointer<|O<|a.add k) w:=by intro _ _;kernel_rfl):oG P T i k:=⟨h⟩
def xg{T:bJ}(h:∀w,(isAgg T).run P w = .ok ag w:=by intro _;kernel_rfl)(h2:∀w,(sizeOf T).run P w = .ok k w:=by intro _;kernel_rfl):nT P T ag k:=⟨h,h2⟩
def Iz{T e:bJ}(h:P.underlying T=O (.slice e):=by kernel_rfl)(h2:∀w,(sizeOf e).run P w = .ok k w:=by intro _;kernel_rfl):Cg P T e k:=⟨h,h2⟩
def Hy{e:bJ}(z:F)(h:∀w,(zeroValue e).run P w = .ok z w:=by intro _;kernel_rfl)(h1:z.cells.size=m:=by exact rfl)(h2:∀w,(sizeOf e).run P w = .ok m w:=by intro _;kernel_rfl):Gd P e m:=⟨⟨z,h,h1⟩,h2⟩
end
section
variable {l:aG bC}{D:Nat->Bool}{U:Nat->F}{j d n:Nat}{v v':F}{b:aG (Nat×Nat×F)}{ag:aG (Nat×F)}
def nh(e:A6 l D)(d:D j=aK)(K:Nat)(h:((l[K]?).any λb=>Gv b j)=true:=by exact rfl):D K=false:=nf λc=>by
 cases a:l[K]? with
 |none=>rw[a]at h;cases h
 |some b=>
  rw[a]at h;have:=tW (e K b a c) h;rw[d]at this;cases this
def tL(h:∀i,i<n->D i=aA)(i:Nat)(hi:Nat.blt i n=true:=by exact rfl):D i=true:=h i<|Nat.blt_eq.mp hi
def eT.pu(h:eT D U b)(k:Nat)(h1:b[k]? =O (j,d,v):=by exact rfl)(h2:JW j d k b=true:=by exact rfl):eT (k_ D j) (fo U d v') (b.set k (j,d,v')):=h.put k h1 h2
def eT.n1(h:eT D U b)(h1:(b.all λa=> !Nat.beq a.1 j)=true:=by exact rfl):eT (k_ D j) U b:=h.no h1
def d8.u(h:d8 U ag)(h1:yZ d ag=true:=by exact rfl):d8 (fo U d v) ag:=h.up h1
end
def I_:aG (Nat×F)->Bool
 | []=>aA
 |(d,_)::l=>yZ d l&&I_ l
def Mx{d:Nat}:∀{l k:aG (Nat×F)},yZ d (l++k)=aA->yZ d l=aA/\yZ d k=aA
 | [],_,a=>⟨rfl,a⟩
 |(b,c)::l,k,a=>by
  have a:(!Nat.beq b d&&yZ d (l++k))=true:=a;rw[dE]at a;have:=Mx a.2;exact⟨by show(!Nat.beq b d&&yZ d l)=aA;rw[dE];exact⟨a.1,this.1⟩,this.2⟩
def My{a:Nat->F}:∀{l:aG (Nat×F)},I_ l=aA->d8 (v8 l a) l
 | [],_=>trivial
 |(b,c)::l,a=>by
  have a:(yZ b l&&I_ l)=true:=a;rw[dE]at a;refine⟨?_,(My a.2).up a.1⟩;show(bif Nat.beq b b then c else _)=c;rw[Nat.beq_refl];rfl
def Mz{U:Nat->F}:∀{l k:aG (Nat×F)},d8 U (l++k)->d8 U l
 | [],_,_=>trivial
 |(b,c)::l,k,a=>⟨a.1,Mz a.2⟩
section
variable {S R X Y β:Type}{res:β}{P:bG}{n:Nat}{U:Nat->F}{w E:aT}{Q:jl}{z:Code}{b0 id d A B:Nat}{T i ty:bJ}{b:String}{e:aY Edge}{V:aG HP}
def SH.out{W L:aG (Nat×F)}{C:aG HP}{U:Nat->F}{w:aT}(h:SH E V (W++L) C U w)(a:(yZ d (W++L)&&I_ (W++L))=aA)(v:F):SH E V W C (fo U d v) w:=by
 obtain⟨b,rfl,b⟩:=h;rw[dE]at a;exact sh ((Mz<|My a.2).up (Mx a.1).1) b
def Gz{U:Nat->F}{v:F}:ev (fo U d v) (.tmp d)=v:=by
 show(bif Nat.beq d d then v else U d)=v;rw[Nat.beq_refl];rfl
abbrev cl(id d A B b0:Nat)(T i ty:bJ)(b:String)(e:aY Edge)(z:Code):Code:= .block b0<|.loop<|.seq (.region id [(⟨O d, .binOp .lss T (.tmp A) (.tmp B) i,ty,b,e,aQ⟩:bC)].toArray aK)<|.seq (.cond (.tmp d) .skip<|.exit b0) z
def lv(d A B k m:Nat)(l:aG (Nat×F)):Prop:=(yZ d l&&I_ l)=aA/\(∀a,v8 l a A = .int .i64 (k:Int))/\∀a,v8 l a B = .int .i64 (m:Int)
def SH.hd{d A B k m:Nat}{l C}{U:Nat->F}{w:aT}(h:SH E V l C U w)(hl:lv d A B k m l):U A = .int .i64 (k:Int)/\U B = .int .i64 (m:Int):=by
 obtain⟨a,rfl,_⟩:=h;exact⟨hl.2.1 a,hl.2.2 a⟩
def ap7{I:Nat->S->(Nat->F)->aT->Prop}{J:S->(Nat->F)->aT->Prop}{K:R->(Nat->F)->aT->Prop}
  {body:Nat->S->aP (Fl S R)} {f:S->aP β} {g:R->aP β} {m:Nat} {a:S} (c:(D (sV m body a) λh=>h.cs f g)=O res) (j:I 0 a U w) (hd:Nat.blt d n=aA)
  (o:∀s U v w,I m s U w->J s (fo U d v) w) (hx:∀k s U w,I k s U w->U A = .int .i64 (k:Int)/\U B = .int .i64 (m:Int))
  (t:m<=4611686018427387904->∀k s h U w,k<m->I k s U w->body k s=O h->RC P n z (fo U d<|.bool<|decide<|(k:Int)<(m:Int)) w (UH I b0 J K k h))
  (q:∀r U w,g r=O res->K r U w->Q .ret U w) (p:∀s U w,f s=O res->J s U w->Q .normal U w):RC P n (cl id d A B b0 T i ty b e z) U w Q:=by
 obtain⟨a,a,c⟩:=bd c;exact UO I J K a j
  (λl s U w a=>IT<|ic (hd:=hd) (hx:=(hx m s U w a).1) (hy:=(hx m s U w a).2) (K:= .i64) m m<|i4<|A5 (Gz.trans Z8)<|fk ⟨rfl,o s U _ w a⟩)
  (λl k s h U w j a c=>IT<|ic (hd:=hd) (hx:=(hx k s U w a).1) (hy:=(hx k s U w a).2) (K:= .i64) k m<|i4<|A0 (Gz.trans<|Z7 j)<|rx<|t l k s h U w j a c) (λr U w a=>by subst a;exact q r U w c) (λs U w a=>by subst a;exact p s U w c)
def Rd{I:Nat->S->(Nat->F)->aT->Prop}{J:S->(Nat->F)->aT->Prop}
  {body:Nat->S->aP S} {f:S->aP β} {m:Nat} {a:S} (c:D (lT m body a) f=O res) (h:I 0 a U w) (hd:Nat.blt d n=aA)
  (j:∀s U v w,I m s U w->J s (fo U d v) w) (hx:∀k s U w,I k s U w->U A = .int .i64 (k:Int)/\U B = .int .i64 (m:Int))
  (p:m<=4611686018427387904->∀k s a U w,k<m->I k s U w->body k s=O a->RC P n z (fo U d<|.bool<|decide<|(k:Int)<(m:Int)) w (λg U w=>g = .normal/\I (k+1) a U w))
  (l:∀s U w,f s=O res->J s U w->Q .normal U w):RC P n (cl id d A B b0 T i ty b e z) U w Q:=by
 obtain⟨o,a,c⟩:=bd c;exact K2 I J a h
  (λh s U w a=>IT<|ic (hd:=hd) (hx:=(hx m s U w a).1) (hy:=(hx m s U w a).2) (K:= .i64) m m<|i4<|A5 (Gz.trans Z8)<|fk ⟨rfl,j s U _ w a⟩)
  (λh k s j U w g a c=>IT<|ic (hd:=hd) (hx:=(hx k s U w a).1) (hy:=(hx k s U w a).2) (K:= .i64) k m<|i4<|A0 (Gz.trans<|Z7 g)<|rx<|p h k s j U w g a c) (λU w=>l o U w c)
def s_(E:aT)(V:aG HP)(C:S->aG HP)(W:S->aG (Nat×F))(L:Nat->S->aG (Nat×F)){body:Nat->S->aP S}{f:S->aP β}{m:Nat}{a:S}(h:D (lT m body a) f=O res)(g:SH E V (W a++L 0 a) (C a) U w)
  (j:m<=4611686018427387904->∀k s a U w,k<m->SH E V (W s++L k s) (C s) U w->body k s=O a->RC P n z (fo U d<|.bool<|decide<|(k:Int)<(m:Int)) w (λc U w=>c = .normal/\SH E V (W a++L (k+1) a) (C a) U w))
  (c:∀s U w,f s=O res->SH E V (W s) (C s) U w->Q .normal U w) (hd:Nat.blt d n=true:=by exact rfl) (hl:∀k s,lv d A B k m (W s++L k s):=by exact λ_ _=>⟨rfl,λ_=>rfl,λ_=>rfl⟩):RC P n (cl id d A B b0 T i ty b e z) U w Q:=
 Rd (I:=λk s U w=>SH E V (W s++L k s) (C s) U w) (J:=λs U w=>SH E V (W s) (C s) U w) h g hd (λs U g w a=>a.out (hl m s).1 g) (λk s U w a=>a.hd<|hl k s) j c
def md(E:aT)(V:aG HP)(C:S->aG HP)(W:S->aG (Nat×F))(L:Nat->S->aG (Nat×F))(K:R->(Nat->F)->aT->Prop){body:Nat->S->aP (Fl S R)}{f:S->aP β}{g:R->aP β}{m:Nat}{a:S}(h:(D (sV m body a) λc=>c.cs f g)=O res)(c:SH E V (W a++L 0 a) (C a) U w)
  (o:m<=4611686018427387904->∀k s a U w,k<m->SH E V (W s++L k s) (C s) U w->body k s=O a->RC P n z (fo U d<|.bool<|decide<|(k:Int)<(m:Int)) w (UH (λk s U w=>SH E V (W s++L k s) (C s) U w) b0 (λs U w=>SH E V (W s) (C s) U w) K k a))
  (l:∀r U w,g r=O res->K r U w->Q .ret U w) (j:∀s U w,f s=O res->SH E V (W s) (C s) U w->Q .normal U w) (hd:Nat.blt d n=true:=by exact rfl) (hl:∀k s,lv d A B k m (W s++L k s):=by exact λ_ _=>⟨rfl,λ_=>rfl,λ_=>rfl⟩):RC P n (cl id d A B b0 T i ty b e z) U w Q:=
 ap7 (I:=λk s U w=>SH E V (W s++L k s) (C s) U w) (J:=λs U w=>SH E V (W s) (C s) U w) h c hd (λs U c w a=>a.out (hl m s).1 c) (λk s U w a=>a.hd<|hl k s) o l j
def pr{c:Code}(E:aT)(V:aG HP)(C:S->aG HP)(W L:S->aG (Nat×F))(K:R->(Nat->F)->aT->Prop){body:S->aP (Fl S R)}{f:S->aP β}{g:R->aP β}{N:Nat}{b:S}(a:(D (gh body N b) λd=>d.cs f g)=O res)(d:SH E V (W b++L b) (C b) U w)
  (i:∀s b U w,SH E V (W s++L s) (C s) U w->body s=O b->RC P n c U w (Nh (λs U w=>SH E V (W s++L s) (C s) U w) b0 (λs U w=>SH E V (W s) (C s) U w) K b))
  (h:∀r U w,g r=O res->K r U w->Q .ret U w) (e:∀s U w,f s=O res->SH E V (W s) (C s) U w->Q .normal U w):RC P n (.block b0<|.loop c) U w Q:=by
 obtain⟨b,b,a⟩:=bd a;exact zq _ _ K b d i (λr U w b=>by subst b;exact h r U w a) (λs U w b=>by subst b;exact e s U w a)
def m0{c:Code}(E:aT)(V:aG HP)(C:S->aG HP)(W L:S->aG (Nat×F)){body:S->aP (Fl S Empty)}{f:S->aP β}{g:Empty->aP β}{N:Nat}{a:S}(e:(D (gh body N a) λb=>b.cs f g)=O res)(d:SH E V (W a++L a) (C a) U w)
  (h:∀s b U w,SH E V (W s++L s) (C s) U w->body s=O b->RC P n c U w (Nh (λs U w=>SH E V (W s++L s) (C s) U w) b0 (λs U w=>SH E V (W s) (C s) U w) (λa _ _=>a.elim) b))
  (b:∀s U w,f s=O res->SH E V (W s) (C s) U w->Q .normal U w):RC P n (.block b0<|.loop c) U w Q:=
 pr E V C W L (λa _ _=>a.elim) e d h (λa _ _ _=>a.elim) b
def r_(E:aT)(V:aG HP)(C:S->X->aG HP)(W:S->X->aG (Nat×F))(L:Nat->S->X->aG (Nat×F)){body:Nat->S->aP S}{f:S->aP β}{m:Nat}{a:S}(h:D (lT m body a) f=O res)(g:(∃x,SH E V (W a x++L 0 a x) (C a x) U w))
  (j:m<=4611686018427387904->∀k s a U w,k<m->(∃x,SH E V (W s x++L k s x) (C s x) U w)->body k s=O a->RC P n z (fo U d<|.bool<|decide<|(k:Int)<(m:Int)) w (λc U w=>c = .normal/\(∃x,SH E V (W a x++L (k+1) a x) (C a x) U w)))
  (c:∀s U w,f s=O res->(∃x,SH E V (W s x) (C s x) U w)->Q .normal U w) (hd:Nat.blt d n=true:=by exact rfl) (hl:∀k s x,lv d A B k m (W s x++L k s x):=by exact λ_ _ _=>⟨rfl,λ_=>rfl,λ_=>rfl⟩):RC P n (cl id d A B b0 T i ty b e z) U w Q:=
 Rd (I:=λk s U w=>(∃x,SH E V (W s x++L k s x) (C s x) U w)) (J:=λs U w=>(∃x,SH E V (W s x) (C s x) U w)) h g hd (λs U g w⟨x,a⟩=>⟨x,a.out (hl m s x).1 g⟩) (λk s U w⟨x,a⟩=>a.hd<|hl k s x) j c
def au1{c:Code}(E:aT)(V:aG HP)(C:S->X->aG HP)(W L:S->X->aG (Nat×F))(K:R->(Nat->F)->aT->Prop){body:S->aP (Fl S R)}{f:S->aP β}{g:R->aP β}{N:Nat}{b:S}(a:(D (gh body N b) λd=>d.cs f g)=O res)(d:(∃x,SH E V (W b x++L b x) (C b x) U w))
  (i:∀s b U w,(∃x,SH E V (W s x++L s x) (C s x) U w)->body s=O b->RC P n c U w (Nh (λs U w=>(∃x,SH E V (W s x++L s x) (C s x) U w)) b0 (λs U w=>(∃x,SH E V (W s x) (C s x) U w)) K b))
  (h:∀r U w,g r=O res->K r U w->Q .ret U w) (e:∀s U w,f s=O res->(∃x,SH E V (W s x) (C s x) U w)->Q .normal U w):RC P n (.block b0<|.loop c) U w Q:=by
 obtain⟨b,b,a⟩:=bd a;exact zq _ _ K b d i (λr U w b=>by subst b;exact h r U w a) (λs U w b=>by subst b;exact e s U w a)
def ol{c:Code}(E:aT)(V:aG HP)(C:S->X->aG HP)(W L:S->X->aG (Nat×F)){body:S->aP (Fl S Empty)}{f:S->aP β}{g:Empty->aP β}{N:Nat}{a:S}(e:(D (gh body N a) λb=>b.cs f g)=O res)(d:(∃x,SH E V (W a x++L a x) (C a x) U w))
  (h:∀s b U w,(∃x,SH E V (W s x++L s x) (C s x) U w)->body s=O b->RC P n c U w (Nh (λs U w=>(∃x,SH E V (W s x++L s x) (C s x) U w)) b0 (λs U w=>(∃x,SH E V (W s x) (C s x) U w)) (λa _ _=>a.elim) b))
  (b:∀s U w,f s=O res->(∃x,SH E V (W s x) (C s x) U w)->Q .normal U w):RC P n (.block b0<|.loop c) U w Q:=
 au1 E V C W L (λa _ _=>a.elim) e d h (λa _ _ _=>a.elim) b
def Nm(E:aT)(V:aG HP)(C:S->X->Y->aG HP)(W:S->X->Y->aG (Nat×F))(L:Nat->S->X->Y->aG (Nat×F)){body:Nat->S->aP S}{f:S->aP β}{m:Nat}{a:S}(h:D (lT m body a) f=O res)(g:(∃x y,SH E V (W a x y++L 0 a x y) (C a x y) U w))
  (j:m<=4611686018427387904->∀k s a U w,k<m->(∃x y,SH E V (W s x y++L k s x y) (C s x y) U w)->body k s=O a->RC P n z (fo U d<|.bool<|decide<|(k:Int)<(m:Int)) w (λc U w=>c = .normal/\(∃x y,SH E V (W a x y++L (k+1) a x y) (C a x y) U w)))
  (c:∀s U w,f s=O res->(∃x y,SH E V (W s x y) (C s x y) U w)->Q .normal U w) (hd:Nat.blt d n=true:=by exact rfl) (hl:∀k s x y,lv d A B k m (W s x y++L k s x y):=by exact λ_ _ _ _=>⟨rfl,λ_=>rfl,λ_=>rfl⟩):RC P n (cl id d A B b0 T i ty b e z) U w Q:=
 Rd (I:=λk s U w=>(∃x y,SH E V (W s x y++L k s x y) (C s x y) U w)) (J:=λs U w=>(∃x y,SH E V (W s x y) (C s x y) U w)) h g hd (λs U g w⟨x,y,a⟩=>⟨x,y,a.out (hl m s x y).1 g⟩) (λk s U w⟨x,y,a⟩=>a.hd<|hl k s x y) j c
def au2{c:Code}(E:aT)(V:aG HP)(C:S->X->Y->aG HP)(W L:S->X->Y->aG (Nat×F))(K:R->(Nat->F)->aT->Prop){body:S->aP (Fl S R)}{f:S->aP β}{g:R->aP β}{N:Nat}{b:S}(a:(D (gh body N b) λd=>d.cs f g)=O res)(d:(∃x y,SH E V (W b x y++L b x y) (C b x y) U w))
  (i:∀s b U w,(∃x y,SH E V (W s x y++L s x y) (C s x y) U w)->body s=O b->RC P n c U w (Nh (λs U w=>(∃x y,SH E V (W s x y++L s x y) (C s x y) U w)) b0 (λs U w=>(∃x y,SH E V (W s x y) (C s x y) U w)) K b))
  (h:∀r U w,g r=O res->K r U w->Q .ret U w) (e:∀s U w,f s=O res->(∃x y,SH E V (W s x y) (C s x y) U w)->Q .normal U w):RC P n (.block b0<|.loop c) U w Q:=by
 obtain⟨b,b,a⟩:=bd a;exact zq _ _ K b d i (λr U w b=>by subst b;exact h r U w a) (λs U w b=>by subst b;exact e s U w a)
def Ji{c:Code}(E:aT)(V:aG HP)(C:S->X->Y->aG HP)(W L:S->X->Y->aG (Nat×F)){body:S->aP (Fl S Empty)}{f:S->aP β}{g:Empty->aP β}{N:Nat}{a:S}(e:(D (gh body N a) λb=>b.cs f g)=O res)(d:(∃x y,SH E V (W a x y++L a x y) (C a x y) U w))
  (h:∀s b U w,(∃x y,SH E V (W s x y++L s x y) (C s x y) U w)->body s=O b->RC P n c U w (Nh (λs U w=>(∃x y,SH E V (W s x y++L s x y) (C s x y) U w)) b0 (λs U w=>(∃x y,SH E V (W s x y) (C s x y) U w)) (λa _ _=>a.elim) b))
  (b:∀s U w,f s=O res->(∃x y,SH E V (W s x y) (C s x y) U w)->Q .normal U w):RC P n (.block b0<|.loop c) U w Q:=
 au2 E V C W L (λa _ _=>a.elim) e d h (λa _ _ _=>a.elim) b
end
section
variable {P:bG}{n:Nat}{U:Nat->F}{w E:aT}{V:aG HP}{D:Nat->Bool}{i dv':aG (Nat×Nat×F)}{e q:Edge}{l:aG Edge}{d p j:Nat}{v o u:F}{ag:aG (Nat×F)}{ops:aY bC}
def eT.o0(h:eT D U i)(k:Nat)(b:tV D (e::l))(h1:i[k]? =O (e.on,d,v))(a:Region.binds .any e=aA):U d=v:=h.at k h1<|b.1 a
def eT.o1(h:eT D U i)(k:Nat)(c:tV D (e::l))(h1:i[k]? =O (e.on,d,v):=by exact rfl)(b:Region.binds .any e=true:=by exact rfl):∃a,U=v8 [(d,v)] a:=
 d8.v8 (l:=[(d,v)]) ⟨h.o0 k c h1 b,trivial⟩
def eT.oa(h:eT D U i)(k:Nat)(f:tV D (e::l))(b:d8 U ag)(h1:i[k]? =O (e.on,d,v):=by exact rfl)(c:Region.binds .any e=true:=by exact rfl):∃a,U=v8 ((d,v)::ag) a:=
 d8.v8 (l:=(d,v)::ag) ⟨h.o0 k f h1 c,b⟩
def eT.o2(h:eT D U i)(k m:Nat)(a:tV D (e::q::l))(h1:i[k]? =O (e.on,d,v):=by exact rfl)(c:Region.binds .any e=true:=by exact rfl)
  (h2:i[m]? =O (q.on,p,o):=by exact rfl) (f:Region.binds .any q=true:=by exact rfl):∃b,U=v8 [(d,v),(p,o)] b:=
 d8.v8 (l:=[(d,v),(p,o)]) ⟨h.o0 k a h1 c,h.o0 m a.2 h2 f,trivial⟩
def B.nw{c:HP}(h:B E w (c::V))(k:Nat)(d:Nat.blt k (Z V)=true:=by exact rfl):B E w (V.set k (bif aA then c else Gk.aW)):=by
 have d:k<Z V:=Nat.blt_eq.mp d
 have f:=h.pick (Z V+1) ((List.range (Z V)).map λe=>if e=k then 0 else e+1) (Γ0:=[]) (new:=V.set k c) G (by
  apply List.ext_getElem
  ·simp
  ·intro e d f;simp only[dR,List.length_range]at d;simp only[List.getElem_map,List.getElem_range,List.getElem_set]
   by_cases d:e=k
   ·subst d;simp
   ·simp[d,Ne.symm d]) (by
  rw[List.nodup_iff_pairwise_ne,List.pairwise_map];exact List.nodup_range.imp λ{a b}g=>by
   by_cases g:a=k <;> by_cases i:b=k <;> simp[g,i] <;> omega) (by
  intro e d;rw[dH]at d;obtain⟨a,g,rfl⟩:=d;rw[A3]at g
  split <;> omega)
 rw[kY]at f;exact f
def y{X:Type}{G:X->aG HP}{f:X->aG (Nat×Nat×F)}(x:X)(k:Nat)(g:eT D U i)(e:d8 U ag)(h:B E w (G x))(h1:i[k]? =O (j,d,v):=by exact rfl)(h2:JW j d k i=true:=by exact rfl)
  (b:f x=i.set k (j,d,u):=by exact rfl) (c:yZ d ag=true:=by exact rfl):RL P n ops [] (fo U d u) w (λa U w=>a = .normal/\∃x,eT (k_ D j) U (f x)/\d8 U ag/\zV (k_ D j) U []/\B E w (G x)):=
 J ⟨rfl,x,b▸g.put k h1 h2,e.up c,trivial,h⟩
def qr{X:Type}{G:X->aG HP}{f:X->aG (Nat×Nat×F)}(x:X)(d:eT D U i)(c:d8 U ag)(e:B E w (G x))(h1:(i.all λx=> !Nat.beq x.1 j)=true:=by exact rfl)
  (b:f x=i:=by exact rfl):RL P n ops [] U w (λa U w=>a = .normal/\∃x,eT (k_ D j) U (f x)/\d8 U ag/\zV (k_ D j) U []/\B E w (G x)):=
 J ⟨rfl,x,b▸d.no h1,c,trivial,e⟩
end
section
variable {P:bG}{n:Nat}{U:Nat->F}{w:aT}{Q:jl}{d:Nat}{ops:aY bC}{b:aG bC}{ty:bJ}{c:String}{f:aY Edge}{q:bB}
def gV(a:Int)(k:RL P n ops b (fo U d<|e a) w Q)(hd:Nat.blt d n=true:=by exact rfl)(hx:ev U q=e a:=by exact rfl):RL P n ops (⟨O d, .move q,ty,c,f,aQ⟩::b) U w Q:=mv (hd:=hd) (hx:=hx) (e a) k
def xh(a:Bool)(k:RL P n ops b (fo U d<|vb a) w Q)(hd:Nat.blt d n=true:=by exact rfl)(hx:ev U q=vb a:=by exact rfl):RL P n ops (⟨O d, .move q,ty,c,f,aQ⟩::b) U w Q:=mv (hd:=hd) (hx:=hx) (vb a) k
def jU(a:Int)(k:RL P n ops b (fo U d<|e a) w Q)(hd:Nat.blt d n=true:=by exact rfl)(hx:ev U q=e a:=by exact rfl):RL P n ops (⟨O d, .assign q,ty,c,f,aQ⟩::b) U w Q:=xe (hd:=hd) (hx:=hx) (e a) k
def mj(a:Bool)(k:RL P n ops b (fo U d<|vb a) w Q)(hd:Nat.blt d n=true:=by exact rfl)(hx:ev U q=vb a:=by exact rfl):RL P n ops (⟨O d, .assign q,ty,c,f,aQ⟩::b) U w Q:=xe (hd:=hd) (hx:=hx) (vb a) k
end
def u{P:bG}{n:Nat}{q:bB}{x y:Code}{U:Nat->F}{w:aT}{Q:jl}{β:Type}{b:Bool}{A B:aP β}{r:β}(a:(bif b then A else B)=O r)(d:A=O r->RC P n x U w Q)(c:B=O r->RC P n y U w Q)(hc:ev U q = .bool b:=by exact rfl):RC P n (.cond q x y) U w Q:=cnd a hc (λ_=>d) λ_=>c
section
variable {α:Type}[s α]{P:bG}{n:Nat}{U:Nat->F}{w:aT}{Q:jl}{E:aT}{V:aG HP}{ops:aY bC}{c:aG bC}{d:Nat}{ty T e:bJ}{m:String}{o:aY Edge}{g:aP (Nat×Bool)}{v u:F}{q r:bB}{l:aG α}{x y:α}{jj:Int}{p:aG F}
def d7{f:FuncId}{args:aY bB}{e:aY bJ}{R:F->aT->Prop}(a:eJ P f)(h:Calls P f p.toArray w (eE R))(k:∀v w',R v w'->RL P n ops c (fo U d v) w' Q)
  (hg:Wn ops U g:=by first|exact trivial|exact⟨_,rfl,rfl⟩|exact⟨_,rfl,Gk.gt ‹_›⟩) (hd:Nat.blt d n=true:=by exact rfl) (b:args.toList.map (ev U)=p:=by exact rfl):RL P n ops (⟨O d, .call ⟨.value<|.func f,args,e⟩,ty,m,o,g⟩::c) U w Q:=
 as0 hg hd a p b (fE h k)
def IN{f:FuncId}{args:aY bB}{i:aY bJ}{S:aT->Prop}(a:eJ P f)(h:Calls P f p.toArray w (eE λv w=>v=u/\S w))(k:∀w',S w'->RL P n ops c (fo U d u) w' Q)
  (hg:Wn ops U g:=by first|exact trivial|exact⟨_,rfl,rfl⟩|exact⟨_,rfl,Gk.gt ‹_›⟩) (hd:Nat.blt d n=true:=by exact rfl) (b:args.toList.map (ev U)=p:=by exact rfl):RL P n ops (⟨O d, .call ⟨.value<|.func f,args,i⟩,ty,m,o,g⟩::c) U w Q:=
 d7 a h (λv w⟨e,h⟩=>e▸k w h) hg hd b
def eX{b:Nat}(i:Nat)(f:B E w V)(hi:V[i]? =O (bx e b x))(a:nT P T (s.agg α) (s.sz α))(k:∀v,B E w (Y v x::V)->RL P n ops c (fo U d v) w Q)(hg:Wn ops U g:=by first|exact trivial|exact⟨_,rfl,rfl⟩|exact⟨_,rfl,Gk.gt ‹_›⟩)(hd:Nat.blt d n=true:=by exact rfl)
  (hx:ev U q = .pointer (O ⟨b,0,aQ⟩):=by exact rfl):RL P n ops (⟨O d, .load T q,ty,m,o,g⟩::c) U w Q:=em (hg:=hg) (hd:=hd) (hx:=hx) (f:=λx=>x) _ f hi Fd.self a k
def mt(i:Nat)(a:B E w V)(h:A l jj=O x)(b:nT P T (s.agg α) (s.sz α))(k:∀v,B E w (Y v x::V)->RL P n ops c (fo U d v) w Q)(hg:Wn ops U g:=by exact trivial)(hd:Nat.blt d n=true:=by exact rfl)
  (hi:V[i]? =O (own e v l):=by exact rfl) (hx:ev U q=Ge v jj.toNat (s.sz α) 0:=by exact rfl):RL P n ops (⟨O d, .load T q,ty,m,o,g⟩::c) U w Q:=
 ww (f:=λx=>x) hg hd a hx (qM (hi:=hi) _ a h 0) hi (eB h).2.1 Fd.self b k
def p8{γ:Type}[Sc γ]{l:aG γ}{x:γ}(i:Nat)(a:B E w V)(h:A l jj=O x)(b:nT P T aK 1)(k:RL P n ops c (fo U d<|Sc.toV x) w Q)(hg:Wn ops U g:=by exact trivial)(hd:Nat.blt d n=true:=by exact rfl)
  (hi:V[i]? =O (own e v l):=by exact rfl) (hx:ev U q=Ge v jj.toNat (s.sz γ) 0:=by exact rfl):RL P n ops (⟨O d, .load T q,ty,m,o,g⟩::c) U w Q:=
 sb (hg:=hg) (hd:=hd) (hx:=hx) (hi:=hi) (f:=λx=>x) _ a (qM (hi:=hi) _ a h 0) (eB h).2.1 Fd.self b k
def pz(i j:Nat)(a:B E w V)(h:A l jj=O x)(b:nT P T (s.agg α) (s.sz α))(k:∀w',B E w' (V.set i<|own e v<|l.set jj.toNat y)->RL P n ops c U w' Q)(hg:Wn ops U g:=by exact trivial)
  (hi:V[i]? =O (own e v l):=by exact rfl) (hx:ev U q=Ge v jj.toNat (s.sz α) 0:=by exact rfl) (hy:ev U r=u:=by exact rfl) (hj:V[j]? =O (Y u y):=by exact rfl):RL P n ops (⟨aQ, .store T q r,ty,m,o,g⟩::c) U w Q:=
 La (f:=λ_ y=>y) hg a hx hy (qM (hi:=hi) _ a h 0) hi (eB h).2.1 hj Fs.self C b k
end
def Tj(U:Nat->F):∃a,U=v8 [] a:=⟨U,rfl⟩
section
variable {P:bG}{n:Nat}{U:Nat->F}{w:aT}{Q:jl}{ops:aY bC}{e:aG bC}{d:Nat}{ty T m:bJ}{f:String}{i:aY Edge}{v:F}{x y z q:bB}
def oB{C:Bool}(hq:ev U q=cv C v)(h:C=aA):ev U q=v:=hq.trans<|ji h
def oP{C B:Bool}(hq:ev U q=cv C v)(h:(C&&B)=aA):ev U q=v:=hq.trans<|ji<|UD h
def o_{C B a:Bool}(hq:ev U q=cv C v)(h:((C&&B)&&a)=aA):ev U q=v:=hq.trans<|ji<|UD<|UD h
def dq{j t:Nat}{a b:Bool}{op:Op}(v:F)(g:D (ops[j]?) (·.dst)=O t)(h:U t = .bool b)
  (c:(aA&&(b==a))=aA->(execOp (ev U) ⟨O d,op,ty,f,i,O (j,a)⟩).run P w = .ok (.value v) w)
  (k:RL P n ops e (fo U d<|cv (aA&&(b==a)) v) w Q) (hd:Nat.blt d n=true:=by exact rfl):RL P n ops (⟨O d,op,ty,f,i,O (j,a)⟩::e) U w Q:=
 g7 aA _ _ g h hd c k
def dv{j t:Nat}{c a b:Bool}{op:Op}(v:F)(h:D (ops[j]?) (·.dst)=O t)(l:U t=cv c (.bool b))
  (g:(c&&(b==a))=aA->(execOp (ev U) ⟨O d,op,ty,f,i,O (j,a)⟩).run P w = .ok (.value v) w)
  (k:RL P n ops e (fo U d<|cv (c&&(b==a)) v) w Q) (hd:Nat.blt d n=true:=by exact rfl):RL P n ops (⟨O d,op,ty,f,i,O (j,a)⟩::e) U w Q:=
 g7 _ _ _ h l hd g k
def eL{C:Bool}{o:bC}(a:o.op = .move x:=by exact rfl)(hx:C=aA->ev U x=v:=by first|exact oB rfl|exact oP rfl|exact o_ rfl|exact λ_=>rfl):C=aA->(execOp (ev U) o).run P w = .ok (.value v) w:=WR a hx
def hB{C:Bool}{o:bC}{K:IntKind}{a b:Int}(bop:BinOp)(c:o.op = .binOp bop T x y m:=by exact rfl)(hx:C=aA->ev U x = .int K a:=by first|exact oB rfl|exact oP rfl|exact o_ rfl|exact λ_=>rfl)
  (hy:C=aA->ev U y = .int K b:=by first|exact oB rfl|exact oP rfl|exact o_ rfl|exact λ_=>rfl) (hc:Ch bop=true:=by exact rfl):
  C=aA->(execOp (ev U) o).run P w = .ok (.value<|.bool<|Gi bop a b) w:=WS c hx hy hc
def w2{C:Bool}{o:bC}{K:IntKind}{a b:Int}(bop:BinOp)(c:o.op = .binOp bop T x y m:=by exact rfl)(hx:C=aA->ev U x = .int K a:=by first|exact oB rfl|exact oP rfl|exact o_ rfl|exact λ_=>rfl)
  (hy:C=aA->ev U y = .int K b:=by first|exact oB rfl|exact oP rfl|exact o_ rfl|exact λ_=>rfl) (hc:UG bop=true:=by exact rfl):
  C=aA->(execOp (ev U) o).run P w = .ok (.value<|.int K<|K.wrap<|HC bop a b) w:=Y5 c hx hy hc
def qs{C:Bool}{o:bC}{a b:cU}(bop:BinOp)(c:o.op = .binOp bop T x y m:=by exact rfl)(hx:C=aA->ev U x=str a:=by first|exact oB rfl|exact oP rfl|exact o_ rfl|exact λ_=>rfl)
  (hy:C=aA->ev U y=str b:=by first|exact oB rfl|exact oP rfl|exact o_ rfl|exact λ_=>rfl) (hc:Ch bop=true:=by exact rfl):
  C=aA->(execOp (ev U) o).run P w = .ok (.value<|.bool<|Nf bop a b) w:=WT c hx hy hc
def w_{C:Bool}{o:bC}{b:Bool}(a:o.op = .unOp .not T x:=by exact rfl)(hx:C=aA->ev U x = .bool b:=by first|exact oB rfl|exact oP rfl|exact o_ rfl|exact λ_=>rfl):
  C=aA->(execOp (ev U) o).run P w = .ok (.value<|.bool<|!b) w:=Y6 a hx
def sr{C a b:Bool}{o:bC}(c:o.op = .pick x y z:=by exact rfl)(hx:C=aA->ev U x = .bool a:=by first|exact oB rfl|exact oP rfl|exact o_ rfl|exact λ_=>rfl)
  (hy:ev U y=cv (C&&(a==aA)) (.bool b):=by exact rfl) (d:ev U z = .bool false:=by exact rfl):C=aA->(execOp (ev U) o).run P w = .ok (.value<|.bool<|a&&b) w:=
 R2 c hx λc=>by rw[hy,d];exact UE c
def ql{C a b:Bool}{o:bC}(c:o.op = .pick x y z:=by exact rfl)(hx:C=aA->ev U x = .bool a:=by first|exact oB rfl|exact oP rfl|exact o_ rfl|exact λ_=>rfl)
  (hy:ev U y = .bool true:=by exact rfl) (d:ev U z=cv (C&&(a==aK)) (.bool b):=by exact rfl):C=aA->(execOp (ev U) o).run P w = .ok (.value<|.bool<|a||b) w:=
 R2 c hx λc=>by rw[hy,d];exact XN c
end
section
variable {P:bG}{n:Nat}{U:Nat->F}{w:aT}{Q:jl}{ops:aY bC}{f:aG bC}{d:Nat}{ty T A t u:bJ}{p:String}{s:aY Edge}{g:aP (Nat×Bool)}{v:F}{q r x y z:bB}{K:IntKind}{bop:BinOp}
def BC(hg:Wn ops U g)(hd:Nat.blt d n=aA)(hx:ev U q=v)(k:RL P n ops f (fo U d v) w Q):RL P n ops (⟨O d, .move q,ty,p,s,g⟩::f) U w Q:=i8 (hg:=hg) (hd:=hd) (hx:=hx) _ k
def BD(hg:Wn ops U g)(hd:Nat.blt d n=aA)(hx:ev U q=v)(k:RL P n ops f (fo U d v) w Q):RL P n ops (⟨O d, .assign q,ty,p,s,g⟩::f) U w Q:=Nt hg hd hx k
def BE{a b:Int}(hg:Wn ops U g)(hd:Nat.blt d n=aA)(hx:ev U q = .int K a)(hy:ev U r = .int K b)(hc:Ch bop=aA)(k:RL P n ops f (fo U d<|.bool<|Gi bop a b) w Q):
  RL P n ops (⟨O d, .binOp bop T q r A,ty,p,s,g⟩::f) U w Q:=G_ hg hd hx hy hc k
def BH{a b:Int}(hg:Wn ops U g)(hd:Nat.blt d n=aA)(hx:ev U q = .int K a)(hy:ev U r = .int K b)(hc:UG bop=aA)(k:RL P n ops f (fo U d<|.int K<|K.wrap<|HC bop a b) w Q):
  RL P n ops (⟨O d, .binOp bop T q r A,ty,p,s,g⟩::f) U w Q:=tb (hg:=hg) (hd:=hd) (hx:=hx) (hy:=hy) (hc:=hc) _ _ k
def BJ{a b c:Bool}(hg:Wn ops U g)(hd:Nat.blt d n=aA)(hx:ev U x = .bool a)(hy:ev U y = .bool aA)(e:ev U z=cv (c&&(a==aK)) (.bool b))(hc:c=aA)(k:RL P n ops f (fo U d<|.bool<|a||b) w Q):
  RL P n ops (⟨O d, .pick x y z,ty,p,s,g⟩::f) U w Q:=nt hg hd hx (by rw[hy,e];exact XN hc) k
def BK{a b c:Bool}(hg:Wn ops U g)(hd:Nat.blt d n=aA)(hx:ev U x = .bool a)(hy:ev U y=cv (c&&(a==aA)) (.bool b))(e:ev U z = .bool aK)(hc:c=aA)(k:RL P n ops f (fo U d<|.bool<|a&&b) w Q):
  RL P n ops (⟨O d, .pick x y z,ty,p,s,g⟩::f) U w Q:=nt hg hd hx (by rw[hy,e];exact UE hc) k
def BL{op:Op}{j t:Nat}{a b:Bool}(c:D (ops[j]?) (·.dst)=O t)(e:U t = .bool a)(hd:Nat.blt d n=aA)(h:a = !b)(k:RL P n ops f (fo U d undef) w Q):
  RL P n ops (⟨O d,op,ty,p,s,O (j,b)⟩::f) U w Q:=GT c (.inl (by rw[e,h])) hd k
def CJ{op:Op}{j t:Nat}{b:Bool}(a:D (ops[j]?) (·.dst)=O t)(c:U t=undef)(hd:Nat.blt d n=aA)(k:RL P n ops f (fo U d undef) w Q):
  RL P n ops (⟨O d,op,ty,p,s,O (j,b)⟩::f) U w Q:=GT a (.inr c) hd k
def CK{b:Bool}(hg:Wn ops U g)(hd:Nat.blt d n=aA)(hx:ev U x = .bool b)(h:b=aA)(a:ev U y=v)(k:RL P n ops f (fo U d v) w Q):
  RL P n ops (⟨O d, .pick x y z,ty,p,s,g⟩::f) U w Q:=nt hg hd hx (by rw[h,aL rfl];exact a) k
def Di{b:Bool}(hg:Wn ops U g)(hd:Nat.blt d n=aA)(hx:ev U x = .bool b)(h:b=aK)(a:ev U z=v)(k:RL P n ops f (fo U d v) w Q):
  RL P n ops (⟨O d, .pick x y z,ty,p,s,g⟩::f) U w Q:=nt hg hd hx (by rw[h,aJ I];exact a) k
def ss:ev U (.const v)=v:=rfl
def sv{t:Nat}(h:U t=v):ev U (.tmp t)=v:=h
def sx:fo U d v d=v:=by simp[fo,Nat.beq_refl]
def sZ{t:Nat}{u:F}(h:Nat.beq t d=aK)(k:U t=u):fo U d v t=u:=by unfold fo;rw[h];exact k
def Dk{b:Bool}(hg:Wn ops U g)(hd:Nat.blt d n=aA)(hx:ev U x = .bool b)(k:RL P n ops f (fo U d<|.bool<|!b) w Q):RL P n ops (⟨O d, .unOp .not T x,ty,p,s,g⟩::f) U w Q:=FO _ hg hd hx k
def Do{a b:cU}(hg:Wn ops U g)(hd:Nat.blt d n=aA)(hx:ev U q=str a)(hy:ev U r=str b)(hc:Ch bop=aA)(k:RL P n ops f (fo U d<|.bool<|Nf bop a b) w Q):
  RL P n ops (⟨O d, .binOp bop T q r A,ty,p,s,g⟩::f) U w Q:=UJ hg hd hx hy hc k
def Dr{i:Nat}{a:aY F}(hg:Wn ops U g)(hd:Nat.blt d n=aA)(hx:ev U x = .tuple a)(hi:a[i]? =O v)(k:RL P n ops f (fo U d v) w Q):RL P n ops (⟨O d, .extract x i,ty,p,s,g⟩::f) U w Q:=T_ hg hd hx hi k
def DE{a:Addr}(hg:Wn ops U g)(hd:Nat.blt d n=aA)(hx:ev U q = .pointer (O a))(k:RL P n ops f (fo U d<|.pointer<|O a) w Q):RL P n ops (⟨O d, .nilCheck q,ty,p,s,g⟩::f) U w Q:=wr (hg:=hg) (hd:=hd) hx k
def D6{a b:Int}(hg:Wn ops U g)(hd:Nat.blt d n=aA)(hx:ev U q = .int K a)(hy:ev U r = .int K b)(k:RL P n ops f (fo U d<|.int K (if a<b then b else a)) w Q):
  RL P n ops (⟨O d, .call ⟨.builtin .max,#[q,r],#[t,u]⟩,ty,p,s,g⟩::f) U w Q:=WN hg hd hx hy k
def EQ{a b:Int}(hg:Wn ops U g)(hd:Nat.blt d n=aA)(hx:ev U q = .int K a)(hy:ev U r = .int K b)(k:RL P n ops f (fo U d<|.int K (if b<a then b else a)) w Q):
  RL P n ops (⟨O d, .call ⟨.builtin .min,#[q,r],#[t,u]⟩,ty,p,s,g⟩::f) U w Q:=as8 hg hd hx hy k
def ER{i m:Nat}(hd:Nat.blt d n=aA)(hx:ev U q = .int .i64 (i:Int))(hy:ev U r = .int .i64 1)(a:i<m)(hm:m<=4611686018427387904)(k:RL P n ops f (fo U d<|.int .i64 ((i+1:Nat):Int)) w Q):
  RL P n ops (⟨O d, .binOp .add T q r A,ty,p,s,aQ⟩::f) U w Q:=as1 trivial hd a hm hx hy k
def EU{id:Nat}(h:Q .normal U w):RL P n ops [] U w (Gh id Q):=J<|cP h
def EV{l:aG bC}{mk d:aG Nat}{S:aT->Prop}{i:Nat}{f:aG Nat}{o:bC}(e:d=i::f)(g:l[i]? =O o)(hm:mk.getD i 0=0)(h:RL P n l.toArray [o] U w (λa c b=>a = .normal/\b=w/\DP P n l mk Q S f c w)):
  RL P n ops [] U w (λa c b=>a = .normal/\b=w/\DP P n l mk Q S d c w):=by subst e;exact cX (hm:=hm) g h
def EX{l:aG bC}{mk a:aG Nat}{S:aT->Prop}{i:Nat}{b:aG Nat}{o:bC}(e:a=i::b)(d:l[i]? =O o)(hm:mk.getD i 0=0)(h:RL P n l.toArray [o] U w (λc g f=>c = .normal/\f=w/\DP P n l mk Q S b g w)):
  DP P n l mk Q S a U w:=by subst e;exact ge d hm h
def EY{l:aG bC}{mk a:aG Nat}{S:aT->Prop}(e:a= [])(h:Q .normal U w):DP P n l mk Q S a U w:=by subst e;exact k7 h
end
structure Nn (p:Prop):Prop where
 u:p
def so{A B:Prop}(k:B)(h:Nn B->A:=by intro k;(first|((with_reducible apply BC);(first|exact trivial|exact⟨_,rfl,gt (by assumption)⟩);exact rfl;(first|exact ss|((with_reducible apply sv);(repeat ((with_reducible apply sZ);exact rfl));(first|(with_reducible exact sx)|focus ((conv=>lhs;whnf);try exact rfl)))|focus ((conv=>lhs;whnf);try exact rfl)))|((with_reducible apply BD);(first|exact trivial|exact⟨_,rfl,gt (by assumption)⟩);exact rfl;(first|exact ss|((with_reducible apply sv);(repeat ((with_reducible apply sZ);exact rfl));(first|(with_reducible exact sx)|focus ((conv=>lhs;whnf);try exact rfl)))|focus ((conv=>lhs;whnf);try exact rfl)))|((with_reducible apply BL);exact rfl;exact rfl;exact rfl;(first|exact rfl|assumption))|((with_reducible apply CJ);exact rfl;exact rfl;exact rfl)|with_reducible apply a_|((with_reducible apply EV);exact rfl;exact rfl;exact rfl)|((with_reducible apply ER);exact rfl;exact rfl;exact rfl;assumption;assumption)|((with_reducible apply BE);(first|exact trivial|exact⟨_,rfl,gt (by assumption)⟩);exact rfl;exact rfl;exact rfl;exact rfl)|((with_reducible apply BH);(first|exact trivial|exact⟨_,rfl,gt (by assumption)⟩);exact rfl;exact rfl;exact rfl;exact rfl)|((with_reducible apply BJ);(first|exact trivial|exact⟨_,rfl,gt (by assumption)⟩);exact rfl;exact rfl;exact rfl;exact rfl;exact(rfl:aA=aA))|((with_reducible apply BK);(first|exact trivial|exact⟨_,rfl,gt (by assumption)⟩);exact rfl;exact rfl;exact rfl;exact rfl;exact(rfl:aA=aA))|((with_reducible apply CK);(first|exact trivial|exact⟨_,rfl,gt (by assumption)⟩);exact rfl;exact rfl;assumption;(first|exact ss|((with_reducible apply sv);(repeat ((with_reducible apply sZ);exact rfl));(first|(with_reducible exact sx)|focus ((conv=>lhs;whnf);try exact rfl)))|focus ((conv=>lhs;whnf);try exact rfl)))|((with_reducible apply Di);(first|exact trivial|exact⟨_,rfl,gt (by assumption)⟩);exact rfl;exact rfl;assumption;(first|exact ss|((with_reducible apply sv);(repeat ((with_reducible apply sZ);exact rfl));(first|(with_reducible exact sx)|focus ((conv=>lhs;whnf);try exact rfl)))|focus ((conv=>lhs;whnf);try exact rfl)))|((with_reducible apply Dk);(first|exact trivial|exact⟨_,rfl,gt (by assumption)⟩);exact rfl;exact rfl)|((with_reducible apply Do);(first|exact trivial|exact⟨_,rfl,gt (by assumption)⟩);exact rfl;exact rfl;exact rfl;exact rfl)|((with_reducible apply Dr);(first|exact trivial|exact⟨_,rfl,gt (by assumption)⟩);exact rfl;exact rfl;exact rfl)|((with_reducible apply DE);(first|exact trivial|exact⟨_,rfl,gt (by assumption)⟩);exact rfl;exact rfl)|((with_reducible apply D6);(first|exact trivial|exact⟨_,rfl,gt (by assumption)⟩);exact rfl;exact rfl;exact rfl)|((with_reducible apply EQ);(first|exact trivial|exact⟨_,rfl,gt (by assumption)⟩);exact rfl;exact rfl;exact rfl));exact k.u):A:=h ⟨k⟩
def d{A B:Prop}(k:B)(h:Nn B->A:=by intro k;(repeat refine so ?_);exact k.u):A:=h ⟨k⟩
def c{A B:Prop}(k:B)(h:Nn B->A:=by intro k;(repeat (first|with_reducible apply cJ|with_reducible apply cF|with_reducible apply b_|with_reducible apply dt (x:= .seq _ _)|with_reducible apply dl|with_reducible apply bE|with_reducible apply cP|with_reducible apply EU|with_reducible apply fp|with_reducible apply dp|((with_reducible apply EX);exact rfl;exact rfl;exact rfl)|((with_reducible apply EY);exact rfl)|with_reducible apply dw|with_reducible apply dx|with_reducible apply qg|refine so ?_));exact k.u):A:=h ⟨k⟩
def sg{A B:Prop}(k:B)(h:Nn B->A:=by intro k;(repeat (first|refine so ?_ |refine dq _ rfl rfl eL ?_ |refine dq _ rfl rfl (hB _) ?_ |refine dq _ rfl rfl ql ?_ |refine dq _ rfl rfl sr ?_ |refine dq _ rfl rfl w_ ?_ |refine dq _ rfl rfl (w2 _) ?_ |refine dq _ rfl rfl (qs _) ?_ |refine dv _ rfl rfl eL ?_ |refine dv _ rfl rfl (hB _) ?_ |refine dv _ rfl rfl ql ?_ |refine dv _ rfl rfl sr ?_ |refine dv _ rfl rfl w_ ?_ |refine dv _ rfl rfl (w2 _) ?_ |refine dv _ rfl rfl (qs _) ?_));exact k.u):A:=h ⟨k⟩
def C1.ade{κ:Type}[s κ][KV κ][DecidableEq κ]{P:bG}{i e:bJ}(j:P.underlying i=O (.array 2 e))(he:P.underlying e=O (.int .i64))(d:nT P e aK 1)(f g:κ->Int)
  (o:∀a b,f a=f b->g a=g b->a=b) (hc:∀k,KV.enc k = .agg #[.int .i64<|f k, .int .i64<|g k]):C1 P i κ:=by
 have m:∀k c,(part e #[.int .i64<|f k, .int .i64<|g k] 0).run P c = .ok (.int .i64<|f k) c:=λk c=>cY d rfl c;have n:∀k c,(part e #[.int .i64<|f k, .int .i64<|g k] 1).run P c = .ok (.int .i64<|g k) c:=λk c=>cY d rfl c;have l:∀c,(sizeOf e).run P c = .ok 1 c:=d.sz;have p:∀b(d:Int)c,(Instr.checkKey b 9999 e<|.int .i64 d).run P c = .ok () c:=λb d c=>MapKept.run_checkKey he (k:= .int .i64 d) rfl b 9998;have q:∀(d h:Int)c,(Op.equalIn 9999 e (.int .i64 d)<|.int .i64 h).run P c = .ok (d==h) c:=λd h c=>me (d:=9998) he d h c;refine⟨λb k c=>?_,λa b c=>?_, .inr ⟨_,j,λa b=>?_⟩,λa=>?_⟩
 ·rw[hc,Instr.checkKey];simp only[bQ,run_underlying j,bY];simp[Std.Legacy.Range.forIn_eq_forIn_range',Std.Legacy.Range.size,List.range',List.forIn_cons,bQ,l,m,n,p,Result.andThen]
 ·rw[hc,hc];show(Op.equalIn 10000 i _ _).run P c=_;rw[Op.equalIn];simp only[bQ,run_underlying j,bY];have i:decide (a=b)=(f a==f b&&g a==g b):=by
   rw[iK,dZ,dE,beq_iff_eq,beq_iff_eq];exact⟨λc=>by subst c;exact⟨rfl,rfl⟩,λ⟨c,h⟩=>o a b c h⟩
  rw[i]
  cases c:(f a==f b) <;> cases h:(g a==g b) <;> simp[Std.Legacy.Range.forIn_eq_forIn_range',Std.Legacy.Range.size,List.range',List.forIn_cons,bQ,l,m,n,q,c,h,Result.andThen]
 ·rw[hc,hc];rfl
 ·rw[hc];exact OW (cs:=[.int .i64<|f a, .int .i64<|g a]) λd c=>by
   simp only[eO,List.not_mem_nil,or_false]at c
   rcases c with rfl|rfl <;> exact MapKept.sameBits_self (d:= .int .i64) (k:= .int .i64 _) rfl _
end Go.Gk
namespace Go.Gk
open Go IntKind Go.Proofs Go.Sort
def Rh(w:aT):HP:=⟨λM _=>∀b,b<w.heap.size->M b=w.heap[b]?,λh c b a=>by
 have:=c b a;rw[kV a]at this ⊢
 exact h b _ this⟩
def B.all(w:aT):B w w [Rh w]:=by
 refine⟨λa=>w.heap[a]?,λ_=>yO,⟨rfl,rfl,rfl,du _,λ_ _ a=>a,λc b b=>?_,λ_ _ _ _ a=>(by cases a),λ_ _ _ _ a=>(by cases a),λ_ _ _ _ _ _ _ a=>(by cases a)⟩⟩
 cases c with
 |zero=>simp at b;subst b;exact λ_ _=>rfl
 |succ c=>simp at b
def B.grown{w w':aT}{V:aG HP}{i:Nat}(h:B w w' V)(hi:V[i]? =O (Rh w)):∃q o,w'=grow (w.drewN q) o:=by
 obtain⟨p,v,b⟩:=h;have c:=b.sat i _ hi;have l:∀a,a<w.heap.size->w'.heap[a]? =w.heap[a]? :=λa d=>by
  have:=c a d;rw[kV d]at this;rw[b.im a _ this,kV d]
 have x:w.heap.size<=w'.heap.size:=by
  rcases Nat.lt_or_ge w'.heap.size w.heap.size with h|h
  ·have:=l w'.heap.size h;rw[Array.getElem?_eq_none<|du _,kV h]at this
   cases this
  ·exact h
 refine⟨w'.drawn - w.drawn,w'.heap.extract w.heap.size w'.heap.size,?_⟩;have j:w'.heap=w.heap++w'.heap.extract w.heap.size w'.heap.size:=by
  apply Array.ext_getElem?;intro k;rw[Array.getElem?_append];split
  ·rename_i c;exact l k c
  ·rename_i c;rw[Array.getElem?_extract]
   by_cases n:k<w'.heap.size
   ·rw[aL C];congr 1;omega
   ·rw[aJ C,Array.getElem?_eq_none C]
 obtain⟨r,n,s,t,u⟩:=w';obtain⟨y,z,A,D,E⟩:=w;have e:=b.os;have f:=b.tape;have g:=b.out;have m:=b.dr;simp only at e f g m j;subst e;subst f;subst g;simp only[grow,World.drewN,World.mk.injEq,and_true,true_and];exact⟨j,C⟩
section
variable {β:Type}[Inhabited β](enc:β->aG F)(k:Nat)(w:aT)(g o m:Nat)(c:aY β)(os:aY Obj)
def PH{b:Nat}(a:b<w.heap.size)(hg:b≠g):(sortWorldK enc k w g o m c os).heap[b]? =w.heap[b]? :=by
 simp only[sortWorldK,grow,putRowK,putRow,mapBlock,Go.Sort.ahead];rw[Array.getElem?_append_left (by simpa using a),Array.getElem?_modify,aJ<|λa=>hg a.symm]
def Xn{a:aY F}{e:bJ}{fr:Nat×Nat}(hg:w.heap[g]? =O (.cells a e fr)):
  (sortWorldK enc k w g o m c os).heap[g]? =O (.cells (putCells id o (flatK enc k c) a) e fr):=by
 have a:g<w.heap.size:=(Array.getElem?_eq_some_iff.1 hg).1;simp only[sortWorldK,grow,putRowK,putRow,mapBlock,Go.Sort.ahead];rw[Array.getElem?_append_left (by simpa using a),Array.getElem?_modify,aL rfl,hg];rfl
end
def Ri{β:Type}[Inhabited β]{enc:β->aG F}{k:Nat}(f:∀x,Z (enc x)=k)(i:0<k)(d:aY β)(o:Nat)(e:aY F)(b:o+d.size*k<=e.size)(a:Nat)(h:a<d.size):
  (((putCells id o (flatK enc k d) e).toList.drop o).drop<|a*k).take k=enc d[a]! :=by
 apply List.ext_getElem?;intro b;rw[List.drop_drop,kC]
 by_cases c:b<k
 ·have g:a*k+b<d.size*k:=by
   have:=Nat.mul_le_mul_right k (show a+1<=d.size from h);rw[Nat.add_mul,Nat.one_mul]at this;omega
  rw[aL c,nb,Array.getElem?_toList];have h:o+a*k+b<(putCells id o (flatK enc k d) e).size:=by simp only[putCells,Array.size_mapIdx];omega
  rw[kV h];simp only[putCells,Array.getElem_mapIdx,size_flatK];rw[aL C,aM (by rw[f];exact c)];have e:o+a*k+b - o=a*k+b:=C
  rw[e,get_flatK _ _ _ _ g];have e:(a*k+b) / k=a:=by rw[Nat.mul_comm,Nat.mul_add_div i,Nat.div_eq_of_lt c,Nat.add_zero]
  have g:(a*k+b) % k=b:=by rw[Nat.mul_comm,Nat.mul_add_mod,Nat.mod_eq_of_lt c]
  rw[e,g,getElem!_pos _ b (by rw[f];exact c)];rfl
 ·rw[aJ c,List.getElem?_eq_none (by rw[f];omega)]
def El{P:bG}{ρ:Shelf.Ren}(L:SlLaysF0.n6 P ρ)(α:Type)[s α](aE:∀w,(isAgg<|ρ.t 24).run P w = .ok aA w)(zE:∀w,(Go.sizeOf<|ρ.t 24).run P w = .ok (s.sz α) w){E w:aT}{V:aG HP}{e:bJ}{v:F}{l z:aG α}{Q:Nat}{φ:α->α->aP Int}(aD:eJ P Q)(aw:∀{E' w':aT}{aa:aG HP}{u u':F}{x x':α}{r:Int}{i j:Nat},B E' w' aa->aa[i]? =O (Y u x)->aa[j]? =O (Y u' x')->φ x x'=O r->Calls P Q [u,u'].toArray w' (eE λD a7=>D = .int .i64 r/\B E' a7 aa))(hw:B E w (own e v l::V))(f:y4 φ l=O z)(ah:s.agg α=true:=by exact rfl):
  Calls P (ρ.f 6) [v, .func (.func Q) #[] #[]].toArray w (eE λD w'=>D = .tuple #[]/\B E w' (own e v z::V)):=by
 unfold y4 at f;split at f
 case isFalse=>cases f
 rename_i hc;obtain⟨⟨a3,S⟩,av⟩:=hc;have S:SWO (ltOf<|QK φ l):=S;injection f with f
 by_cases hn:0<Z l
 case neg=>
  have hl:l= []:=List.length_eq_zero_iff.1 C;subst hl;have H:z= []:=by rw[<-f];rfl
  subst H;obtain⟨p,af,hv⟩:=hw.qB (i:=0) rfl;subst hv;refine Calls.mono (AnyF.slices_SortFunc_none L p af _ w) λex w' b=>?_;obtain⟨rfl,rfl⟩:=b;exact⟨_,rfl,rfl,hw⟩
 letI bg:Inhabited (Fin (Z l)):=⟨⟨0,hn⟩⟩
 obtain⟨M,hs,I⟩:=hw
 rcases I.sat 0 _ rfl with⟨_,h2,_⟩|⟨d,c,N,h,xs,rfl,ak,aX,X,a1,hx,ax⟩
 ·rw[h2]at hn;exact absurd hn G
 have W:w.heap[d]? =O (.cells h e (0,0)):=I.le 0 d _ G (by rw[X];exact dG d _);have aS:d<w.heap.size:=(Array.getElem?_eq_some_iff.1 W).1;have ar:M d=none:=I.dm 0 d _ G (by rw[X];exact dG d _);generalize y:s.sz α=a at *;have ao:0<a:=by rw[<-y];exact s.pos
 subst hx;have bf:Z l*a<=N*a:=Nat.mul_le_mul_right a ak
 let g:Fin (Z l)->aG F:=λi=>(((h.toList.drop c).take<|Z l*a).drop<|i.val*a).take a
 have am:∀i:Fin (Z l),g i=(h.toList.drop<|c+i.val*a).take a:=λi=>by
  have:=xT (sz:=a) i.isLt;show(((h.toList.drop c).take<|Z l*a).drop<|i.val*a).take a=_;rw[List.drop_take,List.take_take,List.drop_drop,Nat.min_eq_left C]
 have ae:∀i,Z (g i)=a:=λi=>by
  have:=xT (sz:=a) i.isLt;rw[am,cQ,iz,Array.length_toList];omega
 have U:∀i:Fin (Z l),s.ok M (g i) l[i]:=λi=>by
  have:=ax.2 i.val l[i]<|aM i.isLt
  rw[y]at this;exact this
 have a0:∀x,∀v∈g x,v.oneCell'=true:=λx v hv=>s.one (U x) v hv
 let n:aY (Fin (Z l)):=Array.ofFn λi:Fin (Z l)=>i
 have q:n.size=Z l:=by simp[n]
 have ay:∀i(hi:i<Z l),n[i]! = ⟨i,hi⟩:=λi hi=>by rw[getElem!_pos n i (by rw[q];exact hi)];simp[n]
 have hH:HoldsK g a w d c n:=by
  intro j hj;rw[size_flatK,q]at hj;have ab:j / a<Z l:=Nat.div_lt_of_lt_mul (by rw[Nat.mul_comm];exact hj);have an:j % a<a:=Nat.mod_lt _ ao;have be:j / a*a+j % a=j:=by rw[Nat.mul_comm];exact Nat.div_add_mod j a
  have a9:=xT (sz:=a) ab;have aV:c+j<h.size:=C
  refine⟨?_,?_⟩
  ·rw[get_flatK _ _ _ _ (by rw[q];exact hj),ay _ ab];have H:(g ⟨j / a,ab⟩)[j % a]! =h[c+j]:=by
    rw[getElem!_pos _ _ (by rw[ae];exact an)];apply Option.some.inj;rw[<-aM,am,kC,aL an,nb,Array.getElem?_toList,<-kV];congr 1;show c+j / a*a+j % a=c+j;omega
   rw[H];simp only[World.cell?,W];simp[kV aV]
  ·simp only[World.frozen?,W];simp
 have aq:=AnyQ.slices_SortFunc_eq L a aE zE g ae a0 (QK φ l) S Q #[] d c N n w aD.run ?_ hH aS ?_
 case refine_2=>rw[q];exact av
 case refine_1=>
  intro a4 os dk bb x A;have a2:φ l[x] l[A]=O (QK φ l x A):=by obtain⟨af,hc⟩:=a3 x A;unfold QK;rw[hc];rfl
  generalize hW:sortWorldK g a w d c a4 dk os=t;have ag:lm M (λm=>t.heap[m]?):=λm o' f=>by
   have aj:=I.im m o' f;have aZ:m≠d:=λb=>by rw[b,ar]at f;cases f
   show t.heap[m]? =O o';rw[<-hW,PH _ _ _ _ _ _ _ _ (Array.getElem?_eq_some_iff.1 aj).1 aZ];exact aj
  have h0:B t t [Y (.agg (g x).toArray) l[x],Y (.agg (g A).toArray) l[A],Rh t]:=by
   refine⟨λm=>t.heap[m]?,λ_=>yO,⟨rfl,rfl,rfl,du _,λ_ _ b=>b,λi P k=>?_,λ_ _ _ _ b=>(by cases b),λ_ _ _ _ b=>(by cases b),λ_ _ _ _ _ _ _ b=>(by cases b)⟩⟩
   match i,k with
   | 0,k=>simp at k;subst k;exact⟨⟨_,by simp[CU,ah],s.mono ag (U x)⟩,rfl⟩
   | 1,k=>simp at k;subst k;exact⟨⟨_,by simp[CU,ah],s.mono ag (U A)⟩,rfl⟩
   | 2,k=>simp at k;subst k;exact λ_ _=>rfl
   |i+3,k=>simp at k
  refine Calls.mono (aw (i:=0) (j:=1) h0 rfl rfl a2) λex w' b=>?_;obtain⟨D,rfl,rfl,b⟩:=b;exact⟨rfl,b.grown (i:=2) rfl⟩
 refine Calls.mono (by rw[q]at aq;exact aq) λex w' b=>?_;obtain⟨rfl,a5,os,rfl⟩:=b;refine⟨_,rfl,rfl,?_⟩;obtain⟨hp,_⟩:=pdq_sorts (ltOf<|QK φ l) S n 0 (Z l) (Lib.bitLen (Z l)) aA aA (cT _) (by rw[q];exact du _)<|Or.inl rfl
 have ad:z=(pdq (ltOf<|QK φ l) n 0 (Z l) (Lib.bitLen (Z l)) aA aA).toList.map λi=>l[i]:=by
  rw[<-f];unfold Sf;rw[dif_pos hn];rfl
 generalize ba:pdq (ltOf<|QK φ l) n 0 (Z l) (Lib.bitLen (Z l)) aA aA=o at hp ad ⊢;have J:o.size=Z l:=by rw[hp.1,q]
 have K:Z z=Z l:=by rw[ad,dR,Array.length_toList,J]
 have ap:(putCells id c (flatK g a o) h).size=h.size:=by simp[putCells]
 have h2:=I.update (w':=sortWorldK g a w d c a5 o os) (P':=own e (.slice (O ⟨d,c,aQ⟩) (Z l) N) z) (i:=0) G (Gk.one d<|.cells (putCells id c (flatK g a o) h) e (0,0)) ?_ rfl rfl rfl ?_ ?_ ?_<|Nat.le_add_right _ _
 ·exact⟨M,_,h2⟩
 ·refine .inr ⟨d,c,N,_,_,by rw[K],by rw[K];exact ak,aX,rfl,by rw[ap,y];exact a1,rfl,?_⟩;rw[K,y];refine⟨?_,λp x hx=>?_⟩
  ·have H:Z (putCells id c (flatK g a o) h).toList=h.size:=by rw[Array.length_toList,ap]
   rw[cQ,iz,H,K,y];omega
  ·have T:p<Z l:=by rw[<-K];exact(bR.1 hx).1
   have a8:=xT (sz:=a) T;rw[y,List.drop_take,List.take_take,Nat.min_eq_left C,Ri ae ao o c h (by rw[J];omega) p (by rw[J];exact T)];have al:o.toList[p]? =O o[p]! :=by rw[Array.getElem?_toList,kV (by rw[J];exact T),getElem!_pos o p (by rw[J];exact T)]
   generalize o[p]! =a6 at al ⊢;have R:=congrArg (λD=>D[p]?) ad;simp only[nQ,al,hx,Option.map_some]at R;injection R with R
   rw[R];exact U a6
 ·intro m o' f;obtain⟨rfl,rfl⟩:=k8 f;exact Xn _ _ _ _ _ _ _ _ W
 ·intro m o' f;obtain⟨rfl,rfl⟩:=k8 f;exact .inl ⟨_,by rw[X];exact dG m _⟩
 ·intro m ai au;refine PH _ _ _ _ _ _ _ _ au λb=>?_;subst b;rw[X,dG]at ai;cases ai
section
variable (w:aT)(g o m:Nat)(c:aY Int)(os:aY Obj)
def VF{b:Nat}(a:b<w.heap.size)(hg:b≠g):(grow (putRow (Value.int .i64) (Go.Sort.ahead w m) g o c) os).heap[b]? =w.heap[b]? :=by
 simp only[grow,putRow,mapBlock,Go.Sort.ahead];rw[Array.getElem?_append_left (by simpa using a),Array.getElem?_modify,aJ<|λa=>hg a.symm]
def Xo{a:aY F}{e:bJ}{fr:Nat×Nat}(hg:w.heap[g]? =O (.cells a e fr)):
  (grow (putRow (Value.int .i64) (Go.Sort.ahead w m) g o c) os).heap[g]? =O (.cells (putCells (Value.int .i64) o c a) e fr):=by
 have a:g<w.heap.size:=(Array.getElem?_eq_some_iff.1 hg).1;simp only[grow,putRow,mapBlock,Go.Sort.ahead];rw[Array.getElem?_append_left (by simpa using a),Array.getElem?_modify,aL rfl,hg];rfl
end
def VG{P:bG}{T:Shelf.Ren}(L:SlLaysM.n5 P T){E w:aT}{V:aG HP}{e:bJ}{v:F}{l c:aG Int}(I:B E w (own e v l::V))(b:C5 l=O c):
  Calls P (T.f 5) [v].toArray w (eE λK J=>K = .tuple #[]/\B E J (own e v c::V)):=by
 unfold C5 at b;split at b
 case isFalse=>cases b
 rename_i ab;injection b with b
 by_cases D:Z l=0
 ·have hl:l= []:=List.length_eq_zero_iff.1 D;subst hl;have u:c= []:=by rw[<-b];exact List.length_eq_zero_iff.1 (by rw[List.length_mergeSort];rfl)
  subst u;obtain⟨i,W,hv⟩:=I.qB (i:=0) rfl;subst hv;refine Calls.mono (AnyM.slices_Sort_int_none L i W w) λY J k=>?_;obtain⟨rfl,rfl⟩:=k;exact⟨_,rfl,rfl,I⟩
 obtain⟨U,hs,x⟩:=I
 rcases x.sat 0 _ rfl with⟨_,y,_⟩|⟨f,a,t,d,xs,rfl,ad,ai,A,S,h,ae⟩
 ·rw[y]at D;exact absurd rfl D
 have n:w.heap[f]? =O (.cells d e (0,0)):=x.le 0 f _ G (by rw[A];exact dG f _);have ag:f<w.heap.size:=(Array.getElem?_eq_some_iff.1 n).1;have j:s.sz Int=1:=rfl;rw[j,Nat.mul_one]at S h;subst h;have af:∀g(Q:g<Z l),d.toList[a+g]? =O (.int .i64 l[g]):=λg Q=>by
  have:=ae.2 g l[g]<|aM Q
  rw[j,Nat.mul_one,List.drop_take,List.take_take,List.drop_drop]at this;have h3:(d.toList.drop<|a+g).take (min 1<|Z l - g)= [Sc.toV l[g]]:=this;have z:=congrArg (λK=>K[0]?) h3;simp only[kC,nb,Nat.add_zero]at z;rw[aL C]at z;exact z
 have hH:Go.Sort.Holds (Value.int .i64) w f a l.toArray:=by
  intro q R;have ah:q<Z l:=by simpa using R
  have o:a+q<d.size:=C
  have m:=af q ah;rw[Array.getElem?_toList,kV o]at m;injection m with m
  refine⟨?_,?_⟩
  ·rw[getElem!_pos l.toArray q R];simp only[World.cell?,n];simp[kV o,m]
  ·simp only[World.frozen?,n];simp
 refine Calls.mono (AnyM.slices_Sort_int L f a t l w hH ag ab) λY J k=>?_;obtain⟨rfl,aj,os,rfl⟩:=k;refine⟨_,rfl,rfl,?_⟩;rw[b];have p:Z c=Z l:=by rw[<-b,List.length_mergeSort]
 have H:(putCells (Value.int .i64) a c.toArray d).size=d.size:=by simp[putCells]
 have y:=x.update (w':=grow (putRow (Value.int .i64) (Go.Sort.ahead w aj) f a c.toArray) os) (P':=own e (.slice (O ⟨f,a,aQ⟩) (Z l) t) c) (i:=0) G (Gk.one f<|.cells (putCells (Value.int .i64) a c.toArray d) e (0,0)) ?_ rfl rfl rfl ?_ ?_ ?_<|Nat.le_add_right _ _
 ·exact⟨U,_,y⟩
 ·refine .inr ⟨f,a,t,_,_,by rw[p],by rw[p];exact ad,ai,rfl,by rw[H,j,Nat.mul_one];exact S,rfl,?_⟩;rw[p,j,Nat.mul_one];refine⟨?_,λi al h=>?_⟩
  ·have u:Z (putCells (Value.int .i64) a c.toArray d).toList=d.size:=by rw[Array.length_toList,H]
   rw[cQ,iz,u,p,j];omega
  ·have M:i<Z c:=(bR.1 h).1;rw[j,Nat.mul_one,List.drop_take,List.take_take,List.drop_drop];show List.take _ _= [Sc.toV al];apply List.ext_getElem?;intro ak;rw[kC,nb]
   by_cases ht:ak=0
   ·subst ht;have o:a+i+0<(putCells (Value.int .i64) a c.toArray d).size:=by rw[H];omega
    rw[aL C,Array.getElem?_toList,kV o];simp only[putCells,Array.getElem_mapIdx,Nat.add_zero,List.size_toArray];rw[aL C];have X:a+i - a=i:=C
    rw[aM M]at h;injection h with h
    rw[X,getElem!_pos c.toArray i (by simpa using M)];simp[h];rfl
   ·rw[aJ C,List.getElem?_eq_none (by simp;omega)]
 ·intro r o' b;obtain⟨rfl,rfl⟩:=k8 b;exact Xo _ _ _ _ _ _ n
 ·intro r o' b;obtain⟨rfl,rfl⟩:=k8 b;exact .inl ⟨_,by rw[A];exact dG r _⟩
 ·intro r N aa;refine VF _ _ _ _ _ _ aa λk=>?_;subst k;rw[A,dG]at N;cases N
end Go.Gk
namespace Go.Gk
open Go IntKind
class Nd (E:aT):Prop where
 h:E.drawn=0
def b{α:Type _}{a:α}:a=a:=rfl
def zt:True:=True.intro
def cg{ops:aY bC}{U:Nat->F}{j d:Nat}{a b:Bool}(h:a=b)(h1:D (ops[j]?) (·.dst)=O d:=by rfl)(h2:U d = .bool a:=by rfl):Wn ops U (O (j,b)):=⟨d,h1,h2.trans<|gt h⟩
abbrev e_:F:=.int .i64 0
abbrev n_:F:=.slice aQ 0 0
def i{α β:Type}{o:aP α}{f:α->aP β}{r:β}{G:Prop}(h:D o f=O r)(k: ∀x,o=O x->f x=O r->G):G:=by
 cases o with
 | none=>cases h
 | some x=>exact k x rfl h
def z_{c:Bool}(v:F)(h:c=aA):cv c v=v:=ji h
abbrev bT(x y:Int):Int:=if x<y then x else y
abbrev cV(x y:Int):Int:=if x<y then y else x
abbrev eo{α:Type}[s α](V:List HP)(i:Nat)(v:Value)(x:α):=V[i]? =O (Y v x)
abbrev eF{α:Type}[s α](V:List HP)(i:Nat)(v:Value)(x:α):=V[i]? =O (pt v x)
def f0(a:Nat):Nat->List Nat->List Nat|0,l=>l|n+1,l=>a::f0 (a+1) n l
def jv:Nat->Nat->List Nat|0,_=>[]|n+1,x=>x%10::jv n (x/10)
def j4{α:Type}[s α]{E w:World}{v:Value}{x:α}{V:List HP}{M a}(g:ip E w M a (Y v x::V)):E6 M v x/\True:=⟨(g.sat 0 _ rfl).1,trivial⟩
abbrev kE(p:Prop)[Decidable p]:Bool:=decide p
abbrev mr(x:Int):Nat:=Int.toNat x
abbrev nq(N:Nat):Prop:=4398046511104<=N
end Go.Gk
