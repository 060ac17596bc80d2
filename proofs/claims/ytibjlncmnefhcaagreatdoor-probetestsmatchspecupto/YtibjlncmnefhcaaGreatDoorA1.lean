/-
  Helping texts on the memory of the model. No statement of the seed is proved here.
-/
import Derived.Tactics
import Derived.Orders
import Derived.Maps.AppendAt
import Derived.Laws.Tables
import Derived.Laws.CopyRow
import Derived.KernelRfl
import Derived.Laws.Cells
import Derived.Laws.Strings
import Derived.Lib.Strings
import Derived.Laws.AppendOwn
import Derived.Laws.Externs
import Derived.Lib.Bytealg
import Derived.Laws.OwnMore
import Derived.MapKept
import Derived.Laws.Append
import Derived.Maps.RangeRun
import Derived.Sort.AssemblyPlain
import Derived.Sort.Defs
import Derived.Sort.Statements
import Derived.Lib.BitFns
set_option linter.defProp false
set_option linter.unusedVariables false
set_option linter.unusedSimpArgs false
set_option linter.unusedSectionVars false
open Bool renaming true→aA,false→aK
open List renaming length→Z
open Option renaming bind→D,some→O,none→aQ
namespace Go.Gk
open Go IntKind
def C{p:Prop}(h:p:=by omega):p:=h
def H{p:Prop}(h:p:=by grind):p:=h
def G{p:Prop}(h:p:=by simp):p:=h
def ta{p:Prop}(h:p:=by simp_all):p:=h
def I{p:Prop}(h:p:=by decide):p:=h
abbrev aG.{u}(α:Type u):=List α
abbrev aP.{u}(α:Type u):=Option α
abbrev F:=Value
abbrev aT:=World
abbrev aY.{u}(α:Type u):=Array α
abbrev bB:=Operand
abbrev bC:=Oper
abbrev bG:=Program
abbrev bJ:=TypeId
abbrev bK(x:Int):=IntKind.wrap .i64 x
theorem aM:∀{α:Type _}{l:aG α}{i:Nat}(h:i<Z l),l[i]? =O l[i]:= @List.getElem?_eq_getElem
theorem bR:∀{α:Type _}{i:Nat}{a:α}{l:aG α},l[i]? =O a↔∃h,l[i]=a:= @List.getElem?_eq_some_iff
theorem dQ:∀{α:Type _}{i:Nat}{l:aG α}(h:i<Z l),List.take (i+1) l=List.take i l++[l[i]]:= @List.take_succ_eq_append_getElem
theorem cN:∀(n:Nat),((n:Nat):Int).toNat=n:= @Int.toNat_natCast
theorem cH:∀{α:Type _}{l:aG α}{n:Nat}(h:n<Z l),l[n]∈l:= @List.getElem_mem
theorem dR:∀{α:Type _}{β:Type _}{a0:aG α}(f:α->β),Z (List.map f a0)=Z a0:= @List.length_map
def dE:=@Bool.and_eq_true
theorem cK:∀{α:Type _}{a0 bs:aG α},Z (a0++bs)=Z a0+bs.length:= @List.length_append
def dS:=@List.mem_append
theorem eR:∀{α:Type _}{l:aG α}{i:Nat}{a:α},l[i]? =O a->a∈l:= @List.mem_of_getElem?
def fY:=@List.map_append
theorem iJ:∀{n m:Nat},n.beq m=aA->n=m:= @Nat.eq_of_beq_eq_true
def kC:=@List.getElem?_take
def nb:=@List.getElem?_drop
def kV:=@Array.getElem?_eq_getElem
theorem my:∀{α:Type _}{l₁ l₂:aG α}{i:Nat},i<Z l₁->(l₁++l₂)[i]? =l₁[i]? := @List.getElem?_append_left
theorem ly:∀{α:Type _}{l₁ l₂:aG α}{i:Nat},Z l₁<=i->(l₁++l₂)[i]? =l₂[i - Z l₁]? := @List.getElem?_append_right
def aN:=@cond_true
def aR:=@cond_false
theorem xd:∀{α:Type _}{b:α}{c:Type _}{x:aP c}{f:c->α},Option.map f x=O b↔∃a,x=O a/\f a=b:= @Option.map_eq_some_iff
def nQ:=@List.getElem?_map
def dH:=@List.mem_map
def nc:=@List.mem_filter
def eO:=@List.mem_cons
theorem eK:∀{α:Type _}{a:α}{a0:aG α},Z (a::a0)=Z a0+1:= @List.length_cons
theorem cQ:∀{α:Type _}{i:Nat}{l:aG α},Z (List.take i l)=min i (Z l):= @List.length_take
def A2:=@List.length_replicate
def A3:=@List.mem_range
theorem eM:∀{α:Type _}(a0 bs cs:aG α),a0++bs++cs=a0++(bs++cs):= @List.append_assoc
theorem iz:∀{α:Type _}{i:Nat}{l:aG α},Z (List.drop i l)=Z l - i:= @List.length_drop
theorem ng:∀{α:Type _}{a b:α},a∈[b]↔a=b:= @List.mem_singleton
theorem lz:∀{α:Type _}{R:α->α->Prop}{a:α}{l:aG α},List.Pairwise R (a::l)↔(∀(b:α),b∈l->R a b)/\List.Pairwise R l:= @List.pairwise_cons
def fZ:=@List.pairwise_append
def kW:=@List.Pairwise.nil
theorem fz:∀{α:Type _}{l:aG α},List.take (Z l) l=l:= @List.take_length
theorem ku:∀{α:Type _}(y:α){a:α}{l:aG α},a∈l->a∈y::l:= @List.mem_cons_of_mem
def jk:=@Bool.or_eq_true
def A4:=@Bool.false_ne_true
def mz:=@Bool.not_eq_true
def iK:=@Bool.eq_iff_iff
def kX:=@List.getElem?_set
theorem jD:∀{α:Type _}{a0:aG α}{i:Nat}{a:α},Z (a0.set i a)=Z a0:= @List.length_set
theorem nR:∀{α:Type _}{i:Nat}{l:aG α},Z l<=i->List.take i l=l:= @List.take_of_length_le
theorem bY:∀{α β:Type}(a:α)(w:aT)(f:α->aT->Result β),(Result.ok a w).andThen f=f a w:= @Result.andThen_ok
theorem bQ:∀{α β:Type}(P:bG)(w:aT)(x:Sem α)(f:α->Sem β),Sem.run P (x >>= f) w=(Sem.run P x w).andThen λa b=>Sem.run P (f a) b:= @Sem.run_bind
theorem cB:∀{α:Type}(P:bG)(w:aT)(a:α),Sem.run P (pure a) w=Result.ok a w:= @Sem.run_pure
def du:=@Nat.le_refl
def cT:=@Nat.zero_le
def nS:=@Nat.le_trans
def kx:=@Nat.zero_add
theorem yY:∀(n m:Nat),n+m - m=n:= @Nat.add_sub_cancel
def kY:=@List.append_nil
def gQ:=@List.map_cons
theorem jW:∀{α:Type _}{R:α->α->Prop}{l:aG α},List.Pairwise R l↔∀(i j:Nat)(_hi:i<Z l)(_hj:j<Z l),i<j->R l[i] l[j]:= @List.pairwise_iff_getElem
theorem qW:∀{α:Type _}(p:α->Bool)(l:aG α),Z (List.filter p l)<=Z l:= @List.length_filter_le
theorem iL:(!aA)=false:= @Bool.not_true
theorem lU:(!aK)=true:= @Bool.not_false
theorem ky:∀{α:Type _}{p:α->Bool}{l:aG α},l.any p=aA↔∃x,x∈l/\p x=true:= @List.any_eq_true
theorem qX:∀{α:Type _}{p:α->Bool}{l:aG α},l.all p=aA↔∀(x:α),x∈l->p x=true:= @List.all_eq_true
theorem r6:∀{α:Type _}{i:Nat}{l:aG α}(h:i<Z l),List.drop i l=l[i]::List.drop (i+1) l:= @List.drop_eq_getElem_cons
def dZ:=@decide_eq_true_eq
theorem bN{p:Prop}[Decidable p]:p->decide p=true:=decide_eq_true
theorem bW{p:Prop}[Decidable p]:¬p->decide p=false:=decide_eq_false
theorem dM{α:Type _}{a:α}{l:aG α}:a∈l->∃i:Nat,l[i]? =O a:=List.getElem?_of_mem
def aL{c:Prop}{h:Decidable c}(hc:c){α:Sort _}{t e:α}:(if c then t else e)=t:=if_pos hc
def aJ{c:Prop}{h:Decidable c}(hc:¬c){α:Sort _}{t e:α}:(if c then t else e)=e:=if_neg hc
abbrev fA:=Nat->aP Obj
def yO:fA:=λ_=>aQ
def one(g:Nat)(o:Obj):fA:=λb=>if b=g then O o else aQ
def wG(M h:fA):fA:=λb=>match M b with|some o=>O o|none=>h b
def lm(M a:fA):Prop:=∀b o,M b=O o->a b=O o
def UC(M:fA):lm M M:=λ_ _ a=>a
def Ta{A B C:fA}(h:lm A B)(k:lm B C):lm A C:=λa b c=>k a b<|h a b c
def D5(M h:fA):lm M (wG M h):=λa a a=>by simp[wG,a]
theorem k8{g b:Nat}{o a:Obj}(h:one g o b=O a):b=g/\o=a:=by
 grind [one]
theorem dG(g:Nat)(o:Obj):one g o g=O o:=by simp[one]
structure HP where
 ok:fA->fA->Prop
 mono:∀{M M' h:fA},lm M M'->ok M h->ok M' h
def aW:HP:=⟨λ_ _=>True,λ_ h=>h⟩
structure ip (E w:aT) (M:fA) (hs:Nat->fA) (V:aG HP):Prop where
 os:w.os=E.os
 tape:w.tape=E.tape
 out:w.output=E.output
 dr:E.drawn<=w.drawn
 im:∀b o,M b=O o->w.heap[b]? =O o
 sat:∀i(P:HP),V[i]? =O P->P.ok M (hs i)
 le:∀i b o,i<Z V->hs i b=O o->w.heap[b]? =O o
 dm:∀i b o,i<Z V->hs i b=O o->M b=aQ
 dj:∀i j b o,i<Z V->j<Z V->i≠j->hs i b=O o->hs j b=aQ
def B(E w:aT)(V:aG HP):Prop:=∃M a,ip E w M a V
def eD{V:aG HP}{i:Nat}{P:HP}(h:V[i]? =O P):i<Z V:=(bR.1 h).1
section
variable {E w w':aT}{M:fA}{c:Nat->fA}{V d:aG HP}{P P':HP}{i:Nat}
def OJ(h:fA)(c:Nat->fA):Nat->fA
 | 0=>h
 |i+1=>c i
def r7(c:Nat->fA)(i:Nat)(h:fA):Nat->fA:=λj=>if j=i then h else c j
def ip.cons(g:ip E w M c V)(h:fA)(l:P.ok M h)(k:∀b o,h b=O o->w.heap[b]? =O o)
  (f:∀b o,h b=O o->M b=aQ) (d:∀j b o,j<Z V->h b=O o->c j b=aQ):
  ip E w M (OJ h c) (P::V)where
 os:=g.os
 tape:=g.tape
 out:=g.out
 dr:=g.dr
 im:=g.im
 sat:=λi e a=>by
  cases i with
  |zero=>simp at a;subst a;exact l
  |succ i=>exact g.sat i e H
 le:=λi b o e a=>by
  cases i with
  |zero=>exact k b o a
  |succ i=>exact g.le i b o H a
 dm:=λi b o e a=>by
  cases i with
  |zero=>exact f b o a
  |succ i=>exact g.dm i b o H a
 dj:=λi j b o e e e a=>by
  cases i with
  |zero=>
   cases j with
   |zero=>exact absurd rfl e
   |succ j=>exact d j b o H a
  |succ i=>
   cases j with
   |zero=>
    simp only[OJ]at a ⊢
    cases e:h b with
    |none=>rfl
    |some f=>have:=d i b f H e;rw[this]at a;cases a
   |succ j=>exact g.dj i j b o H H C a
def ip.iX(g:ip E w M c V)(a:P.ok M yO):ip E w M (OJ yO c) (P::V):=
 g.cons yO a (λ_ _ a=>by cases a) (λ_ _ a=>by cases a) (λ_ _ _ _ a=>by cases a)
def ip.world(g:ip E w M c V)(h1:w'.os=w.os)(h2:w'.tape=w.tape)(h:w'.output=w.output)
  (j:∀b,b<w.heap.size->w'.heap[b]? =w.heap[b]?) (f:w.drawn<=w'.drawn:=by first|exact du _|exact Nat.le_succ _):ip E w' M c V:=by
 have e:∀b a,w.heap[b]? =O a->w'.heap[b]? =O a:=λb a d=>by
  rw[j b<|(Array.getElem?_eq_some_iff.1 d).1];exact d
 exact⟨h1.trans g.os,h2.trans g.tape,h.trans g.out,nS g.dr f,λb a d=>e b a (g.im b a d),g.sat,
  λi b a f d=>e b a (g.le i b a f d),g.dm,g.dj⟩
def ip.update(g:ip E w M c V)(hi:i<Z V)(h:fA)(D:P'.ok M h)
  (h1:w'.os=w.os) (h2:w'.tape=w.tape) (z:w'.output=w.output)
  (B:∀b o,h b=O o->w'.heap[b]? =O o)
  (r:∀b o,h b=O o->(∃d,c i b=O d)\/w.heap.size<=b)
  (v:∀b,c i b=aQ->b<w.heap.size->w'.heap[b]? =w.heap[b]?) (y:w.drawn<=w'.drawn:=by first|exact du _|exact Nat.le_succ _):
  ip E w' M (r7 c i h) (V.set i P'):=by
 have m:∀b o,w.heap[b]? =O o->b<w.heap.size:=λb o f=>(Array.getElem?_eq_some_iff.1 f).1;refine⟨h1.trans g.os,h2.trans g.tape,z.trans g.out,nS g.dr y,λb o f=>?_,λk x t=>?_,λk b o j a=>?_,λk b o j a=>?_,λk p b o j n s a=>?_⟩
 ·have l:=g.im b o f;rw[v b ?_<|m b o l];exact l
  cases e:c i b with
  |none=>rfl
  |some d=>have:=g.dm i b d hi e;grind
 ·rw[kX]at t;unfold r7
  by_cases e:i=k
  ·grind
  ·rw[aJ e]at t;rw[aJ<|λf=>e f.symm];exact g.sat k x t
 ·rw[jD]at j;unfold r7 at a;split at a
  ·grind
  ·rename_i e;have l:=g.le k b o j a;rw[v b (g.dj k i b o j hi e a)<|m b o l];exact l
 ·rw[jD]at j;unfold r7 at a;split at a
  ·rcases r b o a with⟨d,h⟩|h
   ·exact g.dm i b d hi h
   ·cases e:M b with
    |none=>rfl
    |some d=>exact absurd (m b d (g.im b d e)) C
  ·exact g.dm k b o j a
 ·rw[jD]at j n;unfold r7 at a ⊢;split at a
  ·rename_i e;rw[aJ<|λf=>s<|e.trans f.symm]
   rcases r b o a with⟨d,h⟩|h
   ·exact g.dj i p b d hi n (λf=>s<|e.trans f) h
   ·cases q:c p b with
    |none=>rfl
    |some d=>exact absurd (m b d (g.le p b d n q)) C
  ·rename_i e;split
   ·cases q:h b with
    |none=>rfl
    |some d=>
     rcases r b d q with⟨A,u⟩|u
     ·have:=g.dj i k b A hi j (λf=>e f.symm) u;grind
     ·exact absurd (m b o<|g.le k b o j a) C
   ·exact g.dj k p b o j n s a
def ip.freeze(g:ip E w M c V)(hi:i<Z V)(p:P'.ok (wG M<|c i) yO):
  ip E w (wG M<|c i) (r7 c i yO) (V.set i P'):=by
 refine⟨g.os,g.tape,g.out,g.dr,λb j h=>?_,λe l k=>?_,λe b j d a=>?_,λe b j d a=>?_,λe o b j d m n a=>?_⟩
 ·unfold wG at h
  cases f:M b with
  |none=>rw[f]at h;exact g.le i b j hi h
  |some q=>rw[f]at h;simp at h;subst h;exact g.im b _ f
 ·rw[kX]at k;unfold r7
  by_cases f:i=e
  ·grind
  ·rw[aJ f]at k;rw[aJ<|λh=>f h.symm];exact l.mono (D5 _ _)<|g.sat e l k
 ·rw[jD]at d;unfold r7 at a;split at a
  ·cases a
  ·exact g.le e b j d a
 ·rw[jD]at d;unfold r7 at a;split at a
  ·cases a
  ·rename_i f;simp only[wG,g.dm e b j d a];exact g.dj e i b j d hi f a
 ·rw[jD]at d m;unfold r7 at a ⊢;split at a
  ·cases a
  ·split
   ·rfl
   ·exact g.dj e o b j d m n a
def ip.pick(g:ip E w M c V)(f:Nat->Nat)(k:∀i,i<Z d->f i<Z V)(a:∀i,i<Z d->d[i]? =V[f i]?)
  (m:∀i j,i<Z d->j<Z d->i≠j->f i≠f j):ip E w M (λi=>c<|f i) d:=
 ⟨g.os,g.tape,g.out,g.dr,g.im,λi a b=>g.sat (f i) a H,
  λi b h a e=>g.le (f i) b h (k i a) e,λi b h a e=>g.dm (f i) b h (k i a) e,
  λi j b h a l n e=>g.dj (f i) (f j) b h (k i a) (k j l) (m i j a l n) e⟩
def B.drop(k:Nat)(h:B E w V)(hd:V.drop k=d:=by exact rfl):B E w d:=by
 obtain⟨M,c,a⟩:=h;subst hd;exact⟨M,_,a.pick (λi=>k+i) (λi a=>H) (λi _=>by rw[nb]) (λi a _ _ h=>C)⟩
def B.pick(h:B E w V)(m:Nat)(A:aG Nat){Γ0 new:aG HP}(hd:V.drop m=Γ0)(hg:A.map (λi=>V[i]?)=new.map O)
  (a:A.Nodup) (hm:∀i∈A,i<m):B E w (new++Γ0):=by
 obtain⟨M,c,b⟩:=h;have a:A.length=Z new:=by have:=congrArg List.length hg;grind
 have a:∀i,i<A.length->V[A.getD i 0]? =new[i]? :=λi a=>by
  have:=congrArg (·[i]?) hg
  grind
 have d:∀i,i<A.length->A.getD i 0<m:=λi a=>ta
 subst hd;have d:∀i,i<Z (new++V.drop m)->(new++V.drop m)[i]? =V[if i<A.length then A.getD i 0 else m+(i - A.length)]? :=H
 refine⟨M,_,b.pick (λi=>if i<A.length then A.getD i 0 else m+(i - A.length)) (λi a=>?_) d<|λi b a a a=>?_⟩
 ·grind
 ·show(if i<A.length then A.getD i 0 else m+(i - A.length))≠(if b<A.length then A.getD b 0 else m+(b - A.length))
  grind [aM,List.getElem_inj]
def B.pull(i:Nat)(h:B E w V)(hi:V[i]? =O P:=by exact rfl):B E w (P::V.set i aW):=by
 obtain⟨M,c,e⟩:=h;have f:=eD hi;have k:=e.update (P':=aW) f yO trivial rfl rfl rfl (λb d a=>by cases a) (λb d a=>by cases a)<|λ_ _ _=>rfl
 refine⟨M,_,k.cons (c i) (e.sat i P hi) (λb d a=>e.le i b d f a) (λb d a=>e.dm i b d f a)<|λl b d g a=>?_⟩;rw[jD]at g;unfold r7;split
 ·rfl
 ·rename_i j;exact e.dj i l b d f g (λh=>j h.symm) a
def B.world(h:B E w V)(h1:w'.os=w.os)(h2:w'.tape=w.tape)(e:w'.output=w.output)
  (f:∀b,b<w.heap.size->w'.heap[b]? =w.heap[b]?) (d:w.drawn<=w'.drawn:=by first|exact du _|exact Nat.le_succ _):B E w' V:=
 let⟨M,c,a⟩:=h
 ⟨M,c,a.world h1 h2 e f d⟩
def B.drew(h:B E w V):B E w.drew V:=h.world rfl rfl rfl<|λ_ _=>rfl
def zn(w:aT)(o:Obj)(b:Nat)(h:b<w.heap.size):(w.alloc o).heap[b]? =w.heap[b]? :=by
 show(w.heap.push o)[b]? =w.heap[b]?
 grind
def B.alloc(h:B E w V)(o:Obj)(b:∀M c,ip E w M c V->P.ok M (one w.heap.size o)):B E (w.alloc o) (P::V):=by
 obtain⟨M,c,e⟩:=h;have g:∀a o,w.heap[a]? =O o->a<w.heap.size:=λa o h=>(Array.getElem?_eq_some_iff.1 h).1;refine⟨M,_,(e.world (w':=w.alloc o) rfl rfl rfl<|λa d=>zn w o a d).cons (one w.heap.size o) (b M c e) (λa b d=>?_) (λa b d=>?_)<|λf a b i d=>?_⟩
 ·grind [k8,heap_alloc_new]
 ·obtain⟨rfl,rfl⟩:=k8 d
  cases a:M w.heap.size with
  |none=>rfl
  |some b=>exact absurd (g _ b (e.im _ b a)) C
 ·obtain⟨rfl,rfl⟩:=k8 d
  cases a:c f w.heap.size with
  |none=>rfl
  |some b=>exact absurd (g _ b (e.le f _ b i a)) C
def B.JR(h:B E w V)(b:∀M c,ip E w M c V->P.ok M yO):B E w (P::V):=
 let⟨M,c,a⟩:=h
 ⟨M,_,a.iX<|b M c a⟩
end
structure cU where
 eI:aG UInt8
 deriving DecidableEq,Inhabited
class s (α:Type)where
 sz:Nat
 agg:Bool
 ok:fA->aG F->α->Prop
 pos:0<sz
 ag1:agg=aK->sz=1
 len:∀{M:fA}{cs:aG F}{x:α},ok M cs x->Z cs=sz
 one:∀{M:fA}{cs:aG F}{x:α},ok M cs x->∀u∈cs,u.oneCell'=aA
 mono:∀{M M':fA}{cs:aG F}{x:α},lm M M'->ok M cs x->ok M' cs x
class Sc (α:Type)where
 toV:α->F
 one:∀x,(toV x).oneCell'=aA
instance GE {α:Type} [Sc α]:s α where
 sz:=1
 agg:=aK
 ok:=λ_ cs x=>cs= [Sc.toV x]
 pos:=I
 ag1:=λ_=>rfl
 len:=λh=>by rw[h];rfl
 one:=λh u hu=>by rw[h]at hu;simp at hu;subst hu;exact Sc.one _
 mono:=λ_ h=>h
@[reducible] def str(s:cU):F:= .string ⟨s.eI.toArray⟩
instance:Sc Int:=⟨λn=> .int .i64 n,λ_=>rfl⟩
instance:Sc Bool:=⟨λb=> .bool b,λ_=>rfl⟩
instance:Sc cU:=⟨str,λ_=>rfl⟩
instance:Sc UInt8:=⟨λb=> .int .u8 b.toNat,λ_=>rfl⟩
def Gg(M:fA)(a:Addr):aP F:=
 match M a.block with
 |some (.cells c _ _)=>if a.spot.isSome then aQ else c[a.off]?
 |_=>aQ
def At(M:fA)(a:Addr)(cs:aG F):Prop:=∀j u,cs[j]? =O u->Gg M (a.add j)=O u
def CY{M:fA}{w:aT}(h:∀b o,M b=O o->w.heap[b]? =O o){a:Addr}{v:F}(hc:Gg M a=O v):w.cell? a=O v:=by
 grind [Gg,World.cell?]
def QP{M b:fA}(h:lm M b){a:Addr}{v:F}(hc:Gg M a=O v):Gg b a=O v:=by
 unfold Gg at hc ⊢;split at hc
 ·rename_i d _ _ c;rw[h _ _ c];exact hc
 ·cases hc
def At.mono{M b:fA}(h:lm M b){a:Addr}{cs:aG F}(hc:At M a cs):At b a cs:=λc d b=>QP h<|hc c d b
theorem p6(a:Addr)(i j:Nat):(a.add i).add j=a.add (i+j):=by
 grind [Addr.add,Nat.add_assoc]
def At.sub{M:fA}{a:Addr}{cs:aG F}(h:At M a cs)(k n:Nat):At M (a.add k) ((cs.drop k).take n):=by
 intro b c d;rw[p6];refine h (k+b) c ?_
 grind
section
variable {α β:Type}[s α][s β]{M b:fA}{v:F}{cs:aG F}
variable {x:α}{l:aG α}
def CU(α:Type)[s α](cs:aG F):F:=if s.agg α then .agg cs.toArray else cs.headD undef
def E6(M:fA)(v:F)(x:α):Prop:=∃cs,v=CU α cs/\s.ok M cs x
def E6.mono(h:lm M b)(hr:E6 M v x):E6 b v x:=let⟨cs,a,c⟩:=hr;⟨cs,a,s.mono h c⟩
theorem Tb(b:s.ok M cs x):(CU α cs).cells.toList=cs:=by
 unfold CU;have a:=s.len b
 cases c:s.agg α with
 |true=>simp[Value.cells]
 |false=>
  rw[s.ag1 c]at a
  match cs,a,s.one b with
  | [a],_,b=>
   have:=b a G
   cases a <;> simp[Value.cells,Value.oneCell']at this ⊢
def E6.cells(hr:E6 M v x):s.ok M v.cells.toList x:=by
 obtain⟨cs,rfl,a⟩:=hr
 grind [Tb]
def QQ{γ:Type}[Sc γ]{y:γ}:E6 M v y↔v=Sc.toV y:=by
 constructor
 ·rintro⟨cs,rfl,a⟩;have:cs= [Sc.toV y]:=a;subst this;rfl
 ·rintro rfl;exact⟨[Sc.toV y],rfl,rfl⟩
def vM(M:fA)(v:F)(l:aG α):Prop:=
 ∃a n cap,v = .slice a n cap/\n=Z l/\n<=cap/\cap<=maxLen/\
  ∀i x,l[i]? =O x->∃ad cs,a=O ad/\s.ok M cs x/\At M (ad.add<|i*s.sz α) cs
def vM.mono(h:lm M b)(i:vM M v l):vM b v l:=by
 obtain⟨a,k,c,j,g,d,f,e⟩:=i;exact⟨a,k,c,j,g,d,f,λi x g=>let⟨a,cs,c,f,d⟩:=e i x g;⟨a,cs,c,s.mono h f,d.mono h⟩⟩
instance z4:s (aG α)where
 sz:=1
 agg:=aK
 ok:=λM cs l=>∃v,cs= [v]/\vM M v l
 pos:=I
 ag1:=λ_=>rfl
 len:=λ⟨v,h,_⟩=>by rw[h];rfl
 one:=λ⟨v,h,⟨a,n,cap,hv,_⟩⟩u hu=>by rw[h]at hu;simp at hu;subst hu;rw[hv];rfl
 mono:=λh⟨v,e,hs⟩=>⟨v,e,hs.mono h⟩
def sT:E6 M v l↔vM M v l:=by
 constructor
 ·rintro⟨cs,rfl,v,rfl,a⟩;exact a
 ·intro a;exact⟨[v],rfl,v,rfl,a⟩
instance Ai:s (α×β)where
 sz:=s.sz α+s.sz β
 agg:=aA
 ok:=λM cs x=>∃c d,cs=c++d/\s.ok M c x.1/\s.ok M d x.2
 pos:=by have:=s.pos (α:=α);omega
 ag1:=λh=>by cases h
 len:=λ⟨c,d,e,h1,h2⟩=>by rw[e,cK,s.len h1,s.len h2]
 one:=λ⟨c,d,e,h1,h2⟩u hu=>by
  rw[e,dS]at hu
  rcases hu with hu|hu
  ·exact s.one h1 u hu
  ·exact s.one h2 u hu
 mono:=λh⟨c,d,e,h1,h2⟩=>⟨c,d,e,s.mono h h1,s.mono h h2⟩
@[reducible] def s.via{γ:Type}(f:γ->α):s γ where
 sz:=s.sz α
 agg:=aA
 ok:=λM cs x=>s.ok M cs<|f x
 pos:=s.pos
 ag1:=λh=>by cases h
 len:=λh=>s.len h
 one:=λh=>s.one h
 mono:=λh k=>s.mono h k
def Fd(k:Nat)(f:α->β):Prop:=∀(M:fA)(cs:aG F)(x:α),s.ok M cs x->s.ok M ((cs.drop k).take<|s.sz β) (f x)
def Fd.self:Fd 0 (λx:α=>x):=λM cs x a=>by
 rw[List.drop_zero,nR (by grind [s.len])];exact a
def Fd.fst{γ:Type}[s γ]{k:Nat}{f:α->γ}(h:Fd k f)(a:k+s.sz γ<=s.sz α:=by decide):Fd k (λx:α×β=>f x.1):=by
 rintro M cs x⟨b,a,rfl,a,c⟩;have c:=s.len a;rw[List.drop_append_of_le_length C,List.take_append_of_le_length H];exact h M b x.1 a
def Fd.snd{γ:Type}[s γ]{k a:Nat}{f:β->γ}(h:Fd k f)(d:a=s.sz α+k:=by exact rfl):Fd a (λx:α×β=>f x.2):=by
 rintro M cs x⟨a,a,rfl,b,c⟩;subst d;rw[<-s.len b,List.drop_length_add_append];exact h M a x.2 c
def Fs(k:Nat)(β:Type)[s β](f:α->β->α):Prop:=
 ∀(M:fA)(cs a:aG F)(x:α)(y:β),s.ok M cs x->s.ok M a y->s.ok M (cs.take k++a++cs.drop (k+s.sz β)) (f x y)
def Fs.self:Fs 0 α (λ_ a:α=>a):=λM cs b x a a a=>by
 rw[List.take_zero,List.nil_append,List.drop_eq_nil_of_le (by grind [s.len]),kY];exact a
def Fs.fst{γ:Type}[s γ]{k:Nat}{f:α->γ->α}(h:Fs k γ f)(a:k+s.sz γ<=s.sz α:=by decide):Fs k γ (λ(x:α×β)b=>(f x.1 b,x.2)):=by
 rintro M cs c x b⟨a,e,rfl,d,g⟩i;have j:=s.len d;refine⟨a.take k++c++a.drop (k+s.sz γ),e,?_,h M a c x.1 b d i,g⟩
 grind
def Fs.snd{γ:Type}[s γ]{k a:Nat}{f:β->γ->β}(h:Fs k γ f)(i:a=s.sz α+k:=by exact rfl):Fs a γ (λ(x:α×β)b=>(x.1,f x.2 b)):=by
 rintro M cs c x b⟨e,a,rfl,d,g⟩j;subst i;refine⟨e,a.take k++c++a.drop (k+s.sz γ),?_,d,h M a c x.2 b g j⟩;rw[<-s.len d,List.take_length_add_append,Nat.add_assoc,List.drop_length_add_append];simp
end
section
variable {α β:Type}[s α][s β]
def Y(v:F)(x:α):HP:=⟨λM h=>E6 M v x/\h=yO,λk⟨a,b⟩=>⟨a.mono k,b⟩⟩
def ptV(M:fA)(v:F)(x:α):Prop:=∃ad cs,v = .pointer (O ad)/\s.ok M cs x/\At M ad cs
def pt(v:F)(x:α):HP:=⟨λM h=>ptV M v x/\h=yO,λk⟨⟨ad,cs,e,c,a⟩,b⟩=>⟨⟨ad,cs,e,s.mono k c,a.mono k⟩,b⟩⟩
def bx(e:bJ)(g:Nat)(x:α):HP:=⟨λM h=>∃cs,s.ok M cs x/\h=Gk.one g (.cells cs.toArray e (0,0)),λk⟨cs,a,hh⟩=>⟨cs,s.mono k a,hh⟩⟩
def g_(M:fA)(xs:aG F)(l:aG α):Prop:=
 Z xs=Z l*s.sz α/\∀i x,l[i]? =O x->s.ok M ((xs.drop<|i*s.sz α).take<|s.sz α) x
def g_.mono{M a:fA}(h:lm M a){xs:aG F}{l:aG α}(hc:g_ M xs l):g_ a xs l:=⟨hc.1,λb c a=>s.mono h<|hc.2 b c a⟩
def HA(e:bJ)(M h:fA)(v:F)(l:aG α):Prop:=
 (v = .slice aQ 0 0/\l= []/\h=yO)\/
 ∃g o cap a xs,v = .slice (O ⟨g,o,aQ⟩) (Z l) cap/\Z l<=cap/\cap<=maxLen/\h=Gk.one g (.cells a e (0,0))/\
  o+cap*s.sz α<=a.size/\(a.toList.drop o).take (Z l*s.sz α)=xs/\g_ M xs l
def own(e:bJ)(v:F)(l:aG α):HP:=⟨λM h=>HA e M h v l,λ{M j h}k hh=>by
 rcases hh with hh|⟨g,o,cap,a,xs,h1,h2,b,c,d,f,i⟩
 ·exact .inl hh
 ·exact .inr ⟨g,o,cap,a,xs,h1,h2,b,c,d,f,i.mono k⟩⟩
end
def fo(U:Nat->F)(d:Nat)(v:F):Nat->F:=λt=>bif Nat.beq t d then v else U t
def ev(U:Nat->F):bB->F
 | .tmp t=>U t
 | .const v=>v
 | .global g=> .pointer (O ⟨g,0,aQ⟩)
 | .func f=> .func (.func f) #[] #[]
structure Sl (n:Nat) (U:Nat->F) (a:Act):Prop where
 defers:a.defers= []
 size:a.tmps.size=n
 get:∀t,a.tmps.getD t undef=U t
def Sl.ev{n:Nat}{U:Nat->F}{a:Act}(h:Sl n U a):a.eval=ev U:=by
 funext b
 cases b with
 |tmp b=>exact h.get b
 |const b=>rfl
 |global b=>rfl
 |func b=>rfl
def Sl.put{n:Nat}{U:Nat->F}{a:Act}(h:Sl n U a){d:Nat}(hd:Nat.blt d n=aA)(v:F):Sl n (fo U d v) (a.put (O d) v)where
 defers:=h.defers
 size:=by simp[Act.put,h.size]
 get:=λb=>by
  have e:d<a.tmps.size:=by rw[h.size];exact Nat.blt_eq▸hd
  unfold fo
  by_cases c:b=d
  ·subst c;simp[Act.put,e]
  ·have e:Nat.beq b d=false:=by
    cases f:Nat.beq b d with
    |false=>rfl
    |true=>exact absurd (iJ f) c
   rw[e];simp only[aR,<-h.get b,Act.put,Array.getD_eq_getD_getElem?];rw[Array.getElem?_setIfInBounds_ne<|λh=>c h.symm]
def Sl.JS{n:Nat}{U:Nat->F}{a:Act}(h:Sl n U a)(v:F):Sl n U (a.put aQ v):=h
abbrev jl:=Exit->(Nat->F)->aT->Prop
def Lf(n:Nat)(Q:jl):Exit->Act->aT->Prop:=λb a w=>∃U,Sl n U a/\Q b U w
def RL(P:bG)(n:Nat)(ops:aY bC)(b:aG bC)(U:Nat->F)(w:aT)(Q:jl):Prop:=
 ∀a,Sl n U a->wpList P ops (Lf n Q) b a w
def RC(P:bG)(n:Nat)(c:Code)(U:Nat->F)(w:aT)(Q:jl):Prop:=∀a,Sl n U a->c.wp P (Lf n Q) a w
def tU(P:bG)(n:Nat)(y:Code)(Q:jl):jl
 | .normal,U,w=>RC P n y U w Q
 |e,U,w=>Q e U w
def Gh(id:Nat)(Q:jl):jl
 | .exit i,U,w=>if i=id then Q .normal U w else Q (.exit i) U w
 |e,U,w=>Q e U w
section
variable {P:bG}{n:Nat}{U:Nat->F}{w:aT}{Q Q':jl}{x y c:Code}{id:Nat}
theorem RC.mono(h:RC P n c U w Q)(hq:∀e U w,Q e U w->Q' e U w):RC P n c U w Q':=
 λa b=>wp_mono (h a b) λe _ w⟨U,a,b⟩=>⟨U,a,hq e U w b⟩
def cF(h:RC P n x U w (tU P n y Q)):RC P n (.seq x y) U w Q:=λa b=>
 wp_seq (wp_mono (h a b) λd a w⟨U,b,c⟩=>by
  cases d with
  |normal=>exact c a b
  |_=>exact⟨U,b,c⟩)
def dt(h:RC P n x U w (Gh id Q)):RC P n (.block id x) U w Q:=λd e=>
 wp_block (wp_mono (h d e) λa d w⟨U,c,b⟩=>by
  cases a with
  |exit f=>
   simp only[Gh]at b;simp only[Exit.inBlock];split at b
   ·rename_i a;subst a;simp;exact⟨U,c,b⟩
   ·rename_i a;simp[a];exact⟨U,c,b⟩
  |_=>exact⟨U,c,b⟩)
def dl(h:Q .normal U w):RC P n .skip U w Q:=λ_ a=>wp_skip ⟨U,a,h⟩
def dw(h:Q .ret U w):RC P n .ret U w Q:=λ_ a=>wp_ret ⟨U,a,h⟩
def as_{i:Nat}(h:Q (.exit i) U w):RC P n (.exit i) U w Q:=λ_ a=>wp_exit ⟨U,a,h⟩
theorem K1{q:bB}{b:Bool}(hc:ev U q = .bool b)(f:b=aA->RC P n x U w Q)(e:b=aK->RC P n y U w Q):RC P n (.cond q x y) U w Q:=
 λd c=>wp_cond_split (t:=b) (by rw[c.ev];exact hc) (λa=>f a d c)<|λa=>e a d c
def b_{l:aG bC}(h:RL P n l.toArray l U w Q):RC P n (.region id l.toArray aK) U w Q:=λa b=>wp_region_lit<|h a b
theorem J{ops:aY bC}(h:Q .normal U w):RL P n ops [] U w Q:=λ_ a=>⟨U,a,h⟩
def bE(h:RC P n y U w Q):tU P n y Q .normal U w:=h
def cP(h:Q .normal U w):Gh id Q .normal U w:=h
def zo(h:Q .normal U w):Gh id Q (.exit id) U w:=by grind [Gh]
def j3(P:bG)(n:Nat)(b:Func)(R:F->aT->Prop):jl
 | .normal,U,w| .ret,U,w=>∃v,(∀a,Sl n U a->(results b a.tmps).run P w = .ok v w)/\R v w
 |_,_,_=>False
def eE(R:F->aT->Prop):Ending->aT->Prop:=λe w=>∃v,e = .returned v/\R v w
def Z6(l:aG F)(t:Nat):F:=l.getD t undef
def cI{f:FuncId}{a:Func}{args:aG F}{R:F->aT->Prop}(d:P.funcs[f]? =O a)(b:a.body=O c)(e:a.ntmps=n)(h:RC P n c (Z6 args) w (j3 P n a R))(a:Z args<=n:=by exact Nat.le_of_ble_eq_true rfl):Calls P f args.toArray w (eE R):=by
 refine calls_of_wp d b<|wp_mono (h _ ⟨rfl,?_,λa=>?_⟩) λb g w⟨U,a,e⟩=>?_
 ·grind
 ·simp only[Z6,Array.getD_eq_getD_getElem?,List.getD_eq_getElem?_getD]
  grind
 ·cases b with
  |normal=>obtain⟨v,d,b⟩:=e;exact⟨a.defers,v,d g a,v,rfl,b⟩
  |ret=>obtain⟨v,d,b⟩:=e;exact⟨a.defers,v,d g a,v,rfl,b⟩
  |_=>exact e.elim
def bH{a:Func}{R:F->aT->Prop}{t:Nat}{v:F}(h:R v w)(hr:a.results = #[.tmp t]:=by exact rfl)(b:U t=v:=by exact rfl):j3 P n a R .ret U w:=
 ⟨v,λa a=>by rw[results_tmp hr,a.get,b],h⟩
def kD{a:Func}{R:F->aT->Prop}{t u:Nat}{v b:F}(h:R (.tuple #[v,b]) w)(hr:a.results = #[.tmp t, .tmp u]:=by exact rfl)(c:U t=v:=by exact rfl)(d:U u=b:=by exact rfl):j3 P n a R .ret U w:=
 ⟨_,λa a=>by rw[results_tmp2 hr,a.get,a.get,c,d],h⟩
def HB{a:Func}{R:F->aT->Prop}(h:R (.tuple #[]) w)(hr:a.results = #[]:=by exact rfl):j3 P n a R .ret U w:=
 ⟨_,λa _=>by rw[results_none hr],h⟩
def Cf{a:Func}{R:F->aT->Prop}(h:j3 P n a R .ret U w):j3 P n a R .normal U w:=h
def Wn(ops:aY bC)(U:Nat->F):aP (Nat×Bool)->Prop
 |none=>True
 |some (j,b)=>∃t,D (ops[j]?) (·.dst)=O t/\U t = .bool b
def Wn.wanted{ops:aY bC}{o:bC}{a:Act}(h:Wn ops U o.guard)(e:Sl n U a):Region.wanted o (yielded ops a.tmps)=true:=by
 unfold Region.wanted
 cases b:o.guard with
 |none=>rfl
 |some c=>
  obtain⟨d,d⟩:=c;rw[b]at h;obtain⟨c,b,f⟩:=h;have b:=e.get c;rw[f,Array.getD_eq_getD_getElem?]at b;have:a.tmps[c]? =O (.bool d):=by
   cases d:a.tmps[c]? with
   |none=>rw[d]at b;cases b
   |some v=>grind
  grind [yielded]
variable {ops:aY bC}{m:aG bC}{d:Nat}{ty:bJ}{p:String}{s:aY Edge}{g:aP (Nat×Bool)}{w':aT}{v:F}{op:Op}
def jp(hg:Wn ops U g)(hd:Nat.blt d n=aA)(b:(execOp (ev U) ⟨O d,op,ty,p,s,g⟩).run P w = .ok (.value v) w')
  (k:RL P n ops m (fo U d v) w' Q):RL P n ops (⟨O d,op,ty,p,s,g⟩::m) U w Q:=by
 intro a a;unfold wpList;rw[aL<|Wn.wanted (o:=⟨O d,op,ty,p,s,g⟩) hg a];refine .inl ?_;unfold Oper.wp;rw[a.ev,b];exact k _<|a.put hd v
def zl(hg:Wn ops U g)(b:(execOp (ev U) ⟨aQ,op,ty,p,s,g⟩).run P w = .ok .skip w')
  (k:RL P n ops m U w' Q):RL P n ops (⟨aQ,op,ty,p,s,g⟩::m) U w Q:=by
 intro a a;unfold wpList;rw[aL<|Wn.wanted (o:=⟨aQ,op,ty,p,s,g⟩) hg a];refine .inl ?_;unfold Oper.wp;rw[a.ev,b];exact k _<|a.JS _
def GT{j t:Nat}{b:Bool}(g:D (ops[j]?) (·.dst)=O t)(h:U t = .bool (!b)\/U t=undef)(hd:Nat.blt d n=aA)
  (k:RL P n ops m (fo U d undef) w Q):RL P n ops (⟨O d,op,ty,p,s,O (j,b)⟩::m) U w Q:=by
 intro c e;have f:Region.wanted ⟨O d,op,ty,p,s,O (j,b)⟩ (yielded ops c.tmps)=false:=by
  have a:=e.get t;rw[Array.getD_eq_getD_getElem?]at a;simp only[Region.wanted,yielded,g,Option.bind_some]
  cases g:c.tmps[t]? with
  |none=>rfl
  |some c=>
   rw[g]at a;simp at a;subst a
   rcases h with a|a <;> rw[a]
   ·simp
   ·rfl
 unfold wpList;rw[aJ (by rw[f];decide)];exact k _<|e.put hd _
def Ty{f:FuncId}{args:aY F}(hg:Wn ops U g)(hd:Nat.blt d n=aA)
  (b:(execOp (ev U) ⟨O d,op,ty,p,s,g⟩).run P w = .ok (.enter f args) w)
  (k:Calls P f args w (eE λv w'=>RL P n ops m (fo U d v) w' Q)):RL P n ops (⟨O d,op,ty,p,s,g⟩::m) U w Q:=by
 intro a a;unfold wpList;rw[aL<|Wn.wanted (o:=⟨O d,op,ty,p,s,g⟩) hg a];refine .inl ?_;unfold Oper.wp;rw[a.ev,b];refine Calls.mono k λb b c=>?_;obtain⟨v,rfl,b⟩:=c;exact b _<|a.put hd v
def Nc{f:FuncId}{a:Func}{args:aY F}(c:P.funcs[f]? =O a)(d:(a.name== "runtime.NumGoroutine")=aK)(b:a.body.isNone=aK):
  (callFunc f args).run P w = .ok (.enter f args) w:=by
 unfold callFunc program;simp only[Bind.bind,Sem.bind,Sem.run,c];rw[aJ (by rw[d];decide),aJ (by rw[b];decide)];rfl
structure eJ (P:bG) (f:FuncId):Prop where
 run:∀(args:aY F)(w:aT),(callFunc f args).run P w = .ok (.enter f args) w
def as0{f:FuncId}{args:aY bB}{b:aY bJ}(hg:Wn ops U g)(hd:Nat.blt d n=aA)(c:eJ P f)(a:aG F)
  (hvs:args.toList.map (ev U)=a) (k:Calls P f a.toArray w (eE λv w'=>RL P n ops m (fo U d v) w' Q)):
  RL P n ops (⟨O d, .call ⟨.value<|.func f,args,b⟩,ty,p,s,g⟩::m) U w Q:=by
 have b:args.map (ev U)=a.toArray:=H
 refine Ty (f:=f) (args:=a.toArray) hg hd ?_ k;simp only[execOp,resolve,bQ];simp only[ev,Deferred.ofValue,b,cB,bY,invoke];simpa using c.run a.toArray w
def vt{q:bB}{f:FuncId}{args:aY bB}{b:aY bJ}(cap:aG F)(c:eJ P f)(a:aG F)(k:Calls P f (a++cap).toArray w (eE λv w'=>RL P n ops m (fo U d v) w' Q))(hg:Wn ops U g:=by exact trivial)(hd:Nat.blt d n=true:=by exact rfl)(hq:ev U q = .func (.func f) #[] cap.toArray:=by exact rfl)(hvs:args.toList.map (ev U)=a:=by exact rfl):
  RL P n ops (⟨O d, .call ⟨.value q,args,b⟩,ty,p,s,g⟩::m) U w Q:=by
 have b:args.map (ev U)=a.toArray:=H
 refine Ty (f:=f) (args:=(a++cap).toArray) hg hd ?_ k;simp only[execOp,resolve,bQ];simp only[hq,Deferred.ofValue,b,cB,bY,invoke];simpa using c.run (a++cap).toArray w
def fE{f:FuncId}{args:aY F}{R a:F->aT->Prop}(h:Calls P f args w (eE R))(k:∀v w',R v w'->a v w'):Calls P f args w (eE a):=
 Calls.mono h λ_ w'⟨v,a,b⟩=>⟨v,a,k v w' b⟩
end
structure nT (P:bG) (T:bJ) (ag:Bool) (k:Nat):Prop where
 Tc:∀w,(isAgg T).run P w = .ok ag w
 sz:∀w,(sizeOf T).run P w = .ok k w
structure oG (P:bG) (T:bJ) (i k:Nat):Prop where
 run:∀a w,(Instr.fieldAt T (.pointer<|O a) i).run P w = .ok (.pointer<|O<|a.add k) w
structure Cg (P:bG) (T e:bJ) (k:Nat):Prop where
 Iw:P.underlying T=O (.slice e)
 sz:∀w,(sizeOf e).run P w = .ok k w
def cv(c:Bool)(v:F):F:=bif c then v else undef
theorem ji{c:Bool}{v:F}(h:c=aA):cv c v=v:=by rw[h];rfl
def UD{a b:Bool}(h:(a&&b)=aA):a=true:=H
def XN{c a b:Bool}(h:c=aA):(if a=aA then Value.bool aA else cv (c&&(a==aK)) (.bool b)) = .bool (a||b):=by
 subst h;cases a <;> rfl
def UE{c a b:Bool}(h:c=aA):(if a=aA then cv (c&&(a==aA)) (.bool b)else Value.bool aK) = .bool (a&&b):=by
 subst h;cases a <;> rfl
@[reducible] def Gi:BinOp->Int->Int->Bool
 | .eql,a,b=>a==b
 | .neq,a,b=>a != b
 | .lss,a,b=>decide (a<b)
 | .leq,a,b=>decide (a<=b)
 | .gtr,a,b=>decide (a>b)
 | .geq,a,b=>decide (a>=b)
 |_,_,_=>aK
def Ch:BinOp->Bool
 | .eql| .neq| .lss| .leq| .gtr| .geq=>aA
 |_=>aK
@[reducible] def HC:BinOp->Int->Int->Int
 | .add,a,b=>a+b
 | .sub,a,b=>a - b
 | .mul,a,b=>a*b
 |_,_,_=>0
def UG:BinOp->Bool
 | .add| .sub| .mul=>aA
 |_=>aK
def cU.sU(a b:cU):Bool:=a.eI==b.eI
def cU.v7(a b:cU):Bool:=Op.bytesLess a.eI b.eI
@[reducible] def Nf:BinOp->cU->cU->Bool
 | .eql,a,b=>a.sU b
 | .neq,a,b=> !a.sU b
 | .lss,a,b=>a.v7 b
 | .leq,a,b=>a.v7 b||a.sU b
 | .gtr,a,b=> !(a.v7 b||a.sU b)
 | .geq,a,b=> !a.v7 b
 |_,_,_=>aK
section
variable {P:bG}{n:Nat}{U:Nat->F}{w:aT}{Q:jl}{E:aT}{V:aG HP}
variable {ops:aY bC}{f:aG bC}{d:Nat}{ty:bJ}{h:String}{p:aY Edge}{g:aP (Nat×Bool)}{v A u:F}{x y z:bB}{T q:bJ}
def i8(v:F)(k:RL P n ops f (fo U d v) w Q)(hg:Wn ops U g:=by first|exact trivial|exact⟨_,rfl,rfl⟩|exact⟨_,rfl,Gk.gt ‹_›⟩)(hd:Nat.blt d n=true:=by exact rfl)(hx:ev U x=v:=by exact rfl):
  RL P n ops (⟨O d, .move x,ty,h,p,g⟩::f) U w Q:=jp hg hd (by rw[<-hx];rfl) k
def Nt(hg:Wn ops U g)(hd:Nat.blt d n=aA)(hx:ev U x=v)(k:RL P n ops f (fo U d v) w Q):
  RL P n ops (⟨O d, .assign x,ty,h,p,g⟩::f) U w Q:=jp hg hd (by rw[<-hx];rfl) k
def T_{i:Nat}{a:aY F}(hg:Wn ops U g)(hd:Nat.blt d n=aA)(hx:ev U x = .tuple a)(hi:a[i]? =O v)(k:RL P n ops f (fo U d v) w Q):
  RL P n ops (⟨O d, .extract x i,ty,h,p,g⟩::f) U w Q:=
 jp hg hd (by grind [execOp,Instr.extract,bQ,cB,bY]) k
theorem nt{b:Bool}(hg:Wn ops U g)(hd:Nat.blt d n=aA)(hx:ev U x = .bool b)(a:(if b=aA then ev U y else ev U z)=v)(k:RL P n ops f (fo U d v) w Q):
  RL P n ops (⟨O d, .pick x y z,ty,h,p,g⟩::f) U w Q:=
 jp hg hd (by grind [execOp,asBool,bQ,cB,bY]) k
def FO(b:Bool)(hg:Wn ops U g)(hd:Nat.blt d n=aA)(hx:ev U x = .bool b)(k:RL P n ops f (fo U d<|.bool<|!b) w Q):
  RL P n ops (⟨O d, .unOp .not T x,ty,h,p,g⟩::f) U w Q:=
 jp hg hd (by grind [execOp,Op.unary,bQ,cB,bY]) k
theorem OK{bop:BinOp}{K:IntKind}{a b:Int}(hc:Ch bop=aA)(w:aT):(binOp bop T (.int K a)<|.int K b).run P w = .ok (.bool<|Gi bop a b) w:=by
 cases bop <;> first|(cases hc;done)|(simp only[binOp,ne_eq,not_true,if_false,Op.intCmp,cB,Gi])
def G_{bop:BinOp}{K:IntKind}{a b:Int}(hg:Wn ops U g)(hd:Nat.blt d n=aA)(hx:ev U x = .int K a)(hy:ev U y = .int K b)(hc:Ch bop=aA)
  (k:RL P n ops f (fo U d<|.bool<|Gi bop a b) w Q):RL P n ops (⟨O d, .binOp bop T x y q,ty,h,p,g⟩::f) U w Q:=by
 refine jp hg hd ?_ k
 grind [eqGuard,execOp,bQ,bY,OK,cB]
def tb{bop:BinOp}{K:IntKind}(a b:Int)(k:RL P n ops f (fo U d<|.int K<|K.wrap<|HC bop a b) w Q)(hg:Wn ops U g:=by exact trivial)(hd:Nat.blt d n=true:=by exact rfl)(hx:ev U x = .int K a:=by exact rfl)(hy:ev U y = .int K b:=by exact rfl)(hc:UG bop=true:=by exact rfl):RL P n ops (⟨O d, .binOp bop T x y q,ty,h,p,g⟩::f) U w Q:=by
 refine jp hg hd ?_ k;have c:(eqGuard bop T x y (.int K a)<|.int K b).run P w = .ok () w:=by simp[eqGuard]
 have c:(binOp bop T (.int K a)<|.int K b).run P w = .ok (.int K<|K.wrap<|Gk.HC bop a b) w:=by
  cases bop <;> first|(cases hc;done)|(simp only[binOp,ne_eq,not_true,if_false,Op.intArith,cB,Gk.HC])
 grind [execOp,bQ,bY,cB]
def ws{bop:BinOp}(v A u:F)(hd:Nat.blt d n=aA)(hx:ev U x=v)(hy:ev U y=A)(k:RL P n ops f (fo U d u) w Q)(hg:Wn ops U g:=by exact trivial)(he:∀w,(eqGuard bop T x y v A).run P w = .ok () w:=by exact(λ_=>rfl))(hr:∀w,(binOp bop T v A).run P w = .ok u w:=by exact(λ_=>rfl)):RL P n ops (⟨O d, .binOp bop T x y q,ty,h,p,g⟩::f) U w Q:=by
 refine jp hg hd ?_ k
 simp_all[execOp,bQ,bY,cB]
def QR(s:cU):(⟨s.eI.toArray⟩:ByteArray).toList=s.eI:=by rw[ByteArray.toList_eq]
theorem OL{bop:BinOp}{a b:cU}(hc:Ch bop=aA)(w:aT):(binOp bop T (str a)<|str b).run P w = .ok (.bool<|Nf bop a b) w:=by
 cases bop <;> first|(cases hc;done)|(simp only[binOp,str,Op.stringOp,QR,cB,Nf,cU.sU,cU.v7])
def UJ{bop:BinOp}{a b:cU}(hg:Wn ops U g)(hd:Nat.blt d n=aA)(hx:ev U x=str a)(hy:ev U y=str b)(hc:Ch bop=aA)
  (k:RL P n ops f (fo U d<|.bool<|Nf bop a b) w Q):RL P n ops (⟨O d, .binOp bop T x y q,ty,h,p,g⟩::f) U w Q:=by
 refine jp hg hd ?_ k
 grind [eqGuard,execOp,bQ,bY,OL,cB]
def t3{t:bJ}(s:cU)(b:P.underlying t=O .string)(k:RL P n ops f (fo U d<|.int .i64 (Z s.eI:Nat)) w Q)(hg:Wn ops U g:=by exact trivial)(hd:Nat.blt d n=true:=by exact rfl)(hx:ev U x=str s:=by exact rfl):RL P n ops (⟨O d, .call ⟨.builtin .len,#[x],#[t]⟩,ty,h,p,g⟩::f) U w Q:=by
 refine jp hg hd ?_ k;have a:(⟨s.eI.toArray⟩:ByteArray).size=Z s.eI:=rfl;simp[execOp,resolve,hx,invoke,builtin,Builtin.len_,run_underlying b,goInt,str,a]
theorem AB{t e:bJ}{a:aP Addr}{m cap:Nat}(hg:Wn ops U g)(hd:Nat.blt d n=aA)(hx:ev U x = .slice a m cap)(b:P.underlying t=O (.slice e))
  (k:RL P n ops f (fo U d<|.int .i64 (m:Nat)) w Q):RL P n ops (⟨O d, .call ⟨.builtin .len,#[x],#[t]⟩,ty,h,p,g⟩::f) U w Q:=by
 refine jp hg hd ?_ k;simp[execOp,resolve,hx,invoke,builtin,Builtin.len_,run_underlying b,goInt]
def HE(s:cU)(i:Int)(c:UInt8){K:IntKind}(hd:Nat.blt d n=aA)(hx:ev U x=str s)(hy:ev U y = .int K i)(a:P.underlying T=O .string)(hc:(if 0<=i then s.eI[i.toNat]? else aQ)=O c)(k:RL P n ops f (fo U d<|.int .u8 (c.toNat:Nat)) w Q)(hg:Wn ops U g:=by exact trivial):
  RL P n ops (⟨O d, .index T x y,ty,h,p,g⟩::f) U w Q:=by
 refine jp hg hd ?_ k;have a:(if 0<=i then(⟨s.eI.toArray⟩:ByteArray)[i.toNat]? else aQ)=O c:=by
  rw[<-hc];split
  ·have:(⟨s.eI.toArray⟩:ByteArray)[i.toNat]? =s.eI.toArray[i.toNat]? :=rfl
   grind
  ·rfl
 simp_all[execOp,Instr.index,asIntOf,run_underlying,str,bQ,cB,bY]
def g7{j t:Nat}(c:Bool){a:Bool}(b:Bool){op:Op}(v:F)(g:D (ops[j]?) (·.dst)=O t)(l:U t=cv c (.bool b))(hd:Nat.blt d n=aA)(i:(c&&(b==a))=aA->(execOp (ev U) ⟨O d,op,ty,h,p,O (j,a)⟩).run P w = .ok (.value v) w)(k:RL P n ops f (fo U d<|cv (c&&(b==a)) v) w Q):RL P n ops (⟨O d,op,ty,h,p,O (j,a)⟩::f) U w Q:=by
 cases e:(c&&(b==a))with
 |true=>
  rw[e]at k;have m:b=a:=H
  exact jp (v:=v) ⟨t,g,by grind [ji]⟩ hd (i e) k
 |false=>
  rw[e]at k;refine GT g ?_ hd k;rw[l]
  cases c with
  |false=>exact .inr rfl
  |true=>left;cases b <;> cases a <;> first|rfl|(cases e)
def WR{C:Bool}{o:bC}(a:o.op = .move x)(hx:C=aA->ev U x=v):C=aA->(execOp (ev U) o).run P w = .ok (.value v) w:=
 by simp_all[execOp]
def WS{C:Bool}{o:bC}{bop:BinOp}{K:IntKind}{a b:Int}(c:o.op = .binOp bop T x y q)(hx:C=aA->ev U x = .int K a)(hy:C=aA->ev U y = .int K b)(hc:Ch bop=aA):
  C=aA->(execOp (ev U) o).run P w = .ok (.value<|.bool<|Gi bop a b) w:=by grind [eqGuard,execOp,bQ,bY,OK,cB]
def Y5{C:Bool}{o:bC}{bop:BinOp}{K:IntKind}{a b:Int}(f:o.op = .binOp bop T x y q)(hx:C=aA->ev U x = .int K a)(hy:C=aA->ev U y = .int K b)(hc:UG bop=aA):
  C=aA->(execOp (ev U) o).run P w = .ok (.value<|.int K<|K.wrap<|HC bop a b) w:=λc=>by
 have d:(eqGuard bop T x y (.int K a)<|.int K b).run P w = .ok () w:=by unfold eqGuard;cases bop <;> rfl
 have e:(binOp bop T (.int K a)<|.int K b).run P w = .ok (.int K<|K.wrap<|Gk.HC bop a b) w:=by
  cases bop <;> first|(cases hc;done)|(simp only[binOp,ne_eq,not_true,if_false,Op.intArith,cB,Gk.HC])
 unfold execOp;rw[f];simp only[hx c,hy c,bQ,d,bY,e,cB]
def WT{C:Bool}{o:bC}{bop:BinOp}{a b:cU}(c:o.op = .binOp bop T x y q)(hx:C=aA->ev U x=str a)(hy:C=aA->ev U y=str b)(hc:Ch bop=aA):
  C=aA->(execOp (ev U) o).run P w = .ok (.value<|.bool<|Nf bop a b) w:=by grind [eqGuard,execOp,bQ,bY,OL,cB]
def Y6{C:Bool}{o:bC}{b:Bool}(a:o.op = .unOp .not T x)(hx:C=aA->ev U x = .bool b):C=aA->(execOp (ev U) o).run P w = .ok (.value<|.bool<|!b) w:=by grind [execOp,Op.unary,bQ,cB,bY]
def R2{C:Bool}{o:bC}{b:Bool}(a:o.op = .pick x y z)(hx:C=aA->ev U x = .bool b)(a:C=aA->(if b=aA then ev U y else ev U z)=v):
  C=aA->(execOp (ev U) o).run P w = .ok (.value v) w:=by grind [execOp,asBool,bQ,cB,bY]
def WU{C:Bool}{o:bC}{t:bJ}{s:cU}(a:o.op = .call ⟨.builtin .len,#[x],#[t]⟩)(hx:C=aA->ev U x=str s)(c:P.underlying t=O .string):
  C=aA->(execOp (ev U) o).run P w = .ok (.value<|.int .i64 (Z s.eI:Nat)) w:=λb=>by
 unfold execOp;rw[a];have a:(⟨s.eI.toArray⟩:ByteArray).size=Z s.eI:=rfl;simp[resolve,hx b,invoke,builtin,Builtin.len_,run_underlying c,goInt,str,a]
end
section
variable {α β:Type}[s α][s β]{P:bG}{E w:aT}{V:aG HP}{i:Nat}{v:F}{x:α}
def B.E6(h:B E w V)(hi:V[i]? =O (Y v x)):∃M a,ip E w M a V/\Gk.E6 M v x:=
 let⟨M,a,b⟩:=h
 ⟨M,a,b,(b.sat i _ hi).1⟩
def B.slice{l:aG α}(h:B E w V)(hi:V[i]? =O (Y v l)):∃a cap,v = .slice a (Z l) cap:=by
 obtain⟨b,b,b,b⟩:=h.E6 hi;obtain⟨a,c,cap,c,c,_⟩:=sT.1 b
 grind
def B.dup(i:Nat)(h:B E w V)(hi:V[i]? =O (Y v x)):B E w (Y v x::V):=
 h.JR λ_ _ a=>⟨(a.sat i _ hi).1,rfl⟩
def B.sc(γ:Type)[Sc γ](h:B E w V)(y:γ):B E w (Y (Sc.toV y) y::V):=h.JR λ_ _ _=>⟨QQ.2 rfl,rfl⟩
def B.CZ{γ:Type}[Sc γ]{y:γ}(h:B E w V)(hi:V[i]? =O (Y v y)):v=Sc.toV y:=by
 obtain⟨a,a,a,a⟩:=h.E6 hi;exact QQ.1 a
end
section
variable {α β:Type}[s α][s β]
variable {P:bG}{n:Nat}{U:Nat->F}{w:aT}{Q:jl}{E:aT}{V:aG HP}{i:Nat}
variable {ops:aY bC}{c:aG bC}{d:Nat}{ty:bJ}{A:String}{D:aY Edge}{g:aP (Nat×Bool)}{v:F}{q r:bB}{T T' e:bJ}
variable {x:α}
def rA{cs:aG F}{a:Addr}{M:fA}(c:nT P T (s.agg α) (s.sz α))(f:s.ok M cs x)(d:∀j u,cs[j]? =O u->w.cell? (a.add j)=O u):
  (loadVar T a).run P w = .ok (CU α cs) w:=by
 have b:=s.len f;unfold loadVar CU;simp only[bQ,c.Tc,bY]
 cases e:s.agg α with
 |true=>
  simp only[if_true,bQ,c.sz,bY,<-b,run_loadCells_list w a cs d,cB]
 |false=>
  rw[s.ag1 e]at b
  match cs,b with
  | [b],_=>
   have:=d 0 b rfl;have b:a.add 0=a:=rfl
   simp_all
def t{p:F}(i:Nat)(x:α)(b:B E w V)(h:nT P T (s.agg α) (s.sz α))(k:∀v,B E w (Y v x::V)->RL P n ops c (fo U d v) w Q)(hg:Wn ops U g:=by first|exact trivial|exact⟨_,rfl,rfl⟩|exact⟨_,rfl,Gk.gt ‹_›⟩)(hd:Nat.blt d n=true:=by exact rfl)(hx:ev U q=p:=by exact rfl)(hi:V[i]? =O (pt p x):=by exact rfl):RL P n ops (⟨O d, .load T q,ty,A,D,g⟩::c) U w Q:=by
 obtain⟨f,a,a⟩:=b;obtain⟨⟨b,b,l,e,j⟩,_⟩:=a.sat i _ hi;refine jp (v:=CU α b) hg hd ?_<|k _ ⟨f,_,a.iX ⟨⟨b,rfl,e⟩,rfl⟩⟩
 simp only[execOp,hx,l,Instr.loadAt,Instr.sureAddr,bQ,cB,bY,rA h e<|λe f b=>CY a.im<|j e f b]
def eY{γ:Type}[Sc γ](y:γ){p:F}(i:Nat)(b:B E w V)(a:nT P T aK 1)(k:RL P n ops c (fo U d<|Sc.toV y) w Q)(hg:Wn ops U g:=by first|exact trivial|exact⟨_,rfl,rfl⟩|exact⟨_,rfl,Gk.gt ‹_›⟩)(hd:Nat.blt d n=true:=by exact rfl)(hx:ev U q=p:=by exact rfl)(hi:V[i]? =O (pt p y):=by exact rfl):RL P n ops (⟨O d, .load T q,ty,A,D,g⟩::c) U w Q:=by
 refine t (hg:=hg) (hd:=hd) (hx:=hx) (hi:=hi) _ y b a λv a=>?_;rw[a.CZ (i:=0) rfl];exact k
def fq{p:F}{j m:Nat}{f:α->β}(i:Nat)(b:B E w V)(hi:V[i]? =O (pt p x))(r:oG P T j m)(l:Fd m f)(k:∀v,B E w (pt v (f x)::V)->RL P n ops c (fo U d v) w Q)(hg:Wn ops U g:=by first|exact trivial|exact⟨_,rfl,rfl⟩|exact⟨_,rfl,Gk.gt ‹_›⟩)(hd:Nat.blt d n=true:=by exact rfl)(hx:ev U q=p:=by exact rfl):RL P n ops (⟨O d, .fieldAddr T q j,ty,A,D,g⟩::c) U w Q:=by
 obtain⟨a,e,e⟩:=b;obtain⟨⟨b,h,u,t,o⟩,_⟩:=e.sat i _ hi;refine jp (v:= .pointer<|O<|b.add m) hg hd ?_<|k _ ⟨a,_,e.iX ⟨⟨b.add m,_,rfl,l a h x t,o.sub m<|s.sz β⟩,rfl⟩⟩
 simp only[execOp,hx,u,bQ,r.run,bY,cB]
def By{l:aG α}{a:F}{K:IntKind}{j:Int}(i:Nat)(b:B E w V)(f:Cg P T e (s.sz α))(hj:(if 0<=j then l[j.toNat]? else aQ)=O x)(k:∀v,B E w (pt v x::V)->RL P n ops c (fo U d v) w Q)(hg:Wn ops U g:=by first|exact trivial|exact⟨_,rfl,rfl⟩|exact⟨_,rfl,Gk.gt ‹_›⟩)(hd:Nat.blt d n=true:=by exact rfl)(hx:ev U q=a:=by exact rfl)(hy:ev U r = .int K j:=by exact rfl)(hi:V[i]? =O (Y a l):=by exact rfl):RL P n ops (⟨O d, .indexAddr T q r,ty,A,D,g⟩::c) U w Q:=by
 obtain⟨h,a,a⟩:=b;obtain⟨b,C,b,z,b,b,b,u⟩:=sT.1 (a.sat i _ hi).1;have b:0<=j:=H
 rw[aL b]at hj;obtain⟨m,o,t,y,p⟩:=u _ _ hj;have u:j<C:=H
 refine jp (v:= .pointer<|O<|m.add<|j.toNat*s.sz α) hg hd ?_<|k _ ⟨h,_,a.iX ⟨⟨_,o,rfl,y,p⟩,rfl⟩⟩
 simp only[execOp,hx,z,t,hy,Instr.indexAt,asIntOf,bQ,cB,bY,run_underlying f.Iw,f.sz,b,u,and_self,if_true]
def em{b m:Nat}{f:α->β}(i:Nat)(j:B E w V)(hi:V[i]? =O (bx e b x))(o:Fd m f)(p:nT P T (s.agg β) (s.sz β))(k:∀v,B E w (Y v (f x)::V)->RL P n ops c (fo U d v) w Q)(hg:Wn ops U g:=by first|exact trivial|exact⟨_,rfl,rfl⟩|exact⟨_,rfl,Gk.gt ‹_›⟩)(hd:Nat.blt d n=true:=by exact rfl)(hx:ev U q = .pointer (O ⟨b,m,aQ⟩):=by exact rfl):RL P n ops (⟨O d, .load T q,ty,A,D,g⟩::c) U w Q:=by
 obtain⟨h,a,a⟩:=j;obtain⟨j,t,l⟩:=a.sat i _ hi;have r:=a.le i b _ (eD hi) (by rw[l];exact dG b _);have l:=o h j x t;refine jp (v:=CU β<|(j.drop m).take<|s.sz β) hg hd ?_<|k _ ⟨h,_,a.iX ⟨⟨_,rfl,l⟩,rfl⟩⟩
 simp only[execOp,hx,Instr.loadAt,Instr.sureAddr,bQ,cB,bY];rw[rA p l<|λa a a=>?_];rfl;rw[Addr.add_lit,cell_of_row w b _ _ _ _ r]
 grind
def BY{γ:Type}[Sc γ]{b m:Nat}{f:α->γ}(i:Nat)(j:B E w V)(hi:V[i]? =O (bx e b x))(a:Fd m f)(h:nT P T aK 1)(k:RL P n ops c (fo U d<|Sc.toV<|f x) w Q)(hg:Wn ops U g:=by first|exact trivial|exact⟨_,rfl,rfl⟩|exact⟨_,rfl,Gk.gt ‹_›⟩)(hd:Nat.blt d n=true:=by exact rfl)(hx:ev U q = .pointer (O ⟨b,m,aQ⟩):=by exact rfl):RL P n ops (⟨O d, .load T q,ty,A,D,g⟩::c) U w Q:=by
 refine em (hg:=hg) (hd:=hd) (hx:=hx) (f:=f) _ j hi a h λv a=>?_;rw[a.CZ (i:=0) rfl];exact k
def p{b o j m:Nat}(hx:ev U q = .pointer (O ⟨b,o,aQ⟩))(a:oG P T j m)(k:RL P n ops c (fo U d<|.pointer<|O ⟨b,o+m,aQ⟩) w Q)(hg:Wn ops U g:=by first|exact trivial|exact⟨_,rfl,rfl⟩|exact⟨_,rfl,Gk.gt ‹_›⟩)(hd:Nat.blt d n=true:=by exact rfl):RL P n ops (⟨O d, .fieldAddr T q j,ty,A,D,g⟩::c) U w Q:=by
 refine jp hg hd ?_ k;simp only[execOp,hx,bQ,a.run,bY,cB,Addr.add_lit]
def eh(i:Nat)(v:F)(a:B E w V)(hi:V[i]? =O (Y v x))(k:∀b w',B E w' (bx T b x::V)->RL P n ops c (fo U d<|.pointer<|O ⟨b,0,aQ⟩) w' Q)(hg:Wn ops U g:=by exact trivial)(hd:Nat.blt d n=true:=by exact rfl)(hx:ev U q=v:=by exact rfl):RL P n ops (⟨O d, .box T q,ty,A,D,g⟩::c) U w Q:=by
 obtain⟨e,e,e,e⟩:=a.E6 hi;refine jp (w':=w.alloc<|.cells v.cells T) hg hd ?_<|k w.heap.size _<|a.alloc _ λa a a=>⟨v.cells.toList,?_,G⟩
 ·simp only[execOp,hx,Instr.box,newVar,newRow,newObj,bQ,cB];rfl
 ·exact((a.sat i _ hi).1).cells
def k3(e:bJ)(b k:Nat):HP:=⟨λ_ h=>∃cs:aG F,Z cs=k/\h=Gk.one b (.cells cs.toArray e (0,0)),λ_ h=>h⟩
def f_{m:Nat}(e:B E w V)(a:∃z,(∀w,(zeroValue T).run P w = .ok z w)/\z.cells.size=m)(k:∀b w',B E w' (k3 T b m::V)->RL P n ops c (fo U d<|.pointer<|O ⟨b,0,aQ⟩) w' Q)(hg:Wn ops U g:=by exact trivial)(hd:Nat.blt d n=true:=by exact rfl):RL P n ops (⟨O d, .alloc T,ty,A,D,g⟩::c) U w Q:=by
 obtain⟨z,a,f⟩:=a;refine jp (w':=w.alloc<|.cells z.cells T) hg hd ?_<|k w.heap.size _<|e.alloc _ λ_ _ _=>⟨z.cells.toList,C,G⟩
 simp only[execOp,Instr.alloc,newVar,newRow,newObj,bQ,cB,a,bY];rfl
def r8{m:Nat}{b o:Nat}{a:aY F}(c:∀w,(sizeOf T).run P w = .ok m w)(c:v.cells.size=m)(h1:∀u∈v.cells.toList,u.oneCell'=aA)
  (c:w.heap[b]? =O (.cells a e (0,0))) (d:o+m<=a.size):
  (storeVar T ⟨b,o,aQ⟩ v).run P w = .ok () (w.setRow b (a.toList.take o++v.cells.toList++a.toList.drop (o+m)).toArray):=by
 have:=run_storeCells_at P b o e v.cells.toList 0 a w c H h1
 grind [Array.length_toList,storeVar,bQ,bY,not_true]
def pE{M:fA}{c:Nat->fA}{P':HP}{b:Nat}{f new:aY F}{d:HP}(a:ip E w M c V)(hi:V[i]? =O d)(hh:c i=Gk.one b (.cells f e (0,0)))
  (c:P'.ok M (Gk.one b<|.cells new e (0,0))):B E (w.setRow b new) (V.set i P'):=by
 have d:=a.le i b _ (eD hi) (by rw[hh];exact dG b _);refine⟨M,_,a.update (eD hi) (Gk.one b<|.cells new e (0,0)) c rfl rfl rfl (λc d a=>?_) (λc d a=>?_)<|λc a _=>?_⟩
 ·grind [k8,setRow_heap]
 ·obtain⟨rfl,rfl⟩:=k8 a;simp_all[dG]
 ·rw[hh]at a
  grind [setRow_other,dG]
def fv{m b:Nat}(i:Nat)(d:B E w V)(j:Nat)(hj:V[j]? =O (Y v x))(l:nT P T (s.agg α) (s.sz α))(k:∀w',B E w' (V.set i<|bx e b x)->RL P n ops c U w' Q)(hg:Wn ops U g:=by exact trivial)(hx:ev U q = .pointer (O ⟨b,0,aQ⟩):=by exact rfl)(hy:ev U r=v:=by exact rfl)(hi:V[i]? =O (k3 e b m):=by exact rfl)(hm:m=s.sz α:=by exact rfl):RL P n ops (⟨aQ, .store T q r,ty,A,D,g⟩::c) U w Q:=by
 obtain⟨a,a,a⟩:=d;obtain⟨h,t,f⟩:=a.sat i _ hi;have d:=(a.sat j _ hj).1;have o:=a.le i b _ (eD hi) (by rw[f];exact dG b _);have p:v.cells.size=s.sz α:=by rw[<-s.len d.cells];simp
 have u:=r8 (P:=P) (v:=v) (o:=0) l.sz p (s.one d.cells) o (by simp[t,hm]);refine zl (w':=w.setRow b v.cells) hg ?_<|k _<|pE a hi f ⟨v.cells.toList,d.cells,G⟩
 have a:List.drop (s.sz α) h= []:=List.drop_eq_nil_of_le C;simp only[kx,List.take_zero,List.nil_append,a,kY,Array.toArray_toList]at u
 grind [execOp,Instr.storeAt,Instr.sureAddr,bQ,cB,bY]
def Nx{b:Nat}{a:α}(i:Nat)(d:B E w V)(hx:ev U q = .pointer (O ⟨b,0,aQ⟩))(hy:ev U r=v)(hi:V[i]? =O (bx e b a))(j:Nat)(hj:V[j]? =O (Y v x))(l:nT P T (s.agg α) (s.sz α))(k:∀w',B E w' (V.set i<|bx e b x)->RL P n ops c U w' Q)(hg:Wn ops U g:=by exact trivial):RL P n ops (⟨aQ, .store T q r,ty,A,D,g⟩::c) U w Q:=by
 obtain⟨a,a,a⟩:=d;obtain⟨h,d,f⟩:=a.sat i _ hi;have p:=s.len d;have d:=(a.sat j _ hj).1;have m:=a.le i b _ (eD hi) (by rw[f];exact dG b _);have o:v.cells.size=s.sz α:=by rw[<-s.len d.cells];simp
 have t:=r8 (P:=P) (v:=v) (o:=0) l.sz o (s.one d.cells) m (by simp[p]);refine zl (w':=w.setRow b v.cells) hg ?_<|k _<|pE a hi f ⟨v.cells.toList,d.cells,G⟩
 have a:List.drop (s.sz α) h= []:=List.drop_eq_nil_of_le C;simp only[kx,List.take_zero,List.nil_append,a,kY,Array.toArray_toList]at t
 grind [execOp,Instr.storeAt,Instr.sureAddr,bQ,cB,bY]
def wn{b m:Nat}{y:β}{f:α->β->α}(i:Nat)(d:B E w V)(hi:V[i]? =O (bx e b x))(j:Nat)(hj:V[j]? =O (Y v y))(t:Fs m β f)(u:nT P T (s.agg β) (s.sz β))(k:∀w',B E w' (V.set i<|bx e b<|f x y)->RL P n ops c U w' Q)(hg:Wn ops U g:=by exact trivial)(hx:ev U q = .pointer (O ⟨b,m,aQ⟩):=by exact rfl)(hy:ev U r=v:=by exact rfl)(hm:m+s.sz β<=s.sz α:=by decide):
  RL P n ops (⟨aQ, .store T q r,ty,A,D,g⟩::c) U w Q:=by
 obtain⟨p,a,a⟩:=d;obtain⟨d,o,l⟩:=a.sat i _ hi;have F:=s.len o;have h:=(a.sat j _ hj).1;have z:=a.le i b _ (eD hi) (by rw[l];exact dG b _);have C:v.cells.size=s.sz β:=by rw[<-s.len h.cells];simp
 have G:=r8 (P:=P) (v:=v) (o:=m) u.sz C (s.one h.cells) z (by simp[F,hm]);refine zl hg ?_<|k _<|pE (new:=(d.take m++v.cells.toList++d.drop (m+s.sz β)).toArray) a hi l ⟨_,t p d v.cells.toList x y o h.cells,rfl⟩
 grind [execOp,Instr.storeAt,Instr.sureAddr,bQ,cB,bY]
end
inductive Fl (S R:Type)where
 |nx (s:S)
 |br (s:S)
 |rt (r:R)
inductive Fo (S R:Type)where
 |go (s:S)
 |rt (r:R)
section
variable {S R:Type}
def Ng(body:Nat->S->aP (Fl S R)):Nat->Nat->S->aP (Fo S R)
 | 0,_,s=>O (.go s)
 |m+1,k,s=>D (body k s) λ
  | .nx a=>Ng body m (k+1) a
  | .br a=>O (.go a)
  | .rt r=>O (.rt r)
def sV(m:Nat)(body:Nat->S->aP (Fl S R))(s:S):aP (Fo S R):=if m<=4611686018427387904 then Ng body m 0 s else aQ
def QU(body:Nat->S->aP S):Nat->Nat->S->aP S
 | 0,_,s=>O s
 |m+1,k,s=>D (body k s) λa=>QU body m (k+1) a
def lT(m:Nat)(body:Nat->S->aP S)(s:S):aP S:=if m<=4611686018427387904 then QU body m 0 s else aQ
def gh(body:S->aP (Fl S R)):Nat->S->aP (Fo S R)
 | 0,_=>aQ
 |N+1,s=>D (body s) λ
  | .nx a=>gh body N a
  | .br a=>O (.go a)
  | .rt r=>O (.rt r)
def bd{α β:Type}{o:aP α}{f:α->aP β}{r:β}(h:D o f=O r):∃x,o=O x/\f x=O r:=by
 cases o with
 |none=>cases h
 |some x=>grind
end
section
variable {S R:Type}{P:bG}{n:Nat}{U:Nat->F}{w:aT}{Q:jl}{c x y:Code}{b0:Nat}
def Y7(b0:Nat)(J:S->(Nat->F)->aT->Prop)(K:R->(Nat->F)->aT->Prop):Fo S R->jl
 | .go s=>λa U w=>a = .exit b0/\J s U w
 | .rt r=>λa U w=>a = .ret/\K r U w
def UH(I:Nat->S->(Nat->F)->aT->Prop)(b0:Nat)(J:S->(Nat->F)->aT->Prop)(K:R->(Nat->F)->aT->Prop)(k:Nat):Fl S R->jl
 | .nx s=>λa U w=>a = .normal/\I (k+1) s U w
 | .br s=>λa U w=>a = .exit b0/\J s U w
 | .rt r=>λa U w=>a = .ret/\K r U w
def Nh(I:S->(Nat->F)->aT->Prop)(b0:Nat)(J:S->(Nat->F)->aT->Prop)(K:R->(Nat->F)->aT->Prop):Fl S R->jl
 | .nx s=>λa U w=>a = .normal/\I s U w
 | .br s=>λa U w=>a = .exit b0/\J s U w
 | .rt r=>λa U w=>a = .ret/\K r U w
def UI{a:Act}{Q:Exit->Act->aT->Prop}(I:Nat->Act->aT->Prop){m:Nat}(o:I m a w)
  (q:∀m a w,I m a w->c.wp P (Exit.then (λe h=>∃j,j<m/\I j e h) Q) a w):(Code.loop c).wp P Q a w:=by
 intro k n l;have t:∀m a w,I m a w->∃g e h,Q g e h/\Arrives P (lone (k.at a<|.code c:: .inLoop c::n) l w) k n l g e h:=by
  intro m
  induction m using Nat.strongRecOn with
  |_ m s=>
   intro a w p;obtain⟨g,f,i,d,b⟩:=q m a w p k (.inLoop c::n) l
   cases g with
   |normal=>
    obtain⟨j,q,n⟩:=d;obtain⟨l,k,u,r,p⟩:=s j q f i n;exact⟨l,k,u,r, .of_steps (Steps.trans b<|.one step_inLoop) p⟩
   |exit id=>exact⟨_,f,i,d, .pass (x:= .inLoop c) rfl (λ_ _=> .inl G) b⟩
   |goto j=>exact⟨_,f,i,d, .pass (x:= .inLoop c) rfl (λ_ _=> .inl G) b⟩
   |ret=>exact⟨_,f,i,d, .pass (x:= .inLoop c) rfl (λ_ _=> .inl G) b⟩
   |panic j=>exact⟨_,f,i,d, .pass (x:= .inLoop c) rfl (λ_ _=> .inl G) b⟩
   |outgrown=>exact⟨_,f,i,d, .pass (x:= .inLoop c) rfl (λ_ _=> .inl G) b⟩
 obtain⟨g,e,h,d,b⟩:=t _ a w o;exact⟨g,e,h,d, .of_steps (.one step_loop) b⟩
def NE(I:Nat->(Nat->F)->aT->Prop){m:Nat}(f:I m U w)
  (h:∀m U w,I m U w->RC P n c U w (λb a e=>(b = .normal/\∃d,d<m/\I d a e)\/(b≠ .normal/\Q b a e))):RC P n (.loop c) U w Q:=by
 intro b g;refine UI (λm b w=>∃U,Sl n U b/\I m U w) ⟨U,g,f⟩ ?_;rintro m b w⟨U,g,f⟩;refine wp_mono (h m U w f b g) λf b e⟨a,b,e⟩=>?_
 rcases e with⟨rfl,d,g,e⟩|⟨h,h⟩
 ·exact⟨d,g,a,b,e⟩
 ·cases f with
  |normal=>grind
  |_=>exact⟨a,b,h⟩
def UO(I:Nat->S->(Nat->F)->aT->Prop)(J:S->(Nat->F)->aT->Prop)(K:R->(Nat->F)->aT->Prop)
  {body:Nat->S->aP (Fl S R)} {m:Nat} {h:S} {f:Fo S R} (e:sV m body h=O f) (v:I 0 h U w)
  (L:m<=4611686018427387904->∀s U w,I m s U w->RC P n c U w (Y7 (R:=R) b0 J K<|.go s))
  (E:m<=4611686018427387904->∀k s b U w,k<m->I k s U w->body k s=O b->RC P n c U w (UH I b0 J K k b))
  (D:∀r U w,f = .rt r->K r U w->Q .ret U w) (M:∀s U w,f = .go s->J s U w->Q .normal U w):RC P n (.block b0<|.loop c) U w Q:=by
 unfold sV at e;split at e
 ·rename_i j;refine dt<|NE (λg U w=>(∃k s,k+g=m+1/\k<=m/\I k s U w/\Ng body (m - k) k s=O f)) (m:=m+1) ⟨0,h,C,C,v,e⟩ ?_
  rintro g U w⟨k,s,N,T,i,a⟩
  by_cases t:k<m
  ·obtain⟨l,B⟩:∃l,m - k=l+1:=⟨m - k - 1,C⟩;rw[B]at a;obtain⟨b,A,a⟩:=bd a;refine RC.mono (E j k s b U w t i A) λu q p d=>?_
   cases b with
   |nx o=>
    obtain⟨rfl,x⟩:=d;exact .inl ⟨rfl,g - 1,C,k+1,o,C,C,x,H⟩
   |br o=>
    obtain⟨rfl,y⟩:=d
    grind [Gh]
   |rt r=>
    obtain⟨rfl,z⟩:=d;injection a with a
    exact .inr ⟨G,D r q p a.symm z⟩
  ·obtain rfl:k=m:=C
   rw[Nat.sub_self]at a;injection a with a
   refine RC.mono (L j s U w i) λu q p d=>?_;obtain⟨rfl,y⟩:=d
   grind [Gh]
 ·cases e
theorem Mk{body:Nat->S->aP S}:∀(m k:Nat)(s b:S),QU body m k s=O b->Ng (R:=Empty) (λk s=>(body k s).map Fl.nx) m k s=O (.go b)
 | 0,_,s,b,a=>by injection a with a;subst a;rfl
 |m+1,k,s,b,a=>by
  obtain⟨e,c,d⟩:=bd a;unfold Ng;simp only[c,Option.map_some,Option.bind_some];exact Mk m (k+1) e b d
def K2(I:Nat->S->(Nat->F)->aT->Prop)(J:S->(Nat->F)->aT->Prop)
  {body:Nat->S->aP S} {m:Nat} {i g:S} (x:lT m body i=O g) (l:I 0 i U w)
  (r:m<=4611686018427387904->∀s U w,I m s U w->RC P n c U w (λd U w=>d = .exit b0/\J s U w))
  (q:m<=4611686018427387904->∀k s b U w,k<m->I k s U w->body k s=O b->RC P n c U w (λd U w=>d = .normal/\I (k+1) b U w))
  (y:∀U w,J g U w->Q .normal U w):RC P n (.block b0<|.loop c) U w Q:=by
 have o:sV (R:=Empty) m (λk s=>(body k s).map Fl.nx) i=O (.go g):=by
  grind [lT,sV,Mk]
 refine UO I J (λh _ _=>h.elim) o l (λf s U w e=>r f s U w e) (λf k s u U w p e a=>?_) (λh _ _ _ _=>h.elim)<|λs U w t v=>?_
 ·cases j:body k s with
  |none=>grind
  |some b=>
   rw[j]at a;injection a with a
   subst a;exact q f k s b U w p e j
 grind
def zq(I:S->(Nat->F)->aT->Prop)(J:S->(Nat->F)->aT->Prop)(K:R->(Nat->F)->aT->Prop)
  {body:S->aP (Fl S R)} {N:Nat} {g:S} {e:Fo S R} (k:gh body N g=O e) (h:I g U w)
  (p:∀s b U w,I s U w->body s=O b->RC P n c U w (Nh I b0 J K b))
  (m:∀r U w,e = .rt r->K r U w->Q .ret U w) (y:∀s U w,e = .go s->J s U w->Q .normal U w):RC P n (.block b0<|.loop c) U w Q:=by
 refine dt<|NE (λd U w=>∃s,I s U w/\gh body d s=O e) (m:=N) ⟨g,h,k⟩ ?_
 rintro d U w⟨s,i,a⟩
 cases d with
 |zero=>cases a
 |succ d=>
  obtain⟨b,l,a⟩:=bd a;refine RC.mono (p s b U w i l) λu t q f=>?_
  cases b with
  |nx o=>obtain⟨rfl,v⟩:=f;grind
  |br o=>
   obtain⟨rfl,x⟩:=f
   grind [Gh]
  |rt r=>
   obtain⟨rfl,j⟩:=f;injection a with a
   exact .inr ⟨G,m r t q a.symm j⟩
theorem fG{x:Int}(h1: -9223372036854775808<=x)(h2:x<9223372036854775808):IntKind.i64.wrap x=x:=by
 have a:(2:Int) ^ (IntKind.i64.bits)=18446744073709551616:=I
 have a:(2:Int) ^ (IntKind.i64.bits - 1)=9223372036854775808:=I
 have a:IntKind.i64.signed=true:=I
 grind [wrap]
theorem Td{k m:Nat}(h:k<m)(hm:m<=4611686018427387904):IntKind.i64.wrap ((k:Int)+1)=((k+1:Nat):Int):=by
 grind [fG]
end
section
variable {α β:Type}[s α][s β]{M:fA}
def g_.nil:g_ M [] ([]:aG α):=⟨G,λa a a=>by simp at a⟩
def g_.append{xs ys:aG F}{l a:aG α}(h:g_ M xs l)(c:g_ M ys a):g_ M (xs++ys) (l++a):=by
 refine⟨by rw[cK,cK,h.1,c.1,Nat.add_mul],λa e b=>?_⟩
 by_cases d:a<Z l
 ·rw[my d]at b;have f:a*s.sz α+s.sz α<=Z xs:=by
   rw[h.1]
   calc a*s.sz α+s.sz α=(a+1)*s.sz α:=by rw[Nat.add_mul,Nat.one_mul]
    _<=Z l*s.sz α:=Nat.mul_le_mul_right _ d
  rw[List.drop_append_of_le_length C,List.take_append_of_le_length H];exact h.2 a e b
 ·rw[ly C]at b;have:=c.2 _ e b;obtain⟨b,rfl⟩:∃b,a=Z l+b:=⟨a - Z l,C⟩;rw[Nat.add_sub_cancel_left]at this;rw[Nat.add_mul,<-h.1,List.drop_length_add_append];exact this
def g_.one{cs:aG F}{x:α}(h:s.ok M cs x):g_ M cs [x]:=
 ⟨by grind [s.len],λa b b=>by
  cases a with
  |zero=>grind [nR,s.len]
  |succ a=>simp at b⟩
def g_.ac3{xs:aG F}{l:aG α}(h:g_ M xs l):∀u∈xs,u.oneCell'=true:=by
 intro u b;obtain⟨a,c,rfl⟩:=List.getElem_of_mem b;have b:=s.pos (α:=α);have d:a / s.sz α<Z l:=by rw[Nat.div_lt_iff_lt_mul b,<-h.1];exact c
 refine s.one (h.2 (a / s.sz α) l[a / s.sz α]<|aM d) _ ?_;have c:a % s.sz α<s.sz α:=Nat.mod_lt _ b;have b:a / s.sz α*s.sz α+a % s.sz α=a:=by simp[Nat.mul_comm,Nat.div_add_mod]
 refine eR (i:=a % s.sz α) ?_
 grind
def OM{ad:Addr}{m cap:Nat}{l:aG α}(h:vM M (.slice (O ad) m cap) l):∃xs,g_ M xs l/\At M ad xs:=by
 obtain⟨v,E,x,q,D,_,_,n⟩:=h;injection q with i y z
 subst i;have u:∀a,a<=Z l->∃xs,g_ M xs (l.take a)/\At M ad xs:=by
  intro a
  induction a with
  |zero=>exact λ_=>⟨[],by simp[g_.nil],λd e b=>by simp at b⟩
  |succ a t=>
   intro A;obtain⟨xs,f,j⟩:=t C;have r:l[a]? =O l[a]:=aM C;obtain⟨w,g,c,p,k⟩:=n a _ r;injection c with c
   subst c;refine⟨xs++g,?_,λd e b=>?_⟩
   ·rw[dQ C];exact f.append<|g_.one p
   ·have B:Z xs=a*s.sz α:=by rw[f.1,cQ];congr 1;omega
    by_cases o:d<Z xs
    ·rw[my o]at b;exact j d e b
    ·rw[ly C]at b;have:=k _ e b
     grind [p6,s.sz]
 have:=u (Z l)<|du _
 grind
def At.nil(a:Addr):At M a []:=λb b b=>by simp at b
def Gj{g o cap:Nat}{a:aY F}{e:bJ}{fr:Nat×Nat}{xs:aG F}{l:aG α}(b:M g=O (.cells a e fr))(hc:g_ M xs l)(hx:(a.toList.drop o).take (Z l*s.sz α)=xs)
  (hl:Z l<=cap) (hm:cap<=maxLen):vM M (.slice (O ⟨g,o,aQ⟩) (Z l) cap) l:=by
 refine⟨_,_,_,rfl,rfl,hl,hm,λb c a=>⟨_,_,rfl,hc.2 b c a,λa a a=>?_⟩⟩
 grind [Addr.add_lit,Gg,Option.isSome_none,Nat.add_assoc]
end
section
variable {α β:Type}[s α][s β]{P:bG}{E w:aT}{V:aG HP}{i:Nat}{v:F}{l:aG α}{e:bJ}
def cO(e:bJ)(M:fA):HA (α:=α) e M yO (.slice aQ 0 0) []:= .inl ⟨rfl,rfl,rfl⟩
def B.cO(h:B E w V)(α:Type)[s α](e:bJ):B E w (own (α:=α) e (.slice aQ 0 0) []::V):=h.JR λa _ _=>Gk.cO e a
def B.freeze(i:Nat)(h:B E w V)(hi:V[i]? =O (own e v l):=by exact rfl):B E w (V.set i<|Y v l):=by
 obtain⟨c,f,a⟩:=h;have d:=eD hi;have b:=a.sat i _ hi;refine⟨_,_,a.freeze (P':=Y v l) d ⟨sT.2 ?_,rfl⟩⟩
 rcases b with⟨rfl,rfl,_⟩|⟨b,g,g,g,j,rfl,j,k,m,m,m,n⟩
 ·exact⟨aQ,0,0,rfl,rfl,du _,by simp[maxLen],λi o o=>by simp at o⟩
 ·refine Gj (M:=wG c<|f i) (e:=e) (fr:=(0,0)) ?_ (n.mono<|D5 _ _) m j k;have c:f i b=O (.cells g e (0,0)):=by simp_all[dG]
  simp[wG,a.dm i b _ d c,c]
def B.qB(h:B E w V)(hi:V[i]? =O (own e v l)):∃a cap,v = .slice a (Z l) cap:=by
 obtain⟨b,b,b⟩:=h
 rcases b.sat i _ hi with⟨rfl,rfl,_⟩|⟨b,b,cap,b,b,rfl,_⟩
 ·simp
 simp
def UK{M h:fA}(a:HA e M h v l):v.oneCell'=true:=by
 rcases a with⟨rfl,_⟩|⟨a,a,a,a,a,rfl,_⟩ <;> rfl
end
def gx{α:Type}(a:Nat)(l ys:aG α):aP (aG α):=if(Z l+Z ys)*a<=140737488355328 then O (l++ys)else aQ
structure yP (P:bG) (t e:bJ) (k bytes:Nat):Prop where
 Iw:P.underlying t=O (.slice e)
 inf:∃i z,P.info? e=O i/\i.zero=O z/\i.size=k/\i.bytes=bytes/\z.cells.size=k
 pos:0<bytes
section
variable {α:Type}[s α]{P:bG}{E w:aT}{V:aG HP}{i j:Nat}{v vy:F}{l ys l':aG α}{e t ty:bJ}{bytes:Nat}
def HD(i:TypeInfo)(p:P.underlying t=O (.slice e))(hi:P.info? e=O i)
  (g o d h:Nat) (f:aY F) (hg:w.heap[g]? =O (.cells f e (0,0)))
  (a:Addr) (m c:Nat) (b:aG F) (hl:Z b=m*i.size) (l:∀j u,b[j]? =O u->w.cell? (a.add j)=O u) (h1:∀u∈b,u.oneCell'=aA)
  (n:d+m<=h) (k:o+d*i.size+Z b<=f.size):
  (Builtin.append_ #[t,t] ty #[.slice (O ⟨g,o,aQ⟩) d h, .slice (O a) m c]).run P w =
   .ok (.slice (O ⟨g,o,aQ⟩) (d+m) h) (w.setRow g (f.toList.take (o+d*i.size)++b++f.toList.drop (o+d*i.size+Z b)).toArray):=by
 have k:=run_firstCells_some (P:=P) w i.size m a m c b hl l;have h:=run_storeCells_at P g (o+d*i.size) e b 0 f w hg C h1;simp only[Nat.add_zero]at h;simp[Builtin.append_,run_underlying p,sizeOf,typeInfo,hi,Builtin.lenOf,n,k,Addr.add_lit,h]
def Ci(i:TypeInfo)(f:P.underlying t=O (.slice e))(hi:P.info? e=O i)(a:aP Addr)(d b c:Nat)(hc:d<=b):
  (Builtin.append_ #[t,t] ty #[.slice a d b, .slice aQ 0 c]).run P w = .ok (.slice a d b) w:=by
 cases a <;> simp[Builtin.append_,run_underlying f,sizeOf,typeInfo,hi,Builtin.lenOf,Builtin.firstCells,hc,storeCells]
theorem Gl{V:aG HP}{i:Nat}{Pr:HP}(h:V[i]? =O Pr):V.set i Pr=V:=by
 apply List.ext_getElem?
 grind
def WV(hw:B E w V)(hi:V[i]? =O (own e v l))(hj:V[j]? =O (Y vy ys))(x:yP P t e (s.sz α) bytes)(a:gx bytes l ys=O l'):
  ∃v' w',(Builtin.append_ #[t,t] ty #[v,vy]).run P w = .ok v' w'/\B E w' (V.set i<|own e v' l'):=by
 obtain⟨k,Q,D,hz,I,ak,aw⟩:=x.inf;unfold gx at a;split at a
 case isFalse=>cases a
 rename_i ag;injection a with a
 subst a;obtain⟨A,hs,u⟩:=hw;have af:=eD hi;have ho:=u.sat i _ hi;have aD:Z l+Z ys<=140737488355328:=nS (Nat.le_mul_of_pos_right _ x.pos) ag;obtain⟨R,f,z,av,m,aq,an,ae⟩:=sT.1 (u.sat j _ hj).1;subst av;have am:(ys= []/\R=aQ)\/∃h b,R=O h/\g_ A b ys/\At A h b:=by
  cases R with
  |none=>
   left;refine⟨?_,rfl⟩
   cases ys with
   |nil=>rfl
   |cons ax aE=>obtain⟨h,cs,ai,_⟩:=ae 0 ax rfl;cases ai
  |some h=>
   right;obtain⟨q,h1,S⟩:=OM (l:=ys) (ad:=h) (m:=f) (cap:=z) ⟨_,_,_,rfl,m,aq,an,ae⟩
   grind
 rcases am with⟨rfl,rfl⟩|⟨h,b,rfl,M,aj⟩
 ·
  simp only[List.length_nil]at m;subst m;rw[kY];have r7:V.set i (own e v l)=V:=Gl hi;refine⟨v,w,?_,by rw[r7];exact⟨A,hs,u⟩⟩
  rcases ho with⟨rfl,rfl,_⟩|⟨d,g,n,r,q,rfl,S,h3,T,h5,U,L⟩
  ·exact Ci k x.Iw D aQ 0 0 z<|du _
  ·exact Ci k x.Iw D _ _ n z S
 ·have aa:∀j p,b[j]? =O p->w.cell? (h.add j)=O p:=λj p o=>CY u.im<|aj j p o
  have J:Z b=f*k.size:=by rw[M.1,m,I]
  have h1:=M.ac3;have ab:∀(K:aG F)(c:Nat),g_ A K l->c=Z l+f->∀(y:Nat),
    B E (w.drew.alloc<|.cells (K.toArray++b.toArray++Builtin.zeroCells Q.cells (grownCap w c y e - c)) e)
     (V.set i<|own e (.slice (O ⟨w.heap.size,0,aQ⟩) c<|grownCap w c y e)<|l++ys):=by
   intro K c ar hN y;have ay:=grownCap_ge w c y e;have ao:grownCap w c y e<=maxLen:=grownCap_le_maxLen w c y e (by grind [maxLen]);have ad:c=Z (l++ys):=by rw[cK,hN,m]
   have W:=ar.append M;refine⟨A,_,u.update (w':=w.drew.alloc _) af (Gk.one w.heap.size<|.cells (K.toArray++b.toArray++Builtin.zeroCells Q.cells (grownCap w c y e - c)) e (0,0)) (.inr ⟨w.heap.size,0,grownCap w c y e,_,K++b,by rw[<-ad],C,ao,rfl,?_,?_,W⟩) rfl rfl rfl (λd o' a=>?_) (λd o' a=>?_)<|λd _ a=>?_⟩
   ·simp only[Array.size_append,List.size_toArray,size_zeroCells,aw,kx];refine Nat.le_of_eq<|Eq.symm ?_
    rw[<-cK,W.1,<-ad,<-Nat.add_mul];congr 1;omega
   ·simp only[Array.toList_append,List.drop_zero];rw[<-W.1];exact List.take_left
   ·obtain⟨rfl,rfl⟩:=k8 a;exact heap_alloc_new w.drew _
   ·obtain⟨rfl,rfl⟩:=k8 a;exact .inr<|du _
   ·exact zn w.drew _ d a
  rcases ho with⟨rfl,rfl,_⟩|⟨d,g,n,r,q,rfl,S,h3,T,h5,U,L⟩
  ·by_cases ap:f=0
   ·subst ap;have hy:ys= []:=List.eq_nil_of_length_eq_zero m.symm;subst hy;have r7:V.set i (own e (.slice aQ 0 0) ([]:aG α))=V:=Gl hi;refine⟨.slice aQ 0 0,w,?_,by rw[kY,r7];exact⟨A,hs,u⟩⟩;have hf:=run_firstCells_some (P:=P) w k.size 0 h 0 z [] G (λj p o=>by simp at o);simp[Builtin.append_,run_underlying x.Iw,sizeOf,typeInfo,D,Builtin.lenOf,hf]
   ·have N:=run_append_nil (P:=P) w t ty e k Q x.Iw D hz h f z b J aa C C H;have:=ab [] f g_.nil G 0
    grind
  ·have a:=u.le i d _ af (by rw[T];exact dG d _);have ah:Z q=Z l*s.sz α:=L.1
   by_cases X:Z l+f<=n
   ·have al:(Z l+f)*s.sz α<=n*s.sz α:=Nat.mul_le_mul_right _ X;rw[Nat.add_mul]at al;have N:=HD (P:=P) (ty:=ty) k x.Iw D d g (Z l) n r a h f z b J aa h1 X H;refine⟨_,_,N,?_⟩;have:=pE (P':=own e (.slice (O ⟨d,g,aQ⟩) (Z l+f) n)<|l++ys) (new:=(r.toList.take (g+Z l*k.size)++b++r.toList.drop (g+Z l*k.size+Z b)).toArray) u hi T
     (.inr ⟨d,g,n,_,q++b,by rw[cK,m],by rw[cK,<-m];exact X,h3,rfl,?_,?_,L.append M⟩)
    ·exact this
    ·simp only[List.size_toArray,cK,cQ,iz,Array.length_toList,J,I];omega
    ·rw[cK,Nat.add_mul,<-m];have e1:Z (r.toList.take<|g+Z l*k.size)=g+Z l*s.sz α:=by
      have e0:Z r.toList=r.size:=rfl;rw[cQ,e0,I];omega
     have e2:(r.toList.take<|g+Z l*k.size).drop g=q:=by
      rw[I,List.drop_take,Nat.add_sub_cancel_left];exact U
     simp only[eM];rw[List.drop_append_of_le_length C,e2,<-eM];have:Z l*s.sz α+f*s.sz α=Z (q++b):=by rw[cK,ah,J,I]
     rw[this];exact List.take_left
   ·have au:∀j p,q[j]? =O p->w.cell? ((⟨d,g,aQ⟩:Addr).add j)=O p:=λj p o=>by
     rw[Addr.add_lit,cell_of_row w d _ _ _ _ a,<-Array.getElem?_toList];rw[<-U,kC]at o;split at o
     ·rw[nb]at o;exact o
     ·cases o
    have N:=run_append_grow (P:=P) w t ty e k Q x.Iw D hz ⟨d,g,aQ⟩ (Z l) n q (by rw[ah,I]) au h f z b J aa C C
     (growslice_fits C (by rw[ak];rw[m];exact ag))
    exact⟨_,_,N,ab q _ L rfl n⟩
end
section
variable {α:Type}[s α]{P:bG}{n:Nat}{U:Nat->F}{w:aT}{Q:jl}{E:aT}{V:aG HP}{i j:Nat}
variable {ops:aY bC}{b:aG bC}{d:Nat}{ty t e:bJ}{c:String}{f:aY Edge}{g:aP (Nat×Bool)}{v vy:F}{q r:bB}
variable {x:α}{l ys l':aG α}{bytes:Nat}
def j0(i j:Nat)(o:B E w V)(h:yP P t e (s.sz α) bytes)(m:Gk.gx bytes l ys=O l')(k:∀a w',B E w' (V.set i<|own e a l')->RL P n ops b (fo U d a) w' Q)(hg:Wn ops U g:=by exact trivial)(hd:Nat.blt d n=true:=by exact rfl)(hx:ev U q=v:=by exact rfl)(hy:ev U r=vy:=by exact rfl)(hi:V[i]? =O (own e v l):=by exact rfl)(hj:V[j]? =O (Y vy ys):=by exact rfl):
  RL P n ops (⟨O d, .call ⟨.builtin .append,#[q,r],#[t,t]⟩,ty,c,f,g⟩::b) U w Q:=by
 obtain⟨a,w',p,p⟩:=WV (P:=P) (ty:=ty) o hi hj h m;refine jp hg hd ?_<|k a w' p
 grind [execOp,resolve,invoke,builtin,bQ,cB,bY]
def IS(i:Nat)(l:aG α)(a:B E w V)(h:P.underlying t=O (.slice e))(k:RL P n ops b (fo U d<|.int .i64 (Z l:Nat)) w Q)(hg:Wn ops U g:=by first|exact trivial|exact⟨_,rfl,rfl⟩|exact⟨_,rfl,Gk.gt ‹_›⟩)(hd:Nat.blt d n=true:=by exact rfl)(hx:ev U q=v:=by exact rfl)(hi:V[i]? =O (Y v l):=by exact rfl):RL P n ops (⟨O d, .call ⟨.builtin .len,#[q],#[t]⟩,ty,c,f,g⟩::b) U w Q:=by
 obtain⟨h,h,rfl⟩:=a.slice hi
 grind [AB]
theorem lc{a:bJ}(hg:Wn ops U g)(hd:Nat.blt d n=aA)(h:B E w V)(hx:ev U q=v)(hi:V[i]? =O (own a v l))(a:P.underlying t=O (.slice e))
  (k:RL P n ops b (fo U d<|.int .i64 (Z l:Nat)) w Q):RL P n ops (⟨O d, .call ⟨.builtin .len,#[q],#[t]⟩,ty,c,f,g⟩::b) U w Q:=by
 obtain⟨a,a,rfl⟩:=h.qB hi
 grind [AB]
end
def cC(M:fA)(d:Nat->aP (Nat×Nat)){α:Type}[s α](b:aY F)(c:aG (Nat×F))(y:α):Prop:=
 ∃a,Instr.fill d b c=O a/\s.ok M a.toList y
section
variable {α β:Type}[s α][s β]{M:fA}{d:Nat->aP (Nat×Nat)}{b:aY F}{parts:aG (Nat×F)}{x y:α}{v:F}{z:β}
def cC.nil(h:s.ok M b.toList x):cC M d b [] x:=⟨b,rfl,h⟩
def QV(a:aG F):∀(b:aY F)(o:Nat),o+Z a<=b.size->
  ((a.toArray.zipIdx).foldl (λd(c,e)=>d.setIfInBounds (o+e) c) b).toList=b.toList.take o++a++b.toList.drop (o+Z a):=by
 intro b o e;have c:∀(a:aG F)(c:Nat)(b:aY F),o+c+Z a<=b.size->
   ((a.zipIdx c).foldl (λd(f:F×Nat)=>d.setIfInBounds (o+f.2) f.1) b).toList=b.toList.take (o+c)++a++b.toList.drop (o+c+Z a):=by
  intro a
  induction a with
  |nil=>intro c b _;simp
  |cons f a d=>
   intro c b e;simp only[eK]at e;rw[List.zipIdx_cons,List.foldl_cons,d (c+1) _ (by simp;omega)];simp only[Array.toList_setIfInBounds,eK];have a:o+c<Z b.toList:=by simp;omega
   rw[show o+(c+1)=(o+c)+1 by omega,dQ H,List.take_set_of_le<|du _,List.drop_set_of_lt C];simp only[List.getElem_set_self,eM,List.cons_append,List.nil_append];congr 4;omega
 grind
def cC.cons{i m:Nat}{f:α->β->α}(hx:s.ok M b.toList x)(l:Fs m β f)(e:E6 M v z)(h:∀c,s.ok M c.toList (f x z)->cC M d c parts y)(a:d i=O (m,s.sz β):=by exact rfl)(hm:m+s.sz β<=s.sz α:=by decide):cC M d b ((i,v)::parts) y:=by
 have g:v.cells.size=s.sz β:=by rw[<-s.len e.cells];simp
 have a:b.size=s.sz α:=by rw[<-s.len hx];simp
 have a:=QV v.cells.toList b m H;simp only[Array.toArray_toList,Array.length_toList,g]at a;obtain⟨g,j,k⟩:=h (v.cells.zipIdx.foldl (λj(c,n)=>j.setIfInBounds (m+n) c) b) (by rw[a];exact l M _ _ x z hx e.cells);refine⟨g,?_,k⟩
 grind [Instr.fill]
end
structure zU (P:bG) (T:bJ) (places:aG (Nat×Nat)) (z:aY F):Prop where
 run:∀parts w,(Instr.build T parts).run P w=match Instr.fill (places.toArray[·]?) z parts.toList with|some cs=> .ok (.agg cs) w|none=> .halt (.stuck "build: no such field, or a part of the wrong size") w
section
variable {α:Type}[s α]{P:bG}{n:Nat}{U:Nat->F}{w:aT}{Q:jl}{E:aT}{V:aG HP}{i j:Nat}
variable {ops:aY bC}{rest:aG bC}{d:Nat}{T ty t e:bJ}{pos:String}{af:aY Edge}{g:aP (Nat×Bool)}{v vy:F}{q r:bB}
variable {y:α}{l:aG α}{bytes:Nat}
def lw{b:aY (Nat×bB)}{e:aG (Nat×Nat)}{z:aY F}(y:α)(hg:Wn ops U g)(hd:Nat.blt d n=aA)(h:B E w V)(c:aG (Nat×F))(hvs:b.toList.map (λa=>(a.1,ev U a.2))=c)(j:zU P T e z)(l:s.agg α=aA)(m:∀M a,ip E w M a V->cC M (e.toArray[·]?) z c y)(k:∀v,B E w (Y v y::V)->RL P n ops rest (fo U d v) w Q):RL P n ops (⟨O d, .build T b,ty,pos,af,g⟩::rest) U w Q:=by
 obtain⟨M,a,f⟩:=h;obtain⟨e,h,h⟩:=m M a f;have a:b.map (λ(i,b)=>(i,ev U b))=c.toArray:=H
 refine jp (v:= .agg e) hg hd ?_<|k _ ⟨M,_,f.iX ⟨⟨e.toList,by simp[CU,l],h⟩,rfl⟩⟩
 simp only[execOp,bQ];rw[a,j.run]
 simp_all
end
def v8:aG (Nat×F)->(Nat->F)->Nat->F
 | [],a=>a
 |(d,v)::l,a=>fo (v8 l a) d v
def d8(U:Nat->F):aG (Nat×F)->Prop
 | []=>True
 |(d,v)::l=>U d=v/\d8 U l
def d8.v8{U:Nat->F}{l:aG (Nat×F)}(h:d8 U l):∃a,U=Gk.v8 l a:=by
 refine⟨U,?_⟩
 induction l with
 |nil=>rfl
 |cons a l c=>
  obtain⟨b,d⟩:=a;obtain⟨a,a⟩:=h;have:=c a;funext a;show U a=fo (Gk.v8 l U) b d a;unfold fo
  cases c:Nat.beq a b with
  |true=>grind [iJ]
  |false=>rw[<-this];rfl
def A{α:Type}(l:aG α)(i:Int):aP α:=if 0<=i then l[i.toNat]? else aQ
def Ni(s:cU)(i:Int):aP UInt8:=if 0<=i then s.eI[i.toNat]? else aQ
def Fo.cs{S R β:Type}(o:Fo S R)(f:S->β)(g:R->β):β:=match o with| .go s=>f s| .rt r=>g r
section
variable {P:bG}{n:Nat}{U:Nat->F}{w:aT}{Q:jl}{x y c:Code}{S:Type}
def dz(J:S->(Nat->F)->aT->Prop)(s:S)(hx:RC P n x U w (λa U w=>a = .normal/\J s U w))(hy:∀U w,J s U w->Q .normal U w):RC P n x U w Q:=
 by grind [RC.mono]
def WW{i:Nat}(h:Q (.exit i) U w):tU P n y Q (.exit i) U w:=h
def dx(h:Q .ret U w):tU P n y Q .ret U w:=h
def Y8{i id:Nat}(a:i≠id)(h:Q (.exit i) U w):Gh id Q (.exit i) U w:=by grind [Gh]
def qg{id:Nat}(h:Q .ret U w):Gh id Q .ret U w:=h
end
section
variable {α β:Type}[s α][s β]{P:bG}{E w:aT}{V:aG HP}{i:Nat}{v:F}{x:α}
def B.qL(h:B E w V)(α:Type)[s α]:B E w (Y (.slice aQ 0 0) ([]:aG α)::V):=
 h.JR λ_ _ _=>⟨sT.2 ⟨aQ,0,0,rfl,rfl,du _,by simp[maxLen],λi x a=>by simp at a⟩,rfl⟩
def B.fw{e:bJ}{b:Nat}(h:B E w V)(hi:V[i]? =O (bx e b x)):B E w (V.set i<|pt (.pointer<|O ⟨b,0,aQ⟩) x):=by
 obtain⟨a,j,a⟩:=h;have f:=eD hi;obtain⟨c,g,d⟩:=a.sat i _ hi;have d:j i b=O (.cells c.toArray e (0,0)):=by simp_all[dG]
 refine⟨_,_,a.freeze (P':=pt _ x) f ⟨⟨⟨b,0,aQ⟩,c,rfl,s.mono (D5 _ _) g,λc c c=>?_⟩,rfl⟩⟩;rw[Addr.add_lit];simp only[Gg,wG,a.dm i b _ f d,d]
 grind
def Fd.comp{γ:Type}[s γ]{k a:Nat}{f:α->β}(b:β->γ)(h:Fd k f)(c:Fd a b)(d:a+s.sz γ<=s.sz β:=by decide):Fd (k+a) (λx=>b<|f x):=by
 intro a b x d;have e:=c a _ _<|h a b x d
 grind [List.drop_take,List.drop_drop,Nat.min_eq_left]
end
section
variable {α β:Type}[s α][s β]{P:bG}{n:Nat}{U:Nat->F}{w:aT}{Q:jl}{E:aT}{V:aG HP}{i j:Nat}
variable {ops:aY bC}{c:aG bC}{d:Nat}{ty t e T:bJ}{pos:String}{af:aY Edge}{g:aP (Nat×Bool)}{v vy:F}{q r:bB}
variable {x:α}
def ON{a:Func}{R:F->aT->Prop}{c b:Nat}(i:Nat)(d:B E w V)(g:nT P T (s.agg α) (s.sz α))(h:∀v,B E w (Y v x::V)->R v w)(hr:a.results = #[.cell c T]:=by exact rfl)(m:U c = .pointer (O ⟨b,0,aQ⟩):=by exact rfl)(hi:V[i]? =O (bx e b x):=by exact rfl):j3 P n a R .ret U w:=by
 obtain⟨f,a,c⟩:=d;obtain⟨a,d,k⟩:=c.sat i _ hi;have l:=c.le i b _ (eD hi) (by rw[k];exact dG b _);refine⟨CU α a,λk k=>?_,h _ ⟨f,_,c.iX ⟨⟨a,rfl,d⟩,rfl⟩⟩⟩;have c:(loadVar T ⟨b,0,aQ⟩).run P w = .ok (CU α a) w:=rA g d λj a a=>by
  rw[Addr.add_lit,cell_of_row w b _ _ _ _ l];grind
 simp[results,hr,k.get,m,asAddr,c]
def E7{a:Func}{R:F->aT->Prop}{c u b:Nat}{d:F}(i:Nat)(k:B E w V)(g:nT P T (s.agg α) (s.sz α))(h:∀v,B E w (Y v x::V)->R (.tuple #[v,d]) w)(hr:a.results = #[.cell c T, .tmp u]:=by exact rfl)(m:U c = .pointer (O ⟨b,0,aQ⟩):=by exact rfl)(hi:V[i]? =O (bx e b x):=by exact rfl)(o:U u=d:=by exact rfl):j3 P n a R .ret U w:=by
 obtain⟨f,a,a⟩:=k;obtain⟨c,d,k⟩:=a.sat i _ hi;have l:=a.le i b _ (eD hi) (by rw[k];exact dG b _);refine⟨_,λk k=>?_,h _ ⟨f,_,a.iX ⟨⟨c,rfl,d⟩,rfl⟩⟩⟩;have a:(loadVar T ⟨b,0,aQ⟩).run P w = .ok (CU α c) w:=rA g d λj u c=>by
  rw[Addr.add_lit,cell_of_row w b _ _ _ _ l];grind
 simp[results,hr,k.get,m,o,asAddr,a]
def OO{b m:Nat}{o:bC}{f:α->β}(a:o.op = .load T q)(a:B E w V)(hx:ev U q = .pointer (O ⟨b,m,aQ⟩))(hi:V[i]? =O (bx e b x))(h:Fd m f)(k:nT P T (s.agg β) (s.sz β)):
  ∃v,(execOp (ev U) o).run P w = .ok (.value v) w/\B E w (Y v (f x)::V):=by
 obtain⟨d,c,c⟩:=a;obtain⟨a,n,g⟩:=c.sat i _ hi;have l:=c.le i b _ (eD hi) (by rw[g];exact dG b _);have g:=h d a x n;refine⟨CU β<|(a.drop m).take<|s.sz β,?_,⟨d,_,c.iX ⟨⟨_,rfl,g⟩,rfl⟩⟩⟩;have c:(loadVar T ⟨b,m,aQ⟩).run P w = .ok (CU β<|(a.drop m).take<|s.sz β) w:=rA k g λj a a=>by
  rw[Addr.add_lit,cell_of_row w b _ _ _ _ l]
  grind
 grind [execOp,Instr.loadAt,Instr.sureAddr,bQ,cB,bY]
def bO{γ:Type}[Sc γ]{b m:Nat}{o:bC}{f:α->γ}{C:Bool}(i:Nat)(j:o.op = .load T q)(k:B E w V)(hx:C=aA->ev U q = .pointer (O ⟨b,m,aQ⟩))(hi:V[i]? =O (bx e b x))(g:Fd m f)(h:nT P T aK 1):
  C=aA->(execOp (ev U) o).run P w = .ok (.value<|Sc.toV<|f x) w:=λa=>by
 obtain⟨v,c,d⟩:=OO (f:=f) j k (hx a) hi g h;rw[c,d.CZ (i:=0) rfl]
def cW{b a j m:Nat}{o:bC}{C:Bool}(c:oG P T j m)(d:o.op = .fieldAddr T q j:=by exact rfl)(hx:C=aA->ev U q = .pointer (O ⟨b,a,aQ⟩):=by exact(λ_=>rfl)):
  C=aA->(execOp (ev U) o).run P w = .ok (.value<|.pointer<|O ⟨b,a+m,aQ⟩) w:=λa=>by
 unfold execOp;rw[d];simp only[hx a,bQ,c.run,bY,cB,Addr.add_lit]
def t4{K b:IntKind}(a:Int){s e:bJ}(h:∃f,P.underlying s=O f)(i:P.underlying e=O (.int b))(k:RL P n ops c (fo U d<|.int b<|b.wrap a) w Q)(hg:Wn ops U g:=by exact trivial)(hd:Nat.blt d n=true:=by exact rfl)(hx:ev U q = .int K a:=by exact rfl):RL P n ops (⟨O d, .convert s e q,ty,pos,af,g⟩::c) U w Q:=by
 obtain⟨f,f⟩:=h;refine jp hg hd ?_ k;have:(convert s e<|.int K a).run P w = .ok (.int b<|b.wrap a) w:=by
  unfold convert;simp only[bQ,run_underlying f,run_underlying i,bY];rfl
 grind [execOp,bQ,bY,cB]
def JU{b:aG F}{m:Nat}(s:P.underlying t=O (.slice e))(a:∃z,(∀w,(zeroValue e).run P w = .ok z w)/\z.cells.size=m)(q:∀w,(sizeOf e).run P w = .ok m w)(hm:0<m)
  (c:Z b*m<=16777216) (hvs:∀v∈b,v.cells.size=m) (w:aT):
  (Instr.buildSlice t (Z b) (b.zipIdx.map λg=>(g.2,g.1)).toArray).run P w =
   .ok (.slice (O ⟨w.heap.size,0,aQ⟩) (Z b) (Z b)) (w.alloc<|.cells (b.flatMap λv=>v.cells.toList).toArray e):=by
 obtain⟨z,a,c⟩:=a;have x:∀(d:aG F)(a:Nat)(c:aY F),c.size=(a+Z d)*m->(∀v∈d,v.cells.size=m)->
   ∃f,Instr.fill (λi=>O (i*m,m)) c ((d.zipIdx a).map λg=>(g.2,g.1))=O f/\f.toList=c.toList.take (a*m)++d.flatMap λv=>v.cells.toList:=by
  intro d
  induction d with
  |nil=>intro a c g _;exact⟨c,rfl,by grind [nR]⟩
  |cons k d u=>
   intro a c g n;have h:=n k G;simp only[eK]at g;have o:a*m+m<=c.size:=by
    rw[g,show(a+(Z d+1))=(a+1)+Z d by omega,Nat.add_mul,Nat.add_mul,Nat.one_mul];omega
   have l:=QV k.cells.toList c (a*m) (by simp[h,o]);simp only[Array.toArray_toList,Array.length_toList,h]at l;have r:(k.cells.zipIdx.foldl (λp(o,j)=>p.setIfInBounds (a*m+j) o) c).size=(a+1+Z d)*m:=by
    have:=congrArg List.length l;simp only[Array.length_toList,cK,cQ,iz,h]at this;rw[this,Nat.min_eq_left C];have:(a+1+Z d)*m=c.size:=by rw[g];congr 1;omega
    omega
   obtain⟨f,g,d⟩:=u (a+1) _ r<|λv o=>n v (by simp[o])
   refine⟨f,?_,?_⟩
   ·rw[List.zipIdx_cons,gQ];simp only[Instr.fill];rw[aJ H];exact g
   ·rw[d,l,List.flatMap_cons];have l:Z (c.toList.take (a*m)++k.cells.toList)=(a+1)*m:=by
     rw[cK,cQ,Array.length_toList,Array.length_toList,h,Nat.min_eq_left C,Nat.add_mul,Nat.one_mul]
    rw[<-l,List.take_left,eM]
 have a:(Array.map (λi=>z.cells[i % z.cells.size]!)<|Array.range<|Z b*m).size=(0+Z b)*m:=G
 obtain⟨f,g,d⟩:=x b 0 _ a hvs;simp only[Nat.zero_mul,List.take_zero,List.nil_append]at d;have a:f=(b.flatMap λv=>v.cells.toList).toArray:=by rw[<-d]
 subst a;unfold Instr.buildSlice;simp only[bQ,run_underlying s,bY,q];rw[aJ C]
 by_cases o:Z b*m=0
 ·have:b= []:=by
   grind [Nat.mul_eq_zero,List.eq_nil_of_length_eq_zero]
  subst this;have a:Array.range 0 = #[]:=rfl;simp[Instr.fill,newRow,newObj,Sem.run,a]
 simp_all[aJ,bQ,bY,cB,newRow,newObj,Sem.run]
def OP{α:Type}[s α](M:fA):aG F->aG α->Prop
 | [],[]=>True
 |v::a,x::l=>E6 M v x/\OP M a l
 |_,_=>False
def OP.spec{M:fA}:∀{b:aG F}{l:aG α},OP M b l->Z b=Z l/\(∀v∈b,v.cells.size=s.sz α)/\g_ M (b.flatMap λv=>v.cells.toList) l
 | [],[],_=>⟨rfl,λ_ a=>by simp at a,g_.nil⟩
 |v::b,x::l,a=>by
  obtain⟨c,f⟩:=a;obtain⟨b,d,e⟩:=OP.spec f;refine⟨by simp[b],λf b=>?_,?_⟩
  ·rcases eO.1 b with rfl|b
   ·rw[<-s.len c.cells];simp
   ·exact d f b
  ·rw[List.flatMap_cons];exact(g_.one c.cells).append e
 | [],_::_,a=>a.elim
 |_::_,[],a=>a.elim
structure Gd (P:bG) (e:bJ) (m:Nat):Prop where
 z:∃z,(∀w,(zeroValue e).run P w = .ok z w)/\z.cells.size=m
 sz:∀w,(sizeOf e).run P w = .ok m w
def js{m:Nat}{h:aY (Nat×bB)}(l:aG α)(r:B E w V)(a:aG F)(p:Cg P t e (s.sz α))(A:Gd P e (s.sz α))(q:∀M f,ip E w M f V->OP M a l)(k:∀v w',B E w' (own e v l::V)->RL P n ops c (fo U d v) w' Q)(hg:Wn ops U g:=by exact trivial)(hd:Nat.blt d n=true:=by exact rfl)(j:h.toList.map (λb=>(b.1,ev U b.2))=a.zipIdx.map λb=>(b.2,b.1):=by exact rfl)(hl:m=Z a:=by exact rfl)(hm:Nat.ble (m*s.sz α) 16777216=true:=by exact rfl):RL P n ops (⟨O d, .buildSlice t m h,ty,pos,af,g⟩::c) U w Q:=by
 subst hl;have y:=Nat.ble_eq▸hm;obtain⟨j,u,o⟩:=r;obtain⟨r,z,D⟩:=(q j u o).spec;have lm:Z a<=Z a*s.sz α:=Nat.le_mul_of_pos_right _ s.pos;have D:=JU (P:=P) p.Iw A.z p.sz s.pos y z w;refine jp (v:= .slice (O ⟨w.heap.size,0,aQ⟩) (Z a) (Z a)) (w':=w.alloc<|.cells (a.flatMap λv=>v.cells.toList).toArray e) hg hd ?_<|k _ _<|B.alloc ⟨j,u,o⟩ _ λM f j=>?_
 ·have o:h.map (λ(i,x)=>(i,ev U x))=(a.zipIdx.map λb=>(b.2,b.1)).toArray:=H
  simp_all[execOp,bQ]
 ·obtain⟨_,_,b⟩:=(q M f j).spec;refine .inr ⟨w.heap.size,0,Z a,_,_,by rw[r],C,by grind [maxLen],rfl,?_,?_,b⟩
  ·simp only[kx,List.size_toArray,b.1,r];exact du _
  ·simp only[List.drop_zero];rw[<-b.1];exact fz
end
section
variable {α β c:Type}[s α][s β]{P:bG}{E:aT}{V b:aG HP}{o:F}
def R3(P:bG)(E:aT)(V:aG HP)(o:F)(φ:α->aP c)(b:c->F):Prop:=
 ∃f cap,o = .func (.func f) #[] (List.toArray cap)/\eJ P f/\∀(w:aT)(a:aG HP)(v:F)(x:α)(r:c)(i:Nat),
  B E w (a++V)->(a++V)[i]? =O (Y v x)->φ x=O r->Calls P f ([v]++cap).toArray w (eE λu w'=>u=b r/\B E w' (a++V))
def Nj(P:bG)(E:aT)(V:aG HP)(o:F)(φ:α->β->aP c)(b:c->F):Prop:=
 ∃f cap,o = .func (.func f) #[] (List.toArray cap)/\eJ P f/\∀(w:aT)(a:aG HP)(v p:F)(x:α)(y:β)(r:c)(i j:Nat),
  B E w (a++V)->(a++V)[i]? =O (Y v x)->(a++V)[j]? =O (Y p y)->φ x y=O r->Calls P f ([v,p]++cap).toArray w (eE λu w'=>u=b r/\B E w' (a++V))
def R3.lift{φ:α->aP c}{a:c->F}(h:R3 P E V o φ a)(m:Nat)(hd:b.drop m=V):R3 P E b o φ a:=by
 obtain⟨e,a,d,f,g⟩:=h;subst hd;refine⟨e,a,d,f,λw a v d r i d d d=>?_⟩;have d:a++b=(a++b.take m)++b.drop m:=by rw[eM,List.take_append_drop]
 grind
def Nj.lift{φ:α->β->aP c}{a:c->F}(h:Nj P E V o φ a)(m:Nat)(hd:b.drop m=V):Nj P E b o φ a:=by
 obtain⟨e,a,d,f,g⟩:=h;subst hd;refine⟨e,a,d,f,λw a v p d d r i j d d d d=>?_⟩;have d:a++b=(a++b.take m)++b.drop m:=by rw[eM,List.take_append_drop]
 grind
def Fy{a V:aG HP}{j:Nat}{Pr:HP}(h:V[j]? =O Pr:=by exact rfl):(a++V)[Z a+j]? =O Pr:=H
variable {n:Nat}{U:Nat->F}{w:aT}{Q:jl}{i j:Nat}
variable {ops:aY bC}{e:aG bC}{d:Nat}{ty:bJ}{pos:String}{af:aY Edge}{g:aP (Nat×Bool)}{v p:F}{q r r':bB}{ts:aY bJ}
def AC{φ:α->aP c}{a:c->F}{x:α}{y:c}(i:Nat)(f:B E w V)(l:R3 P E b o φ a)(m:Nat)(hr:φ x=O y)(k:∀w',B E w' V->RL P n ops e (fo U d<|a y) w' Q)(hg:Wn ops U g:=by exact trivial)(hd:Nat.blt d n=true:=by exact rfl)(hq:ev U q=o:=by exact rfl)(j:V.drop m=b:=by exact rfl)(hx:ev U r=v:=by exact rfl)(hi:V[i]? =O (Y v x):=by exact rfl):
  RL P n ops (⟨O d, .call ⟨.value q,#[r],ts⟩,ty,pos,af,g⟩::e) U w Q:=by
 obtain⟨a,a,a,f,h⟩:=l.lift m j;refine vt (hg:=hg) (hd:=hd) (hq:=(by rw[hq,a])) (hvs:=(by simp[hx])) _ f [v]<|fE (h w [] v x y i H H hr) ?_
 grind
def v4{φ:α->β->aP c}{f:c->F}{x:α}{a:β}{y:c}(i j:Nat)(h:B E w V)(t:Nj P E b o φ f)(m:Nat)(hr:φ x a=O y)(k:∀w',B E w' V->RL P n ops e (fo U d<|f y) w' Q)(hg:Wn ops U g:=by exact trivial)(hd:Nat.blt d n=true:=by exact rfl)(hq:ev U q=o:=by exact rfl)(s:V.drop m=b:=by exact rfl)(hx:ev U r=v:=by exact rfl)(u:ev U r'=p:=by exact rfl)(hi:V[i]? =O (Y v x):=by exact rfl)(hj:V[j]? =O (Y p a):=by exact rfl):
  RL P n ops (⟨O d, .call ⟨.value q,#[r,r'],ts⟩,ty,pos,af,g⟩::e) U w Q:=by
 obtain⟨f,f,f,h,l⟩:=t.lift m s;refine vt (hg:=hg) (hd:=hd) (hq:=(by rw[hq,f])) (hvs:=(by simp[hx,u])) _ h [v,p]<|fE (l w [] v p x a y i j H H H hr) ?_
 grind
end
section
variable {P:bG}{n:Nat}{U:Nat->F}{w:aT}{Q:jl}{E:aT}{V:aG HP}{x y:Code}
variable {ops:aY bC}{rest:aG bC}{d:Nat}{ty T T':bJ}{pos:String}{af:aY Edge}{g:aP (Nat×Bool)}{v:F}{q r:bB}
def A0(hc:ev U q = .bool aA)(h:RC P n x U w Q):RC P n (.cond q x y) U w Q:=by grind [K1]
def A5(hc:ev U q = .bool aK)(h:RC P n y U w Q):RC P n (.cond q x y) U w Q:=by grind [K1]
def Z7{k m:Nat}(h:k<m):Value.bool (decide<|(k:Int)<(m:Int)) = .bool true:=H
def Z8{m:Nat}:Value.bool (decide<|(m:Int)<(m:Int)) = .bool false:=G
def as1{k m:Nat}(hg:Wn ops U g)(hd:Nat.blt d n=aA)(a:k<m)(hm:m<=4611686018427387904)(hx:ev U q = .int .i64 (k:Int))(hy:ev U r = .int .i64 1)
  (h:RL P n ops rest (fo U d<|.int .i64 ((k+1:Nat):Int)) w Q):RL P n ops (⟨O d, .binOp .add T q r T',ty,pos,af,g⟩::rest) U w Q:=by
 refine tb (hg:=hg) (hd:=hd) (hx:=hx) (hy:=hy) (bop:= .add) _ _ ?_
 grind [Td]
def yP.of{P:bG}{t e:bJ}{k b:Nat}(z:F)(h1:P.underlying t=O (.slice e):=by kernel_rfl)(h2:(P.info? e).map (λa=>(a.zero,a.size,a.bytes))=O (O z,k,b):=by kernel_rfl)(c:z.cells.size=k:=by exact rfl)(c:0<b:=by decide):yP P t e k b:=by
 refine⟨h1,?_,c⟩
 cases c:P.info? e with
 |none=>grind
 |some a=>
  grind
def zU.of{P:bG}{T:bJ}{b:aY Field}{a:aG (Nat×Nat)}(z:F)(h1:P.underlying T=O (.struct b))(h2:∀w,(zeroValue T).run P w = .ok z w:=by intro _;kernel_rfl)(c:∀w,(b.mapM (m:=Sem) λb:Field=>do pure (b.offset,<-sizeOf b.type)).run P w = .ok a.toArray w:=by intro _;kernel_rfl):zU P T a z.cells:=by
 refine⟨λb w=>?_⟩;unfold Instr.build;simp only[bQ,h2,bY,run_underlying h1];rw[c];simp only[bY]
 cases Instr.fill (λx=>a.toArray[x]?) z.cells b.toList <;> rfl
end
section
variable {α:Type}[s α]{E w:aT}{V L:aG HP}{i:Nat}{v:F}{x:α}{Pr R:HP}
def B.xS(h:B E w V)(hi:V[i]? =O (pt v x)):B E w (pt v x::V):=h.JR λ_ _ a=>⟨(a.sat i _ hi).1,rfl⟩
def B.aW(h:B E w V):B E w (Gk.aW::V):=h.JR λ_ _ _=>trivial
end
section
variable {P:bG}{n:Nat}{U:Nat->F}{w:aT}{Q:jl}
def JV{o:bC}{a:Act}{K d:Act->aT->Prop}{Q b:Exit->Act->aT->Prop}(e:∀a w,K a w->d a w)(f:∀c a w,Q (.panic c) a w->b (.panic c) a w)(hl:LetsOut Q->LetsOut b)
  (h:o.wp P a w K Q):o.wp P a w d b:=by
 unfold Oper.wp at *;generalize (execOp a.eval o).run P w=r at *
 cases r with
 |ok b d=>
  cases b <;> simp only[Oper.upon]at h ⊢ <;>
   first
    |exact e _ _ h
    |exact Calls.mono h (λb b b=>H)
    |exact Rows.mono h (λ_ _ b=>e _ _ b)
 |halt b d=>cases b <;> simp only[Oper.upon]at h ⊢ <;> exact f _ _ _ h
def k_(a:Nat->Bool)(i:Nat):Nat->Bool:=λj=>bif Nat.beq j i then aA else a j
def tV(a:Nat->Bool):aG Edge->Prop
 | []=>True
 |e::l=>(Region.binds .any e=aA->a e.on=aA)/\tV a l
def vN(F:Nat->bC->Prop):Nat->aG bC->Prop
 |_,[]=>True
 |k,o::l=>F k o/\vN F (k+1) l
def C0:Nat->aG bC->Bool
 |_,[]=>aA
 |k,o::l=>(o.after.toList.all λe=> !Region.binds .any e||Nat.blt e.on k)&&C0 (k+1) l
def vN.at{F:Nat->bC->Prop}:∀{k:Nat}{l:aG bC},vN F k l->∀i o,l[i]? =O o->F (k+i) o
 |_,[],_,i,o,a=>by simp at a
 |k,c::l,b,0,o,a=>by simp at a;subst a;exact b.1
 |k,c::l,b,i+1,o,a=>by have:=vN.at b.2 i o (by simpa using a);rw[show k+(i+1)=k+1+i by omega];exact this
def C0.at:∀{k:Nat}{l:aG bC},C0 k l=aA->∀(i:Nat)(o:bC),l[i]? =O o->∀e∈o.after,Region.binds .any e=aA->e.on<k+i
 |_,[],_,i,o,a=>by simp at a
 |k,g::l,c,0,o,a=>by
  simp at a;subst a;intro e d b;have f:=(dE _ _▸c:_/\_).1;have:=qX.1 f e H;rw[b]at this;simpa using Nat.blt_eq▸this
 |k,g::l,c,i+1,o,a=>by
  intro e d b;have:=C0.at (dE _ _▸c:_/\_).2 i o (by simpa using a) e d b;omega
def OQ{a:Nat->Bool}:∀(l:aG Edge),(∀e∈l,Region.binds .any e=aA->a e.on=aA)->tV a l
 | [],_=>trivial
 |e::l,a=>⟨a e G,OQ l λb c=>a b (by simp[c])⟩
def as2{id:Nat}{l:aG bC}(hm:P.follows .mixedOrders=aA)(hdep:C0 0 l=aA)(J:(Nat->Bool)->(Nat->F)->aT->Prop)
  (h0:J (λ_=>aK) U w.drew)
  (ai:vN (λi T=>∀e U w,e i=aK->tV e T.after.toList->J e U w->RL P n l.toArray [T] U w (λz U w=>z = .normal/\J (k_ e i) U w)) 0 l)
  (R:∀e U w,(∀i,i<Z l->e i=aA)->J e U w->Q .normal U w):RC P n (.region id l.toArray aA) U w Q:=by
 intro b ha;refine wp_region_any hm ?_;have ah:∀(f:Nat)(a:aY Bool)(b:Act)(w:aT)(U:Nat->F),a.size=Z l->Sl n U b->J (λi=>a.getD i aK) U w->
   (a.toList.countP (· =aK))=f->wpAny P .any l.toArray (Lf n Q) f a b w:=by
  have V:∀(a:aY Bool)(b:Act)(w:aT)(U:Nat->F),a.size=Z l->Sl n U b->J (λi=>a.getD i aK) U w->Region.ready .any l.toArray a= []->Lf n Q .normal b w:=by
   intro a b w U t k h B;refine⟨U,k,R _ U w (λi c=>?_) h⟩
   induction i using Nat.strongRecOn with
   |ind i E=>
    cases g:a.getD i aK with
    |true=>rfl
    |false=>
     have O:i∈Region.ready .any l.toArray a:=by
      unfold Region.ready;rw[nc];refine⟨H,?_⟩;have d:i<a.size:=C
      have x:a.getD i aA=false:=by
       simp only[Array.getD_eq_getD_getElem?,kV d,Option.getD_some]at g ⊢;exact g
      rw[x];simp only[lU,Bool.true_and,List.getElem?_toArray,aM c,Option.map_some,Option.getD_some];rw[Array.all_eq_true_iff_forall_mem];intro y ab
      cases M:Region.binds .any y with
      |false=>rfl
      |true=>
       have al:=C0.at hdep i l[i] (aM c) y ab M;have:=E y.on C C;rw[this];rfl
     rw[B]at O
     cases O
  intro f
  induction f with
  |zero=>
   intro a b w U t k h q;have L:∀i,i<Z l->a.getD i aK=true:=by
    intro i c;have d:i<a.size:=C
    have:=List.countP_eq_zero.1 q a[i] G;simp only[Array.getD_eq_getD_getElem?,kV d,Option.getD_some];simpa using this
   refine⟨?_,U,k,R _ U w L h⟩;unfold Region.ready;rw[List.filter_eq_nil_iff];intro i c;have r:i<Z l:=by simpa using c
   have:=L i r;have d:i<a.size:=C
   have x:a.getD i aA=true:=by
    simp only[Array.getD_eq_getD_getElem?,kV d,Option.getD_some]at this ⊢;exact this
   rw[x];simp
  |succ f E=>
   intro a b w U t k h q;refine⟨λB=>V a b w U t k h B,λi c=>?_⟩;unfold Region.ready at c;rw[nc]at c;obtain⟨ad,r⟩:=c;have A:i<Z l:=by simpa using ad
   have d:i<a.size:=C
   simp only[dE,Bool.not_eq_true']at r;obtain⟨s,N⟩:=r;simp only[List.getElem?_toArray,aM A,Option.map_some,Option.getD_some]at N;rw[Array.all_eq_true_iff_forall_mem]at N;have Y:(λi=>a.getD i aK) i=false:=by
    simp only[Array.getD_eq_getD_getElem?,kV d,Option.getD_some]at s ⊢;exact s
   have S:=ai.at i l[i]<|aM A
   rw[kx]at S
   have j:=S _ U w Y (OQ _ λg he M=>H) h b k
   have ae:k_ (λi=>a.getD i aK) i=λu=>(a.setIfInBounds i aA).getD u false:=by
    funext u;unfold k_
    cases g:Nat.beq u i with
    |true=>
     have:=iJ g;subst this;simp[Array.getD_eq_getD_getElem?,d]
    |false=>
     have af:i≠u:=λm=>by subst m;simp at g
     simp[Array.getD_eq_getD_getElem?,Array.getElem?_setIfInBounds_ne af]
   have aa:(a.setIfInBounds i aA).toList.countP (· =aK)=f:=by
    have W:a.toList=a.toList.take i++a[i]::a.toList.drop (i+1):=by
     have:=List.take_append_drop i a.toList;rw[r6 C]at this;simpa using this.symm
    have hx:a[i]=false:=by
     simp only[Array.getD_eq_getD_getElem?,kV d,Option.getD_some]at s;exact s
    rw[W,List.countP_append,List.countP_cons,hx]at q;have X:(a.setIfInBounds i aA).toList=a.toList.take i++aA::a.toList.drop (i+1):=by
     rw[Array.toList_setIfInBounds,List.set_eq_take_append_cons_drop,aL C]
    rw[X,List.countP_append,List.countP_cons];simp at q ⊢;omega
   have K:∀p v,wpList P l.toArray (Lf n λz U w=>z = .normal/\J (k_ (λi=>a.getD i aK) i) U w) [] p v->wpAny P .any l.toArray (Lf n Q) f (a.setIfInBounds i aA) p v:=by
    rintro p v⟨aj,ag,_,I⟩;rw[ae]at I;exact E _ p v aj (by simp[t]) ag I aa
   unfold wpOp;simp only[List.getElem?_toArray,aM A];unfold wpList at j;split at j
   ·rename_i D;rw[aL D]
    rcases j with j|⟨_,a0,w0,am,_,o,_⟩
    ·exact .inl<|JV K (λak b w m=>by obtain⟨_,_,o,_⟩:=m;cases o) (λm=>by obtain⟨_,_,_,_,o,_⟩:=m;cases o) j
    ·cases o
   ·rename_i D;rw[aJ D];exact K _ _ j
 refine ah _ _ b w.drew U G ha ?_ (by simp[List.countP_replicate]);have:(λi=>(Array.replicate l.toArray.size aK).getD i aK)=λ_=>false:=by
  funext i;simp only[Array.getD_eq_getD_getElem?,Array.getElem?_replicate];split <;> rfl
 grind
def eT(a:Nat->Bool)(U:Nat->F):aG (Nat×Nat×F)->Prop
 | []=>True
 |(i,d,v)::l=>(a i=aA->U d=v)/\eT a U l
def tV.mono{a b:Nat->Bool}(h:∀i,a i=aA->b i=aA):∀{l:aG Edge},tV a l->tV b l
 | [],_=>trivial
 |_::_,a=>⟨λb=>h _ (a.1 b),tV.mono h a.2⟩
def A6(l:aG bC)(a:Nat->Bool):Prop:=∀i o,l[i]? =O o->a i=aA->tV a o.after.toList
def OR{a:Nat->Bool}{i k:Nat}(h:a k=aA):k_ a i k=true:=by
 grind [k_,Nat.beq]
def NT{id:Nat}{l:aG bC}(hm:P.follows .mixedOrders=aA)(hdep:C0 0 l=aA)(J:(Nat->Bool)->(Nat->F)->aT->Prop)
  (A:J (λ_=>aK) U w.drew)
  (S:vN (λi b=>∀a U w,a i=aK->tV a b.after.toList->A6 l a->J a U w->RL P n l.toArray [b] U w (λg U w=>g = .normal/\J (k_ a i) U w)) 0 l)
  (H:∀a U w,(∀i,i<Z l->a i=aA)->J a U w->Q .normal U w):RC P n (.region id l.toArray aA) U w Q:=by
 refine as2 hm hdep (λa U w=>A6 l a/\J a U w) ⟨λi b _ c=>(by cases c),A⟩ ?_<|λa U w G c=>H a U w G c.2
 have R:∀(d:Nat)(f:aG bC),(∀i b,f[i]? =O b->l[d+i]? =O b)->vN (λi b=>∀a U w,a i=aK->tV a b.after.toList->A6 l a->J a U w->RL P n l.toArray [b] U w (λg U w=>g = .normal/\J (k_ a i) U w)) d f->
   vN (λi b=>∀a U w,a i=aK->tV a b.after.toList->(A6 l a/\J a U w)->RL P n l.toArray [b] U w (λg U w=>g = .normal/\(A6 l (k_ a i)/\J (k_ a i) U w))) d f:=by
  intro d f
  induction f generalizing d with
  |nil=>intro _ _;trivial
  |cons b f K=>
   intro u z;refine⟨λa U w C x k j E=>?_,K (d+1) (λi b c=>by have:=u (i+1) b (by simpa using c);grind) z.2⟩;have e:=z.1 a U w C x k.1 k.2 j E;have v:A6 l (k_ a d):=by
    intro i L y p
    by_cases t:i=d
    ·subst t;have:=u 0 b rfl;rw[Nat.add_zero,y]at this;injection this with this
     subst this;exact tV.mono (λ_ c=>OR c) x
    ·have D:a i=true:=by
      unfold k_ at p;have:Nat.beq i d=false:=by
       cases I:Nat.beq i d with
       |false=>rfl
       |true=>exact absurd (iJ I) t
      rw[this]at p;exact p
     exact tV.mono (λ_ c=>OR c)<|k.1 i L y D
   unfold wpList at e ⊢;split at e
   ·rename_i r;rw[aL r]
    rcases e with e|⟨N,B⟩
    ·refine .inl<|JV (λj w c=>?_) (λM j w c=>?_) (λc=>?_) e
     ·obtain⟨s,q,o,m⟩:=c;exact⟨s,q,o,v,m⟩
     ·obtain⟨_,_,h,_⟩:=c;cases h
     ·obtain⟨_,_,_,_,h,_⟩:=c;cases h
    ·obtain⟨_,_,_,_,h,_⟩:=B;cases h
   ·rename_i r;rw[aJ r];obtain⟨s,q,o,m⟩:=e;exact⟨s,q,o,v,m⟩
 grind
def eT.at{a:Nat->Bool}:∀{b:aG (Nat×Nat×F)}(_:eT a U b)(k:Nat){j d:Nat}{v:F}(_:b[k]? =O (j,d,v)),a j=aA->U d=v
 | [],_,k,_,_,_,a=>by simp at a
 |(e,c,g)::f,b,0,j,d,v,a=>by
  simp at a;obtain⟨rfl,rfl,rfl⟩:=a;exact b.1
 |(e,c,g)::f,b,k+1,j,d,v,a=>eT.at b.2 k H
def JW(j d:Nat):Nat->aG (Nat×Nat×F)->Bool
 |_,[]=>aA
 | 0,_::l=>dfreeA l
 |k+1,(i,t,_)::l=> !Nat.beq i j&& !Nat.beq t d&&JW j d k l
where dfreeA:aG (Nat×Nat×F)->Bool
 | []=>aA
 |(i,t,_)::l=> !Nat.beq i j&& !Nat.beq t d&&dfreeA l
def eT.up{b:Nat->Bool}{j d:Nat}{v:F}:∀{a:aG (Nat×Nat×F)}(_:eT b U a)(_:JW.dfreeA j d a=aA),eT (k_ b j) (fo U d v) a
 | [],_,_=>trivial
 |(b,f,g)::e,c,a=>by
  unfold JW.dfreeA at a;simp only[dE,Bool.not_eq_true']at a;refine⟨λb=>?_,eT.up c.2 a.2⟩;unfold k_ at b;rw[a.1.1]at b;unfold fo;rw[a.1.2];exact c.1 b
def eT.put{b:Nat->Bool}{j d:Nat}{v c:F}:∀{a:aG (Nat×Nat×F)}(_:eT b U a)(k:Nat)(_:a[k]? =O (j,d,v))(_:JW j d k a=aA),eT (k_ b j) (fo U d c) (a.set k (j,d,c))
 | [],_,k,c,_=>by simp at c
 |(e,g,h)::f,b,0,c,a=>by
  refine⟨λ_=>?_,eT.up b.2 a⟩;unfold fo;have:Nat.beq d d=true:=Nat.beq_refl d;rw[this];rfl
 |(e,g,h)::f,b,k+1,c,a=>by
  unfold JW at a;simp only[dE,Bool.not_eq_true']at a;refine⟨λe=>?_,eT.put b.2 k (by simpa using c) a.2⟩;unfold k_ at e;rw[a.1.1]at e;unfold fo;rw[a.1.2];exact b.1 e
def nf{b:Bool}(h:b=aA->False):b=false:=H
def eT.no{b:Nat->Bool}{j:Nat}:∀{a:aG (Nat×Nat×F)}(_:eT b U a)(_:(a.all λc=> !Nat.beq c.1 j)=aA),eT (k_ b j) U a
 | [],_,_=>trivial
 |(b,e,f)::d,c,a=>by
  rw[List.all_cons,dE,Bool.not_eq_true']at a;refine⟨λb=>?_,eT.no c.2 a.2⟩;unfold k_ at b;rw[a.1]at b;exact c.1 b
theorem WX{V:aG HP}{i:Nat}{Pr R:HP}(h:V[i]? =O Pr)(e:R=Pr):V.set i R=V:=by grind [Gl]
def B.bZ{E w:aT}{V:aG HP}(i:Nat){b:Bool}{R Pr:HP}(h:B E w V)(a:b=aK)(hi:V[i]? =O (bif b then R else Pr):=by exact rfl):B E w (V.set i Pr):=by grind [WX]
def B.dF{E w:aT}{V:aG HP}(i:Nat){b:Bool}{R Pr:HP}(h:B E w V)(a:b=aA)(hi:V[i]? =O (bif b then R else Pr):=by exact rfl):B E w (V.set i R):=by grind [WX]
def B.cL{E w:aT}{V:aG HP}(i:Nat)(b:Bool){Pr:HP}(h:B E w V)(a:b=aA)(R:HP)(hi:V[i]? =O Pr:=by exact rfl):B E w (V.set i (bif b then Pr else R)):=by grind [WX]
def B.fO{E w:aT}{V:aG HP}(i:Nat)(b:Bool){Pr:HP}(h:B E w V)(a:b=aK)(R:HP)(hi:V[i]? =O Pr:=by exact rfl):B E w (V.set i (bif b then R else Pr)):=by grind [WX]
def ft{b:Bool}(h1:b=aK)(h2:b=aA):False:=H
def d8.at:∀{l:aG (Nat×F)}(_:d8 U l)(k:Nat){d:Nat}{v:F}(_:l[k]? =O (d,v)),U d=v
 | [],_,k,_,_,a=>by simp at a
 |(c,e)::l,b,0,d,v,a=>by simp at a;obtain⟨rfl,rfl⟩:=a;exact b.1
 |(c,e)::l,b,k+1,d,v,a=>d8.at b.2 k H
def yZ(d:Nat):aG (Nat×F)->Bool
 | []=>aA
 |(t,_)::l=> !Nat.beq t d&&yZ d l
def d8.up{d:Nat}{v:F}:∀{l:aG (Nat×F)}(_:d8 U l)(_:yZ d l=aA),d8 (fo U d v) l
 | [],_,_=>trivial
 |(c,e)::l,b,a=>by
  unfold yZ at a;simp only[dE,Bool.not_eq_true']at a;refine⟨?_,d8.up b.2 a.2⟩;unfold fo;rw[a.1];exact b.1
def d8.c{d:Nat}{v:F}{l:aG (Nat×F)}(h:U d=v)(hl:d8 U l):d8 U ((d,v)::l):=⟨h,hl⟩
def d8.z:d8 U []:=trivial
def eT.none:∀{a:aG (Nat×Nat×F)},eT (λ_=>aK) U a
 | []=>trivial
 |(_,_,_)::_=>⟨λa=>(by cases a),eT.none⟩
variable {ops:aY bC}{rest:aG bC}{d:Nat}{ty T T':bJ}{pos:String}{af:aY Edge}{g:aP (Nat×Bool)}{v:F}{q r:bB}
def JX{f:FuncId}{a:Func}(e:aY F->Sem F){args:aY F}(b:P.funcs[f]? =O a)(hr:(e args).run P w = .ok v w)(b:(a.name== "runtime.NumGoroutine")=false:=by kernel_rfl)(b:a.body.isNone=true:=by kernel_rfl)(b:Extern.findNext a=none:=by kernel_rfl)(he:Extern.find a=O e:=by kernel_rfl):(callFunc f args).run P w = .ok (.value v) w:=by
 simp_all[run_callFunc_extern]
def O0{f:FuncId}{args:aY bB}{b:aY bJ}(v:F)(hd:Nat.blt d n=aA)(a:aG F)(hvs:args.toList.map (ev U)=a)(c:(callFunc f a.toArray).run P w = .ok (.value v) w)(k:RL P n ops rest (fo U d v) w Q)(hg:Wn ops U g:=by exact trivial):
  RL P n ops (⟨O d, .call ⟨.value<|.func f,args,b⟩,ty,pos,af,g⟩::rest) U w Q:=by
 have b:args.map (ev U)=a.toArray:=H
 refine jp hg hd ?_ k;simp only[execOp,resolve,bQ];simp only[ev,Deferred.ofValue,b,cB,bY,invoke]
 grind
end
theorem yT{a b:cU}:(⟨a.eI.toArray⟩:ByteArray)= ⟨b.eI.toArray⟩↔a=b:=by
 constructor
 ·intro c;have d:a.eI.toArray=b.eI.toArray:=congrArg ByteArray.data c;have c:a.eI=b.eI:=H
  cases a;simp_all
 grind
def R4(a b:cU):((⟨a.eI.toArray⟩:ByteArray)==⟨b.eI.toArray⟩)= decide (a=b):=by
 have c:((⟨a.eI.toArray⟩:ByteArray)==⟨b.eI.toArray⟩)=(a.eI.toArray==b.eI.toArray):=rfl
 grind [yT]
section
variable {P:bG}{w:aT}{T:bJ}{c:aY Field}{xs ys:aY F}{d:Nat}
inductive CV (P:bG) (w:aT) (d:Nat) (xs ys:aY F):aG Field->aG Bool->Prop
 |nil:CV P w d xs ys [] []
 |cons {f:Field} {l:aG Field} {b:Bool} {bs:aG Bool} {x y:F} (hn:f.name≠ "_") (hx:(part f.type xs f.offset).run P w = .ok x w) (hy:(part f.type ys f.offset).run P w = .ok y w)
   (he:(Op.equalIn d f.type x y).run P w = .ok b w) (h:CV P w d xs ys l bs):CV P w d xs ys (f::l) (b::bs)
def jm(d:Nat)(a:P.underlying T=O (.struct c)){bs:aG Bool}(h:CV P w d xs ys c.toList bs)(b:P.stoodInHeld T=false:=by kernel_rfl):
  (Op.equalIn (d+1) T (.agg xs)<|.agg ys).run P w = .ok (bs.all id) w:=by
 obtain⟨i⟩:=c;rw[Op.equalIn];simp only[bQ,run_underlying a,bY,program,Sem.run,b,List.forIn_toArray];rw[aJ I];simp only at h;simp only[bQ,cB,bY];clear a
 induction h with
 |nil=>simp
 | @cons j i a bs l m e f g b h k=>
  simp only[List.forIn_cons,e,ne_eq,not_false_eq_true,if_true,bQ,f,g,b,bY]
  cases a with
  |true=>simp_all
  |false=>simp
structure WL (P:bG) (T:bJ) (α:Type) [s α] [DecidableEq α]:Prop where
 eq:∀(M:fA)(cs ds:aG F)(a b:α)(w:aT),s.ok M cs a->s.ok M ds b->(Op.equal T (CU α cs)<|CU α ds).run P w = .ok (decide<|a=b) w
 grd:P.eqGuardType P.depth T=aK
end
section
variable {α:Type}[s α][DecidableEq α]{P:bG}{n:Nat}{U:Nat->F}{w:aT}{Q:jl}{E:aT}{V:aG HP}{i j:Nat}
variable {ops:aY bC}{c:aG bC}{d:Nat}{ty T T':bJ}{pos:String}{af:aY Edge}{g:aP (Nat×Bool)}{v e:F}{q r:bB}{a b:α}
def ut(d:B E w V)(hi:V[i]? =O (Y v a))(hj:V[j]? =O (Y e b))(c:WL P T α)(f:s.agg α=aA):
  ((eqGuard .eql T q r v e).run P w = .ok () w/\(binOp .eql T v e).run P w = .ok (.bool<|decide<|a=b) w)/\
  ((eqGuard .neq T q r v e).run P w = .ok () w/\(binOp .neq T v e).run P w = .ok (.bool<|!decide (a=b)) w):=by
 obtain⟨h,f,g⟩:=d;obtain⟨d,m,k⟩:=(g.sat i _ hi).1;obtain⟨f,n,l⟩:=(g.sat j _ hj).1;have g:=c.eq h d f a b w k l;rw[<-m,<-n]at g;have g:v = .agg d.toArray:=by grind [CU]
 have d:e = .agg f.toArray:=by grind [CU]
 subst g;subst d;refine⟨⟨?_,?_⟩,?_,?_⟩
 ·simp[eqGuard,program,Sem.run,c.grd]
 ·grind [binOp,bQ,bY,cB]
 ·simp[eqGuard,program,Sem.run,c.grd]
 grind [binOp,bQ,bY,cB]
def FT(i j:Nat)(a b:α)(hg:Wn ops U g)(l:B E w V)(f:WL P T α)(k:RL P n ops c (fo U d<|.bool<|decide<|a=b) w Q)(hd:Nat.blt d n=true:=by exact rfl)(hx:ev U q=v:=by exact rfl)(hy:ev U r=e:=by exact rfl)(hi:V[i]? =O (Y v a):=by exact rfl)(hj:V[j]? =O (Y e b):=by exact rfl)(h:s.agg α=true:=by exact rfl):RL P n ops (⟨O d, .binOp .eql T q r T',ty,pos,af,g⟩::c) U w Q:=by
 obtain⟨⟨m,m⟩,_⟩:=ut (q:=q) (r:=r) l hi hj f h;refine jp hg hd ?_ k
 grind [execOp,bQ,bY,cB]
def HF(i j:Nat)(a b:α)(hd:Nat.blt d n=aA)(l:B E w V)(hx:ev U q=v)(hy:ev U r=e)(hi:V[i]? =O (Y v a))(hj:V[j]? =O (Y e b))(f:WL P T α)(h:s.agg α=aA)(k:RL P n ops c (fo U d<|.bool<|!decide (a=b)) w Q)(hg:Wn ops U g:=by exact trivial):RL P n ops (⟨O d, .binOp .neq T q r T',ty,pos,af,g⟩::c) U w Q:=by
 obtain⟨_,m,m⟩:=ut (q:=q) (r:=r) l hi hj f h;refine jp hg hd ?_ k
 grind [execOp,bQ,bY,cB]
end
def cY{P:bG}{a:bJ}(b:nT P a aK 1){xs:aY F}{k:Nat}{x:F}(h:xs[k]? =O x)(w:aT):(part a xs k).run P w = .ok x w:=by
 simp[part,b.Tc,h]
def vu{P:bG}{a:bJ}{m:Nat}(b:nT P a aA m){xs ys:aY F}{k:Nat}(h:xs.extract k (k+m)=ys)(w:aT):(part a xs k).run P w = .ok (.agg ys) w:=by
 simp[part,b.Tc,b.sz,h]
def me{P:bG}{c:bJ}{K:IntKind}{d:Nat}(e:P.underlying c=O (.int K))(a b:Int)(w:aT):(Op.equalIn (d+1) c (.int K a)<|.int K b).run P w = .ok (a==b) w:=by
 rw[Op.equalIn];simp only[bQ,run_underlying e,bY];simp
theorem v9{P:bG}{c:bJ}{d:Nat}(e:P.underlying c=O .bool)(a b:Bool)(w:aT):(Op.equalIn (d+1) c (.bool a)<|.bool b).run P w = .ok (a==b) w:=by
 rw[Op.equalIn];simp only[bQ,run_underlying e,bY];simp
def tK{P:bG}{c:bJ}{d:Nat}(e:P.underlying c=O .string)(a b:cU)(w:aT):(Op.equalIn (d+1) c (str a)<|str b).run P w = .ok (decide<|a=b) w:=by
 rw[Op.equalIn];simp only[bQ,run_underlying e,bY,str];simp[R4]
def wX{α:Type}(l:aG α)(lo hi:Int):aP (aG α):=if 0<=lo/\lo<=hi/\hi<=Z l then O ((l.drop lo.toNat).take (hi - lo).toNat)else aQ
section
variable {α:Type}[s α]{P:bG}{n:Nat}{U:Nat->F}{w:aT}{Q:jl}{E:aT}{V:aG HP}{i:Nat}
variable {ops:aY bC}{rest:aG bC}{d:Nat}{ty T e:bJ}{pos:String}{af:aY Edge}{g:aP (Nat×Bool)}{v:F}{q:bB}{l l':aG α}{lo hi:Int}
def OS{M:fA}{a:aP Addr}{m cap:Nat}(h:vM M (.slice a m cap) l)(j:0<=lo)(h1:lo<=hi)(h2:hi<=Z l):
  vM M (.slice (if cap=lo.toNat then a else a.map (·.add (lo.toNat*s.sz α))) (hi.toNat - lo.toNat)<|cap - lo.toNat) ((l.drop lo.toNat).take (hi - lo).toNat):=by
 obtain⟨g,r,i,f,o,k,p,n⟩:=h;injection f with b c d
 subst b;subst c;subst d;refine⟨_,_,_,rfl,?_,C,C,λq t e=>?_⟩
 ·grind
 ·rw[kC]at e
  grind [s.sz,p6,Nat.add_mul]
theorem Gm{a:aP Addr}{m cap:Nat}{b hiv:aP F}(d:Cg P T e (s.sz α))(hl:b=O (.int .i64 lo)\/(b=aQ/\lo=0))(hh:hiv=O (.int .i64 hi)\/(hiv=aQ/\hi=m))
  (c:0<=lo) (h1:lo<=hi) (h2:hi<=m) (hc:m<=cap) (w:aT):
  (Instr.sliceAt T (.slice a m cap) b hiv aQ).run P w = .ok (.slice (if cap=lo.toNat then a else a.map (·.add (lo.toNat*s.sz α))) (hi.toNat - lo.toNat)<|cap - lo.toNat) w:=by
 have g:(Instr.sliceBounds aA m cap b hiv aQ).run P w = .ok (lo.toNat,hi.toNat,cap) w:=by
  unfold Instr.sliceBounds;have b:∀(b:Nat)(c:BoundsCode),hi<=b->(Instr.sliceBound (.int .i64 hi) b c).run P w = .ok hi.toNat w:=λb c f=>by
   simp[Instr.sliceBound,asIntOf,show 0<=hi by omega,f]
  have h:∀(b:Nat)(c:BoundsCode),lo<=b->(Instr.sliceBound (.int .i64 lo) b c).run P w = .ok lo.toNat w:=λb c f=>by
   simp_all[Instr.sliceBound,asIntOf]
  grind [bQ,cB,bY]
 unfold Instr.sliceAt;simp only[bQ,run_underlying d.Iw,bY];unfold Instr.slice;simp only[bQ,run_underlying d.Iw,bY,g,d.sz,cB]
def rs{h f:aP bB}(i:Nat)(x:B E w V)(A:Cg P T e (s.sz α))(a:wX l lo hi=O l')(k:∀m,B E w (Y m l'::V)->RL P n ops rest (fo U d m) w Q)(hg:Wn ops U g:=by exact trivial)(hd:Nat.blt d n=true:=by exact rfl)(hx:ev U q=v:=by exact rfl)(j:V[i]? =O (Y v l):=by exact rfl)(hl:h.map (ev U)=O (.int .i64 lo)\/(h.map (ev U)=aQ/\lo=0):=by exact(.inl rfl))(hh:f.map (ev U)=O (.int .i64 hi)\/(f.map (ev U)=aQ/\hi=(Z l:Nat)):=by exact(.inl rfl)):
  RL P n ops (⟨O d, .slice T q h f aQ,ty,pos,af,g⟩::rest) U w Q:=by
 unfold wX at a;split at a
 ·rename_i c;injection a with a
  subst a;obtain⟨o,F,b⟩:=x;have r:=sT.1 (b.sat i _ j).1;obtain⟨y,G,z,u,D,C,_⟩:=r;subst u;have t:=sT.1 (b.sat i _ j).1;have p:=OS t c.1 c.2.1 c.2.2;refine jp hg hd ?_<|k _ ⟨o,_,b.iX ⟨sT.2 p,rfl⟩⟩
  grind [Gm,execOp,bQ,bY,cB]
 ·cases a
end
def FC(s:cU)(lo hi:Int):aP cU:=if 0<=lo/\lo<=hi/\hi<=Z s.eI then O ⟨(s.eI.drop lo.toNat).take (hi - lo).toNat⟩else aQ
section
variable {P:bG}{n:Nat}{U:Nat->F}{w:aT}{Q:jl}{E:aT}{V:aG HP}{i:Nat}
variable {ops:aY bC}{c:aG bC}{d:Nat}{ty T T':bJ}{pos:String}{af:aY Edge}{g:aP (Nat×Bool)}{v:F}{q r:bB}{lo hi:Int}
def as3{a b:Bool}(hg:Wn ops U g)(hd:Nat.blt d n=aA)(hx:ev U q = .bool a)(hy:ev U r = .bool b)(e:P.underlying T=O .bool)
  (k:RL P n ops c (fo U d<|.bool<|a != b) w Q):RL P n ops (⟨O d, .binOp .neq T q r T',ty,pos,af,g⟩::c) U w Q:=by
 refine ws (hg:=hg) (hr:=λw=>?_) _ _ _ hd hx hy k
 grind [v9,binOp,bQ,Op.equal,Op.maxDepth,bY,cB]
def O1{h f:aP bB}(s:cU){j:cU}(hd:Nat.blt d n=aA)(hx:ev U q=str s)(l:P.underlying T=O .string)(hl:h.map (ev U)=O (.int .i64 lo)\/(h.map (ev U)=aQ/\lo=0))(hh:f.map (ev U)=O (.int .i64 hi)\/(f.map (ev U)=aQ/\hi=(Z s.eI:Nat)))(b:FC s lo hi=O j)(k:RL P n ops c (fo U d<|str j) w Q)(hg:Wn ops U g:=by exact trivial):
  RL P n ops (⟨O d, .slice T q h f aQ,ty,pos,af,g⟩::c) U w Q:=by
 unfold Gk.FC at b;split at b
 ·rename_i u;injection b with b
  subst b;refine jp hg hd ?_ k;have r:(⟨s.eI.toArray⟩:ByteArray).size=Z s.eI:=rfl;have p:(Instr.sliceBounds aK (Z s.eI) (Z s.eI) (h.map<|ev U) (f.map<|ev U) aQ).run P w = .ok (lo.toNat,hi.toNat,Z s.eI) w:=by
   unfold Instr.sliceBounds;have m:∀(a:Nat)(e:BoundsCode),hi<=a->(Instr.sliceBound (.int .i64 hi) a e).run P w = .ok hi.toNat w:=λa e i=>by
    simp[Instr.sliceBound,asIntOf,show 0<=hi by omega,i]
   have o:∀(a:Nat)(e:BoundsCode),lo<=a->(Instr.sliceBound (.int .i64 lo) a e).run P w = .ok lo.toNat w:=λa e i=>by
    simp_all[Instr.sliceBound,asIntOf]
   grind [bQ,cB,bY]
  have t:(⟨s.eI.toArray⟩:ByteArray).extract lo.toNat hi.toNat= ⟨((s.eI.drop lo.toNat).take (hi - lo).toNat).toArray⟩:=by
   apply ByteArray.ext;simp only[ByteArray.data_extract]
   grind
  simp only[execOp,hx,bQ,Option.map_none,Instr.sliceAt,run_underlying l,bY,Instr.slice,str]
  simp_all
 ·cases b
end
def OT{α:Type}(a:Nat)(b xs:aG α):aG α:=xs.take a++b++xs.drop (a+Z b)
def FD{α:Type}{a:Nat}{b xs:aG α}(h:a+Z b<=Z xs):Z (OT a b xs)=Z xs:=by
 unfold OT;grind
def Gn{α:Type}{a:Nat}{b xs:aG α}(h:a+Z b<=Z xs)(t:Nat):
  (OT a b xs)[t]? =if t<a then xs[t]? else if t<a+Z b then b[t - a]? else xs[t]? :=by
 unfold OT
 grind
def UL(v:F)(k sz b:Nat)(p:F):Prop:=∃a n c,v = .slice (O a) n c/\p = .pointer (O<|a.add<|k*sz+b)
def xT{i k sz:Nat}(h:i<k):i*sz+sz<=k*sz:=by
 calc i*sz+sz=(i+1)*sz:=by rw[Nat.add_mul,Nat.one_mul]
  _<=k*sz:=Nat.mul_le_mul_right _ h
section
variable {α β:Type}[s α][s β]{P:bG}{n:Nat}{U:Nat->F}{w:aT}{Q:jl}{E:aT}{V:aG HP}{i j:Nat}
variable {ops:aY bC}{c:aG bC}{d:Nat}{ty T T' e:bJ}{o:String}{t:aY Edge}{g:aP (Nat×Bool)}{v u p:F}{q r:bB}{l l':aG α}{x:α}{jj:Int}{k b:Nat}
theorem eB{α:Type}{l:aG α}{jj:Int}{x:α}(h:A l jj=O x):0<=jj/\l[jj.toNat]? =O x/\jj.toNat<Z l:=by
 grind [A,bR]
def as4{K:IntKind}(hg:Wn ops U g)(hd:Nat.blt d n=aA)(j:B E w V)(hx:ev U q=v)(hy:ev U r = .int K jj)(hi:V[i]? =O (own e v l))
  (a:Cg P T e (s.sz α)) (hj:A l jj=O x) (k:∀p,UL v jj.toNat (s.sz α) 0 p->RL P n ops c (fo U d p) w Q):
  RL P n ops (⟨O d, .indexAddr T q r,ty,o,t,g⟩::c) U w Q:=by
 obtain⟨f,b,h⟩:=eB hj;obtain⟨b,b,b⟩:=j
 rcases b.sat i _ hi with⟨rfl,rfl,_⟩|⟨b,j,m,m,m,rfl,m,_⟩
 ·simp at h
 ·refine jp (v:= .pointer<|O<|(⟨b,j,aQ⟩:Addr).add<|jj.toNat*s.sz α) hg hd ?_<|k _ ⟨_,_,_,rfl,by rw[Nat.add_zero]⟩
  have b:jj<(Z l:Nat):=C
  simp only[execOp,hx,hy,Instr.indexAt,asIntOf,bQ,cB,bY,run_underlying a.Iw,a.sz,f,b,and_self,if_true]
def Ge(v:F)(k sz b:Nat):F:=match v with| .slice (O a) _ _=> .pointer (O<|a.add<|k*sz+b)|_=>undef
def qM{w E:aT}{V:aG HP}(i:Nat){v:F}{l:aG α}{jj:Int}{x:α}(d:B E w V)(hx:A l jj=O x)(b:Nat)(hi:V[i]? =O (own e v l):=by exact rfl):UL v jj.toNat (s.sz α) b (Ge v jj.toNat (s.sz α) b):=by
 obtain⟨a,a,c⟩:=eB hx;obtain⟨a,a,a⟩:=d
 rcases a.sat i _ hi with⟨rfl,rfl,_⟩|⟨a,a,a,a,a,rfl,a,_⟩
 ·simp at c
 ·exact⟨_,_,_,rfl,rfl⟩
def ep{K:IntKind}(i:Nat)(b:B E w V)(hx:ev U q=v)(hi:V[i]? =O (own e v l))(a:Cg P T e (s.sz α))(hj:A l jj=O x)(h:RL P n ops c (fo U d<|Ge v jj.toNat (s.sz α) 0) w Q)(hg:Wn ops U g:=by first|exact trivial|exact⟨_,rfl,rfl⟩|exact⟨_,rfl,Gk.gt ‹_›⟩)(hd:Nat.blt d n=true:=by exact rfl)(hy:ev U r = .int K jj:=by exact rfl):
  RL P n ops (⟨O d, .indexAddr T q r,ty,o,t,g⟩::c) U w Q:=
 as4 hg hd b hx hy hi a hj λp b=>by
  obtain⟨a,f,f,f,rfl⟩:=b;have:Ge v jj.toNat (s.sz α) 0 = .pointer (O<|a.add<|jj.toNat*s.sz α+0):=by rw[f];rfl
  rw[<-this];exact h
def as5{m e:Nat}(hg:Wn ops U g)(hd:Nat.blt d n=aA)(hx:ev U q=p)(a:UL v k (s.sz α) b p)(h:oG P T e m)
  (j:∀f,UL v k (s.sz α) (b+m) f->RL P n ops c (fo U d f) w Q):RL P n ops (⟨O d, .fieldAddr T q e,ty,o,t,g⟩::c) U w Q:=by
 obtain⟨e,l,f,i,a⟩:=a;refine jp (v:= .pointer<|O<|(e.add<|k*s.sz α+b).add m) hg hd ?_<|j _ ⟨e,l,f,i,by rw[p6,Nat.add_assoc]⟩
 simp only[execOp,hx,a,bQ,h.run,bY,cB]
def pe{m e:Nat}(a:UL v k (s.sz α) b (Ge v k (s.sz α) b))(f:oG P T e m)(h:RL P n ops c (fo U d<|Ge v k (s.sz α)<|b+m) w Q)(hg:Wn ops U g:=by first|exact trivial|exact⟨_,rfl,rfl⟩|exact⟨_,rfl,Gk.gt ‹_›⟩)(hd:Nat.blt d n=true:=by exact rfl)(hx:ev U q=Ge v k (s.sz α) b:=by exact rfl):RL P n ops (⟨O d, .fieldAddr T q e,ty,o,t,g⟩::c) U w Q:=
 as5 (α:=α) hg hd hx a f λp a=>by
  obtain⟨e,f,f,f,rfl⟩:=a;have:Ge v k (s.sz α) (b+m) = .pointer (O<|e.add<|k*s.sz α+(b+m)):=by rw[f];rfl
  rw[<-this];exact h
theorem ww{f:α->β}(hg:Wn ops U g)(hd:Nat.blt d n=aA)(J:B E w V)(hx:ev U q=p)(G:UL v k (s.sz α) b p)(hi:V[i]? =O (own e v l))(hl:l[k]? =O x)(C:Fd b f)
  (D:nT P T (s.agg β) (s.sz β)) (K:∀u,B E w (Y u (f x)::V)->RL P n ops c (fo U d u) w Q):RL P n ops (⟨O d, .load T q,ty,o,t,g⟩::c) U w Q:=by
 obtain⟨m,hs,h⟩:=J;obtain⟨M,n',N,I,H⟩:=G;have F:=(bR.1 hl).1
 rcases h.sat i _ hi with⟨j,rfl,_⟩|⟨r,aa,R,S,L,j,Z,h3,z,h5,h6,A⟩
 ·simp at F
 ·rw[I]at j;injection j with a W X
  injection a with a
  subst a;have hb:=h.le i r _ (eD hi) (by rw[z];exact dG r _);have y:=C m _ x<|A.2 k x hl
  refine jp (v:=CU β<|(((L.drop<|k*s.sz α).take<|s.sz α).drop b).take<|s.sz β) hg hd ?_<|K _ ⟨m,_,h.iX ⟨⟨_,rfl,y⟩,rfl⟩⟩
  simp only[execOp,hx,H,Instr.loadAt,Instr.sureAddr,bQ,cB,bY];rw[rA D y<|λab ad hy=>?_];rfl
  grind [Addr.add_lit,cell_of_row]
def sb{γ:Type}[Sc γ]{f:α->γ}(i:Nat)(m:B E w V)(j:UL v k (s.sz α) b p)(hl:l[k]? =O x)(a:Fd b f)(h:nT P T aK 1)(r:RL P n ops c (fo U d<|Sc.toV<|f x) w Q)(hg:Wn ops U g:=by first|exact trivial|exact⟨_,rfl,rfl⟩|exact⟨_,rfl,Gk.gt ‹_›⟩)(hd:Nat.blt d n=true:=by exact rfl)(hx:ev U q=p:=by exact rfl)(hi:V[i]? =O (own e v l):=by exact rfl):RL P n ops (⟨O d, .load T q,ty,o,t,g⟩::c) U w Q:=by
 refine ww (f:=f) hg hd m hx j hi hl a h λu a=>?_;rw[a.CZ (i:=0) rfl];exact r
def La{f:α->β->α}{y:β}(hg:Wn ops U g)(hw:B E w V)(hx:ev U q=p)(hy:ev U r=u)(hp:UL v k (s.sz α) b p)(hi:V[i]? =O (own e v l))(hl:l[k]? =O x)(hj:V[j]? =O (Y u y))
  (hF:Fs b β f) (hm:b+s.sz β<=s.sz α) (hT:nT P T (s.agg β) (s.sz β)) (kk:∀w',B E w' (V.set i<|own e v<|l.set k<|f x y)->RL P n ops c U w' Q):
  RL P n ops (⟨aQ, .store T q r,ty,o,t,g⟩::c) U w Q:=by
 obtain⟨af,hs,G⟩:=hw;obtain⟨ak,n',al,hv,aq⟩:=hp;have X:=(bR.1 hl).1;have J:=(G.sat j _ hj).1
 rcases G.sat i _ hi with⟨K,rfl,_⟩|⟨L,a,M,h,A,K,h2,h3,h4,h5,h6,R⟩
 ·simp at X
 ·have ar:=K;rw[hv]at K;injection K with N e2 e3
  injection N with N
  subst N;have hb:=G.le i L _ (eD hi) (by rw[h4];exact dG L _);have hc:u.cells.size=s.sz β:=by rw[<-s.len J.cells];simp
  have I:Z u.cells.toList=s.sz β:=s.len J.cells;have ao:=xT (sz:=s.sz α) X;have am:Z l*s.sz α<=M*s.sz α:=Nat.mul_le_mul_right _ h2;have an:a+M*s.sz α<=Z h.toList:=h5;have ai:=r8 (P:=P) (v:=u) (o:=a+(k*s.sz α+b)) hT.sz hc (s.one J.cells) hb C;have ah:(h.toList.take (a+(k*s.sz α+b))++u.cells.toList++h.toList.drop (a+(k*s.sz α+b)+s.sz β))=OT (a+(k*s.sz α+b)) u.cells.toList h.toList:=by
   grind [OT]
  rw[ah]at ai;have W:a+(k*s.sz α+b)+Z u.cells.toList<=Z h.toList:=C
  have au:Z A=Z l*s.sz α:=R.1;have ae:∀d,A[d]? =if d<Z l*s.sz α then h.toList[a+d]? else none:=λd=>H
  refine zl hg ?_<|kk _<|pE (P':=own e v<|l.set k<|f x y) (new:=(OT (a+(k*s.sz α+b)) u.cells.toList h.toList).toArray) G hi h4<|.inr ⟨L,a,M,_,((OT (a+(k*s.sz α+b)) u.cells.toList h.toList).drop a).take<|Z l*s.sz α,H,H,h3,rfl,?_,by rw[jD],?_⟩
  ·grind [execOp,Instr.storeAt,Instr.sureAddr,bQ,cB,bY,Addr.add_lit]
  ·grind
  ·refine⟨by rw[cQ,iz,FD W,jD];omega,λF aj z=>?_⟩;rw[kX]at z
   by_cases aa:k=F
   ·subst aa;rw[aL rfl,aL X]at z;injection z with z
    subst z;have ab:=hF af _ _ x y (R.2 k x hl) J.cells;have S:(List.drop (k*s.sz α)<|((OT (a+(k*s.sz α+b)) u.cells.toList h.toList).drop a).take<|Z l*s.sz α).take (s.sz α) =
      (List.take (s.sz α)<|List.drop (k*s.sz α) A).take b++u.cells.toList++(List.take (s.sz α)<|List.drop (k*s.sz α) A).drop (b+s.sz β):=by
     have e0:(List.take (s.sz α)<|List.drop (k*s.sz α) A).take b++u.cells.toList++(List.take (s.sz α)<|List.drop (k*s.sz α) A).drop (b+s.sz β)=OT b u.cells.toList (List.take (s.sz α)<|List.drop (k*s.sz α) A):=by
      unfold OT;rw[I]
     rw[e0];apply List.ext_getElem?;intro d;rw[Gn (by rw[I,cQ,iz];omega),kC,nb,kC,nb,Gn W,I];simp only[kC,nb,ae]
     by_cases m:d<s.sz α
     ·rw[aL m,aL C]
      by_cases D:d<b
      ·rw[aL C,aL D,aL m,aL C]
      ·rw[aJ C,aJ D]
       by_cases ad:d<b+s.sz β
       ·rw[aL C,aL ad];congr 1;omega
       ·rw[aJ C,aJ ad,aL m,aL C]
     ·rw[aJ m,aJ C,aJ C,aJ m]
    rw[S];exact ab
   ·rw[aJ aa]at z;have ag:=(bR.1 z).1;have ap:=xT (sz:=s.sz α) ag;have ab:=R.2 F aj z;have S:(List.drop (F*s.sz α)<|((OT (a+(k*s.sz α+b)) u.cells.toList h.toList).drop a).take<|Z l*s.sz α).take (s.sz α)=(List.drop (F*s.sz α) A).take (s.sz α):=by
     apply List.ext_getElem?;intro d;simp only[kC,nb,Gn W,I,ae]
     by_cases m:d<s.sz α
     ·rw[aL m,aL m,aL (show F*s.sz α+d<Z l*s.sz α by omega),aL (show F*s.sz α+d<Z l*s.sz α by omega)]
      rcases Nat.lt_or_gt_of_ne aa with D|D
      ·have:=xT (sz:=s.sz α) D;rw[aJ C,aJ C]
      ·have:=xT (sz:=s.sz α) D;rw[aL C]
     ·rw[aJ m,aJ m]
    rw[S];exact ab
def HH{K I:aP bB}{lo hi:Int}(i:Nat)(hd:Nat.blt d n=aA)(hw:B E w V)(hx:ev U q=v)(W:V[i]? =O (own e v l))(S:Cg P T e (s.sz α))(hl:K.map (ev U)=O (.int .i64 lo)\/(K.map (ev U)=aQ/\lo=0))(p:wX l lo hi=O l')(z:∀X,B E w (V.set i<|own e X l')->RL P n ops c (fo U d X) w Q)(hg:Wn ops U g:=by exact trivial)(hh:I.map (ev U)=O (.int .i64 hi)\/(I.map (ev U)=aQ/\hi=(Z l:Nat)):=by exact(.inl rfl)):
  RL P n ops (⟨O d, .slice T q K I aQ,ty,o,t,g⟩::c) U w Q:=by
 unfold wX at p;split at p
 ·rename_i a;injection p with p
  subst p;obtain⟨A,y,m⟩:=hw;have x:=eD W;have J:Z ((l.drop lo.toNat).take (hi - lo).toNat)=hi.toNat - lo.toNat:=H
  rcases m.sat i _ W with⟨rfl,rfl,ae⟩|⟨j,r,k,L,Y,rfl,h2,h3,N,h5,h6,R⟩
  ·have hr:=Gm (P:=P) (α:=α) (a:=aQ) (m:=0) (cap:=0) S hl hh a.1 a.2.1 a.2.2 (du _) w;have M:hi.toNat - lo.toNat=0:=H
   have af:lo.toNat=0:=H
   refine jp (v:= .slice aQ 0 0) hg hd ?_<|z _ ⟨A,_,m.update (P':=own e _ _) x yO (.inl ⟨rfl,by rw[List.drop_nil,List.take_nil],rfl⟩) rfl rfl rfl (λ_ _ F=>by cases F) (λ_ _ F=>by cases F)<|λ_ _ _=>rfl⟩
   grind [execOp,bQ,bY,cB]
  ·have hr:=Gm (P:=P) (α:=α) (a:=O ⟨j,r,aQ⟩) (m:=Z l) (cap:=k) S hl hh a.1 a.2.1 a.2.2 h2 w;have aa:Z Y=Z l*s.sz α:=R.1;have ah:r7 y i (y i)=y:=by grind [r7]
   by_cases ad:k=lo.toNat
   ·
    have M:hi.toNat - lo.toNat=0:=C
    have f:(l.drop lo.toNat).take (hi - lo).toNat= []:=List.eq_nil_of_length_eq_zero (by rw[J,M]);have ai:Z l=k:=C
    rw[f]at z;refine jp (v:= .slice (O ⟨j,r,aQ⟩) 0 0) hg hd ?_<|z _ ⟨A,_,m.update (P':=own e (.slice (O ⟨j,r,aQ⟩) 0 0) ([]:aG α)) x (y i) ?_ rfl rfl rfl (λu h b=>m.le i u h x b) (λu h b=> .inl ⟨h,b⟩)<|λ_ _ _=>rfl⟩
    ·grind [execOp,bQ,bY,cB]
    ·exact .inr ⟨j,r,0,L,[],rfl,du _,by simp[maxLen],N,C,G,g_.nil⟩
   ·refine jp (v:= .slice (O ⟨j,r+lo.toNat*s.sz α,aQ⟩) (Z ((l.drop lo.toNat).take (hi - lo).toNat))<|k - lo.toNat) hg hd ?_<|z _ ⟨A,_,m.update (P':=own e _ _) x (y i) (.inr ⟨j,r+lo.toNat*s.sz α,k - lo.toNat,L,(Y.drop<|lo.toNat*s.sz α).take<|(hi - lo).toNat*s.sz α,rfl,?_,C,N,?_,?_,?_⟩) rfl rfl rfl (λu h b=>m.le i u h x b) (λu h b=> .inl ⟨h,b⟩)<|λ_ _ _=>rfl⟩
    ·grind [execOp,bQ,bY,cB,Addr.add_lit]
    ·omega
    ·rw[Nat.sub_mul];have:lo.toNat*s.sz α<=k*s.sz α:=Nat.mul_le_mul_right _ C;omega
    ·rw[J,<-h6];have D:(hi - lo).toNat=hi.toNat - lo.toNat:=C
     rw[D,List.drop_take,List.drop_drop,List.take_take];congr 1;have:hi.toNat*s.sz α<=Z l*s.sz α:=Nat.mul_le_mul_right _ (by have:=a.2.2;omega);rw[Nat.sub_mul];omega
    ·refine⟨?_,λaj ab f=>?_⟩
     ·rw[cQ,iz,aa,J];have D:(hi - lo).toNat=hi.toNat - lo.toNat:=C
      have:hi.toNat*s.sz α<=Z l*s.sz α:=Nat.mul_le_mul_right _ (by have:=a.2.2;omega);rw[D,Nat.sub_mul];omega
     ·rw[kC]at f;split at f
      ·rename_i hm;rw[nb]at f;have:=R.2 _ ab f;have ag:=xT (sz:=s.sz α) hm;rw[List.drop_take,List.drop_drop,List.take_take,Nat.min_eq_left C,<-Nat.add_mul];exact this
      ·cases f
 ·cases p
end
def mk{α:Type}(a:Nat)(z:α)(n:Int):aP (aG α):=if 0<=n/\n*a<=140737488355328 then O (List.replicate n.toNat z)else aQ
def OU(P:bG)(e:bJ){α:Type}[s α](a:α):Prop:=∀(M:fA)(z:F),D (P.info? e) (·.zero)=O z->s.ok M z.cells.toList a
section
variable {α:Type}[s α]{P:bG}{n:Nat}{U:Nat->F}{w:aT}{Q:jl}{E:aT}{V:aG HP}{i:Nat}
variable {ops:aY bC}{rest:aG bC}{d:Nat}{ty t e:bJ}{pos:String}{af:aY Edge}{g:aP (Nat×Bool)}{q r:bB}{b:Nat}{l':aG α}{c:α}{k:Int}
def yj(k:Int)(I:B E w V)(j:yP P t e (s.sz α) b)(K:OU P e c)(i:Gk.mk b c k=O l')(m:∀v w',B E w' (own e v l'::V)->RL P n ops rest (fo U d v) w' Q)(hg:Wn ops U g:=by exact trivial)(hd:Nat.blt d n=true:=by exact rfl)(hx:ev U q = .int .i64 k:=by exact rfl)(hy:ev U r = .int .i64 k:=by exact rfl):RL P n ops (⟨O d, .makeSlice t q r,ty,pos,af,g⟩::rest) U w Q:=by
 obtain⟨h,f,z,J,X,N,aa⟩:=j.inf;unfold Gk.mk at i;split at i
 case isFalse=>cases i
 rename_i y;injection i with i
 subst i;obtain⟨a,rfl⟩:=Int.eq_ofNat_of_zero_le y.1;rw[cN]at m;have p:a*b<=140737488355328:=C
 have M:a<=140737488355328:=nS (Nat.le_mul_of_pos_right _ j.pos) p;have x:(h.bytes:Int)*(a:Int)<=281474976710656:=H
 have D:=run_make (P:=P) w t e h f j.Iw z J .i64 .i64 a a C (Int.le_refl _) x C;simp only[cN]at D;refine jp (v:= .slice (O ⟨w.heap.size,0,aQ⟩) a a) (w':=w.alloc<|.cells (madeCells f.cells<|a*h.size) e) hg hd ?_<|m _ _<|I.alloc _ λo W L=> .inr ⟨w.heap.size,0,a,madeCells f.cells<|a*h.size,_,by rw[A2],G,by grind [maxLen],rfl,?_,rfl,?_⟩
 ·grind [execOp,bQ,bY,cB]
 ·grind [size_madeCells]
 ·have T:=K o f H;have R:Z (madeCells f.cells<|a*h.size).toList=a*s.sz α:=by grind [Array.length_toList,size_madeCells]
  refine⟨H,λl ab hx=>?_⟩;rw[List.getElem?_replicate]at hx;split at hx
  ·rename_i u;injection hx with hx
   subst hx;have S:=xT (sz:=s.sz α) u;have:(List.drop (l*s.sz α)<|(List.drop 0 (madeCells f.cells<|a*h.size).toList).take<|Z (List.replicate a c)*s.sz α).take (s.sz α)=f.cells.toList:=by
    apply List.ext_getElem?;intro t;have Y:Z f.cells.toList=s.sz α:=C
    simp only[kC,nb,A2,kx]
    by_cases F:t<s.sz α
    ·have A:l*s.sz α+t<(madeCells f.cells<|a*h.size).size:=H
     rw[aL F,aL C,Array.getElem?_toList,kV A,aM (show t<Z f.cells.toList by omega)]
     grind [madeCells,s.sz,Nat.mul_comm,Nat.mul_add_mod,Nat.mod_eq_of_lt]
    grind
   grind
  ·cases hx
end
class KV (κ:Type) [s κ]where
 cs:κ->aG F
 spec:∀{M:fA}{c:aG F}{k:κ},s.ok M c k->c=cs k
 ok:∀(M:fA)(k:κ),s.ok M (cs k) k
instance HQ {α:Type} [Sc α]:KV α:=⟨λx=>[Sc.toV x],λh=>h,λ_ _=>rfl⟩
instance A7 {α β:Type} [s α] [s β] [KV α] [KV β]:KV (α×β):=
 ⟨λx=>KV.cs x.1++KV.cs x.2,λ⟨_,_,e,h1,h2⟩=>by rw[e,KV.spec h1,KV.spec h2],λM x=>⟨_,_,rfl,KV.ok M x.1,KV.ok M x.2⟩⟩
def KV.enc{κ:Type}[s κ][KV κ](k:κ):F:=CU κ<|KV.cs k
def KV.aab{κ:Type}[s κ][KV κ]{M:fA}{v:F}{k:κ}(h:E6 M v k):v=KV.enc k:=by
 obtain⟨a,a,h⟩:=h;rw[a,KV.spec h];rfl
def KV.rd{κ:Type}[s κ][KV κ](M:fA)(k:κ):E6 M (KV.enc k) k:=⟨_,rfl,KV.ok M k⟩
structure C1 (P:bG) (kt:bJ) (κ:Type) [s κ] [KV κ] [DecidableEq κ]:Prop where
 ZZ:∀(b:Bool)(k:κ)(w:aT),(Instr.checkKey b 10000 kt<|KV.enc k).run P w = .ok () w
 eq:∀(a b:κ)(w:aT),(Op.equal kt (KV.enc a)<|KV.enc b).run P w = .ok (decide<|a=b) w
 now:(∀(a b:κ),∃D,P.underlying kt=O D/\Instr.sameNow D (KV.enc a) (KV.enc b)=O (decide<|a=b))\/(∃D,P.underlying kt=O D/\∀(a b:κ),Instr.sameNow D (KV.enc a) (KV.enc b)=aQ)
 bits:∀(a:κ),Instr.sameBits 10000 (KV.enc a) (KV.enc a)=aA
section
variable {κ ν:Type}[s κ][KV κ][s ν]
def uG(M:fA):aG MapEntry->aG (κ×ν)->Prop
 | [],[]=>True
 |e::es,p::m=>e.key=KV.enc p.1/\E6 M e.val p.2/\uG M es m
 |_,_=>False
def uG.mono{M a:fA}(h:lm M a):∀{es:aG MapEntry}{m:aG (κ×ν)},uG M es m->uG a es m
 | [],[],_=>trivial
 |d::es,e::m,⟨a,b,c⟩=>⟨a,b.mono h,uG.mono h c⟩
 | [],_::_,h=>h.elim
 |_::_,[],h=>h.elim
def WZ(es:aG MapEntry)(a:Nat)(m:aG (κ×ν)):Prop:=(∀x∈es,x.born<a)/\(es.map (·.born)).Nodup/\(m.map Prod.fst).Nodup
def mp(v:F)(m:aG (κ×ν)):HP:=
 ⟨λM h=>∃r es a,v = .map (O r)/\(uG M (Array.toList es) m/\WZ es.toList a m)/\h=Gk.one r (.map es a),λk⟨r,es,c,d,⟨he,b⟩,hh⟩=>⟨r,es,c,d,⟨uG.mono k he,b⟩,hh⟩⟩
end
section
variable {κ ν:Type}[s κ][KV κ][DecidableEq κ][s ν]
def sI(m:aG (κ×ν))(k:κ):aP Nat:=m.findIdx?<|λp=>decide<|k=p.1
def eU(m:aG (κ×ν))(k:κ)(z:ν):ν:=match m.find? (λp=>decide<|k=p.1)with|some p=>p.2|none=>z
def oN(m:aG (κ×ν))(k:κ):Bool:=m.any<|λp=>decide<|k=p.1
def oO(m:aG (κ×ν))(k:κ)(x:ν):aG (κ×ν):=
 match m with
 | []=>[(k,x)]
 |p::m=>if k=p.1 then(k,x)::m else p::oO m k x
def OV(k:κ)(x:ν):∀m:aG (κ×ν),(oO m k x).map Prod.fst=if k∈m.map Prod.fst then m.map Prod.fst else m.map Prod.fst++[k]
 | []=>by simp[oO]
 |b::m=>by
  unfold oO
  by_cases a:k=b.1
  ·simp[a]
  ·rw[aJ a,gQ,OV k x m];simp only[gQ,eO,a,false_or];split <;> simp
def JY{m:aG (κ×ν)}(h:(m.map Prod.fst).Nodup)(k:κ)(x:ν):((oO m k x).map Prod.fst).Nodup:=by
 rw[OV]
 grind
def WZ.push{es:aG MapEntry}{a:Nat}{m:aG (κ×ν)}(h:WZ es a m)(k:κ)(x:ν){b:MapEntry}(he:b.born=a):WZ (es++[b]) (a+1) (oO m k x):=by
 refine⟨λb a=>?_,?_,JY h.2.2 k x⟩
 ·rcases dS.1 a with a|a
  ·have:=h.1 b a;omega
  grind
 ·rw[fY,List.nodup_append];refine⟨h.2.1,G,λc c d d e=>?_⟩;simp at d;obtain⟨b,a,rfl⟩:=dH.1 c;have:=h.1 b a;omega
def WZ.modify{es:aG MapEntry}{b:Nat}{m:aG (κ×ν)}(h:WZ es b m)(k:κ)(x:ν){f:MapEntry->MapEntry}(c:∀e,(f e).born=e.born)(a:Nat):WZ (es.modify a f) b (oO m k x):=by
 have b:(es.modify a f).map (·.born)=es.map (·.born):=by
  refine List.ext_getElem? λj=>?_
  grind
 refine⟨λd g=>?_,by rw[b];exact h.2.1,JY h.2.2 k x⟩;have c:d.born∈(es.modify a f).map (·.born):=dH.2 ⟨d,g,rfl⟩;rw[b]at c;obtain⟨d,b,e⟩:=dH.1 c;rw[<-e];exact h.1 d b
variable {P:bG}{n:Nat}{U:Nat->F}{w:aT}{Q:jl}{E:aT}{V:aG HP}{i j l:Nat}
variable {ops:aY bC}{t:aG bC}{d:Nat}{ty T A K:bJ}{I:String}{L:aY Edge}{g:aP (Nat×Bool)}{v kv u:F}{q J qv:bB}{r:Nat}{m:aG (κ×ν)}{k:κ}{x D:ν}
def qk(r:C1 P A κ)(M:fA){es:aG MapEntry}(he:uG M es m)(w:aT):
  ∃o,(Instr.findKey A (KV.enc k) es).run P w = .ok o w/\
   match o with
   |some (b,i)=>∃x,sI m k=O b/\m.find? (λa=>decide (k=a.1))=O (k,x)/\E6 M i x/\∃c,es[b]? =O c/\c.key=KV.enc k
   |none=>sI m k=aQ/\m.find? (λa=>decide (k=a.1))=none:=by
 have F:∀(es:aG MapEntry)(m:aG (κ×ν))(b:Nat),uG M es m->∃o,(Instr.findAsking A (KV.enc k) es b).run P w = .ok o w/\
   (match o with
   |some (d,i)=>∃e x,d=b+e/\sI m k=O e/\m.find? (λa=>decide (k=a.1))=O (k,x)/\E6 M i x/\∃c,es[e]? =O c/\c.key=KV.enc k
   |none=>sI m k=aQ/\m.find? (λa=>decide (k=a.1))=aQ):=by
  intro es
  induction es with
  |nil=>intro m b he;cases m with
   |nil=>exact⟨aQ,rfl,rfl,rfl⟩
   |cons a m=>exact he.elim
  |cons c es y=>
   intro m b he
   cases m with
   |nil=>exact he.elim
   |cons a m=>
    obtain⟨j,q,v⟩:=he;obtain⟨z,B⟩:=a;simp only at j q;rw[Instr.findAsking];simp only[bQ,j,r.eq,bY]
    by_cases f:k=z
    ·subst f;refine⟨O (b,c.val),by simp[cB],0,B,rfl,?_,?_,q,c,rfl,j⟩
     ·simp[sI,List.findIdx?_cons]
     ·simp
    ·obtain⟨o,n,g⟩:=y m (b+1) v;refine⟨o,H,?_⟩
     cases o with
     |none=>
      obtain⟨h,l⟩:=g;refine⟨?_,?_⟩
      ·simp only[sI,List.findIdx?_cons,bW f]at h ⊢;simpa using h
      ·simpa[List.find?_cons,bW f]using l
     |some p=>
      obtain⟨d,i⟩:=p;obtain⟨e,x,s,h,l,D,u,N,E⟩:=g;refine⟨e+1,x,C,?_,?_,D,u,H,E⟩
      ·simp only[sI,List.findIdx?_cons,bW f]at h ⊢;simp[h]
      ·simpa[List.find?_cons,bW f]using l
 have I:∃o,(Instr.findAsking A (KV.enc k) es).run P w = .ok o w/\
   (match o with
   |some (d,i)=>∃x,sI m k=O d/\m.find? (λa=>decide (k=a.1))=O (k,x)/\E6 M i x/\∃c,es[d]? =O c/\c.key=KV.enc k
   |none=>sI m k=aQ/\m.find? (λa=>decide (k=a.1))=aQ):=by
  obtain⟨o,n,g⟩:=F es m 0 he;refine⟨o,n,?_⟩
  cases o with
  |none=>exact g
  |some p=>
   obtain⟨d,i⟩:=p;obtain⟨e,x,s,t⟩:=g;rw[kx]at s;subst s;exact⟨x,t⟩
 unfold Instr.findKey
 rcases r.now with J|⟨r,F,K⟩
 ·obtain⟨r,F,_⟩:=J k k;have L:∀b d:κ,Instr.sameNow r (KV.enc b) (KV.enc d)=O (decide<|b=d):=λb d=>ta
  have J:∀(es:aG MapEntry)(m:aG (κ×ν))(b:Nat),uG M es m->∃o,Instr.findNow r (KV.enc k) es b=O o/\
    (match o with
    |some (d,i)=>∃e x,d=b+e/\sI m k=O e/\m.find? (λa=>decide (k=a.1))=O (k,x)/\E6 M i x/\∃c,es[e]? =O c/\c.key=KV.enc k
    |none=>sI m k=aQ/\m.find? (λa=>decide (k=a.1))=aQ):=by
   intro es
   induction es with
   |nil=>intro m b he;cases m with
    |nil=>exact⟨aQ,rfl,rfl,rfl⟩
    |cons a m=>exact he.elim
   |cons c es y=>
    intro m b he
    cases m with
    |nil=>exact he.elim
    |cons a m=>
     obtain⟨j,q,v⟩:=he;obtain⟨z,B⟩:=a;simp only at j q;rw[Instr.findNow,j,L]
     by_cases f:k=z
     ·subst f;refine⟨O (b,c.val),G,0,B,rfl,?_,?_,q,c,rfl,j⟩
      ·simp[sI,List.findIdx?_cons]
      ·simp
     ·obtain⟨o,n,g⟩:=y m (b+1) v;refine⟨o,H,?_⟩
      cases o with
      |none=>
       obtain⟨h,l⟩:=g;refine⟨?_,?_⟩
       ·simp only[sI,List.findIdx?_cons,bW f]at h ⊢;simpa using h
       ·simpa[List.find?_cons,bW f]using l
      |some p=>
       obtain⟨d,i⟩:=p;obtain⟨e,x,s,h,l,D,u,N,E⟩:=g;refine⟨e+1,x,C,?_,?_,D,u,H,E⟩
       ·simp only[sI,List.findIdx?_cons,bW f]at h ⊢;simp[h]
       ·simpa[List.find?_cons,bW f]using l
  obtain⟨o,n,g⟩:=J es m 0 he
  simp_all[bQ,run_underlying,bY,cB,kx]
 ·cases es with
  |nil=>
   cases m with
   |nil=>exact⟨aQ,by simp_all[run_underlying,Instr.findNow],rfl,rfl⟩
   |cons a m=>exact he.elim
  |cons c es=>
   obtain⟨o,n,g⟩:=I;refine⟨o,?_,g⟩
   cases m with
   |nil=>exact he.elim
   |cons a m=>
    have:Instr.findNow r (KV.enc k) (c::es) 0=none:=by rw[Instr.findNow,he.1,K]
    simp only[bQ,run_underlying F,bY,this,n]
theorem R5(m:aG (κ×ν))(k:κ)(z:ν):eU m k z=match m.find? (λa=>decide<|k=a.1)with|some a=>a.2|none=>z:=rfl
def R6(m:aG (κ×ν))(k:κ):oN m k=(m.find?<|λa=>decide<|k=a.1).isSome:=by
 unfold oN
 grind
def JZ(f:P.underlying T=O (.map A K))(c:C1 P A κ)(u:∃e z,P.info? K=O e/\e.zero=O z/\∀M,E6 M z D)
  (t:B E w V) (hi:V[i]? =O (mp v m)) (l:Bool):
  ∃y,(Instr.lookup T v (KV.enc k) l).run P w = .ok (if l then .tuple #[y, .bool<|oN m k]else y) w/\B E w (Y y (eU m k D)::V):=by
 obtain⟨M,j,a⟩:=t;obtain⟨r,J,I,rfl,⟨p,Q⟩,q⟩:=a.sat i _ hi;have g:=a.le i r _ (eD hi) (by rw[q];exact dG r _);obtain⟨F,h,d⟩:=qk c M p w (k:=k);obtain⟨e,z,s,C,R⟩:=u
 cases F with
 |none=>
  obtain⟨o,b⟩:=d;refine⟨z,?_,B.JR ⟨M,j,a⟩ λG d L=>⟨?_,rfl⟩⟩
  ·simp[Instr.lookup,run_underlying f,MapKept.run_getObj_map g,c.ZZ,h,Result.andThen,zeroValue,typeInfo,s,C,R6,b,program,Sem.run]
  grind [R5]
 |some n=>
  obtain⟨H,y⟩:=n;obtain⟨x,o,b,N,_⟩:=d;refine⟨y,?_,⟨M,OJ yO j,a.iX ⟨?_,rfl⟩⟩⟩
  ·simp[Instr.lookup,run_underlying f,MapKept.run_getObj_map g,c.ZZ,h,Result.andThen,R6,b]
  grind [R5]
omit [DecidableEq κ]in
def xU(j:Nat)(b:B E w V)(hj:V[j]? =O (Y kv k):=by exact rfl):kv=KV.enc k:=by
 obtain⟨a,a,a⟩:=b;exact KV.aab (a.sat j _ hj).1
structure LR (P:bG) (T A K:bJ) (κ ν:Type) [s κ] [KV κ] [DecidableEq κ] [s ν] (D:ν):Prop where
 Iw:P.underlying T=O (.map A K)
 key:C1 P A κ
 zero:∃inf z,P.info? K=O inf/\inf.zero=O z/\∀M,E6 M z D
def as6(hg:Wn ops U g)(hd:Nat.blt d n=aA)(c:B E w V)(hx:ev U q=v)(a:ev U J=KV.enc k)(hi:V[i]? =O (mp v m))(a:LR P T A K κ ν D)
  (e:∀y,B E w (Y y (eU m k D)::V)->RL P n ops t (fo U d<|.tuple #[y, .bool<|oN m k]) w Q):RL P n ops (⟨O d, .lookup T q J aA,ty,I,L,g⟩::t) U w Q:=by
 obtain⟨y,b,b⟩:=JZ a.Iw a.key a.zero c hi aA (k:=k);refine jp hg hd ?_<|e y b
 grind [execOp,bQ,bY,cB]
def as7(hg:Wn ops U g)(hd:Nat.blt d n=aA)(c:B E w V)(hx:ev U q=v)(a:ev U J=KV.enc k)(hi:V[i]? =O (mp v m))(a:LR P T A K κ ν D)
  (e:∀y,B E w (Y y (eU m k D)::V)->RL P n ops t (fo U d y) w Q):RL P n ops (⟨O d, .lookup T q J aK,ty,I,L,g⟩::t) U w Q:=by
 obtain⟨y,b,b⟩:=JZ a.Iw a.key a.zero c hi aK (k:=k);refine jp hg hd ?_<|e y b
 grind [execOp,bQ,bY,cB,Bool.false_eq_true]
def LE [KV ν](i:Nat)(k:κ)(hd:Nat.blt d n=aA)(c:B E w V)(hx:ev U q=v)(b:ev U J=KV.enc k)(hi:V[i]? =O (mp v m))(a:LR P T A K κ ν D)(e:RL P n ops t (fo U d<|.tuple #[KV.enc<|eU m k D, .bool<|oN m k]) w Q)(hg:Wn ops U g:=by exact trivial):RL P n ops (⟨O d, .lookup T q J aA,ty,I,L,g⟩::t) U w Q:=
 as6 hg hd c hx b hi a λa a=>by have:=xU 0 a;rw[this];exact e
def yW [KV ν](i:Nat)(k:κ)(hg:Wn ops U g)(c:B E w V)(b:ev U J=KV.enc k)(a:LR P T A K κ ν D)(e:RL P n ops t (fo U d<|KV.enc<|eU m k D) w Q)(hd:Nat.blt d n=true:=by exact rfl)(hx:ev U q=v:=by exact rfl)(hi:V[i]? =O (mp v m):=by exact rfl):RL P n ops (⟨O d, .lookup T q J aK,ty,I,L,g⟩::t) U w Q:=
 as7 hg hd c hx b hi a λa a=>by have:=xU 0 a;rw[this];exact e
def zr(a:B E w V)(b:∀v w',B E w' (mp v ([]:aG (κ×ν))::V)->RL P n ops t (fo U d v) w' Q)(hg:Wn ops U g:=by exact trivial)(hd:Nat.blt d n=true:=by exact rfl):RL P n ops (⟨O d, .makeMap T aQ,ty,I,L,g⟩::t) U w Q:=by
 refine jp (v:= .map<|O w.heap.size) (w':=w.alloc<|.map #[] 0) hg hd ?_<|b _ _<|a.alloc _ λa a a=>⟨w.heap.size,#[],0,rfl,⟨trivial,by simp[WZ]⟩,rfl⟩
 rfl
def uG.len{M:fA}:∀{es:aG MapEntry}{m:aG (κ×ν)},uG M es m->Z es=Z m
 | [],[],_=>rfl
 |_::_,_::_,⟨_,_,a⟩=>congrArg (· +1) (uG.len a)
 | [],_::_,a=>a.elim
 |_::_,[],a=>a.elim
def Ix{M:fA}{d:Nat->fA}{P':HP}{b c c':Nat}{es es':aY MapEntry}{e:HP}(a:ip E w M d V)(hi:V[i]? =O e)(hh:d i=Gk.one b (.map es c))
  (d:P'.ok M (Gk.one b<|.map es' c')):B E {w with heap:=w.heap.setIfInBounds b<|.map es' c'} (V.set i P'):=by
 have e:=a.le i b _ (eD hi) (by rw[hh];exact dG b _);refine⟨M,_,a.update (eD hi) (Gk.one b<|.map es' c') d rfl rfl rfl (λd e a=>?_) (λd e a=>?_)<|λd a _=>?_⟩
 ·grind [k8,MapKept.heap_set]
 ·obtain⟨rfl,rfl⟩:=k8 a;simp_all[dG]
 ·rw[hh]at a
  grind [MapKept.heap_set,dG]
theorem uG.push{M:fA}{a:MapEntry}:∀{es:aG MapEntry}{m:aG (κ×ν)},uG M es m->sI m k=aQ->a.key=KV.enc k->E6 M a.val x->uG M (es++[a]) (oO m k x)
 | [],[],_,_,c,d=>⟨c,d,trivial⟩
 |b::es,j::m,⟨g,h,i⟩,e,c,d=>by
  have f:¬k=j.1:=λb=>by simp[sI,List.findIdx?_cons,b]at e
  have j:sI m k=none:=by simp only[sI,List.findIdx?_cons,bW f]at e ⊢;simpa using e
  show uG M (b::(es++[a])) _;unfold oO;rw[aJ f];exact⟨g,h,uG.push i j c d⟩
 | [],_::_,a,_,_,_=>a.elim
 |_::_,[],a,_,_,_=>a.elim
def uG.modify{M:fA}{f:MapEntry->MapEntry}(h1:∀e,(f e).key=KV.enc k)(h2:∀e,E6 M (f e).val x):∀{es:aG MapEntry}{m:aG (κ×ν)}{a:Nat},uG M es m->sI m k=O a->uG M (es.modify a f) (oO m k x)
 | [],[],_,_,b=>by simp[sI]at b
 |e::es,i::m,a,⟨g,h,d⟩,b=>by
  unfold oO
  by_cases c:k=i.1
  ·have i:a=0:=by simp[sI,List.findIdx?_cons,c]at b;omega
   subst i;rw[aL c];exact⟨h1 e,h2 e,d⟩
  ·rw[aJ c];simp only[sI,List.findIdx?_cons,bW c,Bool.false_eq_true,if_false,xd]at b;obtain⟨c,c,rfl⟩:=b;exact⟨g,h,uG.modify h1 h2 d c⟩
 | [],_::_,_,b,_=>b.elim
 |_::_,[],_,b,_=>b.elim
def zT(i j:Nat)(k:κ)(c:B E w V)(hx:ev U q=v)(l:ev U J=KV.enc k)(hi:V[i]? =O (mp v m))(hj:V[j]? =O (Y u x))(a:LR P T A K κ ν D)(y:∀w',B E w' (V.set i<|mp v<|oO m k x)->RL P n ops t U w' Q)(hg:Wn ops U g:=by exact trivial)(s:ev U qv=u:=by exact rfl):RL P n ops (⟨aQ, .mapUpdate T q J qv,ty,I,L,g⟩::t) U w Q:=by
 obtain⟨d,b,b⟩:=c;obtain⟨r,f,e,rfl,⟨z,p⟩,h⟩:=b.sat i _ hi;have c:=(b.sat j _ hj).1;have c:=b.le i r _ (eD hi) (by rw[h];exact dG r _);obtain⟨F,o,C⟩:=qk a.key d z w (k:=k)
 cases F with
 |none=>
  refine zl hg ?_<|y _<|Ix b hi h (es':=f.push {key:=KV.enc k,val:=u,born:=e}) (c':=e+1) ⟨r,_,_,rfl,⟨?_,by rw[Array.toList_push];exact p.push k x rfl⟩,rfl⟩
  ·simp[execOp,hx,l,s,Instr.mapUpdate,run_underlying a.Iw,MapKept.run_getObj_map c,a.key.ZZ,o,MapKept.run_setObj_map _ c]
  grind [Array.toList_push,uG.push]
 |some z=>
  obtain⟨d,F⟩:=z;obtain⟨z,z,z,z,z,F,F⟩:=C;have C:f[d]? =O z:=H
  have z:(Instr.keyThatStays (KV.enc k)<|KV.enc k).run P w = .ok (KV.enc k) w:=by simp[Instr.keyThatStays,a.key.bits]
  refine zl hg ?_<|y _<|Ix b hi h (es':=f.modify d λb=>{b with key:=KV.enc k,val:=u}) (c':=e) ⟨r,_,_,rfl,⟨?_,by rw[Array.toList_modify];exact p.modify k x (f:=λb=>{b with key:=KV.enc k,val:=u}) (λ_=>rfl) d⟩,rfl⟩
  ·simp[execOp,hx,l,s,Instr.mapUpdate,run_underlying a.Iw,MapKept.run_getObj_map c,a.key.ZZ,o,MapKept.run_setObj_map _ c,C,F,z]
  simp_all[Array.toList_modify,uG.modify]
end
@[reducible] def ix{α β:Type}[s β][KV β](f:α->β): @KV α (s.via f):= @KV.mk α (s.via f) (λx=>KV.cs<|f x) (λh=>KV.spec h)<|λM x=>KV.ok M<|f x
def C1.str{P:bG}{a:bJ}(h:P.underlying a=O .string):C1 P a cU where
 ZZ b k w:=MapKept.run_checkKey h (k:=Gk.str k) trivial b 9999
 eq a b w:=tK (d:=9999) h a b w
 now:= .inl λa b=>⟨_,h,by show O ((⟨a.eI.toArray⟩:ByteArray)==⟨b.eI.toArray⟩)=_;rw[R4]⟩
 bits a:=MapKept.sameBits_self (d:= .string) (k:=Gk.str a) trivial _
def C1.int{P:bG}{a:bJ}(h:P.underlying a=O (.int .i64)):C1 P a Int where
 ZZ b k w:=MapKept.run_checkKey h (k:= .int .i64 k) rfl b 9999
 eq a b w:=(me (d:=9999) h a b w).trans (by rfl)
 now:= .inl λa b=>⟨_,h,by rfl⟩
 bits a:=MapKept.sameBits_self (d:= .int .i64) (k:= .int .i64 a) rfl _
inductive XQ (P:bG) (n:Nat) (xs:aY F):aG Field->Prop
 |nil:XQ P n xs []
 |cons {f:Field} {l:aG Field} {x:F} (hn:f.name≠ "_") (hx:∀w,(part f.type xs f.offset).run P w = .ok x w) (hc:∀b w,(Instr.checkKey b n f.type x).run P w = .ok () w) (h:XQ P n xs l):XQ P n xs (f::l)
theorem EK{P:bG}{c:bJ}{a:aY Field}{xs:aY F}{n:Nat}(d:P.underlying c=O (.struct a))(h:XQ P n xs a.toList)(b:Bool)(w:aT):
  (Instr.checkKey b (n+1) c<|.agg xs).run P w = .ok () w:=by
 obtain⟨e⟩:=a;rw[Instr.checkKey];simp only[bQ,run_underlying d,bY,List.forIn_toArray];simp only at h;clear d
 induction h with
 |nil=>simp
 | @cons f e i c d a h g=>
  simp only[List.forIn_cons,c,ne_eq,not_false_eq_true,if_true,bQ,d,a,bY,cB]
  simp_all
theorem OW{n:Nat}{cs:aG F}(h:∀x∈cs,Instr.sameBits n x x=aA):Instr.sameBits (n+1) (.agg cs.toArray) (.agg cs.toArray)=true:=by
 rw[Instr.sameBits];simp only[beq_self_eq_true,Bool.true_and,qX];intro b a;have:∀(a:aG F)(b:F×F),b∈a.zip a->b.1=b.2/\b.1∈a:=by
  intro a
  induction a with
  |nil=>simp
  |cons b a c=>
   grind [List.zip_cons_cons]
 grind
def C1.struct{κ:Type}[s κ][KV κ][DecidableEq κ]{P:bG}{a:bJ}{b:aY Field}(e:P.underlying a=O (.struct b))(c:s.agg κ=aA)(d:WL P a κ)
  (hc:∀k:κ,XQ P 9999 (KV.cs k).toArray b.toList) (b:∀(k:κ),∀x∈KV.cs k,Instr.sameBits 9999 x x=aA):C1 P a κ:=by
 have a:∀k:κ,KV.enc k = .agg (KV.cs k).toArray:=λk=>by grind [KV.enc,CU]
 refine⟨λb k c=>?_,λa b c=>?_, .inr ⟨_,e,λa b=>?_⟩,λa=>?_⟩
 ·grind [EK]
 ·exact d.eq yO _ _ a b c (KV.ok yO a)<|KV.ok yO b
 ·rfl
 grind [OW]
def Gs{ν:Type}[s ν]{P:bG}{a:bJ}(b:F){c:ν}(d:∀M,E6 M b c)(h:D (P.info? a) (·.zero)=O b:=by kernel_rfl):∃b z,P.info? a=O b/\b.zero=O z/\∀M,E6 M z c:=by
 cases c:P.info? a with
 |none=>grind
 |some b=>grind
def OU.of{α:Type}[s α]{P:bG}{e:bJ}(b:F){c:α}(d:∀M,s.ok M b.cells.toList c)(h:D (P.info? e) (·.zero)=O b:=by kernel_rfl):OU P e c:=λM f a=>by
 rw[h]at a;injection a with a;subst a;exact d M
section
variable {P:bG}{n:Nat}{U:Nat->F}{w:aT}{Q:jl}{ops:aY bC}{c:aG bC}{d:Nat}{ty t u:bJ}{pos:String}{af:aY Edge}{g:aP (Nat×Bool)}{q r:bB}{K:IntKind}{a b:Int}
def as8(hg:Wn ops U g)(hd:Nat.blt d n=aA)(hx:ev U q = .int K a)(hy:ev U r = .int K b)(e:RL P n ops c (fo U d<|.int K (if b<a then b else a)) w Q):
  RL P n ops (⟨O d, .call ⟨.builtin .min,#[q,r],#[t,u]⟩,ty,pos,af,g⟩::c) U w Q:=by
 refine jp hg hd ?_ e;simp[execOp,resolve,hx,hy,invoke,builtin,Builtin.min_,Builtin.min2]
def yl{f:Fn}{args:aY bB}(a:aG F)(b:RL P n ops c (fo U d<|.func f #[] a.toArray) w Q)(hg:Wn ops U g:=by exact trivial)(hd:Nat.blt d n=true:=by exact rfl)(hvs:args.toList.map (ev U)=a:=by exact rfl):RL P n ops (⟨O d, .makeFunc f #[] args,ty,pos,af,g⟩::c) U w Q:=by
 have e:args.map (ev U)=a.toArray:=H
 refine jp hg hd ?_ b
 simp_all[execOp,Instr.makeFunc]
end
@[reducible] def e(n:Int):F:= .int .i64 n
@[reducible] def vb(b:Bool):F:= .bool b
@[reducible] def h(b o:Nat):F:= .pointer<|O ⟨b,o,aQ⟩
section
variable {P:bG}{n:Nat}{U:Nat->F}{w:aT}{Q:jl}{y:Code}{ops:aY bC}{c:aG bC}{d:Nat}{ty T T':bJ}{e:String}{m:aY Edge}{q r:bB}{K:IntKind}{id:Nat}{l:aG bC}
def mv(v:F)(k:RL P n ops c (fo U d v) w Q)(hd:Nat.blt d n=true:=by exact rfl)(hx:ev U q=v:=by exact rfl):RL P n ops (⟨O d, .move q,ty,e,m,aQ⟩::c) U w Q:=i8 (hd:=hd) (hx:=hx) _ k
def xe(v:F)(k:RL P n ops c (fo U d v) w Q)(hd:Nat.blt d n=true:=by exact rfl)(hx:ev U q=v:=by exact rfl):RL P n ops (⟨O d, .assign q,ty,e,m,aQ⟩::c) U w Q:=Nt trivial hd hx k
def ic{bop:BinOp}(a b:Int)(k:RL P n ops c (fo U d<|.bool<|Gi bop a b) w Q)(hd:Nat.blt d n=true:=by exact rfl)(hx:ev U q = .int K a:=by exact rfl)(hy:ev U r = .int K b:=by exact rfl)(hc:Ch bop=true:=by exact rfl):
  RL P n ops (⟨O d, .binOp bop T q r T',ty,e,m,aQ⟩::c) U w Q:=G_ trivial hd hx hy hc k
def sk{op:Op}{j t:Nat}{b:Bool}(a:D (ops[j]?) (·.dst)=O t)(f:U t = .bool (!b)\/U t=undef)(hd:Nat.blt d n=aA)
  (k:RL P n ops c (fo U d undef) w Q):RL P n ops (⟨O d,op,ty,e,m,O (j,b)⟩::c) U w Q:=GT a f hd k
def gt{a b:Bool}(h:a=b):Value.bool a = .bool b:=by rw[h]
def IT(h:RL P n l.toArray l U w (tU P n y Q)):RC P n (.seq (.region id l.toArray aK) y) U w Q:=cF<|b_ h
def cJ(h:RC P n y U w Q):RL P n ops [] U w (tU P n y Q):=J<|bE h
def hO{z:Code}(h:RL P n l.toArray l U w (tU P n z Q)):RL P n ops [] U w (tU P n (.seq (.region id l.toArray aK) z) Q):=cJ<|IT h
def i4{z:Code}(h:RC P n y U w (tU P n z Q)):RL P n ops [] U w (tU P n (.seq y z) Q):=cJ<|cF h
def UP(h:Q .ret U w):RC P n .ret U w (tU P n y Q):=dw<|dx h
def rx(h:RC P n y U w Q):RC P n .skip U w (tU P n y Q):=dl<|bE h
def hG{z:Code}(h:RC P n y U w (tU P n z Q)):RC P n .skip U w (tU P n (.seq y z) Q):=rx<|cF h
def p_{z:Code}(h:RL P n l.toArray l U w (tU P n z Q)):RC P n .skip U w (tU P n (.seq (.region id l.toArray aK) z) Q):=rx<|IT h
def fk{i:Nat}(h:Q (.exit i) U w):RC P n (.exit i) U w (tU P n y Q):=as_<|WW h
def k4{b:Nat}(h:RL P n l.toArray l U w (tU P n y<|Gh b Q)):RC P n (.block b<|.seq (.region id l.toArray aK) y) U w Q:=dt<|IT h
def ac{d:Nat}{v:F}{l:aG (Nat×F)}(h:U d=v)(hl:d8 U l):d8 U ((d,v)::l):=⟨h,hl⟩
def az:d8 U []:=trivial
def f{α:Type}{a b:α}(h:O a=O b):a=b:=by injection h
end
def Fo.OX{S R β:Type}(s:S)(f:S->β)(g:R->β):(Fo.go s:Fo S R).cs f g=f s:=rfl
def bc(e:bJ)(g:Nat)(a:aG F):HP:=⟨λ_ h=>(∀v∈a,v.oneCell'=aA)/\h=Gk.one g (.cells a.toArray e (0,0)),λ_ h=>h⟩
def UR{α:Type}[s α](c:aG F)(x:α):HP:=⟨λM h=>s.ok M c x/\h=yO,λk⟨a,b⟩=>⟨s.mono k a,b⟩⟩
structure H1 (P:bG) (T:bJ) (zs:aG F):Prop where
 z:∃z,(∀w,(zeroValue T).run P w = .ok z w)/\z.cells=zs.toArray
def UT:∀{cs:aG F}(_:Z cs=4),∃a b c d:F,cs= [a,b,c,d]
 | [a,b,c,d],_=>⟨a,b,c,d,rfl⟩
section
variable {α β:Type}[s α][s β]{E w:aT}{V:aG HP}{i j:Nat}{v:F}{x:α}{e e':bJ}{b:Nat}{c:aG F}
def jX{l:aG α}(i:Nat)(h:B E w V)(hi:V[i]? =O (own e v l):=by exact rfl):v.oneCell'=true:=by
 obtain⟨a,a,a⟩:=h;exact UK<|a.sat i _ hi
def tC{l:aG α}(i:Nat)(h:B E w V)(hi:V[i]? =O (Y v l):=by exact rfl):v.oneCell'=true:=by
 obtain⟨a,a,rfl⟩:=h.slice hi;rfl
def UM{κ ν:Type}[s κ][KV κ][s ν]{m:aG (κ×ν)}(i:Nat)(h:B E w V)(hi:V[i]? =O (mp v m)):v.oneCell'=true:=by
 obtain⟨a,a,a⟩:=h;obtain⟨b,b,b,rfl,_⟩:=a.sat i _ hi;rfl
def B.lT{cs:aG F}{k:Nat}{f:α->β}(h:B E w V)(hi:V[i]? =O (UR cs x))(c:Fd k f)(e:cs[k]? =O v)(a:s.sz β=1)(a:s.agg β=aK):B E w (Y v (f x)::V):=by
 obtain⟨a,b,b⟩:=h;obtain⟨d,_⟩:=b.sat i _ hi;refine⟨a,_,b.iX ⟨?_,rfl⟩⟩;have b:=c a cs x d;obtain⟨a,rfl⟩:=bR.1 e;have a:(cs.drop k).take (s.sz β)= [cs[k]]:=by
  grind [r6]
 rw[a]at b;refine⟨_,?_,b⟩
 grind [CU]
def B.UN(h:B E w V)(hi:V[i]? =O (bc e b c))(p:∀M j,ip E w M j V->s.ok M c x):B E w (V.set i<|bx e b x):=by
 obtain⟨M,j,a⟩:=h;obtain⟨_,n⟩:=a.sat i _ hi;have o:=eD hi;refine⟨M,j,a.os,a.tape,a.out,a.dr,a.im,λd l f=>?_,λd b g k=>a.le d b g H,λd b g k=>a.dm d b g H,λd q b g k r=>a.dj d q b g H H⟩;rw[kX]at f;split at f
 ·rename_i m;subst m;simp[o]at f;subst f;exact⟨c,p M j a,n⟩
 ·exact a.sat d l f
def uI{M:fA}(h:E6 M v x)(c:s.agg α=false:=by exact rfl):s.ok M [v] x:=by
 obtain⟨b,rfl,d⟩:=h;have a:=s.len d;rw[s.ag1 c]at a
 match b,a with
 | [a],_=>grind [CU]
end
section
variable {P:bG}{n:Nat}{U:Nat->F}{w:aT}{Q:jl}{E:aT}{V:aG HP}{i j:Nat}
variable {ops:aY bC}{c:aG bC}{d:Nat}{ty T T' e:bJ}{f:String}{o:aY Edge}{g:aP (Nat×Bool)}{v v':F}{q r:bB}{b m:Nat}{h:aG F}
def d9(i:Nat)(v:F)(l:B E w V)(j:nT P T aK 1)(k:RL P n ops c (fo U d v) w Q)(hg:Wn ops U g:=by first|exact trivial|exact⟨_,rfl,rfl⟩|exact⟨_,rfl,Gk.gt ‹_›⟩)(hd:Nat.blt d n=true:=by exact rfl)(hx:ev U q = .pointer (O ⟨b,m,aQ⟩):=by exact rfl)(hi:V[i]? =O (bc e b h):=by exact rfl)(a:h[m]? =O v:=by exact rfl):RL P n ops (⟨O d, .load T q,ty,f,o,g⟩::c) U w Q:=by
 obtain⟨a,a,a⟩:=l;obtain⟨_,p⟩:=a.sat i _ hi;have l:=a.le i b _ (eD hi) (by rw[p];exact dG b _);have a:w.cell? ⟨b,m,aQ⟩=O v:=by rw[cell_of_row w b _ _ _ _ l];grind
 refine jp (v:=v) hg hd ?_ k;simp[execOp,hx,Instr.loadAt,Instr.sureAddr,loadVar,j.Tc,load,Sem.run,a]
def q5(i:Nat)(v:F)(d:B E w V)(hi:V[i]? =O (bc e b h))(l:h[m]? =O v')(h1:v.oneCell'=aA)(j:nT P T aK 1)(k:∀w',B E w' (V.set i<|bc e b<|h.set m v)->RL P n ops c U w' Q)(hg:Wn ops U g:=by exact trivial)(hx:ev U q = .pointer (O ⟨b,m,aQ⟩):=by exact rfl)(hy:ev U r=v:=by exact rfl):RL P n ops (⟨aQ, .store T q r,ty,f,o,g⟩::c) U w Q:=by
 obtain⟨a,a,a⟩:=d;obtain⟨d,d⟩:=a.sat i _ hi;have p:=(bR.1 l).1;have l:=a.le i b _ (eD hi) (by rw[d];exact dG b _);have p:v.cells = #[v]:=by cases v <;> first|rfl|(cases h1)
 have s:=r8 (P:=P) (v:=v) (o:=m) j.sz (by rw[p];rfl) H l (by simp;omega);have j:(h.toArray.toList.take m++v.cells.toList++h.toArray.toList.drop (m+1)).toArray=(h.set m v).toArray:=by
  grind [List.set_eq_take_append_cons_drop]
 rw[j]at s;refine zl (w':=w.setRow b (h.set m v).toArray) hg ?_<|k _<|pE a hi d ⟨λa a=>?_,rfl⟩
 ·simp_all[execOp,Instr.storeAt,Instr.sureAddr,bQ,cB,bY]
 grind
def Br{zs:aG F}(h:B E w V)(a:H1 P T zs)(k:∀b w',B E w' (bc T b zs::V)->RL P n ops c (fo U d<|.pointer<|O ⟨b,0,aQ⟩) w' Q)(hg:Wn ops U g:=by exact trivial)(hd:Nat.blt d n=true:=by exact rfl)(h1:zs.all (·.oneCell')=true:=by exact rfl):RL P n ops (⟨O d, .alloc T,ty,f,o,g⟩::c) U w Q:=by
 obtain⟨i,a,e⟩:=a.z;refine jp (w':=w.alloc<|.cells i.cells T) hg hd ?_<|k w.heap.size _<|h.alloc _ λ_ _ _=>⟨λv h=>qX.1 h1 v h,by rw[e]⟩
 simp only[execOp,Instr.alloc,newVar,newRow,newObj,bQ,cB,a,bY];rfl
def UV(v:F)(hg:Wn ops U g)(hd:Nat.blt d n=aA)(e:B E w V)(hx:ev U q=v)(h1:v.oneCell'=aA)(k:∀b w',B E w' (bc T b [v]::V)->RL P n ops c (fo U d<|.pointer<|O ⟨b,0,aQ⟩) w' Q):RL P n ops (⟨O d, .box T q,ty,f,o,g⟩::c) U w Q:=by
 have a:v.cells = #[v]:=by cases v <;> first|rfl|(cases h1)
 refine jp (w':=w.alloc<|.cells #[v] T) hg hd ?_<|k w.heap.size _<|e.alloc _ λ_ _ _=>⟨λe e=>H,rfl⟩
 simp only[execOp,hx,Instr.box,newVar,newRow,newObj,bQ,cB,a];rfl
def wr{a:Addr}(hx:ev U q = .pointer (O a))(k:RL P n ops c (fo U d<|.pointer<|O a) w Q)(hg:Wn ops U g:=by exact trivial)(hd:Nat.blt d n=true:=by exact rfl):RL P n ops (⟨O d, .nilCheck q,ty,f,o,g⟩::c) U w Q:=by
 refine jp hg hd ?_ k
 simp_all[execOp]
end
structure R32 where
 n:Int
 deriving DecidableEq,Inhabited
instance:Sc R32:=⟨λx=> .int .i32 x.n,λ_=>rfl⟩
def bs(s:cU):ByteArray:=⟨s.eI.toArray⟩
def it(g:Nat)(s:cU)(p:Nat):HP:=⟨λ_ h=>h=Gk.one g (.stringIter (bs s) p),λ_ h=>h⟩
def OY(a:aG (Nat×Nat)):aG F->aG (Nat×F)->aP (aG F)
 |z,[]=>O z
 |z,(i,v)::b=>match a[i]? with
  |some (o,1)=>if Nat.blt o (Z z)=aA then OY a (z.set o v) b else aQ
  |_=>aQ
def Za:aG (Nat×F)->Prop
 | []=>True
 |(_,v)::l=>v.oneCell'=aA/\Za l
theorem OZ{b:aG (Nat×Nat)}:∀{d:aG (Nat×F)}{z cs:aG F},Za d->OY b z d=O cs->Instr.fill (b.toArray[·]?) z.toArray d=O cs.toArray
 | [],z,cs,_,a=>by
  unfold OY at a;injection a with a;subst a;rfl
 |(k,c)::m,z,cs,e,a=>by
  unfold OY at a;unfold Instr.fill;have g:c.cells = #[c]:=by have:=e.1;cases c <;> first|rfl|(cases this)
  split at a
  ·rename_i f h;split at a
   ·rename_i i;have l:f<Z z:=Nat.blt_eq▸i;have j:b.toArray[k]?=O (f,1):=by simpa using h
    simp only[j,g];rw[aJ (by simp;omega)];have:=OZ e.2 a;simpa using this
   ·cases a
  ·cases a
section
variable {P:bG}{n:Nat}{U:Nat->F}{w:aT}{Q:jl}{E:aT}{V:aG HP}{i j:Nat}
variable {ops:aY bC}{c:aG bC}{d:Nat}{ty T e:bJ}{pos:String}{af:aY Edge}{g:aP (Nat×Bool)}{q r:bB}{b m:Nat}{f cs zs:aG F}
def LT{a:aY (Nat×bB)}{e:aG (Nat×Nat)}(zs cs:aG F)(hd:Nat.blt d n=aA)(f:aG (Nat×F))(hvs:a.toList.map (λb=>(b.1,ev U b.2))=f)(h:zU P T e zs.toArray)(h1:Za f)(b:OY e zs f=O cs)(k:RL P n ops c (fo U d<|.agg cs.toArray) w Q)(hg:Wn ops U g:=by exact trivial):RL P n ops (⟨O d, .build T a,ty,pos,af,g⟩::c) U w Q:=by
 have b:a.map (λ(i,a)=>(i,ev U a))=f.toArray:=H
 refine jp (v:= .agg cs.toArray) hg hd ?_ k;simp only[execOp,bQ];rw[b,h.run]
 grind [OZ,bY,cB]
def V_(i:Nat)(hg:Wn ops U g)(d:B E w V)(hx:ev U q = .pointer (O ⟨b,0,aQ⟩))(hy:ev U r = .agg cs.toArray)(hi:V[i]? =O (bc e b f))(h1:∀v∈cs,v.oneCell'=aA)(h:nT P T aA m)(hl:Z f=m)(hc:Z cs=m)(k:∀w',B E w' (V.set i<|bc e b cs)->RL P n ops c U w' Q):RL P n ops (⟨aQ, .store T q r,ty,pos,af,g⟩::c) U w Q:=by
 obtain⟨a,a,a⟩:=d;obtain⟨_,d⟩:=a.sat i _ hi;have j:=a.le i b _ (eD hi) (by rw[d];exact dG b _);have l:=r8 (P:=P) (v:= .agg cs.toArray) (o:=0) h.sz (by grind [Value.cells]) (by grind [Value.cells]) j (by simp[hl]);have h:List.drop m f= []:=List.drop_eq_nil_of_le C;simp only[kx,List.take_zero,List.nil_append,h,kY,Array.toArray_toList,Value.cells]at l;refine zl (w':=w.setRow b cs.toArray) hg ?_<|k _<|pE a hi d ⟨h1,rfl⟩
 simp_all[execOp,Instr.storeAt,Instr.sureAddr,bQ,cB,bY]
def B.Nl{α:Type}[s α]{x:α}(h:B E w V)(b:∀M a,ip E w M a V->s.ok M cs x)(c:s.agg α=aA):B E w (Y (.agg cs.toArray) x::V):=
 h.JR λM a g=>⟨⟨cs,by grind [CU],b M a g⟩,rfl⟩
def Gt:aG F->Prop
 | []=>True
 |v::l=>v.oneCell'=aA/\Gt l
def Gt.all:∀{l:aG F},Gt l->∀v∈l,v.oneCell'=aA
 |v::l,b,c,a=>by
  rcases eO.1 a with a|a
  ·subst a;exact b.1
  ·exact Gt.all b.2 c a
end
def C2{P:bG}{t u ty e:bJ}{w:aT}(i:TypeInfo)(z:F)(k:P.underlying t=O (.slice e))(l:P.underlying u=O (.int .i64))(hi:P.info? e=O i)(o:i.zero=O z)
  (n:Nat) (a:0<n) (b:(n:Int)<=140737488355328) (b:n*i.bytes<=140737488355328) (j:0<i.size):
  (Builtin.append_ #[t,u] ty #[.slice aQ 0 0, .int .i64 (n:Int)]).run P w =
   .ok (.slice (O ⟨w.heap.size,0,aQ⟩) n<|grownCap w n 0 e) (w.drew.alloc<|.cells (Builtin.zeroCells z.cells n++Builtin.zeroCells z.cells (grownCap w n 0 e - n)) e):=by
 have f:n≠0:=C
 have c:¬(9223372036854775807<(n:Int)):=C
 have b:¬(281474976710656<Builtin.nextslicecap n 0*i.bytes):=by grind [nextslicecap_zero]
 have m:IntKind.i64.wrap (n:Int)=(n:Int):=fG C C;have g:¬((n:Int)<0):=C
 have d:¬(281474976710656<(n:Int)*(i.bytes:Int)):=C
 have h:¬(n=0\/i.size=0):=C
 simp[Builtin.append_,run_underlying k,run_underlying l,sizeOf,typeInfo,zeroValue,hi,o,asInt,asIntOf,m,g,d,f,c,b,h,Question.forced,run_firstCells_none,newRow,grownCap];have b:=Nat.mul_pos a j;omega
def QW{α:Type}(a:Nat)(z:α)(n:Int):aP (aG α):=if 0<n/\n*a<=140737488355328 then O (List.replicate n.toNat z)else aQ
section
variable {α:Type}[s α]{P:bG}{n:Nat}{U:Nat->F}{w:aT}{Q:jl}{E:aT}{V:aG HP}{i j:Nat}
variable {ops:aY bC}{b:aG bC}{d:Nat}{ty T t u e:bJ}{h:String}{o:aY Edge}{g:aP (Nat×Bool)}{v:F}{q r:bB}{l l':aG α}{p:α}{f:Nat}{k:Int}
def WF(k:Int)(hg:Wn ops U g)(hd:Nat.blt d n=aA)(X:B E w V)(hx:ev U q = .slice aQ 0 0)(hy:ev U r = .int .i64 k)(l:yP P t e (s.sz α) f)(W:P.underlying u=O (.int .i64))(aa:OU P e p)(i:Gk.QW f p k=O l')(z:∀v w',B E w' (own e v l'::V)->RL P n ops b (fo U d v) w' Q):RL P n ops (⟨O d, .call ⟨.builtin .append,#[q,r],#[t,u]⟩,ty,h,o,g⟩::b) U w Q:=by
 obtain⟨y,c,L,Y,af,ab,x⟩:=l.inf;unfold Gk.QW at i;split at i
 case isFalse=>cases i
 rename_i I;injection i with i
 subst i;obtain⟨a,rfl⟩:=Int.eq_ofNat_of_zero_le<|Int.le_of_lt I.1
 rw[cN]at z;have D:0<a:=C
 have F:a*f<=140737488355328:=C
 have h2:a<=140737488355328:=nS (Nat.le_mul_of_pos_right _ l.pos) F;have T:0<y.size:=by grind [s.pos]
 have hr:=C2 (P:=P) (t:=t) (u:=u) (ty:=ty) (e:=e) (w:=w) y c l.Iw W L Y a D C H T;have ad:=grownCap_ge w a 0 e;have J:grownCap w a 0 e<=maxLen:=grownCap_le_maxLen w a 0 e (by grind [maxLen]);refine jp (v:= .slice (O ⟨w.heap.size,0,aQ⟩) a<|grownCap w a 0 e) (w':=w.drew.alloc<|.cells (Builtin.zeroCells c.cells a++Builtin.zeroCells c.cells (grownCap w a 0 e - a)) e) hg hd ?_<|z _ _<|X.drew.alloc _ λA hs gd=> .inr ⟨w.heap.size,0,grownCap w a 0 e,Builtin.zeroCells c.cells a++Builtin.zeroCells c.cells (grownCap w a 0 e - a),_,by rw[A2],H,J,rfl,?_,rfl,?_⟩
 ·grind [execOp,resolve,invoke,builtin,bQ,cB,bY]
 ·simp only[Array.size_append,size_zeroCells,x,kx,<-Nat.add_mul]
  grind
 ·have S:=aa A c H;have N:Z (Builtin.zeroCells c.cells a).toList=a*s.sz α:=by grind [Array.length_toList,size_zeroCells]
  have K:((Builtin.zeroCells c.cells a++Builtin.zeroCells c.cells (grownCap w a 0 e - a)).toList.drop 0).take (Z (List.replicate a p)*s.sz α)=(Builtin.zeroCells c.cells a).toList:=H
  rw[K];refine⟨by rw[N,A2],λj ah hx=>?_⟩;rw[List.getElem?_replicate]at hx;split at hx
  ·rename_i G;injection hx with hx
   subst hx;have ae:=xT (sz:=s.sz α) G;have:(List.drop (j*s.sz α) (Builtin.zeroCells c.cells a).toList).take (s.sz α)=c.cells.toList:=by
    apply List.ext_getElem?;intro t;have ag:Z c.cells.toList=s.sz α:=C
    simp only[kC,nb]
    by_cases m:t<s.sz α
    ·have M:j*s.sz α+t<(Builtin.zeroCells c.cells a).size:=by rw[size_zeroCells,x];omega
     rw[aL m,Array.getElem?_toList,kV M,aM (show t<Z c.cells.toList by omega)];simp only[Builtin.zeroCells,Array.getElem_map,Array.getElem_range,x];have R:(j*s.sz α+t) % s.sz α=t:=by rw[Nat.mul_comm,Nat.mul_add_mod,Nat.mod_eq_of_lt m]
     rw[R];rw[getElem!_pos c.cells t C];simp
    ·rw[aJ m,List.getElem?_eq_none C]
   rw[this];exact S
  ·cases hx
def LU(hd:Nat.blt d n=aA)(hx:ev U q = .slice aQ 0 0)(a:P.underlying t=O (.slice e))(k:RL P n ops b (fo U d<|.int .i64 (0:Nat)) w Q)(hg:Wn ops U g:=by exact trivial):RL P n ops (⟨O d, .call ⟨.builtin .cap,#[q],#[t]⟩,ty,h,o,g⟩::b) U w Q:=by
 refine jp hg hd ?_ k;simp[execOp,resolve,hx,invoke,builtin,Builtin.cap_,run_underlying a,goInt]
def WI(α:Type)[s α]{c a:aP bB}{lo hi:Int}(hg:Wn ops U g)(hd:Nat.blt d n=aA)(hx:ev U q = .slice aQ 0 0)(i:Cg P T e (s.sz α))(hl:c.map (ev U)=O (.int .i64 lo)\/(c.map (ev U)=aQ/\lo=0))(f:lo=0)(h1:hi=0)(k:RL P n ops b (fo U d<|.slice aQ 0 0) w Q)(hh:a.map (ev U)=O (.int .i64 hi)\/(a.map (ev U)=aQ/\hi=(0:Nat)):=by exact(.inl rfl)):
  RL P n ops (⟨O d, .slice T q c a aQ,ty,h,o,g⟩::b) U w Q:=by
 subst f;subst h1;refine jp hg hd ?_ k;have:=Gm (P:=P) (α:=α) (m:=0) (cap:=0) (a:=aQ) i hl hh (Int.le_refl _) (Int.le_refl _) (Int.le_refl _) (du _) w
 grind [execOp,bQ,bY,cB]
def W2(v:F):Bool:=match v with| .slice aQ _ _=>aA|_=>aK
theorem QX{d:Nat}(b:P.underlying T=O (.slice e))(a:aP Addr)(m c:Nat)(w:aT):(Op.equalIn (d+1) T (.slice a m c)<|.slice aQ 0 0).run P w = .ok (W2<|.slice a m c) w:=by
 unfold Op.equalIn;rw[bQ,run_underlying b,bY]
 cases a <;> rfl
def as9{a:bJ}(hg:Wn ops U g)(hd:Nat.blt d n=aA)(c:B E w V)(hx:ev U q=v)(hy:ev U r = .slice aQ 0 0)(hi:V[i]? =O (Y v l))(f:P.underlying T=O (.slice e))
  (k:RL P n ops b (fo U d<|.bool<|W2 v) w Q):RL P n ops (⟨O d, .binOp .eql T q r a,ty,h,o,g⟩::b) U w Q:=by
 obtain⟨a,a,rfl⟩:=c.slice hi;refine ws (hg:=hg) (he:=λ_=>by rfl) (hr:=λw=>?_) _ _ _ hd hx hy k
 grind [QX,binOp,bQ,Op.equal,Op.maxDepth,bY,cB]
def B.ac5(a:B E w V)(hi:V[i]? =O (Y v l))(d:W2 v=aA):l= []:=by
 obtain⟨b,b,b⟩:=a;obtain⟨a,c,c,e,c,c,c,c⟩:=sT.1 (b.sat i _ hi).1;subst e
 cases a with
 |some a=>cases d
 |none=>
  cases l with
  |nil=>rfl
  |cons b l=>
   obtain⟨a,a,a,_⟩:=c 0 b rfl
   cases a
end
section
variable {P:bG}{n:Nat}{U:Nat->F}{w:aT}{Q:jl}{E:aT}{V:aG HP}{i j:Nat}
variable {ops:aY bC}{c:aG bC}{d:Nat}{ty T T' t u e:bJ}{f:String}{o:aY Edge}{g:aP (Nat×Bool)}{v:F}{q r:bB}{K:IntKind}{a b:Int}
def BA(a b:Int)(k:RL P n ops c (fo U d<|.int K<|K.wrap<|Int.tdiv a b) w Q)(hg:Wn ops U g:=by exact trivial)(hd:Nat.blt d n=true:=by exact rfl)(hx:ev U q = .int K a:=by exact rfl)(hy:ev U r = .int K b:=by exact rfl)(e:(b==0)=false:=by exact rfl):RL P n ops (⟨O d, .binOp .quo T q r T',ty,f,o,g⟩::c) U w Q:=by
 have e:b≠0:=H
 refine ws (hg:=hg) (hr:=λw=>?_) _ _ _ hd hx hy k
 grind [binOp,not_true,Op.intDiv,cB]
def WN(hg:Wn ops U g)(hd:Nat.blt d n=aA)(hx:ev U q = .int K a)(hy:ev U r = .int K b)(e:RL P n ops c (fo U d<|.int K (if a<b then b else a)) w Q):
  RL P n ops (⟨O d, .call ⟨.builtin .max,#[q,r],#[t,u]⟩,ty,f,o,g⟩::c) U w Q:=by
 refine jp hg hd ?_ e;simp[execOp,resolve,hx,hy,invoke,builtin,Builtin.max_,Builtin.max2]
def vw(v:F)(lo sz:Nat):F:=match v with| .slice a m cap=> .slice (if cap=lo then a else a.map (·.add (lo*sz))) (m - lo) (cap - lo)|_=>undef
def QY{α:Type}(l:aG α)(lo j:Int):aP α:=if 0<=j then A l (lo+j)else aQ
def nI{α:Type}{l:aG α}{lo j:Int}{x:α}(h:QY l lo j=O x):0<=j/\A l (lo+j)=O x:=by
 grind [QY]
variable {α:Type}[s α]{l:aG α}{lo hi:Int}{x p:α}{bytes:Nat}
def O6{j:aP bB}{A:aG α}(i:Nat)(lo:Int)(hd:Nat.blt d n=aA)(t:B E w V)(hx:ev U q=v)(r:V[i]? =O (own e v l))(y:Cg P T e (s.sz α))(h:wX l lo (Z l:Nat)=O A)(k:RL P n ops c (fo U d<|vw v lo.toNat<|s.sz α) w Q)(hg:Wn ops U g:=by exact trivial)(hl:j.map (ev U)=O (.int .i64 lo)\/(j.map (ev U)=aQ/\lo=0):=by exact(.inl rfl)):RL P n ops (⟨O d, .slice T q j aQ aQ,ty,f,o,g⟩::c) U w Q:=by
 unfold wX at h;split at h
 case isFalse=>cases h
 rename_i p;obtain⟨a,m,rfl⟩:=t.qB r;obtain⟨D,I,u⟩:=t;have z:Z l<=m:=by
  rcases u.sat i _ r with⟨H,x,_⟩|⟨b,K,F,G,L,J,x,_⟩
  ·grind
  grind
 refine jp hg hd ?_ k;have:=Gm (P:=P) (α:=α) (a:=a) (m:=Z l) (cap:=m) (hiv:=aQ) y hl (.inr ⟨rfl,rfl⟩) p.1 p.2.1 C z w;simp only[execOp,hx,bQ,Option.map_none,this,bY,cB];rfl
def at0{lo:Nat}{T:bJ}(hg:Wn ops U g)(hd:Nat.blt d n=aA)(h:B E w V)(hx:ev U q=vw v lo (s.sz α))(hi:V[i]? =O (own e v l))(b:P.underlying t=O (.slice T))
  (k:RL P n ops c (fo U d<|.int .i64<|(Z l - lo:Nat)) w Q):RL P n ops (⟨O d, .call ⟨.builtin .len,#[q],#[t]⟩,ty,f,o,g⟩::c) U w Q:=by
 obtain⟨a,j,rfl⟩:=h.qB hi;exact AB hg hd hx b k
def O7{jj:Int}(i:Nat)(lo:Int)(hd:Nat.blt d n=aA)(k:B E w V)(hx:ev U q=vw v lo.toNat (s.sz α))(hy:ev U r = .int K jj)(hi:V[i]? =O (own e v l))(h:Cg P T e (s.sz α))(a:0<=lo)(p:0<=jj)(hj:A l (lo+jj)=O x)(j:RL P n ops c (fo U d<|Ge v (lo+jj).toNat (s.sz α) 0) w Q)(hg:Wn ops U g:=by exact trivial):
  RL P n ops (⟨O d, .indexAddr T q r,ty,f,o,g⟩::c) U w Q:=by
 obtain⟨_,a,m⟩:=eB hj;obtain⟨a,a,a⟩:=k
 rcases a.sat i _ hi with⟨rfl,rfl,_⟩|⟨b,k,a,t,t,rfl,t,_⟩
 ·simp at m
 ·have m:a≠lo.toNat:=C
  simp only[vw,aJ m,Option.map_some]at hx;have m:Ge (.slice (O ⟨b,k,aQ⟩) (Z l) a) (lo+jj).toNat (s.sz α) 0 = .pointer (O<|((⟨b,k,aQ⟩:Addr).add<|lo.toNat*s.sz α).add<|jj.toNat*s.sz α):=by
   have:(lo+jj).toNat=lo.toNat+jj.toNat:=C
   grind [Ge,p6,Nat.add_mul]
  rw[m]at j;refine jp hg hd ?_ j;have a:jj<((Z l - lo.toNat:Nat):Int):=C
  simp only[execOp,hx,hy,Instr.indexAt,asIntOf,bQ,cB,bY,run_underlying h.Iw,h.sz,p,a,and_self,if_true]
def WP{op:Op}{w':aT}{u:F}(hg:Wn ops U g)(d:(execOp (ev U) ⟨aQ,op,ty,f,o,g⟩).run P w = .ok (.value u) w')
  (k:RL P n ops c U w' Q):RL P n ops (⟨aQ,op,ty,f,o,g⟩::c) U w Q:=by
 intro a b;unfold wpList;rw[aL<|Wn.wanted (o:=⟨aQ,op,ty,f,o,g⟩) hg b];refine .inl ?_;unfold Oper.wp;rw[b.ev,d];exact k _<|b.JS _
def WY{lo:Nat}(i:Nat)(hg:Wn ops U g)(N:B E w V)(hx:ev U q=vw v lo (s.sz α))(hi:V[i]? =O (own e v l))(J:yP P t e (s.sz α) bytes)(aq:OU P e p)(lm:lo<=Z l)(T:∀w',B E w' (V.set i<|own e v<|l.take lo++List.replicate (Z l - lo) p)->RL P n ops c U w' Q):
  RL P n ops (⟨aQ, .call ⟨.builtin .clear,#[q],#[t]⟩,ty,f,o,g⟩::c) U w Q:=by
 by_cases ab:Z l=lo
 ·have e1:l.take lo++List.replicate (Z l - lo) p=l:=by rw[<-ab,fz,Nat.sub_self];simp
  rw[e1,Gl hi]at T;obtain⟨a,h,rfl⟩:=N.qB hi;refine WP (u:= .tuple #[]) hg ?_<|T w N
  have M:vw (.slice a (Z l) h) lo (s.sz α) = .slice (if h=lo then a else a.map (·.add (lo*s.sz α))) 0 (h - lo):=by simp only[vw,ab,Nat.sub_self]
  rw[M]at hx;generalize (if h=lo then a else a.map (·.add (lo*s.sz α)))=z at hx
  cases z <;> simp[execOp,resolve,invoke,builtin,Builtin.clear_,hx,run_underlying J.Iw]
 obtain⟨aX,m,ad,hz,aV,ay,F⟩:=J.inf;obtain⟨W,hs,I⟩:=N
 rcases I.sat i _ hi with⟨_,rfl,_⟩|⟨b,d,h,k,xs,rfl,X,h3,Y,h5,h6,h7⟩
 ·grind
 have an:h≠lo:=C
 obtain⟨x,hm⟩:∃x,Z l=lo+(x+1):=⟨Z l - lo - 1,C⟩;have M:vw (.slice (O ⟨b,d,aQ⟩) (Z l) h) lo (s.sz α) = .slice (O ⟨b,d+lo*s.sz α,aQ⟩) (x+1) (h - lo):=by
  simp only[vw,aJ an,Option.map_some,Addr.add_lit,hm,Nat.add_sub_cancel_left]
 rw[M]at hx;have hb:=I.le i b _ (eD hi) (by rw[Y];exact dG b _);have aD:Z l*s.sz α<=h*s.sz α:=Nat.mul_le_mul_right _ X;have ai:d+h*s.sz α<=Z k.toList:=h5;generalize R:(Builtin.zeroCells m.cells<|x+1).toList=j;have au:Z j=(x+1)*s.sz α:=by rw[<-R,Array.length_toList,size_zeroCells,F]
 have aS:Z l*s.sz α=lo*s.sz α+(x+1)*s.sz α:=by rw[hm,Nat.add_mul]
 have ae:∀H,s.ok H m.cells.toList p:=λH=>aq H m (by rw[ad];exact hz);have af:∀a t,a<x+1->t<s.sz α->j[a*s.sz α+t]? =m.cells.toList[t]? :=λa t ha r=>by
  have am:=xT (sz:=s.sz α) ha;have G:a*s.sz α+t<(Builtin.zeroCells m.cells<|x+1).size:=by rw[size_zeroCells,F];omega
  have ar:Z m.cells.toList=s.sz α:=by rw[Array.length_toList];exact F
  rw[<-R,Array.getElem?_toList,kV G,aM (show t<Z m.cells.toList by omega)];simp only[Builtin.zeroCells,Array.getElem_map,Array.getElem_range,F];have al:(a*s.sz α+t) % s.sz α=t:=by rw[Nat.mul_comm,Nat.mul_add_mod,Nat.mod_eq_of_lt r]
  rw[al,getElem!_pos m.cells t C];simp
 have A:d+lo*s.sz α+Z j<=Z k.toList:=C
 have ag:∀u∈j,u.oneCell'=true:=λu hu=>by
  obtain⟨S,hk⟩:=dM hu;have aE:=(bR.1 hk).1;have hp:0<s.sz α:=s.pos;have ak:S / s.sz α<x+1:=Nat.div_lt_of_lt_mul (by rw[Nat.mul_comm];omega);have:=af (S / s.sz α) (S % s.sz α) ak<|Nat.mod_lt _ hp
  rw[Nat.mul_comm,Nat.div_add_mod,hk]at this;exact s.one (ae W) u<|eR this.symm
 have L:=run_storeCells_at P b (d+lo*s.sz α) e j 0 k w hb (by simpa[au]using A) ag;simp only[Nat.add_zero]at L;have ao:k.toList.take (d+lo*s.sz α)++j++k.toList.drop (d+lo*s.sz α+Z j)=OT (d+lo*s.sz α) j k.toList:=rfl;rw[ao]at L;have aj:∀t,xs[t]? =if t<Z l*s.sz α then k.toList[d+t]? else none:=λt=>by rw[<-h6,kC,nb]
 have D:Z (l.take lo++List.replicate (Z l - lo) p)=Z l:=by rw[cK,cQ,A2];omega
 refine WP (u:= .tuple #[]) hg ?_ (T _ (pE (P':=own e (.slice (O ⟨b,d,aQ⟩) (Z l) h) (l.take lo++List.replicate (Z l - lo) p)) (new:=(OT (d+lo*s.sz α) j k.toList).toArray) I hi Y
  (.inr ⟨b,d,h,_,((OT (d+lo*s.sz α) j k.toList).drop d).take (Z l*s.sz α),by rw[D],by rw[D];exact X,h3,rfl,?_,by rw[D],?_⟩)))
 ·have av:∀w,(zeroValue e).run P w = .ok m w:=λw=>by simp[zeroValue,typeInfo,bQ,ad,hz]
  simp[execOp,resolve,invoke,builtin,Builtin.clear_,hx,run_underlying J.Iw,av,R,L]
 ·rw[List.size_toArray,FD A];exact ai
 ·refine⟨by rw[cQ,iz,FD A,D];omega,λa aw y=>?_⟩;have tL:a<Z l:=by rw[<-D];exact(bR.1 y).1
  have ah:=xT (sz:=s.sz α) tL
  by_cases G:a<lo
  ·rw[my (by rw[cQ];omega),kC,aL G]at y;have ap:=h7.2 a aw y;have ax:=xT (sz:=s.sz α) G;have K:(List.drop (a*s.sz α)<|((OT (d+lo*s.sz α) j k.toList).drop d).take<|Z l*s.sz α).take (s.sz α)=(List.drop (a*s.sz α) xs).take (s.sz α):=by
    apply List.ext_getElem?;intro t;simp only[kC,nb,Gn A,aj]
    by_cases r:t<s.sz α
    ·rw[aL r,aL r,aL C,aL C,aL C]
    ·rw[aJ r,aJ r]
   rw[K];exact ap
  ·rw[ly (by rw[cQ];omega),List.getElem?_replicate]at y;split at y
   case isFalse=>cases y
   injection y with y
   subst y;obtain⟨z,rfl⟩:∃z,a=lo+z:=⟨a - lo,C⟩;have aa:z<x+1:=C
   have am:=xT (sz:=s.sz α) aa;have K:(List.drop ((lo+z)*s.sz α)<|((OT (d+lo*s.sz α) j k.toList).drop d).take<|Z l*s.sz α).take (s.sz α)=m.cells.toList:=by
    apply List.ext_getElem?;intro t;have ar:Z m.cells.toList=s.sz α:=by rw[Array.length_toList];exact F
    simp only[kC,nb,Gn A];rw[Nat.add_mul]at ah ⊢
    by_cases r:t<s.sz α
    ·rw[aL r,aL C,aJ C,aL C,<-af z t aa r];congr 1;omega
    ·rw[aJ r,List.getElem?_eq_none C]
   rw[K];exact ae W
def UQ{α:Type}{l a:aG α}{lo:Int}(h:wX l lo (Z l:Nat)=O a):lo.toNat<=Z l:=by
 grind [wX]
def QZ{α:Type}{l a:aG α}{lo hi:Int}(h:wX l lo hi=O a):0<=lo:=by
 grind [wX]
end
def zV(a:Nat->Bool)(U:Nat->F):aG (Nat×Nat×F)->Prop
 | []=>True
 |(j,d,v)::r=>(a j=aK->U d=v)/\zV a U r
def zV.at{a:Nat->Bool}{U:Nat->F}:∀{b:aG (Nat×Nat×F)}(_:zV a U b)(k:Nat){j d:Nat}{v:F}(_:b[k]? =O (j,d,v)),a j=aK->U d=v
 | [],_,k,_,_,_,a=>by simp at a
 |(j,d,v)::f,a,0,e,c,g,b=>by simp at b;obtain⟨rfl,rfl,rfl⟩:=b;exact a.1
 |(j,d,v)::f,a,k+1,e,c,g,b=>zV.at a.2 k (by simpa using b)
def Mm{a:Nat->Bool}{i k:Nat}(h:k_ a i k=aK):a k=aK/\Nat.beq k i=false:=by
 grind [k_,Nat.beq]
def zV.no{a:Nat->Bool}{U:Nat->F}{j:Nat}:∀{b:aG (Nat×Nat×F)}(_:zV a U b),zV (k_ a j) U b
 | [],_=>trivial
 |(c,b,e)::d,a=>⟨λb=>a.1 (Mm b).1,zV.no a.2⟩
def zV.up{b:Nat->Bool}{U:Nat->F}{j d:Nat}{v:F}:∀{a:aG (Nat×Nat×F)}(_:zV b U a)(_:(a.all λc=>Nat.beq c.1 j|| !Nat.beq c.2.1 d)=aA),zV (k_ b j) (fo U d v) a
 | [],_,_=>trivial
 |(e,c,g)::f,b,a=>by
  simp only[List.all_cons,dE,jk,Bool.not_eq_true']at a;refine⟨λf=>?_,zV.up b.2 a.2⟩;obtain⟨e,c⟩:=Mm f
  rcases a.1 with a|a
  ·rw[a]at c;cases c
  ·unfold fo;rw[a];exact b.1 e
section
variable {E w:aT}{M:fA}{c:Nat->fA}{V:aG HP}{P d e:HP}{j:Nat}{h1 h2:fA}
def ip.split(g:ip E w M c V)(hj:j<Z V)(f:∀b o,h1 b=O o->c j b=O o)(i:∀b o,h2 b=O o->c j b=O o)
  (hd:∀b o,h1 b=O o->h2 b=aQ) (n:d.ok M h1) (p:e.ok M h2):ip E w M (OJ h1<|r7 c j h2) (d::V.set j e):=by
 have k:ip E w M (r7 c j h2) (V.set j e):=by
  have:=g.update (w':=w) (P':=e) hj h2 p rfl rfl rfl (λb o a=>g.le j b o hj<|i b o a) (λb o a=> .inl ⟨o,i b o a⟩)<|λb _ _=>rfl
  exact this
 refine k.cons h1 n (λb o a=>g.le j b o hj<|f b o a) (λb o a=>g.dm j b o hj<|f b o a)<|λq b o h a=>?_
 rw[jD]at h;unfold r7;split
 ·grind
 ·rename_i m;exact g.dj j q b o hj h (λl=>m l.symm)<|f b o a
def ip.join(g:ip E w M c (d::V))(hj:j<Z V)(A:P.ok M (wG (c 0)<|c<|j+1)):
  ip E w M (r7 (λh=>c<|h+1) j<|wG (c 0)<|c<|j+1) (V.set j P):=by
 have m:j+1<Z (d::V):=H
 have q:∀a b,wG (c 0) (c<|j+1) a=O b->c 0 a=O b\/c (j+1) a=O b:=λa b e=>by
  grind [wG]
 have l:0<Z (d::V):=G
 refine⟨g.os,g.tape,g.out,g.dr,g.im,λh s r=>?_,λh a b i e=>?_,λh a b i e=>?_,λh n a b i t u e=>?_⟩
 ·rw[kX]at r;unfold r7
  by_cases k:j=h
  ·grind
  ·rw[aJ k]at r;rw[aJ<|λf=>k f.symm];exact g.sat (h+1) s H
 ·rw[jD]at i;unfold r7 at e;split at e
  ·rcases q a b e with f|f
   ·exact g.le 0 a b l f
   ·exact g.le (j+1) a b m f
  ·exact g.le (h+1) a b H e
 ·rw[jD]at i;unfold r7 at e;split at e
  ·rcases q a b e with f|f
   ·exact g.dm 0 a b l f
   ·exact g.dm (j+1) a b m f
  ·exact g.dm (h+1) a b H e
 ·rw[jD]at i t;have o:h+1<Z (d::V):=H
  have p:n+1<Z (d::V):=H
  unfold r7 at e ⊢;split at e
  ·rename_i k;rw[aJ<|λf=>u<|k.trans f.symm]
   rcases q a b e with f|f
   ·exact g.dj 0 (n+1) a b l p C f
   ·exact g.dj (j+1) (n+1) a b m p C f
  ·split
   ·rename_i y z;have v:=g.dj (h+1) 0 a b o l C e;have x:=g.dj (h+1) (j+1) a b o m C e
    grind [wG]
   ·exact g.dj (h+1) (n+1) a b o p C e
end
structure RV where
 v:F
 one:v.oneCell'=aA
instance:Sc RV:=⟨RV.v,RV.one⟩
structure XT (ρ α:Type)where
 rest:ρ->α->Prop
 ok:fA->fA->ρ->α->Prop
 mono:∀{M M' h:fA}{u:ρ}{x:α},lm M M'->ok M h u x->ok M' h u x
 res:∀{M h:fA}{u:ρ}{x:α},ok M h u x->rest u x
def kM{d α:Type}(X:XT d α)(a:aG d)(xs:aG α)(k:aP Nat):HP:=
 ⟨λM h=>Z a=Z xs/\(∀(i:Nat)u x,a[i]? =O u->xs[i]? =O x->X.rest u x)/\∃c:Nat->Nat,(∀b o,h b=O o->c b<Z a/\k≠O (c b))/\
  ∀i u x,k≠O i->a[i]? =O u->xs[i]? =O x->X.ok M (λb=>if c b=i then h b else aQ) u x,
  λg⟨h1,e,c,h2,f⟩=>⟨h1,e,c,h2,λi u x hi j hx=>X.mono g (f i u x hi j hx)⟩⟩
def WM{a α:Type}(X:XT a α)(u:a)(x:α):HP:=⟨λM h=>X.ok M h u x,λb h=>X.mono b h⟩
section
variable {e α:Type}{X:XT e α}{b:aG e}{xs:aG α}{E w:aT}{V:aG HP}{j i:Nat}{u d:e}{x c:α}
def B.fP(j:Nat)(h:B E w V){k:aP Nat}(hj:V[j]? =O (kM X b xs k):=by exact rfl):Z b=Z xs:=by
 obtain⟨a,a,a⟩:=h;exact(a.sat j _ hj).1
def B.focus(h:B E w V)(hj:V[j]? =O (kM X b xs aQ))(l:b[i]? =O u)(hx:xs[i]? =O x):B E w (WM X u x::V.set j (kM X b xs<|O i)):=by
 obtain⟨e,d,a⟩:=h;obtain⟨f,k,c,g,g⟩:=a.sat j _ hj;refine⟨e,_,a.split (eD hj) (h1:=λa=>if c a=i then d j a else aQ) (h2:=λa=>if c a=i then aQ else d j a) (λa e d=>?_) (λa e d=>?_) (λa e d=>?_) ?_ ?_⟩
 ·grind
 ·grind
 ·grind
 ·exact g i u x G l hx
 ·refine⟨f,k,c,λa e d=>?_,λa a a a a a=>?_⟩
  ·grind
  grind
def B.W3(h:B E w (WM X d c::V))(hj:V[j]? =O (kM X b xs<|O i))(hi:i<Z b):B E w (V.set j<|kM X (b.set i d) (xs.set i c) aQ):=by
 obtain⟨t,e,s⟩:=h;have A:=eD hj;obtain⟨v,J,r,x,D⟩:=s.sat (j+1) _ (by simpa using hj);have u:X.ok t (e 0) d c:=s.sat 0 _ rfl;have z:∀a m,e 0 a=O m->e (j+1) a=none:=λa m l=>s.dj 0 (j+1) a m G H C l;have I:∀(k:Nat)p q,(b.set i d)[k]? =O p->(xs.set i c)[k]? =O q->X.rest p q:=λk p q f g=>by
  rw[kX]at f g
  by_cases n:i=k
  ·subst n;rw[aL rfl,aL hi]at f;rw[aL rfl,aL C]at g;injection f with f;injection g with g
   subst f;subst g;exact X.res u
  grind
 refine⟨t,_,s.join A ⟨by simp[v],I,λa=>if(e 0 a).isSome=aA then i else r a,λa m l=>?_,λk p q _ f g=>?_⟩⟩
 ·grind [jD,wG]
 ·rw[kX]at f g
  by_cases n:i=k
  ·subst n;rw[aL rfl,aL hi]at f;rw[aL rfl,aL (by rw[<-v];exact hi)]at g;injection f with f;injection g with g
   subst f;subst g;have o:(λa=>if(if(e 0 a).isSome=aA then i else r a)=i then wG (e 0) (e<|j+1) a else aQ)=e 0:=by
    funext a
    cases l:e 0 a with
    |some m=>simp[wG,l]
    |none=>
     simp only[Option.isSome_none,Bool.false_eq_true,if_false];split
     ·rename_i y;unfold wG;rw[l]
      cases F:e (j+1) a with
      |none=>rfl
      |some m=>exact absurd (by rw[y]) (x a m F).2
     ·rfl
   rw[o];exact u
  ·rw[aJ n]at f g;have:=D k p q (λo=>n (by injection o)) f g;have o:(λa=>if r a=k then e (j+1) a else aQ)=(λa=>if(if(e 0 a).isSome=aA then i else r a)=k then wG (e 0) (e<|j+1) a else aQ):=by
    funext a
    cases l:e 0 a with
    |some m=>simp[wG,l,n,z a m l]
    |none=>simp[wG,l]
   rw[<-o];exact this
def B.O2(h:B E w (WM X d c::V))(hj:V[j]? =O (kM X b xs aQ)):B E w (V.set j<|kM X (b++[d]) (xs++[c]) aQ):=by
 obtain⟨t,e,p⟩:=h;have z:=eD hj;obtain⟨s,K,o,x,D⟩:=p.sat (j+1) _ (by simpa using hj);have u:X.ok t (e 0) d c:=p.sat 0 _ rfl;have y:∀a k,e 0 a=O k->e (j+1) a=none:=λa k f=>p.dj 0 (j+1) a k G H C f;have I:∀(g:Nat)m n,(b++[d])[g]? =O m->(xs++[c])[g]? =O n->X.rest m n:=λg m n i l=>by
  by_cases v:g<Z b
  ·grind
  ·have r:g=Z b:=H
   subst r;rw[ly<|du _,Nat.sub_self]at i;rw[s,ly<|du _,Nat.sub_self]at l;simp at i l;subst i;subst l;exact X.res u
 refine⟨t,_,p.join z ⟨by simp[s],I,λa=>if(e 0 a).isSome=aA then Z b else o a,λa k f=>?_,λg m n _ i l=>?_⟩⟩
 ·refine⟨?_,G⟩;rw[cK];dsimp only;split
  ·simp
  ·rename_i A;have:e 0 a=none:=by simpa using A
   unfold wG at f;rw[this]at f;have:=(x a k f).1;simp;omega
 ·by_cases v:g<Z b
  ·rw[my v]at i;rw[my C]at l;have:=D g m n G i l;have q:(λa=>if o a=g then e (j+1) a else aQ)=(λa=>if(if(e 0 a).isSome=aA then Z b else o a)=g then wG (e 0) (e<|j+1) a else aQ):=by
    funext a
    cases f:e 0 a with
    |some k=>simp[wG,f,y a k f];omega
    |none=>simp[wG,f]
   rw[<-q];exact this
  ·have r:g=Z b:=by
    have:=(bR.1 i).1;simp at this;omega
   subst r;rw[ly<|du _,Nat.sub_self]at i;rw[s,ly<|du _,Nat.sub_self]at l;simp at i l;subst i;subst l;have q:(λa=>if(if(e 0 a).isSome=aA then Z b else o a)=Z b then wG (e 0) (e<|j+1) a else aQ)=e 0:=by
    funext a
    cases f:e 0 a with
    |some k=>simp[wG,f]
    |none=>
     simp only[Option.isSome_none,Bool.false_eq_true,if_false];split
     ·rename_i J;unfold wG;rw[f]
      cases F:e (j+1) a with
      |none=>rfl
      |some k=>have:=(x a k F).1;omega
     ·rfl
   rw[q];exact u
def B.Jz(X:XT e α)(h:B E w V):B E w (kM X [] [] aQ::V):=
 h.JR λ_ _ _=>⟨rfl,λi u x a=>(by simp at a),λ_=>0,λ_ _ h=>(by cases h),λi u x _ a=>(by simp at a)⟩
def B.O3(h:B E w V){k:aP Nat}(hj:V[j]? =O (kM X b xs k))(c:b[i]? =O u)(hx:xs[i]? =O x):X.rest u x:=by
 obtain⟨a,a,a⟩:=h;exact(a.sat j _ hj).2.1 i u x c hx
end
section
variable {d α:Type}[s d]{X:XT d α}{c:aG d}{xs:aG α}{E w:aT}{V:aG HP}{j i:Nat}{e:bJ}{v:F}
def B.O4 [s α](q:s.sz d=s.sz α)(K:∀M h u x cs,(∀b o,h b=O o->M b=aQ)->X.ok M h u x->s.ok M cs u->s.ok (wG M h) cs x)
  (h:B E w (kM X c xs aQ::V)) (hj:V[j]? =O (own e v c)):B E w (Gk.aW::V.set j (own e v xs)):=by
 obtain⟨M,k,a⟩:=h;have aa:=eD hj;obtain⟨N,hr,T,Y,R⟩:=a.sat 0 _ rfl;have D:=a.freeze (P':=Gk.aW) (i:=0) G trivial;have Q:=a.sat (j+1) (own e v c) H;have P:(own e v xs).ok (wG M<|k 0) (k<|j+1):=by
  rcases Q with⟨l,m,g⟩|⟨b,o,z,A,cs,l,m,g,I,U,W,n⟩
  ·subst m;exact .inl ⟨l,List.length_eq_zero_iff.1 H,g⟩
  ·refine .inr ⟨b,o,z,A,cs,H,C,g,I,H,H,⟨by rw[<-N,<-q];exact n.1,λf x S=>?_⟩⟩;have L:f<Z c:=H
   have r:=aM L
   have J:=K M _ _ _ _ (λy t i=>by
    split at i
    ·exact a.dm 0 y t G i
    ·cases i) (R f _ x G r S) (by exact n.2 f _ r)
   rw[<-q];refine s.mono (λab t hq=>?_) J
   grind [wG]
 have F:=D.update (w':=w) (P':=own e v xs) (i:=j+1) H (k<|j+1) P rfl rfl rfl
  (λb o p=>a.le (j+1) b o H p) (λb o p=> .inl ⟨o,by simp_all[r7,aJ]⟩) (λb _ _=>rfl)
 exact⟨_,_,F⟩
end
section
variable {β:Type}[s β]
def XS(e:bJ)(β:Type)[s β]:XT RV (aG β):=⟨λ_ _=>True,λM h u l=>HA e M h u.v l,λ{M b h u l}a hh=>(own e u.v l).mono a hh,λ_=>trivial⟩
theorem Zc(e:bJ)(u:RV)(l:aG β):WM (XS e β) u l=own e u.v l:=rfl
def HA.sl{e:bJ}{M h:fA}{v:F}{l:aG β}(hd:∀b o,h b=O o->M b=aQ)(a:HA e M h v l):vM (wG M h) v l:=by
 rcases a with⟨rfl,rfl,_⟩|⟨b,o,a,a,a,rfl,a,c,d,d,d,f⟩
 ·exact⟨aQ,0,0,rfl,rfl,du _,by simp[maxLen],λg g g=>by simp at g⟩
 ·refine Gj (M:=wG M h) (e:=e) (fr:=(0,0)) ?_ (f.mono<|D5 _ _) d a c
  simp_all[dG,wG]
def XR(e:bJ)(M h:fA)(u:RV)(l:aG β)(cs:aG F)(hd:∀b o,h b=O o->M b=aQ)(hx:(XS e β).ok M h u l)(hc:s.ok M cs u):s.ok (wG M h) cs l:=
 ⟨u.v,hc,HA.sl hd hx⟩
end
def OE:RV:=⟨.slice aQ 0 0,rfl⟩
def rv(v:F):RV:=if h:v.oneCell'=aA then⟨v,h⟩else OE
def W4{v:F}(h:v.oneCell'=aA):(rv v).v=v:=by unfold rv;rw[dif_pos h]
instance:Inhabited RV:=⟨OE⟩
def iA{b α:Type}{a:aG b}{xs:aG α}{jj:Int}{x:α}(z:b)(hl:Z a=Z xs)(hx:A xs jj=O x):A a jj=O (a.getD jj.toNat z):=by
 grind [eB,Int.eq_ofNat_of_zero_le,cN,A,aM]
structure XO {ρ α β:Type} [s ρ] [s β] (X:XT ρ α) (e':bJ) (off:Nat) (f:ρ->RV) (fs:ρ->RV->ρ) (g:α->aG β) (gs:α->aG β->α):Prop where
 hfd:Fd off f
 hfs:Fs off RV fs
 le:off+1<=s.sz ρ
 get:∀{M h u x},X.ok M h u x->HA e' M h (f u).v (g x)
 put:∀{M h' u x r y},X.rest u x->HA e' M h' (RV.v r) y->X.ok M h' (fs u r) (gs x y)
def Mn(e:bJ)(β:Type)[s β]:XO (XS e β) e 0 (λa=>a) (λ_ b=>b) (λa=>a) (λ_ b=>b):=
 ⟨Fd.self,Fs.self,du _,λa=>a,λ_ a=>a⟩
section
variable {d α β:Type}[s d][s β]{X:XT d α}{c:aG d}{xs:aG α}{E w:aT}{V:aG HP}{i j k o b:Nat}{e n:bJ}{v u:F}{x:α}{y:aG β}{jj:Int}{z:d}
variable {off:Nat}{f:d->RV}{m:d->RV->d}{p:α->aG β}{gs:α->aG β->α}
theorem Z0(z:d)(hl:Z c=Z xs)(hx:A xs jj=O x):c[jj.toNat]? =O (c.getD jj.toNat z):=by simp_all[eB,iA]
def B.J0(o:XO X n off f m p gs)(z:d)(h:B E w V)(hj:V[j]? =O (kM X c xs aQ))(hx:A xs jj=O x):
  B E w (own n (f<|c.getD jj.toNat z).v (p x)::V.set j (kM X c xs<|O jj.toNat)):=by
 have a:=h.fP (hj:=hj) _;have e:=h.focus hj (Z0 z a hx) (eB hx).2.1;obtain⟨a,g,a⟩:=e;have:=a.update (w':=w) (P':=own n (f<|c.getD jj.toNat z).v<|p x) (i:=0) G (g 0) (o.get<|a.sat 0 _ rfl) rfl rfl rfl (λb o e=>a.le 0 b o G e) (λb o e=> .inl ⟨o,e⟩)<|λ_ _ _=>rfl
 exact⟨_,_,this⟩
def B.O5(o:XO X n off f m p gs)(z:d)(h:B E w (own n v y::V))(hj:V[j]? =O (kM X c xs<|O jj.toNat))(hx:A xs jj=O x):
  B E w (V.set j<|kM X (c.set jj.toNat<|m (c.getD jj.toNat z)<|rv v) (xs.set jj.toNat<|gs x y) aQ):=by
 have a:=h.fP (hj:=(by simpa using hj))<|j+1
 have e:(rv v).v=v:=by
  obtain⟨g,g,g⟩:=h.qB (i:=0) rfl;exact W4 (by rw[g];rfl)
 have i:=h.O3 (j:=j+1) (by simpa using hj) (Z0 z a hx) (eB hx).2.1;have g:B E w (WM X (m (c.getD jj.toNat z)<|rv v) (gs x y)::V):=by
  obtain⟨a,k,a⟩:=h;have:=a.update (w':=w) (P':=WM X (m (c.getD jj.toNat z)<|rv v)<|gs x y) (i:=0) G (k 0) (o.put i (by rw[e];exact a.sat 0 _ rfl)) rfl rfl rfl (λb o e=>a.le 0 b o G e) (λb o e=> .inl ⟨o,e⟩)<|λ_ _ _=>rfl
  exact⟨_,_,this⟩
 exact g.W3 hj (by simp_all[eB])
def B.Mo(h:B E w V)(hi:V[i]? =O (own e v y)):B E w (Y v (rv v)::V):=by
 have a:(rv v).v=v:=by
  obtain⟨a,a,a⟩:=h.qB hi;exact W4 (by rw[a];rfl)
 have:=h.sc RV<|rv v
 simp_all[Sc.toV]
def B.JA [s α](k:s.sz d=s.sz α)(g:∀M h u x cs,(∀b o,h b=O o->M b=aQ)->X.ok M h u x->s.ok M cs u->s.ok (wG M h) cs x)
  (h:B E w V) (f:V[b]? =O (kM X c xs aQ)) (hj:V[j]? =O (own e v c)) (i:b≠j):B E w ((V.set b Gk.aW).set j<|own e v xs):=by
 have a:=h.pull (hi:=f) _;have f:=a.O4 k g (j:=j) (by rw[kX,aJ i];exact hj);exact f.drop 1 rfl
end
section
variable {C α β:Type}[s C][s β]{P:bG}{n:Nat}{U:Nat->F}{w:aT}{Q:jl}{E:aT}{V:aG HP}{i j k o b:Nat}
variable {ops:aY bC}{h:aG bC}{d:Nat}{ty t T e D:bJ}{pos:String}{af:aY Edge}{g:aP (Nat×Bool)}{v vy u p:F}{q r:bB}
variable {X:XT C α}{c:aG C}{xs xs':aG α}{x:α}{y:aG β}{jj:Int}{z:C}{bytes:Nat}
variable {off:Nat}{f:C->RV}{m:C->RV->C}{gg:α->aG β}{gs:α->aG β->α}
def FV{k0:aP Nat}(i b:Nat)(xs:aG α)(f:B E w V)(a:P.underlying t=O (.slice e))(a:RL P n ops h (fo U d<|.int .i64 (Z xs:Nat)) w Q)(hg:Wn ops U g:=by exact trivial)(hd:Nat.blt d n=true:=by exact rfl)(hx:ev U q=v:=by exact rfl)(hi:V[i]? =O (own D v c):=by exact rfl)(a:V[b]? =O (kM X c xs k0):=by exact rfl):RL P n ops (⟨O d, .call ⟨.builtin .len,#[q],#[t]⟩,ty,pos,af,g⟩::h) U w Q:=by
 have j:=f.fP (hj:=a) _
 grind [lc]
def LW{k0:aP Nat}(i b o:Nat)(jj:Int)(a:XO X D off f m gg gs)(z:C)(j:B E w V)(hx:ev U q=p)(hy:ev U r=u)(J:UL v jj.toNat (s.sz C) off p)(hi:V[i]? =O (own e v c))(l:V[b]? =O (kM X c xs k0))(G:V[o]? =O (own D u y))(d:A xs jj=O x)(k:nT P T aK 1)(K:∀w',B E w' (((V.set i<|own e v<|c.set jj.toNat<|m (c.getD jj.toNat z)<|rv u).set o aW).set b<|kM X (c.set jj.toNat<|m (c.getD jj.toNat z)<|rv u) (xs.set jj.toNat<|gs x y) aQ)->RL P n ops h U w' Q)(hg:Wn ops U g:=by exact trivial)(t:k0=aQ\/k0=O jj.toNat:=by exact(.inr rfl))(F:i≠b:=by decide)(I:o≠b:=by decide)(F:i≠o:=by decide):
  RL P n ops (⟨aQ, .store T q r,ty,pos,af,g⟩::h) U w Q:=by
 have F:=j.fP (hj:=l) _;have l:=j.Mo G;have j:Z V>0:=H
 refine La (i:=i+1) (j:=0) (f:=m) (y:=rv u) hg l hx hy J (by simpa using hi) (Z0 z F d) rfl a.hfs a.le k λw' j=>?_;refine K w' ?_;have k:B E w' (V.set i<|own e v<|c.set jj.toNat<|m (c.getD jj.toNat z)<|rv u):=j.drop 1 rfl;have l:(V.set i<|own e v<|c.set jj.toNat<|m (c.getD jj.toNat z)<|rv u)[b]? =O (kM X c xs k0):=H
 have F:(V.set i<|own e v<|c.set jj.toNat<|m (c.getD jj.toNat z)<|rv u)[o]? =O (own D u y):=H
 rcases t with rfl|rfl
 ·have j:=k.J0 a z l d;have l:B E w' ((V.set i<|own e v<|c.set jj.toNat<|m (c.getD jj.toNat z)<|rv u).set b<|kM X c xs<|O jj.toNat):=j.drop 1 rfl;have t:((V.set i<|own e v<|c.set jj.toNat<|m (c.getD jj.toNat z)<|rv u).set b<|kM X c xs<|O jj.toNat)[b]? =O (kM X c xs<|O jj.toNat):=H
  have G:((V.set i<|own e v<|c.set jj.toNat<|m (c.getD jj.toNat z)<|rv u).set b<|kM X c xs<|O jj.toNat)[o]? =O (own D u y):=H
  have j:=l.pull (hi:=G) _;have l:=j.O5 a z (j:=b) (by rw[kX,aJ I];exact t) d
  grind [List.set_comm,List.set_set]
 ·have j:=k.pull (hi:=F) _;exact j.O5 a z (j:=b) H d
end
section
variable {α β:Type}[s β]{P:bG}{n:Nat}{U:Nat->F}{w:aT}{Q:jl}{E:aT}{V:aG HP}{i j k o b:Nat}
variable {ops:aY bC}{rest:aG bC}{d:Nat}{ty t T e z:bJ}{pos:String}{af:aY Edge}{g:aP (Nat×Bool)}{v vy u p:F}{q r:bB}
variable {f:aG RV}{xs m:aG (aG β)}{y:aG β}{jj:Int}{c:Nat}
def R8{a α:Type}{f:aG a}{xs m:aG α}{x:α}{c:Nat}(hl:Z f=Z xs)(h:gx c xs [x]=O m)(u:a):gx c f [u]=O (f++[u])/\m=xs++[x]:=by
 grind [gx]
def W0(i j b o:Nat)(hg:Wn ops U g)(hd:Nat.blt d n=aA)(h:B E w V)(hx:ev U q=v)(hy:ev U r=vy)(hi:V[i]? =O (own e v f))(hj:V[j]? =O (Y vy [rv u]))(s:V[b]? =O (kM (XS z β) f xs aQ))(x:V[o]? =O (own z u y))(l:yP P t e 1 c)(p:Gk.gx c xs [y]=O m)(A:∀a w',B E w' (((V.set i<|own e a<|f++[rv u]).set o aW).set b<|kM (XS z β) (f++[rv u]) m aQ)->RL P n ops rest (fo U d a) w' Q)(k:i≠b:=by decide)(k:o≠b:=by decide)(k:i≠o:=by decide):
  RL P n ops (⟨O d, .call ⟨.builtin .append,#[q,r],#[t,t]⟩,ty,pos,af,g⟩::rest) U w Q:=by
 obtain⟨k,rfl⟩:=R8 (h.fP (hj:=s) _) p<|rv u
 refine j0 (hg:=hg) (hd:=hd) (hx:=hx) (hy:=hy) (hi:=hi) (hj:=hj) _ _ h l k λa w' l=>A a w' ?_;have k:(V.set i<|own e a<|f++[rv u])[b]? =O (kM (XS z β) f xs aQ):=H
 have k:(V.set i<|own e a<|f++[rv u])[o]? =O (own z u y):=H
 have p:=l.pull (hi:=k) _;have k:(rv u).v=u:=by
  obtain⟨k,k,k⟩:=h.qB x;exact W4 (by rw[k];rfl)
 have h:B E w' (WM (XS z β) (rv u) y::(V.set i<|own e a<|f++[rv u]).set o aW):=by
  grind [own,WM,XS,Zc]
 exact h.O2 H
end
section
variable {P:bG}{n:Nat}{U:Nat->F}{w:aT}{Q:jl}{E:aT}{V:aG HP}{i j k o b:Nat}
variable {ops:aY bC}{rest:aG bC}{d:Nat}{ty t T e e':bJ}{pos:String}{af:aY Edge}{g:aP (Nat×Bool)}{v vy u p:F}{q r:bB}
def Pi(cs:aG F)(hd:Nat.blt d n=aA)(a:B E w V)(hx:ev U q = .agg cs.toArray)(h1:∀v∈cs,v.oneCell'=aA)(c:∀b w',B E w' (bc T b cs::V)->RL P n ops rest (fo U d<|.pointer<|O ⟨b,0,aQ⟩) w' Q)(hg:Wn ops U g:=by exact trivial):RL P n ops (⟨O d, .box T q,ty,pos,af,g⟩::rest) U w Q:=by
 refine jp hg hd ?_<|c w.heap.size (w.alloc<|.cells cs.toArray T (0,0))<|a.alloc _ λa a a=>⟨h1,rfl⟩
 simp only[execOp,hx,Instr.box,newVar,newRow,newObj,bQ,cB,Value.cells];rfl
end
section
variable {P:bG}{n:Nat}{U:Nat->F}{w:aT}{Q:jl}{E:aT}{V:aG HP}{i j k o b m:Nat}
variable {ops:aY bC}{rest:aG bC}{d:Nat}{ty t T e e':bJ}{pos:String}{af:aY Edge}{g:aP (Nat×Bool)}{v vy u p:F}{q r:bB}{cs:aG F}
def C3(d:B E w V)(hi:V[i]? =O (bc e b cs))(c:nT P T aA m)(hl:Z cs=m):(loadVar T ⟨b,0,aQ⟩).run P w = .ok (.agg cs.toArray) w:=by
 obtain⟨a,a,a⟩:=d;obtain⟨_,f⟩:=a.sat i _ hi;have d:=a.le i b _ (eD hi) (by rw[f];exact dG b _);have a:∀j u,cs[j]? =O u->w.cell? ((⟨b,0,aQ⟩:Addr).add j)=O u:=λj u f=>by
  rw[Addr.add_lit,cell_of_row w b _ _ _ _ d];grind
 unfold loadVar;simp only[bQ,c.Tc,bY,if_true,c.sz,<-hl,run_loadCells_list w _ cs a,cB]
def W1(i:Nat)(hg:Wn ops U g)(hd:Nat.blt d n=aA)(c:B E w V)(hx:ev U q = .pointer (O ⟨b,0,aQ⟩))(hi:V[i]? =O (bc e b cs))(a:nT P T aA m)(hl:Z cs=m)(f:RL P n ops rest (fo U d<|.agg cs.toArray) w Q):RL P n ops (⟨O d, .load T q,ty,pos,af,g⟩::rest) U w Q:=by
 refine jp hg hd ?_ f;simp only[execOp,hx,Instr.loadAt,Instr.sureAddr,bQ,cB,bY,C3 c hi a hl]
def aag{a:Func}{R:F->aT->Prop}{c b:Nat}(hr:a.results = #[.cell c T])(f:B E w V)(d:U c = .pointer (O ⟨b,0,aQ⟩))(hi:V[i]? =O (bc e b cs))(c:nT P T aA m)(hl:Z cs=m)
  (h:R (.agg cs.toArray) w):j3 P n a R .ret U w:=by
 refine⟨.agg cs.toArray,λa a=>?_,h⟩;have:=C3 (P:=P) f hi c hl;simp[results,hr,a.get,d,asAddr,this]
end
section
variable {b α β:Type}[s b][s α][s β]
structure XP (X:XT b α) (e':bJ) (off:Nat) (fs:b->RV->b) (gs:α->aG β->α):Prop where
 hfs:Fs off RV fs
 le:off+1<=s.sz b
 put:∀{M h' u x r y},X.rest u x->HA e' M h' (RV.v r) y->X.ok M h' (fs u r) (gs x y)
end
structure PP (P:bG) (T:bJ) (i:Nat) (ft:bJ) (m:Nat):Prop where
 run:∀cs w,(Instr.field T (.agg cs) i).run P w=(part ft cs m).run P w
section
variable {α β:Type}[s α][s β]{P:bG}{n:Nat}{U:Nat->F}{w:aT}{Q:jl}{E:aT}{V:aG HP}{i:Nat}
variable {ops:aY bC}{b:aG bC}{d:Nat}{ty:bJ}{pos:String}{af:aY Edge}{g:aP (Nat×Bool)}{v:F}{q:bB}{T c:bJ}{x:α}
def W5{cs:aG F}{m:Nat}{y:β}{M:fA}(e:s.ok M ((cs.drop m).take<|s.sz β) y)(b:nT P c (s.agg β) (s.sz β)):(part c cs.toArray m).run P w = .ok (CU β<|(cs.drop m).take<|s.sz β) w:=by
 unfold CU
 cases a:s.agg β with
 |true=>
  rw[a]at b;rw[aL rfl];refine vu b ?_ w;simp[List.extract_toArray,List.extract_eq_take_drop]
 |false=>
  rw[a,s.ag1 a]at b;rw[aJ A4,s.ag1 a];have d:=s.len e;rw[s.ag1 a]at d;refine cY b ?_ w;rw[List.getElem?_toArray]
  cases a:cs.drop m with
  |nil=>rw[a]at d;simp at d
  |cons b d=>
   have:cs[m]? =(cs.drop m)[0]? :=by rw[nb];simp
   rw[this,a];rfl
def at2{m j:Nat}{f:α->β}(hg:Wn ops U g)(hd:Nat.blt d n=aA)(a:B E w V)(hx:ev U q=v)(hi:V[i]? =O (Y v x))(l:s.agg α=aA)(r:PP P T j c m)(o:Fd m f)(p:nT P c (s.agg β) (s.sz β))
  (k:∀v,B E w (Y v (f x)::V)->RL P n ops b (fo U d v) w Q):RL P n ops (⟨O d, .field T q j,ty,pos,af,g⟩::b) U w Q:=by
 obtain⟨e,h,h⟩:=a;obtain⟨⟨a,u,t⟩,_⟩:=h.sat i _ hi;have y:v = .agg a.toArray:=by rw[u];unfold CU;rw[aL l]
 have l:=o e a x t;refine jp (v:=CU β<|(a.drop m).take<|s.sz β) hg hd ?_<|k _ ⟨e,_,h.iX ⟨⟨_,rfl,l⟩,rfl⟩⟩
 simp only[execOp,hx,y,bQ,r.run,W5 l p,bY,cB]
def P1{γ:Type}[Sc γ]{m j:Nat}{f:α->γ}(i:Nat)(hg:Wn ops U g)(hd:Nat.blt d n=aA)(o:B E w V)(hx:ev U q=v)(hi:V[i]? =O (Y v x))(h:s.agg α=aA)(l:PP P T j c m)(a:Fd m f)(e:nT P c aK 1)(k:RL P n ops b (fo U d<|Sc.toV<|f x) w Q):RL P n ops (⟨O d, .field T q j,ty,pos,af,g⟩::b) U w Q:=by
 refine at2 (f:=f) hg hd o hx hi h l a e λv a=>?_;rw[a.CZ (i:=0) rfl];exact k
end
def P2(n:Nat)(i:Int):aP (Fin n):=if h:0<=i/\i.toNat<n then O ⟨i.toNat,h.2⟩else aQ
def US{n:Nat}{i:Int}{k:Fin n}(h:P2 n i=O k):0<=i/\i=((k.val:Nat):Int):=by
 unfold P2 at h;split at h
 ·rename_i a;injection h with h
  subst h;exact⟨a.1,by show i=((i.toNat:Nat):Int);omega⟩
 ·cases h
structure L_ (P:bG) (T:bJ) (n:Nat) (e:bJ) (sz:Nat):Prop where
 Iw:P.underlying T=O (.array n e)
 sz:∀w,(sizeOf e).run P w = .ok sz w
structure Id (P:bG) (T:bJ) (i:Int) (m:Nat):Prop where
 run:∀K a w,(Instr.indexAt T (.pointer<|O a)<|.int K i).run P w = .ok (.pointer<|O<|a.add m) w
structure AIt (P:bG) (T:bJ) (i:Int) (ft:bJ) (m:Nat):Prop where
 run:∀K cs w,(Instr.index T (.agg cs)<|.int K i).run P w=(part ft cs m).run P w
section
variable {P:bG}{T e:bJ}{n sz:Nat}{i:Int}
def L_.at(h:L_ P T n e sz){k:Fin n}(b:P2 n i=O k):Id P T i (k.val*sz):=by
 obtain⟨a,c⟩:=US b;refine⟨λb b b=>?_⟩;have b:i<((n:Nat):Int):=by have:=k.isLt;omega
 have c:i.toNat=k.val:=C
 simp only[Instr.indexAt,asIntOf,Instr.sureAddr,bQ,cB,bY,run_underlying h.Iw,h.sz,a,b,and_self,if_true,c]
end
section
variable {α β:Type}[s α][s β]{P:bG}{n:Nat}{U:Nat->F}{w:aT}{Q:jl}{E:aT}{V:aG HP}{i:Nat}
variable {ops:aY bC}{c:aG bC}{d:Nat}{T ty e ft:bJ}{pos:String}{af:aY Edge}{g:aP (Nat×Bool)}{v p:F}{q r:bB}{x:α}{K:IntKind}{jj:Int}{k off m:Nat}
def at3{b o:Nat}(hg:Wn ops U g)(hd:Nat.blt d n=aA)(hx:ev U q = .pointer (O ⟨b,o,aQ⟩))(hy:ev U r = .int K jj)(a:Id P T jj m)
  (e:RL P n ops c (fo U d<|.pointer<|O ⟨b,o+m,aQ⟩) w Q):RL P n ops (⟨O d, .indexAddr T q r,ty,pos,af,g⟩::c) U w Q:=by
 refine jp hg hd ?_ e;simp only[execOp,hx,hy,bQ,a.run,bY,cB,Addr.add_lit]
def Ml{b:Nat}(hd:Nat.blt d n=aA)(hx:ev U q = .pointer (O ⟨b,0,aQ⟩))(hy:ev U r = .int K jj)(a:Id P T jj m)(e:RL P n ops c (fo U d<|.pointer<|O ⟨b,m,aQ⟩) w Q)(hg:Wn ops U g:=by exact trivial):RL P n ops (⟨O d, .indexAddr T q r,ty,pos,af,g⟩::c) U w Q:=
 at3 (o:=0) (m:=m) hg hd hx hy a (by rw[kx];exact e)
end
structure IR (P:bG) (T:bJ) (sz:Nat) (z:aY F):Prop where
 run:∀parts cs w,Instr.fill (λi=>O (i*sz,sz)) z parts.toList=O cs->(Instr.build T parts).run P w = .ok (.agg cs) w
def IR.of{P:bG}{a e:bJ}{n sz:Nat}{z:F}(h1:L_ P a n e sz)(h2:∀w,(zeroValue a).run P w = .ok z w:=by intro _;kernel_rfl):IR P a sz z.cells:=by
 refine⟨λa a w a=>?_⟩;unfold Instr.build;simp only[bQ,h2,bY,run_underlying h1.Iw,h1.sz,a,cB]
section
variable {α:Type}[s α]{P:bG}{n:Nat}{U:Nat->F}{w:aT}{Q:jl}{E:aT}{V:aG HP}
variable {ops:aY bC}{rest:aG bC}{d:Nat}{T ty:bJ}{pos:String}{af:aY Edge}{g:aP (Nat×Bool)}
variable {y:α}
def M0{a:aY (Nat×bB)}{sz:Nat}{z:aY F}(y:α)(hg:Wn ops U g)(hd:Nat.blt d n=aA)(f:B E w V)(e:aG (Nat×F))(hvs:a.toList.map (λb=>(b.1,ev U b.2))=e)(l:IR P T sz z)(m:s.agg α=aA)(o:∀M b,ip E w M b V->cC M (λc=>O (c*sz,sz)) z e y)(k:∀v,B E w (Y v y::V)->RL P n ops rest (fo U d v) w Q):RL P n ops (⟨O d, .build T a,ty,pos,af,g⟩::rest) U w Q:=by
 obtain⟨M,b,h⟩:=f;obtain⟨f,i,j⟩:=o M b h;have b:a.map (λ(c,o)=>(c,ev U o))=e.toArray:=by rw[<-hvs];cases a;simp
 refine jp (v:= .agg f) hg hd ?_<|k _ ⟨M,_,h.iX ⟨⟨f.toList,by simp[CU,m],j⟩,rfl⟩⟩
 simp only[execOp,bQ];rw[b,l.run _ _ _ i];simp only[bY,cB]
end
section
universe u v
def LP{α:Type}{β:Sort v}(o:aP α)(a:β)(f:α->β):β:=match o with|none=>a|some x=>f x
variable {α β:Type}{o:aP α}{y:α}{A:β}{B:α->β}{r:β}
def Te(h:o=aQ)(a:LP o A B=r):A=r:=by subst h;exact a
def Tf(h:o=O y)(a:LP o A B=r):B y=r:=by subst h;exact a
def Mp{A:Prop}{B:α->Prop}(h:o=aQ)(a:LP o A B):A:=by subst h;exact a
def Mq{A:Prop}{B:α->Prop}(h:o=O y)(a:LP o A B):B y:=by subst h;exact a
end
section
variable {m α β:Type}[s m][s α][s β]{P:bG}{n:Nat}{U:Nat->F}{w:aT}{Q:jl}{E:aT}{V:aG HP}{i j k o b:Nat}
variable {ops:aY bC}{c:aG bC}{d:Nat}{ty t T e I:bJ}{pos:String}{af:aY Edge}{g:aP (Nat×Bool)}{v vy u p:F}{q r:bB}
variable {X:XT m α}{C:aG m}{xs xs':aG α}{x D:α}{f:m}{y:aG β}{jj:Int}{z:m}{bytes off:Nat}
def P_{γ:Type}[s γ](a:m->γ)(k:γ){k0:aP Nat}(i b:Nat)(jj:Int)(f:Fd off a)(z:m)(hg:Wn ops U g)(hd:Nat.blt d n=aA)(h:B E w V)(hx:ev U q=p)(f:UL v jj.toNat (s.sz m) off p)(hi:V[i]? =O (own e v C))(f:V[b]? =O (kM X C xs k0))(j:A xs jj=O x)(he:∀u,X.rest u x->a u=k)(a:nT P T (s.agg γ) (s.sz γ))(l:∀a,B E w (Y a k::V)->RL P n ops c (fo U d a) w Q):RL P n ops (⟨O d, .load T q,ty,pos,af,g⟩::c) U w Q:=by
 have a:=h.fP (hj:=f) _;have k:=he _<|h.O3 f (Z0 z a j) (eB j).2.1
 grind [ww,Z0]
def Qf(i j b o:Nat)(X:XT m α)(f:m)(D:α)(u:F)(y:aG β)(J:∀M h,HA I M h (RV.v<|rv u) y->X.ok M h f D)(hd:Nat.blt d n=aA)(l:B E w V)(hx:ev U q=v)(hy:ev U r=vy)(hi:V[i]? =O (own e v C))(hj:V[j]? =O (Y vy [f]))(k:V[b]? =O (kM X C xs aQ))(A:V[o]? =O (own I u y))(x:yP P t e (s.sz m) bytes)(z:Gk.gx bytes xs [D]=O xs')(K:∀a w',B E w' (((V.set i<|own e a<|C++[f]).set o aW).set b<|kM X (C++[f]) xs' aQ)->RL P n ops c (fo U d a) w' Q)(hg:Wn ops U g:=by exact trivial)(p:i≠b:=by decide)(p:o≠b:=by decide)(p:i≠o:=by decide):
  RL P n ops (⟨O d, .call ⟨.builtin .append,#[q,r],#[t,t]⟩,ty,pos,af,g⟩::c) U w Q:=by
 obtain⟨p,rfl⟩:=R8 (l.fP (hj:=k) _) z f;refine j0 (hg:=hg) (hd:=hd) (hx:=hx) (hy:=hy) (hi:=hi) (hj:=hj) _ _ l x p λa w' z=>K a w' ?_;have p:(V.set i<|own e a<|C++[f])[b]? =O (kM X C xs aQ):=H
 have x:(V.set i<|own e a<|C++[f])[o]? =O (own I u y):=H
 have p:=z.pull (hi:=x) _;have x:(rv u).v=u:=by
  obtain⟨z,z,z⟩:=l.qB A;exact W4 (by rw[z];rfl)
 have l:B E w' (WM X f D::(V.set i<|own e a<|C++[f]).set o aW):=by
  obtain⟨M,z,a⟩:=p;have:=a.update (w':=w') (P':=WM X f D) (i:=0) G (z 0) (J _ _ (by rw[x];exact a.sat 0 _ rfl)) rfl rfl rfl (λb o k=>a.le 0 b o G k) (λb o k=> .inl ⟨o,k⟩)<|λ_ _ _=>rfl
  exact⟨_,_,this⟩
 exact l.O2 H
end
section
variable {P:bG}{n:Nat}{U:Nat->F}{w:aT}{Q:jl}{K:IntKind}{a b c:Int}{t u s:bJ}
variable {ops:aY bC}{rest:aG bC}{d:Nat}{ty:bJ}{pos:String}{af:aY Edge}{g:aP (Nat×Bool)}{q r p:bB}
def W_(a b c:Int)(hg:Wn ops U g)(hd:Nat.blt d n=aA)(hx:ev U q = .int K a)(hy:ev U r = .int K b)(e:ev U p = .int K c)(f:RL P n ops rest (fo U d<|.int K (if(if a<b then b else a)<c then c else(if a<b then b else a))) w Q):
  RL P n ops (⟨O d, .call ⟨.builtin .max,#[q,r,p],#[t,u,s]⟩,ty,pos,af,g⟩::rest) U w Q:=by
 refine jp hg hd ?_ f;simp[execOp,resolve,hx,hy,e,invoke,builtin,Builtin.max_,Builtin.max2]
end
def O8(a:aG (Nat×Nat)):aG F->aG (Nat×aG F)->aP (aG F)
 |z,[]=>O z
 |z,(i,cs)::b=>match a[i]? with
  |some (o,m)=>if(Nat.beq (Z cs) m&&Nat.ble (o+m) (Z z))=aA then O8 a (z.take o++cs++z.drop (o+Z cs)) b else aQ
  |none=>aQ
def BB:aG (Nat×F)->aG (Nat×aG F)->Prop
 | [],[]=>True
 |(i,v)::a,(j,cs)::b=>i=j/\v.cells=cs.toArray/\BB a b
 |_,_=>False
theorem Mr{f:aG (Nat×Nat)}:∀{h:aG (Nat×F)}{pcs:aG (Nat×aG F)}{z cs:aG F},BB h pcs->O8 f z pcs=O cs->Instr.fill (f.toArray[·]?) z.toArray h=O cs.toArray
 | [],[],z,cs,_,a=>by
  unfold O8 at a;injection a with a;subst a;rfl
 |(p,u)::t,(s,c)::pcs,z,cs,i,a=>by
  obtain⟨rfl,k,j⟩:=i;unfold O8 at a;unfold Instr.fill;split at a
  ·rename_i b e l;split at a
   ·rename_i d;rw[dE]at d;have q:Z c=e:=iJ d.1;have r:b+e<=Z z:=Nat.le_of_ble_eq_true d.2;have m:f.toArray[p]?=O (b,e):=by simpa using l
    have n:=QV c z.toArray b (by simp;omega);have o:c.toArray.zipIdx.foldl (λcs(g:F×Nat)=>cs.setIfInBounds (b+g.2) g.1) z.toArray=(z.take b++c++z.drop (b+Z c)).toArray:=by
     apply Array.toList_inj.1;rw[n]
    simp only[m,k];rw[aJ (by simp;omega)];rw[o];exact Mr j a
   ·cases a
  ·cases a
 | [],_::_,_,_,a,_=>a.elim
 |_::_,[],_,_,a,_=>a.elim
section
variable {P:bG}{n:Nat}{U:Nat->F}{w:aT}{Q:jl}{E:aT}{V:aG HP}{i j:Nat}
variable {ops:aY bC}{rest:aG bC}{d:Nat}{ty T e:bJ}{pos:String}{af:aY Edge}{g:aP (Nat×Bool)}{q r:bB}{b m k:Nat}{c vs' cs zs:aG F}{v:F}
def XW{a:aY (Nat×bB)}{e:aG (Nat×Nat)}(hg:Wn ops U g)(hd:Nat.blt d n=aA)(c:aG (Nat×F))(pcs:aG (Nat×aG F))
  (hvs:a.toList.map (λb=>(b.1,ev U b.2))=c) (f:zU P T e zs.toArray) (h1:BB c pcs) (b:O8 e zs pcs=O cs)
  (k:RL P n ops rest (fo U d<|.agg cs.toArray) w Q):RL P n ops (⟨O d, .build T a,ty,pos,af,g⟩::rest) U w Q:=by
 have b:a.map (λ(i,a)=>(i,ev U a))=c.toArray:=H
 refine jp (v:= .agg cs.toArray) hg hd ?_ k;simp only[execOp,bQ];rw[b,f.run]
 grind [Mr,bY,cB]
def B.Sa{α:Type}[s α]{x:α}(h:B E w V)(hi:V[i]? =O (Y v x))(a:s.agg α=aA):∃cs:aG F,Z cs=s.sz α/\v = .agg cs.toArray/\B E w (UR cs x::V):=by
 obtain⟨b,a,g⟩:=h;obtain⟨⟨cs,a,a⟩,_⟩:=g.sat i _ hi;refine⟨cs,s.len a,by grind [CU],b,_,g.iX ⟨a,rfl⟩⟩
end
class v6 (α:Type) [s α]:Prop where
 fl:∀{M M':fA}{cs:aG F}{x:α},s.ok M cs x->s.ok M' cs x
instance {α:Type} [Sc α]:v6 α:=⟨λh=>h⟩
instance {α β:Type} [s α] [s β] [v6 α] [v6 β]:v6 (α×β):=⟨λ⟨c,d,e,h1,h2⟩=>⟨c,d,e,v6.fl h1,v6.fl h2⟩⟩
section
variable {c α β:Type}[s c][s α][s β]{P:bG}{n:Nat}{U:Nat->F}{w:aT}{Q:jl}{E:aT}{V:aG HP}{i j k o b:Nat}
variable {ops:aY bC}{rest:aG bC}{d:Nat}{ty t T e e':bJ}{pos:String}{af:aY Edge}{g:aP (Nat×Bool)}{v vy u p:F}{q r:bB}
variable {X:XT c α}{h:aG c}{xs xs':aG α}{x:α}{l l':aG β}{jj:Int}{z:c}{bytes off:Nat}{f:c->RV}{fs:c->RV->c}{gg:α->aG β}{gs:α->aG β->α}{h0:aP Nat}
def M2(i b:Nat)(jj:Int)(j:XO X e' off f fs gg gs)(z:c)(hd:Nat.blt d n=aA)(a:B E w V)(hx:ev U q=p)(m:UL v jj.toNat (s.sz c) off p)(hi:V[i]? =O (own e v h))(l:V[b]? =O (kM X h xs h0))(o:A xs jj=O x)(k:nT P T aK 1)(r:RL P n ops rest (fo U d (f<|h.getD jj.toNat z).v) w Q)(hg:Wn ops U g:=by exact trivial):RL P n ops (⟨O d, .load T q,ty,pos,af,g⟩::rest) U w Q:=
 sb (hg:=hg) (hd:=hd) (hx:=hx) (hi:=hi) (f:=f) _ a m (Z0 z (a.fP (hj:=l) _) o) j.hfd k r
end
section
variable {α:Type}[s α]{M:fA}{xs:aG F}{l:aG α}{k:Nat}
def g_.drop(h:g_ M xs l)(a:k<=Z l):g_ M (xs.drop<|k*s.sz α) (l.drop k):=by
 have a:=h.1;refine⟨by grind [iz,Nat.sub_mul],λa b a=>?_⟩;rw[nb]at a;have:=h.2 _ b a
 grind [List.drop_drop,Nat.add_mul]
end
section
variable {κ ν S R T:Type}
def C4(body:κ×ν->S->aP (Fl S R)):aG (κ×ν)->S->aP (Fo S R)
 | [],s=>O (.go s)
 |e::l,s=>D (body e s) λ
  | .nx a=>C4 body l a
  | .br a=>O (.go a)
  | .rt r=>O (.rt r)
open Classical in
noncomputable def LS(m:aG (κ×ν))(body:κ×ν->S->aP (Fl S R))(s:S)(a:S->aP T)(b:R->aP T):aP T:=
 if h:∃t,∀p:aG (κ×ν),p.Perm m->D (C4 body p s) (λo=>o.cs a b)=O t then O (Classical.choose h)else aQ
def UU{m:aG (κ×ν)}{body:κ×ν->S->aP (Fl S R)}{s:S}{a:S->aP T}{b:R->aP T}{t:T}(h:LS m body s a b=O t):
  ∀p:aG (κ×ν),p.Perm m->D (C4 body p s) (λe=>e.cs a b)=O t:=by
 unfold LS at h;split at h
 ·rename_i c;injection h with h
  intro p d;rw[<-h];exact Classical.choose_spec c p d
 ·cases h
def W6{m:aG (κ×ν)}{body:κ×ν->S->aP (Fl S R)}{s:S}{a:S->aP T}{b:R->aP T}{t:T}(h:∀p:aG (κ×ν),p.Perm m->D (C4 body p s) (λc=>c.cs a b)=O t):
  LS m body s a b=O t:=by
 have d:∃t,∀p:aG (κ×ν),p.Perm m->D (C4 body p s) (λc=>c.cs a b)=O t:=⟨t,h⟩;unfold LS;rw[dif_pos d];have a:=Classical.choose_spec d m<|List.Perm.refl m
 rw[h m<|List.Perm.refl m]at a;exact a.symm
def Pf(m a:aG (κ×ν)):Prop:=∃b,(a++b).Perm m
end
section
variable {κ ν:Type}[s κ][KV κ][s ν]
def QJ(v:F)(g:Nat)(m o:aG (κ×ν)):HP:=
 ⟨λM h=>∃(r:Nat)(es:aY MapEntry)(d e:Nat)(i:aY Nat)(b:Nat)(a f:aG (MapEntry×(κ×ν))),v = .map (O r)/\(uG M es.toList m/\WZ es.toList d m)/\r≠g/\
   h=wG (Gk.one r<|.map es d) (Gk.one g<|.mapIter (O r) e i b)/\(∀x∈es.toList,x.born<e)/\e<=b/\e<=d/\
   (a++f).Perm (es.toList.zip m)/\i.toList=a.map (·.1.born)/\o=a.map (·.2)/\(a= []\/b=d),
  λk⟨r,es,c,q,p,b,a,f,n,⟨he,l⟩,j,hh⟩=>⟨r,es,c,q,p,b,a,f,n,⟨uG.mono k he,l⟩,j,hh⟩⟩
def uG.at{M:fA}:∀{es:aG MapEntry}{m:aG (κ×ν)}{e:MapEntry}{x:κ×ν},uG M es m->(e,x)∈es.zip m->e.key=KV.enc x.1/\E6 M e.val x.2
 | [],[],_,_,_,a=>by simp at a
 |e::es,i::m,h,x,⟨b,c,d⟩,a=>by
  rw[List.zip_cons_cons,eO]at a
  rcases a with a|a
  ·injection a with f g;subst f;subst g;exact⟨b,c⟩
  ·exact uG.at d a
 | [],_::_,_,_,a,_=>a.elim
 |_::_,[],_,_,a,_=>a.elim
def Ms{M h:fA}{b:Nat}{o:Obj}(e:M b=O o):wG M h b=O o:=by simp[wG,e]
def Gu{M h:fA}{b:Nat}(e:M b=aQ):wG M h b=h b:=by simp[wG,e]
def xW{g b:Nat}{o:Obj}(h:b≠g):Gk.one g o b=none:=by simp[Gk.one,h]
end
section
variable {κ ν S R T:Type}[s κ][KV κ][DecidableEq κ][s ν]
variable {P:bG}{n:Nat}{U:Nat->F}{w:aT}{Q:jl}{E:aT}{V:aG HP}{i:Nat}
variable {ops:aY bC}{e:aG bC}{d:Nat}{ty p kt et:bJ}{j:String}{o:aY Edge}{g:aP (Nat×Bool)}{v:F}{q:bB}{m f:aG (κ×ν)}{b:Nat}
def X2(i:Nat)(hg:Wn ops U g)(hd:Nat.blt d n=aA)(a:B E w V)(hx:ev U q=v)(hi:V[i]? =O (mp v m))(l:P.underlying p=O (.map kt et))(k:∀b w',B E w' (V.set i<|QJ v b m [])->RL P n ops e (fo U d<|.pointer<|O ⟨b,0,aQ⟩) w' Q):RL P n ops (⟨O d, .range p q,ty,j,o,g⟩::e) U w Q:=by
 obtain⟨s,y,h⟩:=a;have u:=eD hi;obtain⟨a,r,c,rfl,⟨F,z⟩,t⟩:=h.sat i _ hi;have f:=h.le i a _ u (by rw[t];exact dG a _);have x:a<w.heap.size:=(Array.getElem?_eq_some_iff.1 f).1;refine jp (v:= .pointer<|O ⟨w.heap.size,0,aQ⟩) (w':=w.alloc<|.mapIter (O a) c #[] c) hg hd (by simp only[execOp,hx,run_range_map w p kt et a r c l f,bQ,cB,bY])<|k w.heap.size _ ?_
 have D:=(h.world (w':=w.alloc<|.mapIter (O a) c #[] c) rfl rfl rfl<|λb f=>zn w _ b f).cons (P:=Gk.aW) (Gk.one w.heap.size<|.mapIter (O a) c #[] c) trivial
  (λb C f=>by obtain⟨rfl,rfl⟩:=k8 f;exact heap_alloc_new w _)
  (λb C f=>by
   obtain⟨rfl,rfl⟩:=k8 f
   cases l:s w.heap.size with
   |none=>rfl
   |some s=>exact absurd (Array.getElem?_eq_some_iff.1 (h.im _ s l)).1 (Nat.lt_irrefl _))
  (λA b C C f=>by
   obtain⟨rfl,rfl⟩:=k8 f
   cases l:y A w.heap.size with
   |none=>rfl
   |some s=>exact absurd (Array.getElem?_eq_some_iff.1 (h.le A _ s C l)).1 (Nat.lt_irrefl _))
 have h:=D.join (P:=QJ (.map (O a)) w.heap.size m []) (j:=i) u (by
  refine⟨a,r,c,c,#[],c,[],r.toList.zip m,rfl,⟨F,z⟩,Nat.ne_of_lt x,?_,z.1,du _,du _,List.Perm.refl _,rfl,rfl, .inl rfl⟩;show wG (Gk.one w.heap.size _) (y i)=_;rw[t];funext f
  by_cases c:f=a
  ·subst c;rw[Gu<|xW<|Nat.ne_of_lt x,dG,Ms<|dG _ _]
  ·rw[Gu (M:=Gk.one a _)<|xW c]
   by_cases a:f=w.heap.size
   ·subst a;rw[Ms<|dG _ _,dG]
   ·rw[Gu (xW a),xW c,xW a])
 exact⟨_,_,h⟩
def Np:∀{es:aG MapEntry}{m:aG (κ×ν)},Z es=Z m->(es.zip m).map (·.2)=m
 | [],[],_=>rfl
 |_::es,_::m,a=>by simp only[List.zip_cons_cons,gQ];rw[Np (by simpa using a)]
 | [],_::_,a=>by simp at a
 |_::_,[],a=>by simp at a
def p7:∀{es:aG MapEntry}{m:aG (κ×ν)},Z es=Z m->(es.zip m).map (·.1)=es
 | [],[],_=>rfl
 |_::es,_::m,a=>by simp only[List.zip_cons_cons,gQ];rw[p7 (by simpa using a)]
 | [],_::_,a=>by simp at a
 |_::_,[],a=>by simp at a
def B.Sd(hw:B E w V)(hi:V[i]? =O (QJ v b m f))(ty:bJ):
  (f.Perm m/\(Instr.next (.pointer<|O ⟨b,0,aQ⟩) aK ty).run P w = .ok (.tuple #[.bool aK]) w)\/
  ∃(x:κ×ν)(u:F)(w':aT),Pf m (f++[x])/\(Instr.next (.pointer<|O ⟨b,0,aQ⟩) aK ty).run P w = .ok (.tuple #[.bool aA,KV.enc x.1,u]) w'/\
   B E w' (Y u x.2::V.set i (QJ v b m<|f++[x])):=by
 obtain⟨S,hs,r⟩:=hw;have M:=eD hi;obtain⟨g,c,j,A,e,T,z,n,rfl,⟨K,ah⟩,H,t,ae,aq,ag,l,R,N,av⟩:=r.sat i _ hi;have X:w.heap[g]? =O (.map c j):=r.le i g _ M (by rw[t];exact Ms<|dG g _);have W:w.heap[b]? =O (.mapIter (O g) A e T):=r.le i b _ M (by rw[t,Gu<|xW<|λa=>H a.symm];exact dG b _);have y:Z c.toList=Z m:=K.len;have ab:((z++n).map (·.1.born)).Nodup:=by
  have s:((z++n).map (·.1.born)).Perm ((c.toList.zip m).map (·.1.born)):=l.map _;refine s.symm.nodup ?_;have C:(c.toList.zip m).map (·.1.born)=c.toList.map (·.born):=by rw[show(λ(x:MapEntry×(κ×ν))=>x.1.born)=MapEntry.born∘Prod.fst from rfl,<-List.map_map,p7 y]
  rw[C];exact ah.2.1
 have an:∀a:MapEntry,a∈c.toList->∃x,(a,x)∈z++n:=λa hm=>by
  have:a∈(c.toList.zip m).map (·.1):=by rw[p7 y];exact hm
  obtain⟨⟨e',x⟩,s,rfl⟩:=dH.1 this;exact⟨x,l.mem_iff.2 s⟩
 rcases run_next_at (P:=P) w ty b g A T e c j W X ae aq with⟨h0,Q⟩|⟨a,D,p,ai,Q⟩
 ·refine .inl ⟨?_,Q⟩;have ap:n= []:=by
   cases n with
   |nil=>rfl
   |cons q n=>
    exfalso;have hz:q∈c.toList.zip m:=l.mem_iff.1 G;have au:q.1∈c.toList:=by have:=List.mem_map_of_mem (f:=Prod.fst) hz;rw[p7 y]at this;exact this
    have L:leftOf c e = #[]:=Array.eq_empty_of_size_eq_zero h0;have ao:e.contains q.1.born=true:=by
     cases d:e.contains q.1.born with
     |true=>rfl
     |false=>
      have:q.1∈(leftOf c e).toList:=by unfold leftOf;simp only[Array.toList_filter,nc,d];exact⟨au,rfl⟩
      rw[L]at this;simp at this
    have ad:q.1.born∈e.toList:=by simpa using ao
    rw[R]at ad;rw[fY,List.nodup_append]at ab;exact ab.2.2 _ ad _ G rfl
  subst ap;rw[kY]at l;have:=l.map (·.2);rw[Np y,<-N]at this;exact this
 ·right;have aa:a∈c.toList/\e.contains a.born=false:=by
   unfold leftOf at D;simp only[Array.toList_filter,nc]at D;exact⟨D.1,by simpa using D.2⟩
  obtain⟨x,hx⟩:=an a aa.1;have ar:(a,x)∈n:=by
   rcases dS.1 hx with k|k
   ·exfalso;have s:a.born∈e.toList:=by rw[R];exact dH.2 ⟨(a,x),k,rfl⟩
    have C:e.contains a.born=true:=by simpa using s
    rw[aa.2]at C;cases C
   ·exact k
  obtain⟨I,J,L⟩:=List.append_of_mem ar;have af:((z++[(a,x)])++(I++J)).Perm (c.toList.zip m):=by
   refine List.Perm.trans ?_ l;rw[L,eM];refine List.Perm.append_left _ ?_;exact(List.perm_middle (a:=(a,x)) (l₁:=I) (l₂:=J)).symm
  have U:=K.at<|l.mem_iff.1 hx
  refine⟨x,a.val,_,⟨(I++J).map (·.2),?_⟩,by rw[<-U.1];exact Q,?_⟩
  ·have:=af.map (·.2);rw[Np y,fY,fY,<-N]at this;exact this
  have gw:ip E p S hs V:=by
   rcases ai with rfl|rfl
   ·exact r
   ·exact r.world rfl rfl rfl<|λ_ _=>rfl
  have am:p.heap=w.heap:=by rcases ai with rfl|rfl <;> rfl
  have ak:b<w.heap.size:=(Array.getElem?_eq_some_iff.1 W).1;have g2:=gw.update (w':=ChangeMaps.setBlock p b<|.mapIter (O g) A (e.push a.born) j) (P':=QJ (.map<|O g) b m<|f++[x]) M
   (wG (Gk.one g<|.map c j)<|Gk.one b<|.mapIter (O g) A (e.push a.born) j)
   ⟨g,c,j,A,e.push a.born,j,z++[(a,x)],I++J,rfl,⟨K,ah⟩,H,rfl,ae,ag,ag,af,by rw[Array.toList_push,R];simp,by rw[N];simp, .inr rfl⟩
   rfl rfl rfl
   (λh aj d=>by
    show(p.heap.setIfInBounds b _)[h]? =O aj;rw[am]
    by_cases o:h=g
    ·subst o;rw[Ms<|dG _ _]at d;injection d with d;subst d
     rw[Array.getElem?_setIfInBounds_ne<|λk=>H k.symm];exact X
    ·rw[Gu<|xW o]at d;obtain⟨rfl,rfl⟩:=k8 d
     rw[Array.getElem?_setIfInBounds_self_of_lt ak])
   (λh aj d=>by
    left
    by_cases o:h=g
    ·subst o;exact⟨_,by rw[t];exact Ms<|dG _ _⟩
    ·rw[Gu<|xW o]at d;obtain⟨rfl,rfl⟩:=k8 d
     exact⟨_,by rw[t,Gu (xW o)];exact dG _ _⟩)
   (λh d aw=>by
    show(p.heap.setIfInBounds b _)[h]? =p.heap[h]?;have al:b≠h:=λk=>by
     subst k;rw[t,Gu<|xW<|λa=>H a.symm,dG]at d
     cases d
    rw[Array.getElem?_setIfInBounds_ne al])
  exact⟨S,_,g2.iX ⟨U.2,rfl⟩⟩
def X_{x:κ×ν}(i:Nat)(hg:Wn ops U g)(hd:Nat.blt d n=aA)(hw:B E w V)(hx:ev U q = .pointer (O ⟨b,0,aQ⟩))(hi:V[i]? =O (QJ v b m<|f++[x]))(k:∀u,B E w (Y u x.2::V)->RL P n ops e (fo U d<|.tuple #[KV.enc x.1,u]) w Q):RL P n ops (⟨O d, .entry q,ty,j,o,g⟩::e) U w Q:=by
 obtain⟨N,hs,l⟩:=hw;have J:=eD hi;obtain⟨h,c,C,M,L,r,p,rz,rfl,⟨H,af⟩,X,I,ai,aj,ak,aa,ad,y,T⟩:=l.sat i _ hi;have R:w.heap[h]? =O (.map c C):=l.le i h _ J (by rw[I];exact Ms<|dG h _);have F:w.heap[b]? =O (.mapIter (O h) M L r):=l.le i b _ J (by rw[I,Gu<|xW<|λs=>X s.symm];exact dG b _);have W:Z c.toList=Z m:=H.len;have z:p≠[]:=λs=>by subst s;simp at y
 obtain⟨A,a,rfl⟩:∃A a,p=A++[a]:=⟨p.dropLast,p.getLast z,(List.dropLast_concat_getLast z).symm⟩;have ag:a.2=x:=by
  rw[fY]at y;have:=congrArg List.getLast? y;simpa using this.symm
 subst ag;have K:a∈c.toList.zip m:=aa.mem_iff.1 G;have ah:a.1∈c.toList:=by have:=List.mem_map_of_mem (f:=Prod.fst) K;rw[p7 W]at this;exact this
 have S:r=C:=by rcases T with t|t;exact absurd t z;exact t
 subst S;have ae:L=(A.map (·.1.born)).toArray.push a.1.born:=by
  apply Array.ext';rw[ad];simp
 rw[ae]at F;have ab:=run_entry_at (P:=P) w b h M _ c r a.1 F R ah af.2.1;have D:=H.at (e:=a.1) (x:=a.2) K;refine jp hg hd ?_<|k a.1.val ⟨N,_,l.iX ⟨D.2,rfl⟩⟩
 simp only[execOp,hx,ab,bQ,cB,bY,D.1]
def B.kv(h:B E w V)(k:κ):B E w (Y (KV.enc k) k::V):=h.JR λ_ _ _=>⟨KV.rd _ k,rfl⟩
def Y2(m:aG (κ×ν))(body:κ×ν->S->aP (Fl S R))(I:aG (κ×ν)->S->(Nat->F)->aT->Prop)(b0:Nat)(J:S->(Nat->F)->aT->Prop)(K:R->(Nat->F)->aT->Prop)(f:aG (κ×ν))(s:S):jl:=
 λa U w=>(f.Perm m/\Y7 (R:=R) b0 J K (.go s) a U w)\/∃x b,Pf m (f++[x])/\body x s=O b/\Nh (I<|f++[x]) b0 J K b a U w
def Y9{b0:Nat}{c:Code}{body:κ×ν->S->aP (Fl S R)}{g:S->aP T}{j:R->aP T}{E:S}{t:T}(I:aG (κ×ν)->S->(Nat->F)->aT->Prop)(J:S->(Nat->F)->aT->Prop)(K:R->(Nat->F)->aT->Prop)
  (hN:Gk.LS m body E g j=O t) (W:I [] E U w)
  (ah:∀f s U w,I f s U w->(∀x,Pf m (f++[x])->∃a,body x s=O a)->RC P n c U w (Y2 m body I b0 J K f s))
  (ag:∀r U w,j r=O t->K r U w->Q .ret U w) (N:∀s U w,g s=O t->J s U w->Q .normal U w):RC P n (.block b0<|.loop c) U w Q:=by
 have ab:=UU hN;refine dt<|NE (λB U w=>∃f s,B+Z f=Z m/\I f s U w/\∀h,(f++h).Perm m->D (C4 body h s) (λv=>v.cs g j)=O t) (m:=Z m) ⟨[],E,rfl,W,λh p=>ab h (by simpa using p)⟩ ?_
 rintro B U w⟨f,s,hj,Y,p⟩;have A:∀x e,(f++[x]++e).Perm m->∃a,body x s=O a/\(match a with| .nx d=>D (C4 body e d) (λv=>v.cs g j)=O t| .br d=>g d=O t| .rt r=>j r=O t):=λx e hr=>by
  have i:=p (x::e) (by simpa using hr);obtain⟨v,k,y⟩:=bd i;unfold C4 at k;obtain⟨a,X,b⟩:=bd k;refine⟨a,X,?_⟩
  cases a with
  |nx d=>simp only at b ⊢;rw[b];exact y
  |br d=>simp only at b ⊢;injection b with b;subst b;exact y
  |rt r=>simp only at b ⊢;injection b with b;subst b;exact y
 refine RC.mono (ah f s U w Y λx⟨e,u⟩=>by obtain⟨a,i,_⟩:=A x e u;exact⟨a,i⟩) λex L H q=>?_
 rcases q with⟨ae,rfl,z⟩|⟨x,a,⟨e,u⟩,M,q⟩
 ·refine .inr ⟨G,?_⟩;have i:=p [] (by simpa using ae);have k:g s=O t:=i;exact zo<|N s L H k z
 ·obtain⟨ai,l,V⟩:=A x e u;rw[M]at l;injection l with l;subst l
  have hl:=u.length_eq;simp only[cK,eK,List.length_nil]at hl
  cases a with
  |nx d=>
   obtain⟨rfl,aa⟩:=q;refine .inl ⟨rfl,B - 1,C,f++[x],d,by simp;omega,aa,λh af=>?_⟩;obtain⟨aj,o,ad⟩:=A x h af;rw[M]at o;injection o with o;subst o
   exact ad
  |br d=>
   obtain⟨rfl,z⟩:=q;exact .inr ⟨G,zo<|N d L H V z⟩
  |rt r=>
   obtain⟨rfl,hK⟩:=q;exact .inr ⟨G,qg<|ag r L H V hK⟩
def Y_{b0 id:Nat}{y:Code}{body:κ×ν->S->aP (Fl S R)}{s:S}{I:aG (κ×ν)->S->(Nat->F)->aT->Prop}{J:S->(Nat->F)->aT->Prop}{K:R->(Nat->F)->aT->Prop}(i:Nat)(hd:Nat.blt d n=aA)(t:B E w V)(hx:ev U q = .pointer (O ⟨b,0,aQ⟩))(hi:V[i]? =O (QJ v b m f))(p:∀x,Pf m (f++[x])->∃a,body x s=O a)(l:RL P n (⟨O d, .next q aK,ty,j,o,aQ⟩::e).toArray e (fo U d (.tuple #[.bool aK])) w (tU P n y (Y7 b0 J K (.go s))))(h1:∀x u a w',body x s=O a->B E w' (Y u x.2::V.set i (QJ v b m (f++[x])))->
   RL P n (⟨O d, .next q aK,ty,j,o,aQ⟩::e).toArray e (fo U d (.tuple #[.bool aA,KV.enc x.1,u])) w' (tU P n y (Nh (I (f++[x])) b0 J K a))):
  RC P n (.seq (.region id (⟨O d, .next q aK,ty,j,o,aQ⟩::e).toArray aK) y) U w (Y2 m body I b0 J K f s):=by
 rcases t.Sd (P:=P) hi ty with⟨r,c⟩|⟨x,u,w',h,c,z⟩
 ·refine RC.mono (IT<|jp trivial hd ?_ l) λk U w q=> .inl ⟨r,q⟩;simp only[execOp,hx,c,bQ,cB,bY]
 ·obtain⟨a,g⟩:=p x h;refine RC.mono (IT<|jp trivial hd ?_<|h1 x u a w' g z) λk U w q=> .inr ⟨x,a,h,g,q⟩;simp only[execOp,hx,c,bQ,cB,bY]
end
end Go.Gk
namespace Go.Gk
open Go IntKind Go.Sort
def C5(l:aG Int):aP (aG Int):=if Z l<4611686018427387904 then O (l.mergeSort λx y=>decide<|x<=y)else aQ
section
variable {α:Type}[s α]
def XU{β:Type}(cf:β->β->Int)(x y:β):Bool:=decide<|cf x y<0
def QK(φ:α->α->aP Int)(l:aG α)(i j:Fin (Z l)):Int:=(φ l[i] l[j]).getD 0
def Sf(φ:α->α->aP Int)(l:aG α):aG α:=
 if h:0<Z l then
  haveI:Inhabited (Fin (Z l)):=⟨⟨0,h⟩⟩
  ((pdq (XU<|QK φ l) (Array.ofFn λi:Fin (Z l)=>i) 0 (Z l) (Lib.bitLen (Z l)) aA aA).toList.map λi=>l[i])
 else l
open Classical in
noncomputable def y4(φ:α->α->aP Int)(l:aG α):aP (aG α):=
 if((∀i j:Fin (Z l),∃c,φ l[i] l[j]=O c)/\SWO (XU<|QK φ l))/\Z l<4611686018427387904 then O (Sf φ l)else aQ
end
end Go.Gk
namespace Go.Gk
open Go IntKind
def C6:Op->Bool
 | .move _| .assign _| .pick .. | .load .. | .nilCheck _| .binOp .. | .unOp .. | .fieldAddr .. | .indexAddr .. | .index .. | .field .. | .extract .. | .slice .. | .lookup .. | .build .. | .makeFunc .. =>aA
 | .call ⟨.builtin .len,_,_⟩| .call ⟨.builtin .cap,_,_⟩| .call ⟨.builtin .min,_,_⟩| .call ⟨.builtin .max,_,_⟩=>aA
 |_=>aK
def uN{α:Type}{s:Sem α}{P:bG}{w w':aT}{f:α->F}{b:Next}(h:(do let a <-s;pure (.value<|f a):Sem Next).run P w = .ok b w'):∃v,b = .value v:=by
 rw[bQ]at h
 cases b:s.run P w with
 |ok a b=>grind [Result.andThen,cB]
 |halt a b=>simp_all
def O9{e:bB->F}{o:bC}{P:bG}{w w':aT}{i:Next}(d:C6 o.op=aA)(h:(execOp e o).run P w = .ok i w'):∃v,i = .value v:=by
 obtain⟨t,n,D,B,r,x⟩:=o
 cases n
 case move f=>grind [execOp,cB]
 case assign f=>grind [execOp,cB]
 case pick c b a=>exact uN (s:=asBool<|e c) (f:=λj=>if j then e b else e a) h
 case load j b=>exact uN h
 case binOp b a c g l=>
  simp only[execOp]at h;exact uN h
 case unOp b a c=>exact uN h
 case fieldAddr b a c=>exact uN h
 case indexAddr b a c=>exact uN h
 case index b a c=>exact uN h
 case field b a c=>exact uN h
 case extract b a=>exact uN h
 case slice b a c g l=>exact uN h
 case lookup b a c g=>exact uN h
 case build b a=>exact uN h
 case makeFunc b a c=>exact uN h
 case nilCheck f=>
  simp only[execOp]at h;split at h
  ·cases h
  ·cases h
  ·cases h
  ·split at h
   ·cases h
   ·rw[bQ]at h
    cases m:program.run P w with
    |halt f q=>simp_all
    |ok A q=>
     rw[m]at h;simp only[Result.andThen,bQ]at h;split at h
     ·rename_i p E y;split at h
      ·simp_all
      grind [cB]
     ·cases h
   grind [cB]
  grind [cB]
 case call c=>
  obtain⟨k,s,C⟩:=c
  cases k with
  |builtin a=>
   cases a <;> first
    |(cases d;done)
    |(simp only[execOp,resolve,bQ,cB,Result.andThen,invoke,builtin]at h;exact uN (by rw[bQ];exact h))
  |value u=>cases d
  |invoke p z=>cases d
 all_goals cases d
def Sl.uniq{n:Nat}{U b:Nat->F}{a:Act}(h:Sl n U a)(c:Sl n b a):U=b:=funext λb=>(h.get b).symm.trans<|c.get b
section
variable {P:bG}{n:Nat}{ops:aY bC}{w:aT}{Q:jl}{U:Nat->F}{o:bC}{b l:aG bC}
def RO(P:bG)(n:Nat)(ops:aY bC)(w:aT)(Q:jl):aG bC->(Nat->F)->Prop
 | [],U=>Q .normal U w
 |o::b,U=>RL P n ops [o] U w (λa c w'=>a = .normal/\w'=w/\RO P n ops w Q b c)
def k5(h:RL P n ops [o] U w (λa d c=>a = .normal/\c=w/\RO P n ops w Q b d)):RO P n ops w Q (o::b) U:=h
def a_(h:RL P n ops [o] U w (λa d c=>a = .normal/\c=w/\RO P n ops w Q b d)):RL P n ops [] U w (λa d c=>a = .normal/\c=w/\RO P n ops w Q (o::b) d):=J ⟨rfl,rfl,h⟩
def fp(h:Q .normal U w):RL P n ops [] U w (λa c b=>a = .normal/\b=w/\RO P n ops w Q [] c):=J ⟨rfl,rfl,h⟩
def OG(P:bG)(ops:aY bC)(w:aT)(a:Act)(o:bC)(v:F):Prop:=
 (Region.wanted o (yielded ops a.tmps)=aA/\(execOp a.eval o).run P w = .ok (.value v) w)\/(Region.wanted o (yielded ops a.tmps)=aK/\v=undef)
def at4{a:Act}{d:Nat}(j:Sl n U a)(q:C6 o.op=aA)(hd:o.dst=O d)(l:Nat.blt d n=aA)(h:RO P n ops w Q (o::b) U):
  ∃v,OG P ops w a o v/\RO P n ops w Q b (fo U d v):=by
 have c:=h a j;unfold wpList at c;split at c
 ·rename_i m
  rcases c with c|⟨_,c⟩
  ·unfold Oper.wp at c
   cases f:(execOp a.eval o).run P w with
   |ok t p=>
    rw[f]at c;obtain⟨v,rfl⟩:=O9 q f;obtain⟨s,e,_,k,i⟩:=c;have k:p=w:=k;subst k;rw[hd]at e;have:=e.uniq<|j.put l v
    subst this;exact⟨v, .inl ⟨m,f⟩,i⟩
   |halt r p=>
    rw[f]at c
    cases r with
    |panic v=>obtain⟨_,_,g,_⟩:=c;cases g
    |_=>exact c.elim
  ·obtain⟨_,_,_,_,g,_⟩:=c;cases g
 ·rename_i m;obtain⟨s,e,_,_,i⟩:=c;rw[hd]at e;have:=e.uniq<|j.put l undef
  subst this;exact⟨undef, .inr ⟨H,rfl⟩,i⟩
def Jb(U:Nat->F):aG bC->aG F->(Nat->F)
 |o::l,v::a=>Jb (match o.dst with|some d=>fo U d v|none=>U) l a
 |_,_=>U
def at5:∀(l:aG bC)(U:Nat->F)(a:Act),Sl n U a->(∀o∈l,C6 o.op=aA/\∃d,o.dst=O d/\Nat.blt d n=aA)->RO P n ops w Q l U->
  ∃b:aG F,Z b=Z l/\Q .normal (Jb U l b) w/\∀(j:Nat)o v,l[j]? =O o->b[j]? =O v->∃c,Sl n (Jb U (l.take j)<|b.take j) c/\OG P ops w c o v:=by
 intro l
 induction l with
 |nil=>intro U a e _ f;exact⟨[],rfl,f,λj o v c=>by simp at c⟩
 |cons o l q=>
  intro U a e h f;obtain⟨k,d,i,g⟩:=h o G;obtain⟨v,p,m⟩:=at4 e k i g f;obtain⟨b,i,f,f⟩:=q (fo U d v) _ (e.put g v) (λf g=>h f (by simp[g])) m;refine⟨v::b,by simp[i],?_,λj f b c b=>?_⟩
  ·grind [Jb]
  ·cases j with
   |zero=>
    simp at c b;subst c;subst b;exact⟨a,e,p⟩
   |succ j=>
    grind [Jb]
def C7{t:Nat}:∀(l:aG bC)(a:aG F)(U:Nat->F),(∀o∈l,o.dst≠O t)->Jb U l a t=U t
 | [],_,U,_=>rfl
 |_::_,[],U,_=>rfl
 |o::l,f::a,U,b=>by
  unfold Jb;rw[C7 l a _<|λc a=>b c (by simp[a])]
  cases d:o.dst with
  |none=>rfl
  |some a=>
   have e:t≠a:=λc=>b o G (by rw[d,c]);show fo U a f t=U t;unfold fo
   cases b:Nat.beq t a with
   |true=>exact absurd (iJ b) e
   |false=>rfl
def Nr{t:Nat}:∀(l:aG bC)(b:aG F)(U:Nat->F)(j:Nat)(o:bC)(v:F),l[j]? =O o->b[j]? =O v->o.dst=O t->
  (∀(k:Nat)a,l[k]? =O a->k≠j->a.dst≠O t)->Jb U l b t=v
 | [],_,_,_,_,_,c,_,_,_=>by simp at c
 |_::_,[],_,_,_,_,_,c,_,_=>by simp at c
 |o::l,v::b,U,0,a,g,c,f,d,e=>by
  simp at c f;subst c;subst f;unfold Jb
  rw[C7 l b _ (λa c=>by
   obtain⟨k,h⟩:=List.mem_iff_getElem?.1 c
   exact e (k+1) a H C),d]
  show fo U t v t=v;unfold fo;rw[Nat.beq_refl];rfl
 |o::l,v::b,U,j+1,a,g,c,f,d,e=>by
  unfold Jb;exact Nr l b _ j a g H H d<|λk a h b=>e (k+1) a H C
def Gv(o:bC)(k:Nat):Bool:=o.after.toList.any λe=>Region.binds .any e&&Nat.beq e.on k
def Jc(ops:aY bC)(o:bC)(d:Nat):Bool:=(o.looksAt ops).any λt=>Nat.beq t d
def J3(ops:aY bC)(i:Nat)(o:bC)(k:Nat)(a:bC):Bool:=
 Nat.beq i k||match a.dst with
  |some d=>(match o.dst with|some b=> !Nat.beq d b|none=>aA)&&(!Jc ops o d||(bif Nat.blt k i then Gv o k else Gv a i))
  |none=>aK
def Mt(ops:aY bC)(i:Nat)(o:bC):Nat->aG bC->Bool
 |_,[]=>aA
 |k,a::l=>J3 ops i o k a&&Mt ops i o (k+1) l
def Pa(n:Nat)(ops:aY bC)(l:aG bC):Nat->aG bC->Bool
 |_,[]=>aA
 |i,o::a=>C6 o.op&&(match o.dst with|some d=>Nat.blt d n|none=>aK)&&Mt ops i o 0 l&&Pa n ops l (i+1) a
def Gw{i:Nat}:∀{k:Nat}{l:aG bC},Mt ops i o k l=aA->∀(j:Nat)c,l[j]? =O c->J3 ops i o (k+j) c=aA
 |_,[],_,j,c,b=>by simp at b
 |k,d::l,a,0,c,b=>by
  unfold Mt at a;rw[dE]at a;simp at b;subst b;exact a.1
 |k,d::l,a,j+1,c,b=>by
  unfold Mt at a;rw[dE]at a;have:=Gw a.2 j c (by simpa using b);rw[show k+(j+1)=k+1+j by omega];exact this
def Pb{a:aG bC}:∀{i:Nat}{l:aG bC},Pa n ops a i l=aA->∀(j:Nat)o,l[j]? =O o->C6 o.op=aA/\(∃d,o.dst=O d/\Nat.blt d n=aA)/\Mt ops (i+j) o 0 a=aA
 |_,[],_,j,c,b=>by simp at b
 |i,f::l,a,0,c,b=>by
  unfold Pa at a;simp only[dE]at a;simp at b;subst b;refine⟨a.1.1.1,?_,a.1.2⟩;have:=a.1.1.2
  cases e:f.dst with
  |none=>rw[e]at this;cases this
  |some d=>rw[e]at this;exact⟨d,rfl,this⟩
 |i,f::l,a,j+1,c,b=>by
  unfold Pa at a;simp only[dE]at a;have:=Pb a.2 j c (by simpa using b);rw[show i+(j+1)=i+1+j by omega];exact this
def tW{a:Nat->Bool}{k:Nat}:∀{l:aG Edge},tV a l->(l.any λb=>Region.binds .any b&&Nat.beq b.on k)=aA->a k=aA
 | [],_,a=>by cases a
 |b::l,c,a=>by
  rw[List.any_cons,jk,dE]at a
  rcases a with⟨b,d⟩|a
  ·have:=c.1 b;rwa[iJ d]at this
  ·exact tW c.2 a
def A9{a c:Act}{U k:Nat->F}(i:Sl n U a)(j:Sl n k c)(h:∀t,Jc ops o t=aA->U t=k t)(m:∀(g:Nat)b d,ops[g]? =O b->b.dst=O d->d<n):
  Region.wanted o (yielded ops a.tmps)=Region.wanted o (yielded ops c.tmps):=by
 unfold Region.wanted;split
 ·rfl
 ·rename_i g w s;have:yielded ops a.tmps g=yielded ops c.tmps g:=by
   unfold yielded
   cases l:ops[g]? with
   |none=>rfl
   |some b=>
    cases e:b.dst with
    |none=>simp[e]
    |some d=>
     have f:=m g b d l e
     have r:=h d (by
      unfold Jc Oper.looksAt
      simp_all)
     have p:=i.get d;have q:=j.get d;have u:d<a.tmps.size:=by rw[i.size];exact f
     have v:d<c.tmps.size:=by rw[j.size];exact f
     simp_all
  rw[this]
def Ba{F:Nat->bC->Prop}:∀{k:Nat}{l:aG bC},(∀(i:Nat)o,l[i]? =O o->F (k+i) o)->vN F k l
 |_,[],_=>trivial
 |k,b::l,a=>⟨a 0 b rfl,Ba (λi o b=>by have:=a (i+1) o H;grind)⟩
def Gx(a:Nat->Bool)(i:Nat):k_ a i i=true:=by simp[k_,Nat.beq_refl]
def wH{a:Nat->Bool}{i j:Nat}(h:j≠i):k_ a i j=a j:=by
 unfold k_
 simp_all
def k6{id:Nat}{l:aG bC}(hm:P.follows .mixedOrders=aA)(h:RO P n l.toArray w.drew Q l U)(hdep:C0 0 l=true:=by exact rfl)(aq:Pa n l.toArray l 0 l=true:=by kernel_rfl):RC P n (.region id l.toArray aA) U w Q:=by
 intro a0 ab;have hA:=λak o(u:l[ak]? =O o)=>Pb aq ak o u
 obtain⟨p,ai,hq,au⟩:=at5 l U a0 ab (λo u=>by
  grind [List.mem_iff_getElem?]) h
 have aw:∀(aa:Nat)e r,l.toArray[aa]? =O e->e.dst=O r->r<n:=λaa e r u B=>by
  grind [Nat.blt_eq]
 have I:∀(c a:Nat)o d b,l[c]? =O o->l[a]? =O d->a≠c->o.dst=O b->d.dst≠O b:=λc a o d b u g y B j=>by
  have f:=Gw (hA c o u).2.2 a d g;unfold J3 at f
  simp_all
 refine NT (U:=U) (w:=w) hm hdep (λz v w'=>w'=w.drew/\(∀(c:Nat)o E b,l[c]? =O o->p[c]? =O E->o.dst=O b->z c=aA->v b=E)/\(∀b,(∀(c:Nat)o,l[c]? =O o->o.dst=O b->z c=aK)->v b=U b)) ?_ ?_ ?_ a0 ab
 ·simp
 ·refine Ba λc o u=>?_;rw[kx];rintro z v w' T ao an⟨rfl,N,G⟩;obtain⟨hk,⟨r,B,ae⟩,X⟩:=hA c o u;rw[kx]at X;have V:c<Z p:=H
  obtain⟨al,ah,av⟩:=au c o p[c] u<|aM V
  have ad:∀b,Jc l.toArray o b=aA->Jb U (l.take c) (p.take c) b=v b:=by
   intro b K
   by_cases D:∃(a:Nat)(d:bC),l[a]? =O d/\d.dst=O b
   ·obtain⟨a,d,g,j⟩:=D;have J:a<Z p:=by rw[ai];exact(bR.1 g).1
    by_cases W:a<c
    ·have f:=Gw X a d g;rw[kx]at f;unfold J3 at f;rw[j,jk]at f
     rcases f with f|f
     ·have:=iJ f;omega
     simp only[dE,jk,Bool.not_eq_true']at f;have q:=f.2;rw[K]at q
     rcases q with q|q
     ·cases q
     have A:Nat.blt a c=true:=by rw[Nat.blt_eq];exact W
     rw[A]at q;have x:=tW ao q;rw[N a d p[a] b g (aM J) j x];refine Nr (l.take c) (p.take c) U a d p[a] (by rw[kC,aL W];exact g) (by rw[kC,aL W];exact aM J) j λs e i y=>?_;rw[kC]at i;split at i
     ·exact I a s d e b g i y j
     ·cases i
    ·have x:z a=false:=by
      by_cases t:a=c
      ·subst t;exact T
      ·have f:=Gw X a d g;rw[kx]at f;unfold J3 at f;rw[j,jk]at f
       rcases f with f|f
       ·have:=iJ f;omega
       simp only[dE,jk,Bool.not_eq_true']at f;have q:=f.2;rw[K]at q
       rcases q with q|q
       ·cases q
       have A:Nat.blt a c=false:=by
        cases Y:Nat.blt a c with
        |false=>rfl
        |true=>rw[Nat.blt_eq]at Y;omega
       rw[A]at q;refine nf λx=>?_;have:=tW (an a d g x) q;rw[T]at this;cases this
     rw[G b λs e m k=>?_]
     ·refine C7 _ _ _ λe m k=>?_;obtain⟨s,i⟩:=List.mem_iff_getElem?.1 m;rw[kC]at i;split at i
      ·rename_i aE;exact I a s d e b g i C j k
      ·cases i
     ·by_cases t:s=a
      ·subst t;exact x
      ·exact absurd k<|I a s d e b g m t j
   ·rw[G b λa d g j=>absurd ⟨a,d,g,j⟩ D];refine C7 _ _ _ λe m k=>?_;obtain⟨s,i⟩:=List.mem_iff_getElem?.1 m;rw[kC]at i;split at i
    ·exact D ⟨s,e,i,k⟩
    ·cases i
  intro a' R;have ar:execOp a'.eval o=execOp al.eval o:=execOp_congr o (λcs aD F=>by rw[F]at hk;cases hk) λay Y=>by
   rw[R.ev,ah.ev]
   cases ay with
   |tmp b=>
    refine(ad b ?_).symm;unfold Jc Oper.looksAt;rw[List.any_append,jk];left;rw[ky];exact⟨b,List.mem_filterMap.2 ⟨.tmp b,by simpa using Y,rfl⟩,Nat.beq_refl b⟩
   |_=>rfl
  have aj:=A9 (ops:=l.toArray) (o:=o) ah R ad aw;have af:∀E,p[c]? =O E->(∀(a:Nat)e S b,l[a]? =O e->p[a]? =O S->e.dst=O b->k_ z c a=aA->fo v r E b=S)/\(∀b,(∀(a:Nat)e,l[a]? =O e->e.dst=O b->k_ z c a=aK)->fo v r E b=U b):=by
   intro E hv;refine⟨λa e S b m L k x=>?_,λb K=>?_⟩
   ·by_cases t:a=c
    ·subst t;rw[u]at m;injection m with m;subst m
     rw[B]at k;injection k with k;subst k
     rw[hv]at L;injection L with L;subst L
     unfold fo;rw[Nat.beq_refl];rfl
    ·rw[wH t]at x;have y:b≠r:=λF=>by subst F;exact I c a o e b u m t B k
     unfold fo
     cases A:Nat.beq b r with
     |true=>exact absurd (iJ A) y
     |false=>exact N a e S b m L k x
   ·have y:b≠r:=λF=>by
     subst F;have:=K c o u B;rw[Gx]at this;cases this
    unfold fo
    cases A:Nat.beq b r with
    |true=>exact absurd (iJ A) y
    |false=>
     refine G b λa e m k=>?_;have:=K a e m k
     by_cases t:a=c
     ·subst t;exact T
     ·rw[wH t]at this;exact this
  unfold wpList
  rcases av with⟨M,ap⟩|⟨M,ax⟩
  ·rw[aj]at M;rw[aL M];left;unfold Oper.wp;rw[ar,ap];refine⟨fo v r p[c],?_,rfl,rfl,af _<|aM V⟩;rw[B];exact R.put ae _
  ·rw[aj]at M;rw[aJ (by rw[M];exact A4)];refine⟨fo v r undef,?_,rfl,rfl,af _ (by rw[<-ax];exact aM V)⟩;rw[B];exact R.put ae _
 ·rintro z v w' am⟨rfl,N,G⟩;have:v=Jb U l p:=by
   funext b
   by_cases D:∃(a:Nat)(d:bC),l[a]? =O d/\d.dst=O b
   ·obtain⟨a,d,g,j⟩:=D;have ag:=(bR.1 g).1;have J:a<Z p:=by rw[ai];exact ag
    rw[N a d p[a] b g (aM J) j<|am a ag];exact(Nr l p U a d p[a] g (aM J) j λs e i y=>I a s d e b g i y j).symm
   ·rw[G b λa d g j=>absurd ⟨a,d,g,j⟩ D];refine(C7 _ _ _ λe m k=>?_).symm;obtain⟨s,i⟩:=List.mem_iff_getElem?.1 m;exact D ⟨s,e,i,k⟩
  rw[this];exact hq
end
def XV:aG (Nat×F)->Nat->F
 | [],_=>undef
 |(d,v)::r,t=>bif Nat.beq d t then v else XV r t
def Ns:aG (Nat×Nat×F)->aG (Nat×F)->Nat->F
 | [],ag,t=>XV ag t
 |(_,d,v)::r,ag,t=>bif Nat.beq d t then v else Ns r ag t
def OH(a:aG (Nat×Nat×F))(ag:aG (Nat×F)):bB->F
 | .tmp t=>Ns a ag t
 | .const v=>v
 | .global g=> .pointer (O ⟨g,0,aQ⟩)
 | .func f=> .func (.func f) #[] #[]
def uO(ops:aY bC)(o:bC):bB->Bool
 | .tmp t=>Jc ops o t
 |_=>aA
def Pu(P:bG)(n:Nat)(ops:aY bC)(o:bC)(a:aG (Nat×Nat×F))(ag:aG (Nat×F)):Prop:=
 ∀(U:Nat->F)(w:aT),(∀q,uO ops o q=aA->ev U q=OH a ag q)->RL P n ops [o] U w (λb c w'=>b = .normal/\w'=w/\∃d,o.dst=O d/\c=fo U d (Ns a ag d))
section
variable {P:bG}{n:Nat}{ops:aY bC}{U:Nat->F}{w:aT}{d:Nat}{v u:F}{c:aG bC}{ty T T':bJ}{i:String}{m:aY Edge}{g:aP (Nat×Bool)}{x y z:bB}{Q:jl}
def yr{f:Nat->F}(h:v=f d):RL P n ops [] (fo U d v) w (λa c b=>a = .normal/\b=w/\∃a,(O d:aP Nat)=O a/\c=fo U a (f a)):=
 by grind [J]
def at6{b:Bool}(hg:Wn ops U g)(hd:Nat.blt d n=aA)(hx:ev U x = .bool b)(a:b=aA)(a:ev U y=v)(k:RL P n ops c (fo U d v) w Q):
  RL P n ops (⟨O d, .pick x y z,ty,i,m,g⟩::c) U w Q:=by grind [nt]
def at7{b:Bool}(hg:Wn ops U g)(hd:Nat.blt d n=aA)(hx:ev U x = .bool b)(a:b=aK)(a:ev U z=v)(k:RL P n ops c (fo U d v) w Q):
  RL P n ops (⟨O d, .pick x y z,ty,i,m,g⟩::c) U w Q:=by grind [nt]
def Wn.k{j t:Nat}{b:Bool}(h1:D (ops[j]?) (·.dst)=O t)(h:ev U (.tmp t) = .bool b):Wn ops U (O (j,b)):=⟨t,h1,h⟩
def Wn.h{j t:Nat}{a b:Bool}(h1:D (ops[j]?) (·.dst)=O t)(h:ev U (.tmp t) = .bool a)(e:a=b):Wn ops U (O (j,b)):=⟨t,h1,by rw[<-e];exact h⟩
def au_{op:Op}{j t:Nat}{a b:Bool}(f:D (ops[j]?) (·.dst)=O t)(g:ev U (.tmp t) = .bool a)(e:a = !b)(hd:Nat.blt d n=aA)
  (k:RL P n ops c (fo U d undef) w Q):RL P n ops (⟨O d,op,ty,i,m,O (j,b)⟩::c) U w Q:=GT f (.inl (by rw[<-e];exact g)) hd k
end
def E8:aG (Nat×Nat×F)->Nat->aP Nat
 | [],_=>aQ
 |(k,d,_)::r,t=>bif Nat.beq d t then O k else E8 r t
def Th(ag:aG (Nat×F))(t:Nat):Bool:=ag.any λp=>Nat.beq p.1 t
def Zd(ops:aY bC)(i:Nat)(o:bC)(cs:aG Nat)(a:aG (Nat×Nat×F))(ag:aG (Nat×F))(b:aG (Nat×Nat×F)):Bool:=
 ((o.looksAt ops).all λt=>match E8 a t with|some k=>Gv o k|none=>Th ag t)&&
 (match o.dst with
  |some d=>Nat.beq (E8 a d).isNone.toNat 0&&(a.all λe=>(!Nat.beq e.1 i||Nat.beq e.2.1 d)&&(!Nat.beq e.2.1 d||Nat.beq e.1 i))&&Nat.beq (Z (a.filter λe=>Nat.beq e.2.1 d)) 1&& !Th ag d&&
    (b.all λe=>Nat.beq e.1 i|| !Nat.beq e.2.1 d)
  |none=>aK)&&(cs.all λc=> !Nat.beq c i)&& !Nat.beq i 999
def Pc(ops:aY bC)(cs:aG Nat)(a:aG (Nat×Nat×F))(ag:aG (Nat×F))(b:aG (Nat×Nat×F)):Nat->aG bC->aG Nat->Bool
 |_,[],_=>aA
 |_,_::_,[]=>aK
 |i,o::l,m::c=>(!Nat.beq m 1||Zd ops i o cs a ag b)&&Pc ops cs a ag b (i+1) l c
def Pd{ops:aY bC}{cs:aG Nat}{a:aG (Nat×Nat×F)}{ag:aG (Nat×F)}{b:aG (Nat×Nat×F)}:∀{i:Nat}{l:aG bC}{c:aG Nat},Pc ops cs a ag b i l c=aA->
  ∀(j:Nat)o,l[j]? =O o->c[j]? =O 1->Zd ops (i+j) o cs a ag b=aA
 |_,[],_,_,j,o,a,_=>by simp at a
 |_,_::_,[],b,_,_,_,a=>by simp at a
 |i,f::l,e::c,b,0,o,a,d=>by
  unfold Pc at b;rw[dE]at b;simp at a d;subst a;subst d
  rcases jk _ _▸b.1 with a|a
  ·cases a
  ·exact a
 |i,f::l,e::c,b,j+1,o,a,d=>by
  unfold Pc at b;rw[dE]at b;have:=Pd b.2 j o (by simpa using a) H;rw[show i+(j+1)=i+1+j by omega];exact this
def HG{ag:aG (Nat×F)}{t k:Nat}:∀{a:aG (Nat×Nat×F)},E8 a t=O k->∃v,(k,t,v)∈a/\Ns a ag t=v
 | [],a=>by cases a
 |(b,c,v)::d,a=>by
  unfold E8 at a;unfold Ns
  cases b:Nat.beq c t with
  |true=>
   rw[b]at a;simp at a;subst a;have:=iJ b;subst this;exact⟨v,G,rfl⟩
  |false=>
   rw[b]at a;obtain⟨d,b,c⟩:=HG (ag:=ag) a;exact⟨d,by simp[b],c⟩
def J4{ag:aG (Nat×F)}{t:Nat}:∀{a:aG (Nat×Nat×F)},E8 a t=aQ->Ns a ag t=XV ag t
 | [],_=>rfl
 |(b,c,e)::d,a=>by
  unfold E8 at a;unfold Ns
  cases b:Nat.beq c t with
  |true=>rw[b]at a;cases a
  |false=>rw[b]at a;exact J4 a
def eT.mem{c:Nat->Bool}{U:Nat->F}{k t:Nat}{v:F}:∀{d:aG (Nat×Nat×F)},eT c U d->(k,t,v)∈d->c k=aA->U t=v
 | [],_,a,_=>by cases a
 |(l,j,n)::m,f,a,e=>by
  rcases eO.1 a with g|a
  ·injection g with h b;injection b with b i;subst h;subst b;subst i;exact f.1 e
  ·exact f.2.mem a e
def eT.of{a:Nat->Bool}{U:Nat->F}:∀{b:aG (Nat×Nat×F)},(∀k t v,(k,t,v)∈b->a k=aA->U t=v)->eT a U b
 | [],_=>trivial
 |(c,b,d)::e,a=>⟨a c b d G,eT.of λk t v b=>a k t v (by simp[b])⟩
def d8.XV{U:Nat->F}{t:Nat}:∀{ag:aG (Nat×F)},d8 U ag->Th ag t=aA->U t=XV ag t
 | [],_,a=>by cases a
 |(d,e)::c,b,a=>by
  unfold Gk.XV
  cases c:Nat.beq d t with
  |true=>have:=iJ c;subst this;exact b.1
  |false=>
   unfold Th at a;rw[List.any_cons,c]at a;exact d8.XV b.2 a
def d8.upn{U:Nat->F}{d:Nat}{v:F}:∀{ag:aG (Nat×F)},d8 U ag->Th ag d=aK->d8 (fo U d v) ag
 | [],_,_=>trivial
 |(e,f)::c,b,a=>by
  unfold Th at a;rw[List.any_cons,Bool.or_eq_false_iff]at a;refine⟨?_,d8.upn b.2 a.2⟩;unfold fo;rw[a.1];exact b.1
def q_{P:bG}{n:Nat}{U:Nat->F}{w:aT}(E:aT){Q:jl}(V:aG HP){X:Type}{id:Nat}{l:aG bC}(hm:P.follows .mixedOrders=aA)(H cs:aG Nat)(d:X->aG (Nat×Nat×F))(ag:aG (Nat×F))(r:aG (Nat×Nat×F))(g:(Nat->Bool)->X->aG HP)(ao:∀x,Pc l.toArray cs (d x) ag r 0 l H=aA)(h0:∃x,eT (λ_=>aK) U (d x)/\d8 U ag/\zV (λ_=>aK) U r/\B E w.drew (g (λb=>(λ_=>aK) (cs.getD b 999)) x++V))(ar:vN (λi k=>bif Nat.beq (H.getD i 0) 1 then(∀x,Pu P n l.toArray k (d x) ag)else
   (∀a U w,a i=aK->tV a k.after.toList->A6 l a->(∃x,eT a U (d x)/\d8 U ag/\zV a U r/\B E w (g (λb=>a (cs.getD b 999)) x++V))->
    RL P n l.toArray [k] U w (λex U w=>ex = .normal/\∃x,eT (k_ a i) U (d x)/\d8 U ag/\zV (k_ a i) U r/\B E w (g (λb=>k_ a i (cs.getD b 999)) x++V)))) 0 l) (ah:∀a U w,(∀i,i<Z l->a i=aA)->(∃x,eT a U (d x)/\d8 U ag/\zV a U r/\B E w (g (λb=>a (cs.getD b 999)) x++V))->Q .normal U w) (hdep:C0 0 l=true:=by exact rfl):RC P n (.region id l.toArray aA) U w Q:=by
 refine NT hm hdep (λa U w=>∃x,eT a U (d x)/\d8 U ag/\zV a U r/\B E w (g (λb=>a<|cs.getD b 999) x++V)) h0 ?_ ah;refine Ba λi k ho=>?_;have v:=ar.at i k ho;rw[kx]at v ⊢
 cases ak:Nat.beq (H.getD i 0) 1 with
 |false=>grind
 |true=>
  rw[ak]at v;have v:∀x,Pu P n l.toArray k (d x) ag:=v;have al:H[i]? =O 1:=by
   grind [iJ]
  rintro a U w hD af av⟨x,hv,ha,an,hw⟩;have A:=Pd (ao x) i k ho al;rw[kx]at A;unfold Zd at A;simp only[dE]at A;obtain⟨⟨⟨h1,s⟩,M⟩,h4⟩:=A;have aq:∀b,uO l.toArray k b=aA->ev U b=OH (d x) ag b:=by
   intro b C
   cases b with
   |tmp e=>
    have ht:e∈k.looksAt l.toArray:=by
     grind [uO,Jc,ky,iJ]
    have y:=qX.1 h1 e ht;show U e=Ns (d x) ag e
    cases o:E8 (d x) e with
    |some p=>
     rw[o]at y;obtain⟨I,hm,D⟩:=HG (ag:=ag) o;rw[D];exact hv.mem hm<|tW af y
    |none=>
     rw[o]at y;rw[J4 o];exact ha.XV y
   |const I=>rfl
   |global g=>rfl
   |func au=>rfl
  have ap:=v x U w aq;intro J ae;have t:=ap J ae
  cases z:k.dst with
  |none=>rw[z]at s;cases s
  |some q=>
   rw[z]at s;simp only[dE]at s;obtain⟨⟨⟨⟨Y,e2⟩,e3⟩,e4⟩,e5⟩:=s;obtain⟨k0,o⟩:∃p,E8 (d x) q=O p:=by
    cases o:E8 (d x) q with
    |some p=>exact⟨p,rfl⟩
    |none=>rw[o]at Y;cases Y
   obtain⟨I,am,D⟩:=HG (ag:=ag) o;have aa:∀h,h=fo U q I->∃x,eT (k_ a i) h (d x)/\d8 h ag/\zV (k_ a i) h r/\B E w (g (λb=>k_ a i<|cs.getD b 999) x++V):=by
    rintro h rfl
    refine⟨x,eT.of λp e ad hm ab=>?_,ha.upn (by simpa using e4),an.up (by
     rw[qX];intro c m;have:=qX.1 e5 c m
     exact this),?_⟩
    ·have m:=qX.1 e2 (p,e,ad) hm;simp only[dE,jk,Bool.not_eq_true']at m
     by_cases T:e=q
     ·subst T;have aj:=iJ e3;have N:(p,e,ad)∈(d x).filter λc=>Nat.beq c.2.1 e:=by rw[nc];exact⟨hm,Nat.beq_refl e⟩
      have R:(k0,e,I)∈(d x).filter λc=>Nat.beq c.2.1 e:=by rw[nc];exact⟨am,Nat.beq_refl e⟩
      obtain⟨aw,hz⟩:=List.length_eq_one_iff.1 aj;rw[hz]at N R;simp at N R;have:=N.trans R.symm;injection this with _ this;injection this with _ this
      subst this;unfold fo;rw[Nat.beq_refl];rfl
     ·have ai:p≠i:=λc=>by
       subst c
       rcases m.1 with j|j
       ·rw[Nat.beq_refl]at j;cases j
       ·exact T<|iJ j
      rw[wH ai]at ab;unfold fo
      cases hb:Nat.beq e q with
      |true=>exact absurd (iJ hb) T
      |false=>exact hv.mem hm ab
    ·have:(λb=>k_ a i<|cs.getD b 999)=(λb=>a<|cs.getD b 999):=by
      funext b;refine wH λc=>?_;rw[List.getD_eq_getElem?_getD]at c
      cases C:cs[b]? with
      |some K=>
       rw[C]at c;have hc:=qX.1 M K<|eR C
       have c:K=i:=c;subst c;rw[Nat.beq_refl]at hc;cases hc
      |none=>
       rw[C]at c;have c:999=i:=c;subst c;cases h4
     rw[this];exact hw
   unfold wpList at t ⊢;split at t
   ·rename_i W;rw[aL W]
    rcases t with t|⟨s,M⟩
    ·refine .inl<|JV (λJ w' j=>?_) (λK J w' j=>?_) (λj=>?_) t
     ·obtain⟨h,S,_,G,L,f,m⟩:=j;have f:O q=O L:=by rw[<-z];exact f
      injection f with f;subst f
      have G:w'=w:=G;subst G;exact⟨h,S,rfl,aa h (by rw[m,D])⟩
     ·obtain⟨_,_,u,_⟩:=j;cases u
     ·obtain⟨_,_,_,_,u,_⟩:=j;cases u
    ·obtain⟨_,_,_,_,u,_⟩:=M;cases u
   ·rename_i W;rw[aJ W];obtain⟨h,S,_,G,L,f,m⟩:=t;have f:O q=O L:=by rw[<-z];exact f
    injection f with f;subst f
    exact⟨h,S,rfl,aa h (by rw[m,D])⟩
section
variable {P:bG}{n:Nat}{ops:aY bC}{d:Nat}{v u:F}{ty T x t0:bJ}{f:String}{w:aY Edge}{g:aP (Nat×Bool)}{q r y z:bB}{s:aG (Nat×Nat×F)}{ag:aG (Nat×F)}{a b:Bool}{o:bC}
def PG(ops:aY bC)(o:bC)(s:aG (Nat×Nat×F))(ag:aG (Nat×F))(g:aP (Nat×Bool)):Prop:=∀U:Nat->F,(∀q,uO ops o q=aA->ev U q=OH s ag q)->Wn ops U g
def gn:PG ops o s ag none:=λ_ _=>trivial
def gy{j t:Nat}(e:a=b)(h:(D (ops[j]?) (·.dst),uO ops o<|.tmp t,OH s ag<|.tmp t)=(O t,aA, .bool a)):PG ops o s ag (O (j,b)):=λi g=>by
 injection h with c h;injection h with d f
 exact⟨t,c,by have:=g (.tmp t) d;rw[f,e]at this;exact this⟩
def zX{op:Op}{j t:Nat}(e:a = !b)(h:(D (ops[j]?) (·.dst),uO ops ⟨O d,op,ty,f,w,O (j,b)⟩<|.tmp t,OH s ag<|.tmp t,Nat.blt d n,undef)=(O t,aA, .bool a,aA,Ns s ag d):=by exact rfl):
  Pu P n ops ⟨O d,op,ty,f,w,O (j,b)⟩ s ag:=λo p m=>by
 injection h with c h;injection h with g h;injection h with i h;injection h with k l
 exact au_ c ((m _ g).trans i) e k<|yr l
def jd(hg:PG ops ⟨O d, .move q,ty,f,w,g⟩ s ag g)(h:(Nat.blt d n,uO ops ⟨O d, .move q,ty,f,w,g⟩ q,OH s ag q)=(aA,aA,Ns s ag d):=by exact rfl):Pu P n ops ⟨O d, .move q,ty,f,w,g⟩ s ag:=λb j a=>by
 injection h with c h;injection h with e i
 exact i8 (hg:=hg b a) (hd:=c) (hx:=a _ e) _<|yr i
def ada(hg:PG ops ⟨O d, .assign q,ty,f,w,g⟩ s ag g)(h:(Nat.blt d n,uO ops ⟨O d, .assign q,ty,f,w,g⟩ q,OH s ag q)=(aA,aA,Ns s ag d)):Pu P n ops ⟨O d, .assign q,ty,f,w,g⟩ s ag:=λb j a=>by
 injection h with c h;injection h with e i
 exact Nt (hg b a) c (a _ e)<|yr i
def C8{c:Addr}(hg:PG ops ⟨O d, .nilCheck q,ty,f,w,g⟩ s ag g)(h:(Nat.blt d n,uO ops ⟨O d, .nilCheck q,ty,f,w,g⟩ q,OH s ag q,Ns s ag d)=(aA,aA, .pointer<|O c, .pointer<|O c):=by exact rfl):Pu P n ops ⟨O d, .nilCheck q,ty,f,w,g⟩ s ag:=λb l a=>by
 injection h with e h;injection h with i h;injection h with j k
 exact wr (hg:=hg b a) (hd:=e) ((a _ i).trans j)<|yr k.symm
def oY{c b j m:Nat}(hg:PG ops ⟨O d, .fieldAddr T q j,ty,f,w,g⟩ s ag g)(r:oG P T j m)(h:(Nat.blt d n,uO ops ⟨O d, .fieldAddr T q j,ty,f,w,g⟩ q,OH s ag q,Ns s ag d)=(aA,aA, .pointer<|O ⟨c,b,aQ⟩, .pointer<|O ⟨c,b+m,aQ⟩):=by exact rfl):
  Pu P n ops ⟨O d, .fieldAddr T q j,ty,f,w,g⟩ s ag:=λe t a=>by
 injection h with i h;injection h with k h;injection h with l o
 exact p (hg:=hg e a) (hd:=i) ((a _ k).trans l) r<|yr o.symm
def Ze{bop:BinOp}{K:IntKind}{m k:Int}(hg:PG ops ⟨O d, .binOp bop T q r x,ty,f,w,g⟩ s ag g)
  (h:(Nat.blt d n,uO ops ⟨O d, .binOp bop T q r x,ty,f,w,g⟩ q,uO ops ⟨O d, .binOp bop T q r x,ty,f,w,g⟩ r,OH s ag q,OH s ag r,Ch bop,Ns s ag d)=(aA,aA,aA, .int K m, .int K k,aA, .bool<|Gi bop m k)):
  Pu P n ops ⟨O d, .binOp bop T q r x,ty,f,w,g⟩ s ag:=λb t a=>by
 injection h with c h;injection h with e h;injection h with i h;injection h with j h;injection h with l h;injection h with o p
 exact G_ (hg b a) c ((a _ e).trans j) ((a _ i).trans l) o<|yr p.symm
def W7{bop:BinOp}{K:IntKind}{m k:Int}(hg:PG ops ⟨O d, .binOp bop T q r x,ty,f,w,g⟩ s ag g)
  (h:(Nat.blt d n,uO ops ⟨O d, .binOp bop T q r x,ty,f,w,g⟩ q,uO ops ⟨O d, .binOp bop T q r x,ty,f,w,g⟩ r,OH s ag q,OH s ag r,UG bop,Ns s ag d)=(aA,aA,aA, .int K m, .int K k,aA, .int K<|K.wrap<|HC bop m k)):
  Pu P n ops ⟨O d, .binOp bop T q r x,ty,f,w,g⟩ s ag:=λb t a=>by
 injection h with c h;injection h with e h;injection h with i h;injection h with j h;injection h with l h;injection h with o p
 exact tb (hg:=hg b a) (hd:=c) (hx:=(a _ e).trans j) (hy:=(a _ i).trans l) (hc:=o) _ _<|yr p.symm
def Zb{i:Nat}{b:aY F}(hg:PG ops ⟨O d, .extract q i,ty,f,w,g⟩ s ag g)(h:(Nat.blt d n,uO ops ⟨O d, .extract q i,ty,f,w,g⟩ q,OH s ag q,b[i]?)=(aA,aA, .tuple b,O<|Ns s ag d)):
  Pu P n ops ⟨O d, .extract q i,ty,f,w,g⟩ s ag:=λc m a=>by
 injection h with e h;injection h with j h;injection h with k l
 exact T_ (hg c a) e ((a _ j).trans k) l<|yr (f:=λd=>Ns s ag d) rfl
def Z1(hg:PG ops ⟨O d, .pick q y z,ty,f,w,g⟩ s ag g)(e:a=aA)(h:(Nat.blt d n,uO ops ⟨O d, .pick q y z,ty,f,w,g⟩ q,uO ops ⟨O d, .pick q y z,ty,f,w,g⟩ y,OH s ag q,OH s ag y)=(aA,aA,aA, .bool a,Ns s ag d)):
  Pu P n ops ⟨O d, .pick q y z,ty,f,w,g⟩ s ag:=λc o b=>by
 injection h with i h;injection h with j h;injection h with k h;injection h with l m
 exact at6 (hg c b) i ((b _ j).trans l) e (b _ k)<|yr m
def Z2(hg:PG ops ⟨O d, .pick q y z,ty,f,w,g⟩ s ag g)(e:a=aK)(h:(Nat.blt d n,uO ops ⟨O d, .pick q y z,ty,f,w,g⟩ q,uO ops ⟨O d, .pick q y z,ty,f,w,g⟩ z,OH s ag q,OH s ag z)=(aA,aA,aA, .bool a,Ns s ag d)):
  Pu P n ops ⟨O d, .pick q y z,ty,f,w,g⟩ s ag:=λc o b=>by
 injection h with i h;injection h with j h;injection h with k h;injection h with l m
 exact at7 (hg c b) i ((b _ j).trans l) e (b _ k)<|yr m
end
end Go.Gk
