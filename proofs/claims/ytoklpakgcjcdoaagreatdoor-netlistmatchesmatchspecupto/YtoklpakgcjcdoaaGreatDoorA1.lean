/-
  Helping texts on the memory of the model. No statement of the seed is proved here.
-/
import Derived.Tactics
import Derived.Orders
import Derived.Maps.AppendAt
import Derived.Laws.Tables
import Derived.Laws.CopyRow
import Derived.KernelRfl
import Derived.Laws.Cells
import Derived.Laws.Strings
import Derived.Lib.Strings
import Derived.Laws.AppendOwn
import Derived.Laws.Externs
import Derived.Lib.Bytealg
import Derived.Laws.OwnMore
import Derived.MapKept
import Derived.Laws.Append
import Derived.Maps.RangeRun
import Derived.Sort.AssemblyPlain
import Derived.Sort.Defs
import Derived.Sort.Statements
import Derived.Lib.BitFns
set_option linter.unusedVariables false
set_option linter.unusedSimpArgs false
set_option linter.unusedSectionVars false
namespace Go.Gk
open Go IntKind
theorem aZ:∀{α:Type _}{l:List α}{i:Nat}(h:i<l.length),l[i]? =some l[i]:= @List.getElem?_eq_getElem
theorem bS:∀{α:Type _}{i:Nat}{a:α}{l:List α},l[i]? =some a↔∃h,l[i]=a:= @List.getElem?_eq_some_iff
theorem lZ:∀(n:Nat),((n:Nat):Int).toNat=n:= @Int.toNat_natCast
theorem kT:∀{α:Type _}{l:List α}{n:Nat}(h:n<l.length),l[n]∈l:= @List.getElem_mem
theorem bV:∀(a b:Bool),((a&&b)=true)=(a=true/\b=true):= @Bool.and_eq_true
theorem g6:∀{α:Type _}{a0 bs:List α},(a0++bs).length=a0.length+bs.length:= @List.length_append
theorem eP:∀{α:Type _}{l:List α}{i:Nat}{a:α},l[i]? =some a->a∈l:= @List.mem_of_getElem?
theorem cV:∀{n m:Nat},n.beq m=true->n=m:= @Nat.eq_of_beq_eq_true
theorem fJ:∀{α:Type _}{l:List α}{i j:Nat},(List.take i l)[j]? =if j<i then l[j]? else none:= @List.getElem?_take
theorem iL:∀{α:Type _}{xs:List α}{i j:Nat},(List.drop i xs)[j]? =xs[i+j]? := @List.getElem?_drop
theorem eG:∀{α:Type _}{xs:Array α}{i:Nat}(h:i<xs.size),xs[i]? =some xs[i]:= @Array.getElem?_eq_getElem
theorem jQ:∀{α:Type _}{l₁ l₂:List α}{i:Nat},i<l₁.length->(l₁++l₂)[i]? =l₁[i]? := @List.getElem?_append_left
theorem kU:∀{α:Type _}{l₁ l₂:List α}{i:Nat},l₁.length<=i->(l₁++l₂)[i]? =l₂[i - l₁.length]? := @List.getElem?_append_right
theorem bQ:∀{α:Sort _}(a b:α),(bif true then a else b)=a:= @cond_true
theorem bG:∀{α:Sort _}(a b:α),(bif false then a else b)=b:= @cond_false
theorem fm:∀{α:Type _}{b:α}{l:List α}{a:α},a∈b::l↔a=b\/a∈l:= @List.mem_cons
theorem jR:∀{α:Type _}{a:α}{a0:List α},(a::a0).length=a0.length+1:= @List.length_cons
theorem fX:∀{α:Type _}{i:Nat}{l:List α},(List.take i l).length=min i l.length:= @List.length_take
theorem kV:∀{α:Type _}(a0 bs cs:List α),a0++bs++cs=a0++(bs++cs):= @List.append_assoc
theorem jS:∀{α:Type _}{i:Nat}{l:List α},(List.drop i l).length=l.length - i:= @List.length_drop
theorem ee:∀(a b:Bool),((a||b)=true)=(a=true\/b=true):= @Bool.or_eq_true
theorem mF:∀(b:Bool),(¬b=true)=(b=false):= @Bool.not_eq_true
theorem ia:∀{a b:Bool},a=b↔(a=true↔b=true):= @Bool.eq_iff_iff
theorem fo:∀{α:Type _}{a0:List α}{i:Nat}{a:α},(a0.set i a).length=a0.length:= @List.length_set
theorem mG:∀{α:Type _}{i:Nat}{l:List α},l.length<=i->List.take i l=l:= @List.take_of_length_le
theorem aS:∀{α β:Type}(a:α)(w:World)(f:α->World->Result β),(Result.ok a w).andThen f=f a w:= @Result.andThen_ok
theorem aM:∀{α β:Type}(P:Program)(w:World)(x:Sem α)(f:α->Sem β),Sem.run P (x >>= f) w=(Sem.run P x w).andThen λa w'=>Sem.run P (f a) w':= @Sem.run_bind
theorem aV:∀{α:Type}(P:Program)(w:World)(a:α),Sem.run P (pure a) w=Result.ok a w:= @Sem.run_pure
theorem cI:∀(n:Nat),n<=n:= @Nat.le_refl
theorem fc:∀(n:Nat),0+n=n:= @Nat.zero_add
theorem jT:∀{α:Type _}(a0:List α),a0++[]=a0:= @List.append_nil
theorem fu:∀{α:Type _}{β:Type _}{f:α->β}{a:α}{l:List α},List.map f (a::l)=f a::List.map f l:= @List.map_cons
theorem nD:(!true)=false:= @Bool.not_true
theorem nE:(!false)=true:= @Bool.not_false
theorem jk:∀{α:Type _}{p:α->Bool}{l:List α},l.any p=true↔∃x,x∈l/\p x=true:= @List.any_eq_true
theorem gL:∀{α:Type _}{p:α->Bool}{l:List α},l.all p=true↔∀(x:α),x∈l->p x=true:= @List.all_eq_true
theorem gM:∀{p:Prop}[Decidable p],(decide p=true)=p:= @decide_eq_true_eq
theorem dT{p:Prop}[Decidable p]:p->decide p=true:=decide_eq_true
theorem bX{p:Prop}[Decidable p]:¬p->decide p=false:=decide_eq_false
theorem g3{α:Type _}{a:α}{l:List α}:a∈l->∃i:Nat,l[i]? =some a:=List.getElem?_of_mem
theorem aO{c:Prop}{h:Decidable c}(hc:c){α:Sort _}{t e:α}:(if c then t else e)=t:=if_pos hc
theorem aR{c:Prop}{h:Decidable c}(hc:¬c){α:Sort _}{t e:α}:(if c then t else e)=e:=if_neg hc
abbrev cE:=Nat->Option Obj
def j4:cE:=λ_=>none
def one(g:Nat)(o:Obj):cE:=λb=>if b=g then some o else none
def mY(M h:cE):cE:=λb=>match M b with|some o=>some o|none=>h b
def hle(M M':cE):Prop:=∀b o,M b=some o->M' b=some o
theorem uH(M:cE):hle M M:=λ_ _ h=>h
theorem tL{A B C:cE}(h:hle A B)(k:hle B C):hle A C:=λb o e=>k b o<|h b o e
theorem oT(M h:cE):hle M (mY M h):=λb o e=>by simp[mY,e]
theorem eC{g b:Nat}{o o':Obj}(h:one g o b=some o'):b=g/\o=o':=by
 grind [one]
theorem bJ(g:Nat)(o:Obj):one g o g=some o:=by simp[one]
structure HP where
 ok:cE->cE->Prop
 mono:∀{M M' h:cE},hle M M'->ok M h->ok M' h
def aW:HP:=⟨λ_ _=>True,λ_ h=>h⟩
structure Good (E w:World) (M:cE) (hs:Nat->cE) (V:List HP):Prop where
 os:w.os=E.os
 tape:w.tape=E.tape
 out:w.output=E.output
 dr:E.drawn<=w.drawn
 im:∀b o,M b=some o->w.heap[b]? =some o
 sat:∀i(P:HP),V[i]? =some P->P.ok M (hs i)
 le:∀i b o,i<V.length->hs i b=some o->w.heap[b]? =some o
 dm:∀i b o,i<V.length->hs i b=some o->M b=none
 dj:∀i j b o,i<V.length->j<V.length->i≠j->hs i b=some o->hs j b=none
def Holds(E w:World)(V:List HP):Prop:=∃M hs,Good E w M hs V
theorem bY{V:List HP}{i:Nat}{P:HP}(h:V[i]? =some P):i<V.length:=(bS.1 h).1
section
variable {E w w':World}{M:cE}{hs:Nat->cE}{V Γ':List HP}{P P':HP}{i:Nat}
def ry(h:cE)(hs:Nat->cE):Nat->cE
 | 0=>h
 |i+1=>hs i
def ja(hs:Nat->cE)(i:Nat)(h:cE):Nat->cE:=λj=>if j=i then h else hs j
theorem Good.cons(g:Good E w M hs V)(h:cE)(hp:P.ok M h)(hle':∀b o,h b=some o->w.heap[b]? =some o)
  (hdm:∀b o,h b=some o->M b=none) (hdj:∀j b o,j<V.length->h b=some o->hs j b=none):
  Good E w M (ry h hs) (P::V)where
 os:=g.os
 tape:=g.tape
 out:=g.out
 dr:=g.dr
 im:=g.im
 sat:=λi Q hq=>by
  cases i with
  |zero=>simp at hq;subst hq;exact hp
  |succ i=>exact g.sat i Q (by grind)
 le:=λi b o hi hb=>by
  cases i with
  |zero=>exact hle' b o hb
  |succ i=>exact g.le i b o (by grind) hb
 dm:=λi b o hi hb=>by
  cases i with
  |zero=>exact hdm b o hb
  |succ i=>exact g.dm i b o (by grind) hb
 dj:=λi j b o hi hj hne hb=>by
  cases i with
  |zero=>
   cases j with
   |zero=>exact absurd rfl hne
   |succ j=>exact hdj j b o (by grind) hb
  |succ i=>
   cases j with
   |zero=>
    simp only[ry]at hb ⊢
    cases e:h b with
    |none=>rfl
    |some o'=>have:=hdj i b o' (by grind) e;rw[this]at hb;cases hb
   |succ j=>exact g.dj i j b o (by grind) (by grind) (by omega) hb
theorem Good.el(g:Good E w M hs V)(hp:P.ok M j4):Good E w M (ry j4 hs) (P::V):=
 g.cons j4 hp (λ_ _ h=>by cases h) (λ_ _ h=>by cases h) (λ_ _ _ _ h=>by cases h)
theorem Good.world(g:Good E w M hs V)(h1:w'.os=w.os)(h2:w'.tape=w.tape)(h3:w'.output=w.output)
  (hk:∀b,b<w.heap.size->w'.heap[b]? =w.heap[b]?) (h0:w.drawn<=w'.drawn:=by first|exact cI _|exact Nat.le_succ _):Good E w' M hs V:=by
 have key:∀b o,w.heap[b]? =some o->w'.heap[b]? =some o:=λb o h=>by
  rw[hk b<|(Array.getElem?_eq_some_iff.1 h).1];exact h
 exact⟨h1.trans g.os,h2.trans g.tape,h3.trans g.out,Nat.le_trans g.dr h0,λb o h=>key b o (g.im b o h),g.sat,
  λi b o hi h=>key b o (g.le i b o hi h),g.dm,g.dj⟩
theorem Good.update(g:Good E w M hs V)(hi:i<V.length)(h':cE)(hp:P'.ok M h')
  (h1:w'.os=w.os) (h2:w'.tape=w.tape) (h3:w'.output=w.output)
  (hle':∀b o,h' b=some o->w'.heap[b]? =some o)
  (hdom:∀b o,h' b=some o->(∃o',hs i b=some o')\/w.heap.size<=b)
  (hk:∀b,hs i b=none->b<w.heap.size->w'.heap[b]? =w.heap[b]?) (h0:w.drawn<=w'.drawn:=by first|exact cI _|exact Nat.le_succ _):
  Good E w' M (ja hs i h') (V.set i P'):=by
 have lt:∀b o,w.heap[b]? =some o->b<w.heap.size:=λb o h=>(Array.getElem?_eq_some_iff.1 h).1;refine⟨h1.trans g.os,h2.trans g.tape,h3.trans g.out,Nat.le_trans g.dr h0,λb o h=>?_,λj Q hq=>?_,λj b o hj hb=>?_,λj b o hj hb=>?_,λj k b o hj hk' hne hb=>?_⟩
 ·have hw:=g.im b o h;rw[hk b ?_<|lt b o hw];exact hw
  cases e:hs i b with
  |none=>rfl
  |some o'=>have:=g.dm i b o' hi e;grind
 ·rw[List.getElem?_set]at hq;unfold ja
  by_cases e:i=j
  ·grind
  ·rw[aR e]at hq;rw[aR<|λh=>e h.symm];exact g.sat j Q hq
 ·rw[fo]at hj;unfold ja at hb;split at hb
  ·grind
  ·rename_i e;have hw:=g.le j b o hj hb;rw[hk b (g.dj j i b o hj hi e hb)<|lt b o hw];exact hw
 ·rw[fo]at hj;unfold ja at hb;split at hb
  ·rcases hdom b o hb with⟨o',h'⟩|h'
   ·exact g.dm i b o' hi h'
   ·cases e:M b with
    |none=>rfl
    |some o'=>exact absurd (lt b o' (g.im b o' e)) (by omega)
  ·exact g.dm j b o hj hb
 ·rw[fo]at hj hk';unfold ja at hb ⊢;split at hb
  ·rename_i e;rw[aR<|λh=>hne<|e.trans h.symm]
   rcases hdom b o hb with⟨o',h'⟩|h'
   ·exact g.dj i k b o' hi hk' (λh=>hne<|e.trans h) h'
   ·cases e':hs k b with
    |none=>rfl
    |some o'=>exact absurd (lt b o' (g.le k b o' hk' e')) (by omega)
  ·rename_i e;split
   ·cases e':h' b with
    |none=>rfl
    |some o'=>
     rcases hdom b o' e' with⟨o'',h''⟩|h''
     ·have:=g.dj i j b o'' hi hj (λh=>e h.symm) h'';grind
     ·exact absurd (lt b o<|g.le j b o hj hb) (by omega)
   ·exact g.dj j k b o hj hk' hne hb
theorem Good.freeze(g:Good E w M hs V)(hi:i<V.length)(hp:P'.ok (mY M<|hs i) j4):
  Good E w (mY M<|hs i) (ja hs i j4) (V.set i P'):=by
 refine⟨g.os,g.tape,g.out,g.dr,λb o h=>?_,λj Q hq=>?_,λj b o hj hb=>?_,λj b o hj hb=>?_,λj k b o hj hk' hne hb=>?_⟩
 ·unfold mY at h
  cases e:M b with
  |none=>rw[e]at h;exact g.le i b o hi h
  |some o'=>rw[e]at h;simp at h;subst h;exact g.im b _ e
 ·rw[List.getElem?_set]at hq;unfold ja
  by_cases e:i=j
  ·grind
  ·rw[aR e]at hq;rw[aR<|λh=>e h.symm];exact Q.mono (oT _ _)<|g.sat j Q hq
 ·rw[fo]at hj;unfold ja at hb;split at hb
  ·cases hb
  ·exact g.le j b o hj hb
 ·rw[fo]at hj;unfold ja at hb;split at hb
  ·cases hb
  ·rename_i e;simp only[mY,g.dm j b o hj hb];exact g.dj j i b o hj hi e hb
 ·rw[fo]at hj hk';unfold ja at hb ⊢;split at hb
  ·cases hb
  ·split
   ·rfl
   ·exact g.dj j k b o hj hk' hne hb
theorem Good.pick(g:Good E w M hs V)(f:Nat->Nat)(hlt:∀i,i<Γ'.length->f i<V.length)(hget:∀i,i<Γ'.length->Γ'[i]? =V[f i]?)
  (hinj:∀i j,i<Γ'.length->j<Γ'.length->i≠j->f i≠f j):Good E w M (λi=>hs<|f i) Γ':=
 ⟨g.os,g.tape,g.out,g.dr,g.im,λi Q hq=>g.sat (f i) Q (by grind),
  λi b o hi hb=>g.le (f i) b o (hlt i hi) hb,λi b o hi hb=>g.dm (f i) b o (hlt i hi) hb,
  λi j b o hi hj hne hb=>g.dj (f i) (f j) b o (hlt i hi) (hlt j hj) (hinj i j hi hj hne) hb⟩
theorem Holds.drop(k:Nat)(h:Holds E w V)(hd:V.drop k=Γ':=by exact rfl):Holds E w Γ':=by
 obtain⟨M,hs,g⟩:=h;subst hd;exact⟨M,_,g.pick (λi=>k+i) (λi hi=>by grind) (λi _=>by rw[iL]) (λi j _ _ h=>by omega)⟩
theorem Holds.pick(h:Holds E w V)(m:Nat)(idx:List Nat){Γ0 new:List HP}(hd:V.drop m=Γ0)(hg:idx.map (λi=>V[i]?)=new.map some)
  (hn:idx.Nodup) (hm:∀i∈idx,i<m):Holds E w (new++Γ0):=by
 obtain⟨M,hs,g⟩:=h;have hlen:idx.length=new.length:=by have:=congrArg List.length hg;grind
 have hat:∀i,i<idx.length->V[idx.getD i 0]? =new[i]? :=λi hi=>by
  have:=congrArg (·[i]?) hg
  grind
 have hm':∀i,i<idx.length->idx.getD i 0<m:=λi hi=>by
  simp_all
 subst hd;have hget:∀i,i<(new++V.drop m).length->(new++V.drop m)[i]? =V[if i<idx.length then idx.getD i 0 else m+(i - idx.length)]? :=by
  grind
 refine⟨M,_,g.pick (λi=>if i<idx.length then idx.getD i 0 else m+(i - idx.length)) (λi hi=>?_) hget<|λi j hi hj hne=>?_⟩
 ·grind
 ·show(if i<idx.length then idx.getD i 0 else m+(i - idx.length))≠(if j<idx.length then idx.getD j 0 else m+(j - idx.length))
  grind [aZ,List.getElem_inj]
theorem Holds.back(h:Holds E w (P::V))(hi:i<V.length):Holds E w (V.set i P):=by
 obtain⟨M,hs,g⟩:=h;have hlen:(V.set i P).length=V.length:=fo;refine⟨M,_,g.pick (λj=>if j=i then 0 else j+1) (λj hj=>?_) (λj hj=>?_)<|λj k hj hk hne=>?_⟩
 all_goals grind
theorem Holds.pull(i:Nat)(h:Holds E w V)(hi:V[i]? =some P:=by exact rfl):Holds E w (P::V.set i aW):=by
 obtain⟨M,hs,g⟩:=h;have hlt:=bY hi;have g2:=g.update (P':=aW) hlt j4 trivial rfl rfl rfl (λb o hb=>by cases hb) (λb o hb=>by cases hb)<|λ_ _ _=>rfl
 refine⟨M,_,g2.cons (hs i) (g.sat i P hi) (λb o hb=>g.le i b o hlt hb) (λb o hb=>g.dm i b o hlt hb)<|λj b o hj hb=>?_⟩;rw[fo]at hj;unfold ja;split
 ·rfl
 ·rename_i e;exact g.dj i j b o hlt hj (λh=>e h.symm) hb
theorem Holds.world(h:Holds E w V)(h1:w'.os=w.os)(h2:w'.tape=w.tape)(h3:w'.output=w.output)
  (hk:∀b,b<w.heap.size->w'.heap[b]? =w.heap[b]?) (h0:w.drawn<=w'.drawn:=by first|exact cI _|exact Nat.le_succ _):Holds E w' V:=
 let⟨M,hs,g⟩:=h
 ⟨M,hs,g.world h1 h2 h3 hk h0⟩
theorem Holds.drew(h:Holds E w V):Holds E w.drew V:=h.world rfl rfl rfl<|λ_ _=>rfl
theorem j5(w:World)(o:Obj)(b:Nat)(h:b<w.heap.size):(w.alloc o).heap[b]? =w.heap[b]? :=by
 show(w.heap.push o)[b]? =w.heap[b]?
 grind
theorem Holds.alloc(h:Holds E w V)(o:Obj)(hp:∀M hs,Good E w M hs V->P.ok M (one w.heap.size o)):Holds E (w.alloc o) (P::V):=by
 obtain⟨M,hs,g⟩:=h;have lt:∀b o,w.heap[b]? =some o->b<w.heap.size:=λb o h=>(Array.getElem?_eq_some_iff.1 h).1;refine⟨M,_,(g.world (w':=w.alloc o) rfl rfl rfl<|λb hb=>j5 w o b hb).cons (one w.heap.size o) (hp M hs g) (λb o' hb=>?_) (λb o' hb=>?_)<|λj b o' hj hb=>?_⟩
 ·grind [eC,heap_alloc_new]
 ·obtain⟨rfl,rfl⟩:=eC hb
  cases e:M w.heap.size with
  |none=>rfl
  |some o'=>exact absurd (lt _ o' (g.im _ o' e)) (by omega)
 ·obtain⟨rfl,rfl⟩:=eC hb
  cases e:hs j w.heap.size with
  |none=>rfl
  |some o'=>exact absurd (lt _ o' (g.le j _ o' hj e)) (by omega)
theorem Holds.rA(h:Holds E w V)(hp:∀M hs,Good E w M hs V->P.ok M j4):Holds E w (P::V):=
 let⟨M,hs,g⟩:=h
 ⟨M,_,g.el<|hp M hs g⟩
end
structure aQ where
 bF:List UInt8
 deriving DecidableEq,Inhabited
class GT (α:Type)where
 sz:Nat
 agg:Bool
 ok:cE->List Value->α->Prop
 pos:0<sz
 ag1:agg=false->sz=1
 len:∀{M:cE}{cs:List Value}{x:α},ok M cs x->cs.length=sz
 one:∀{M:cE}{cs:List Value}{x:α},ok M cs x->∀u∈cs,u.oneCell'=true
 mono:∀{M M':cE}{cs:List Value}{x:α},hle M M'->ok M cs x->ok M' cs x
class Sc (α:Type)where
 toV:α->Value
 one:∀x,(toV x).oneCell'=true
instance instGTSc {α:Type} [Sc α]:GT α where
 sz:=1
 agg:=false
 ok:=λ_ cs x=>cs= [Sc.toV x]
 pos:=by decide
 ag1:=λ_=>rfl
 len:=λh=>by rw[h];rfl
 one:=λh u hu=>by rw[h]at hu;simp at hu;subst hu;exact Sc.one _
 mono:=λ_ h=>h
@[reducible] def str(s:aQ):Value:= .string ⟨s.bF.toArray⟩
instance:Sc Int:=⟨λn=> .int .i64 n,λ_=>rfl⟩
instance:Sc Bool:=⟨λb=> .bool b,λ_=>rfl⟩
instance:Sc aQ:=⟨str,λ_=>rfl⟩
instance:Sc UInt8:=⟨λb=> .int .u8 b.toNat,λ_=>rfl⟩
def nF(M:cE)(a:Addr):Option Value:=
 match M a.block with
 |some (.cells c _ _)=>if a.spot.isSome then none else c[a.off]?
 |_=>none
def At(M:cE)(a:Addr)(cs:List Value):Prop:=∀j u,cs[j]? =some u->nF M (a.add j)=some u
theorem l3{M:cE}{w:World}(h:∀b o,M b=some o->w.heap[b]? =some o){a:Addr}{v:Value}(hc:nF M a=some v):w.cell? a=some v:=by
 grind [nF,World.cell?]
theorem sQ{M M':cE}(h:hle M M'){a:Addr}{v:Value}(hc:nF M a=some v):nF M' a=some v:=by
 unfold nF at hc ⊢;split at hc
 ·rename_i c _ _ e;rw[h _ _ e];exact hc
 ·cases hc
theorem At.mono{M M':cE}(h:hle M M'){a:Addr}{cs:List Value}(hc:At M a cs):At M' a cs:=λj u hu=>sQ h<|hc j u hu
theorem add_add(a:Addr)(i j:Nat):(a.add i).add j=a.add (i+j):=by
 grind [Addr.add,Nat.add_assoc]
theorem At.sub{M:cE}{a:Addr}{cs:List Value}(h:At M a cs)(k n:Nat):At M (a.add k) ((cs.drop k).take n):=by
 intro j u hu;rw[add_add];refine h (k+j) u ?_
 grind
section
variable {α β:Type}[GT α][GT β]{M M':cE}{v:Value}{cs:List Value}
variable {x:α}{l:List α}
def oY(α:Type)[GT α](cs:List Value):Value:=if GT.agg α then .agg cs.toArray else cs.headD undef
def m8(M:cE)(v:Value)(x:α):Prop:=∃cs,v=oY α cs/\GT.ok M cs x
theorem m8.mono(h:hle M M')(hr:m8 M v x):m8 M' v x:=let⟨cs,e,ho⟩:=hr;⟨cs,e,GT.mono h ho⟩
theorem tM(ho:GT.ok M cs x):(oY α cs).cells.toList=cs:=by
 unfold oY;have hl:=GT.len ho
 cases e:GT.agg α with
 |true=>simp[Value.cells]
 |false=>
  rw[GT.ag1 e]at hl
  match cs,hl,GT.one ho with
  | [c],_,h1=>
   have:=h1 c (by simp)
   cases c <;> simp[Value.cells,Value.oneCell']at this ⊢
theorem m8.cells(hr:m8 M v x):GT.ok M v.cells.toList x:=by
 obtain⟨cs,rfl,ho⟩:=hr
 grind [tM]
theorem sR{γ:Type}[Sc γ]{y:γ}:m8 M v y↔v=Sc.toV y:=by
 constructor
 ·rintro⟨cs,rfl,ho⟩;have:cs= [Sc.toV y]:=ho;subst this;rfl
 ·rintro rfl;exact⟨[Sc.toV y],rfl,rfl⟩
def ib(M:cE)(v:Value)(l:List α):Prop:=
 ∃a n cap,v = .slice a n cap/\n=l.length/\n<=cap/\cap<=maxLen/\
  ∀i x,l[i]? =some x->∃ad cs,a=some ad/\GT.ok M cs x/\At M (ad.add<|i*GT.sz α) cs
theorem ib.mono(h:hle M M')(hs:ib M v l):ib M' v l:=by
 obtain⟨a,n,cap,hv,hn,hc,hm,hi⟩:=hs;exact⟨a,n,cap,hv,hn,hc,hm,λi x hx=>let⟨ad,cs,e,ho,ha⟩:=hi i x hx;⟨ad,cs,e,GT.mono h ho,ha.mono h⟩⟩
instance instGTList:GT (List α)where
 sz:=1
 agg:=false
 ok:=λM cs l=>∃v,cs= [v]/\ib M v l
 pos:=by decide
 ag1:=λ_=>rfl
 len:=λ⟨v,h,_⟩=>by rw[h];rfl
 one:=λ⟨v,h,⟨a,n,cap,hv,_⟩⟩u hu=>by rw[h]at hu;simp at hu;subst hu;rw[hv];rfl
 mono:=λh⟨v,e,hs⟩=>⟨v,e,hs.mono h⟩
theorem iS:m8 M v l↔ib M v l:=by
 constructor
 ·rintro⟨cs,rfl,v,rfl,hs⟩;exact hs
 ·intro h;exact⟨[v],rfl,v,rfl,h⟩
instance instGTProd:GT (α×β)where
 sz:=GT.sz α+GT.sz β
 agg:=true
 ok:=λM cs x=>∃c d,cs=c++d/\GT.ok M c x.1/\GT.ok M d x.2
 pos:=by have:=GT.pos (α:=α);omega
 ag1:=λh=>by cases h
 len:=λ⟨c,d,e,h1,h2⟩=>by rw[e,g6,GT.len h1,GT.len h2]
 one:=λ⟨c,d,e,h1,h2⟩u hu=>by
  rw[e,List.mem_append]at hu
  rcases hu with hu|hu
  ·exact GT.one h1 u hu
  ·exact GT.one h2 u hu
 mono:=λh⟨c,d,e,h1,h2⟩=>⟨c,d,e,GT.mono h h1,GT.mono h h2⟩
@[reducible] def GT.via{γ:Type}(f:γ->α):GT γ where
 sz:=GT.sz α
 agg:=true
 ok:=λM cs x=>GT.ok M cs<|f x
 pos:=GT.pos
 ag1:=λh=>by cases h
 len:=λh=>GT.len h
 one:=λh=>GT.one h
 mono:=λh k=>GT.mono h k
def Fd(k:Nat)(f:α->β):Prop:=∀(M:cE)(cs:List Value)(x:α),GT.ok M cs x->GT.ok M ((cs.drop k).take<|GT.sz β) (f x)
theorem Fd.self:Fd 0 (λx:α=>x):=λM cs x h=>by
 rw[List.drop_zero,mG (by grind [GT.len])];exact h
theorem Fd.fst{γ:Type}[GT γ]{k:Nat}{f:α->γ}(h:Fd k f)(hk:k+GT.sz γ<=GT.sz α:=by decide):Fd k (λx:α×β=>f x.1):=by
 rintro M cs x⟨c,d,rfl,h1,h2⟩;have hl:=GT.len h1;rw[List.drop_append_of_le_length (by omega),List.take_append_of_le_length (by grind)];exact h M c x.1 h1
theorem Fd.snd{γ:Type}[GT γ]{k k':Nat}{f:β->γ}(h:Fd k f)(hk:k'=GT.sz α+k:=by exact rfl):Fd k' (λx:α×β=>f x.2):=by
 rintro M cs x⟨c,d,rfl,h1,h2⟩;subst hk;rw[<-GT.len h1,List.drop_length_add_append];exact h M d x.2 h2
def Fs(k:Nat)(β:Type)[GT β](f:α->β->α):Prop:=
 ∀(M:cE)(cs ds:List Value)(x:α)(y:β),GT.ok M cs x->GT.ok M ds y->GT.ok M (cs.take k++ds++cs.drop (k+GT.sz β)) (f x y)
theorem Fs.self:Fs 0 α (λ_ y:α=>y):=λM cs ds x y h1 h2=>by
 rw[List.take_zero,List.nil_append,List.drop_eq_nil_of_le (by grind [GT.len]),jT];exact h2
theorem Fs.fst{γ:Type}[GT γ]{k:Nat}{f:α->γ->α}(h:Fs k γ f)(hk:k+GT.sz γ<=GT.sz α:=by decide):Fs k γ (λ(x:α×β)y=>(f x.1 y,x.2)):=by
 rintro M cs ds x y⟨c,d,rfl,h1,h2⟩hy;have hl:=GT.len h1;refine⟨c.take k++ds++c.drop (k+GT.sz γ),d,?_,h M c ds x.1 y h1 hy,h2⟩
 grind
theorem Fs.snd{γ:Type}[GT γ]{k k':Nat}{f:β->γ->β}(h:Fs k γ f)(hk:k'=GT.sz α+k:=by exact rfl):Fs k' γ (λ(x:α×β)y=>(x.1,f x.2 y)):=by
 rintro M cs ds x y⟨c,d,rfl,h1,h2⟩hy;subst hk;refine⟨c,d.take k++ds++d.drop (k+GT.sz γ),?_,h1,h M d ds x.2 y h2 hy⟩;rw[<-GT.len h1,List.take_length_add_append,Nat.add_assoc,List.drop_length_add_append];simp
end
section
variable {α β:Type}[GT α][GT β]
def rd(v:Value)(x:α):HP:=⟨λM h=>m8 M v x/\h=j4,λk⟨a,b⟩=>⟨a.mono k,b⟩⟩
def zo(M:cE)(v:Value)(x:α):Prop:=∃ad cs,v = .pointer (some ad)/\GT.ok M cs x/\At M ad cs
def pt(v:Value)(x:α):HP:=⟨λM h=>zo M v x/\h=j4,λk⟨⟨ad,cs,e,ho,ha⟩,b⟩=>⟨⟨ad,cs,e,GT.mono k ho,ha.mono k⟩,b⟩⟩
def bx(e:TypeId)(g:Nat)(x:α):HP:=⟨λM h=>∃cs,GT.ok M cs x/\h=Gk.one g (.cells cs.toArray e (0,0)),λk⟨cs,ho,hh⟩=>⟨cs,GT.mono k ho,hh⟩⟩
def Cells(M:cE)(xs:List Value)(l:List α):Prop:=
 xs.length=l.length*GT.sz α/\∀i x,l[i]? =some x->GT.ok M ((xs.drop<|i*GT.sz α).take<|GT.sz α) x
theorem Cells.mono{M M':cE}(h:hle M M'){xs:List Value}{l:List α}(hc:Cells M xs l):Cells M' xs l:=⟨hc.1,λi x hx=>GT.mono h<|hc.2 i x hx⟩
def p6(e:TypeId)(M h:cE)(v:Value)(l:List α):Prop:=
 (v = .slice none 0 0/\l= []/\h=j4)\/
 ∃g o cap cur xs,v = .slice (some ⟨g,o,none⟩) l.length cap/\l.length<=cap/\cap<=maxLen/\h=Gk.one g (.cells cur e (0,0))/\
  o+cap*GT.sz α<=cur.size/\(cur.toList.drop o).take (l.length*GT.sz α)=xs/\Cells M xs l
def own(e:TypeId)(v:Value)(l:List α):HP:=⟨λM h=>p6 e M h v l,λ{M M' h}k hh=>by
 rcases hh with hh|⟨g,o,cap,cur,xs,h1,h2,h3,h4,h5,h6,h7⟩
 ·exact .inl hh
 ·exact .inr ⟨g,o,cap,cur,xs,h1,h2,h3,h4,h5,h6,h7.mono k⟩⟩
end
def cM(U:Nat->Value)(d:Nat)(v:Value):Nat->Value:=λt=>bif Nat.beq t d then v else U t
def ev(U:Nat->Value):Operand->Value
 | .tmp t=>U t
 | .const v=>v
 | .global g=> .pointer (some ⟨g,0,none⟩)
 | .func f=> .func (.func f) #[] #[]
structure Sl (n:Nat) (U:Nat->Value) (a:Act):Prop where
 defers:a.defers= []
 size:a.tmps.size=n
 get:∀t,a.tmps.getD t undef=U t
theorem Sl.ev{n:Nat}{U:Nat->Value}{a:Act}(h:Sl n U a):a.eval=ev U:=by
 funext x
 cases x with
 |tmp t=>exact h.get t
 |const v=>rfl
 |global g=>rfl
 |func f=>rfl
theorem Sl.put{n:Nat}{U:Nat->Value}{a:Act}(h:Sl n U a){d:Nat}(hd:Nat.blt d n=true)(v:Value):Sl n (cM U d v) (a.put (some d) v)where
 defers:=h.defers
 size:=by simp[Act.put,h.size]
 get:=λt=>by
  have hd':d<a.tmps.size:=by rw[h.size];exact Nat.blt_eq▸hd
  unfold cM
  by_cases e:t=d
  ·subst e;simp[Act.put,hd']
  ·have hb:Nat.beq t d=false:=by
    cases hx:Nat.beq t d with
    |false=>rfl
    |true=>exact absurd (cV hx) e
   rw[hb];simp only[bG,<-h.get t,Act.put,Array.getD_eq_getD_getElem?];rw[Array.getElem?_setIfInBounds_ne<|λh=>e h.symm]
theorem Sl.rB{n:Nat}{U:Nat->Value}{a:Act}(h:Sl n U a)(v:Value):Sl n U (a.put none v):=h
abbrev dC:=Exit->(Nat->Value)->World->Prop
def Lf(n:Nat)(Q:dC):Exit->Act->World->Prop:=λex a w=>∃U,Sl n U a/\Q ex U w
def RL(P:Program)(n:Nat)(ops:Array Oper)(rest:List Oper)(U:Nat->Value)(w:World)(Q:dC):Prop:=
 ∀a,Sl n U a->wpList P ops (Lf n Q) rest a w
def RC(P:Program)(n:Nat)(c:Code)(U:Nat->Value)(w:World)(Q:dC):Prop:=∀a,Sl n U a->c.wp P (Lf n Q) a w
def hG(P:Program)(n:Nat)(y:Code)(Q:dC):dC
 | .normal,U,w=>RC P n y U w Q
 |e,U,w=>Q e U w
def oc(id:Nat)(Q:dC):dC
 | .exit i,U,w=>if i=id then Q .normal U w else Q (.exit i) U w
 |e,U,w=>Q e U w
section
variable {P:Program}{n:Nat}{U:Nat->Value}{w:World}{Q Q':dC}{x y c:Code}{id:Nat}
theorem RC.mono(h:RC P n c U w Q)(hq:∀e U w,Q e U w->Q' e U w):RC P n c U w Q':=
 λa ha=>wp_mono (h a ha) λe _ w⟨U,hs,q⟩=>⟨U,hs,hq e U w q⟩
theorem o_(h:RC P n x U w (hG P n y Q)):RC P n (.seq x y) U w Q:=λa ha=>
 wp_seq (wp_mono (h a ha) λe a w⟨U,hs,q⟩=>by
  cases e with
  |normal=>exact q a hs
  |_=>exact⟨U,hs,q⟩)
theorem AG(h:RC P n x U w (oc id Q)):RC P n (.block id x) U w Q:=λa ha=>
 wp_block (wp_mono (h a ha) λe a w⟨U,hs,q⟩=>by
  cases e with
  |exit i=>
   simp only[oc]at q;simp only[Exit.inBlock];split at q
   ·rename_i e;subst e;simp;exact⟨U,hs,q⟩
   ·rename_i e;simp[e];exact⟨U,hs,q⟩
  |_=>exact⟨U,hs,q⟩)
theorem zS(h:Q .normal U w):RC P n .skip U w Q:=λ_ ha=>wp_skip ⟨U,ha,h⟩
theorem s_(h:Q .ret U w):RC P n .ret U w Q:=λ_ ha=>wp_ret ⟨U,ha,h⟩
theorem Bl{i:Nat}(h:Q (.exit i) U w):RC P n (.exit i) U w Q:=λ_ ha=>wp_exit ⟨U,ha,h⟩
theorem AP{q:Operand}{b:Bool}(hc:ev U q = .bool b)(ht:b=true->RC P n x U w Q)(hf:b=false->RC P n y U w Q):RC P n (.cond q x y) U w Q:=
 λa ha=>wp_cond_split (t:=b) (by rw[ha.ev];exact hc) (λh=>ht h a ha)<|λh=>hf h a ha
theorem u_{l:List Oper}(h:RL P n l.toArray l U w Q):RC P n (.region id l.toArray false) U w Q:=λa ha=>wp_region_lit<|h a ha
theorem i_{ops:Array Oper}(h:Q .normal U w):RL P n ops [] U w Q:=λ_ ha=>⟨U,ha,h⟩
theorem aD(h:RC P n y U w Q):hG P n y Q .normal U w:=h
theorem bI(h:Q .normal U w):oc id Q .normal U w:=h
theorem uI(h:Q .normal U w):oc id Q (.exit id) U w:=by grind [oc]
def g7(P:Program)(n:Nat)(fn:Func)(R:Value->World->Prop):dC
 | .normal,U,w| .ret,U,w=>∃v,(∀a,Sl n U a->(results fn a.tmps).run P w = .ok v w)/\R v w
 |_,_,_=>False
def fi(R:Value->World->Prop):Ending->World->Prop:=λe w=>∃v,e = .returned v/\R v w
def wO(l:List Value)(t:Nat):Value:=l.getD t undef
theorem enter{f:FuncId}{fn:Func}{args:List Value}{R:Value->World->Prop}(hf:P.funcs[f]? =some fn)(hb:fn.body=some c)(hn:fn.ntmps=n)(h:RC P n c (wO args) w (g7 P n fn R))(hk:args.length<=n:=by exact Nat.le_of_ble_eq_true rfl):Calls P f args.toArray w (fi R):=by
 refine calls_of_wp hf hb<|wp_mono (h _ ⟨rfl,?_,λt=>?_⟩) λe a w⟨U,hs,q⟩=>?_
 ·grind
 ·simp only[wO,Array.getD_eq_getD_getElem?,List.getD_eq_getElem?_getD]
  grind
 ·cases e with
  |normal=>obtain⟨v,hv,hR⟩:=q;exact⟨hs.defers,v,hv a hs,v,rfl,hR⟩
  |ret=>obtain⟨v,hv,hR⟩:=q;exact⟨hs.defers,v,hv a hs,v,rfl,hR⟩
  |_=>exact q.elim
theorem aX{fn:Func}{R:Value->World->Prop}{t:Nat}{v:Value}(h:R v w)(hr:fn.results = #[.tmp t]:=by exact rfl)(hv:U t=v:=by exact rfl):g7 P n fn R .ret U w:=
 ⟨v,λa ha=>by rw[results_tmp hr,ha.get,hv],h⟩
theorem tN{fn:Func}{R:Value->World->Prop}{t u:Nat}{v v':Value}(h:R (.tuple #[v,v']) w)(hr:fn.results = #[.tmp t, .tmp u]:=by exact rfl)(hv:U t=v:=by exact rfl)(hv':U u=v':=by exact rfl):g7 P n fn R .ret U w:=
 ⟨_,λa ha=>by rw[results_tmp2 hr,ha.get,ha.get,hv,hv'],h⟩
theorem wP{fn:Func}{R:Value->World->Prop}(h:g7 P n fn R .ret U w):g7 P n fn R .normal U w:=h
def Wn(ops:Array Oper)(U:Nat->Value):Option (Nat×Bool)->Prop
 |none=>True
 |some (j,b)=>∃t,(ops[j]?).bind (·.dst)=some t/\U t = .bool b
theorem Wn.wanted{ops:Array Oper}{o:Oper}{a:Act}(h:Wn ops U o.guard)(ha:Sl n U a):Region.wanted o (yielded ops a.tmps)=true:=by
 unfold Region.wanted
 cases e:o.guard with
 |none=>rfl
 |some jb=>
  obtain⟨j,b⟩:=jb;rw[e]at h;obtain⟨t,ht,hb⟩:=h;have hg:=ha.get t;rw[hb,Array.getD_eq_getD_getElem?]at hg;have:a.tmps[t]? =some (.bool b):=by
   cases hx:a.tmps[t]? with
   |none=>rw[hx]at hg;cases hg
   |some v=>grind
  grind [yielded]
variable {ops:Array Oper}{rest:List Oper}{d:Nat}{ty:TypeId}{pos:String}{af:Array Edge}{g:Option (Nat×Bool)}{w':World}{v:Value}{op:Op}
theorem zJ(hg:Wn ops U g)(hd:Nat.blt d n=true)(hrun:(execOp (ev U) ⟨some d,op,ty,pos,af,g⟩).run P w = .ok (.value v) w')
  (k:RL P n ops rest (cM U d v) w' Q):RL P n ops (⟨some d,op,ty,pos,af,g⟩::rest) U w Q:=by
 intro a ha;unfold wpList;rw[aO<|Wn.wanted (o:=⟨some d,op,ty,pos,af,g⟩) hg ha];refine .inl ?_;unfold Oper.wp;rw[ha.ev,hrun];exact k _<|ha.put hd v
theorem Ax(hg:Wn ops U g)(hrun:(execOp (ev U) ⟨none,op,ty,pos,af,g⟩).run P w = .ok .skip w')
  (k:RL P n ops rest U w' Q):RL P n ops (⟨none,op,ty,pos,af,g⟩::rest) U w Q:=by
 intro a ha;unfold wpList;rw[aO<|Wn.wanted (o:=⟨none,op,ty,pos,af,g⟩) hg ha];refine .inl ?_;unfold Oper.wp;rw[ha.ev,hrun];exact k _<|ha.rB _
theorem A4{j t:Nat}{b:Bool}(ht:(ops[j]?).bind (·.dst)=some t)(hv:U t = .bool (!b)\/U t=undef)(hd:Nat.blt d n=true)
  (k:RL P n ops rest (cM U d undef) w Q):RL P n ops (⟨some d,op,ty,pos,af,some (j,b)⟩::rest) U w Q:=by
 intro a ha;have hno:Region.wanted ⟨some d,op,ty,pos,af,some (j,b)⟩ (yielded ops a.tmps)=false:=by
  have hg:=ha.get t;rw[Array.getD_eq_getD_getElem?]at hg;simp only[Region.wanted,yielded,ht,Option.bind_some]
  cases hx:a.tmps[t]? with
  |none=>rfl
  |some u=>
   rw[hx]at hg;simp at hg;subst hg
   rcases hv with h|h <;> rw[h]
   ·simp
   ·rfl
 unfold wpList;rw[aR (by rw[hno];decide)];exact k _<|ha.put hd _
theorem A5{f:FuncId}{args:Array Value}(hg:Wn ops U g)(hd:Nat.blt d n=true)
  (hrun:(execOp (ev U) ⟨some d,op,ty,pos,af,g⟩).run P w = .ok (.enter f args) w)
  (k:Calls P f args w (fi λv w'=>RL P n ops rest (cM U d v) w' Q)):RL P n ops (⟨some d,op,ty,pos,af,g⟩::rest) U w Q:=by
 intro a ha;unfold wpList;rw[aO<|Wn.wanted (o:=⟨some d,op,ty,pos,af,g⟩) hg ha];refine .inl ?_;unfold Oper.wp;rw[ha.ev,hrun];refine Calls.mono k λe w'' he=>?_;obtain⟨v,rfl,h⟩:=he;exact h _<|ha.put hd v
theorem qG{f:FuncId}{fn:Func}{args:Array Value}(hf:P.funcs[f]? =some fn)(hnm:(fn.name== "runtime.NumGoroutine")=false)(hb:fn.body.isNone=false):
  (callFunc f args).run P w = .ok (.enter f args) w:=by
 unfold callFunc program;simp only[Bind.bind,Sem.bind,Sem.run,hf];rw[aR (by rw[hnm];decide),aR (by rw[hb];decide)];rfl
structure fK (P:Program) (f:FuncId):Prop where
 run:∀(args:Array Value)(w:World),(callFunc f args).run P w = .ok (.enter f args) w
theorem Bm{f:FuncId}{args:Array Operand}{ts:Array TypeId}(hg:Wn ops U g)(hd:Nat.blt d n=true)(hf:fK P f)(vs:List Value)
  (hvs:args.toList.map (ev U)=vs) (k:Calls P f vs.toArray w (fi λv w'=>RL P n ops rest (cM U d v) w' Q)):
  RL P n ops (⟨some d, .call ⟨.value<|.func f,args,ts⟩,ty,pos,af,g⟩::rest) U w Q:=by
 have e:args.map (ev U)=vs.toArray:=by grind
 refine A5 (f:=f) (args:=vs.toArray) hg hd ?_ k;simp only[execOp,resolve,aM];simp only[ev,Deferred.ofValue,e,aV,aS,invoke];simpa using hf.run vs.toArray w
theorem An{q:Operand}{f:FuncId}{args:Array Operand}{ts:Array TypeId}(cap:List Value)(hd:Nat.blt d n=true)(hf:fK P f)(hq:ev U q = .func (.func f) #[] cap.toArray)(vs:List Value)(hvs:args.toList.map (ev U)=vs)(k:Calls P f (vs++cap).toArray w (fi λv w'=>RL P n ops rest (cM U d v) w' Q))(hg:Wn ops U g:=by exact trivial):
  RL P n ops (⟨some d, .call ⟨.value q,args,ts⟩,ty,pos,af,g⟩::rest) U w Q:=by
 have e:args.map (ev U)=vs.toArray:=by grind
 refine A5 (f:=f) (args:=(vs++cap).toArray) hg hd ?_ k;simp only[execOp,resolve,aM];simp only[hq,Deferred.ofValue,e,aV,aS,invoke];simpa using hf.run (vs++cap).toArray w
theorem cG{f:FuncId}{args:Array Value}{R R':Value->World->Prop}(h:Calls P f args w (fi R))(k:∀v w',R v w'->R' v w'):Calls P f args w (fi R'):=
 Calls.mono h λ_ w'⟨v,e,hr⟩=>⟨v,e,k v w' hr⟩
end
structure kn (P:Program) (T:TypeId) (ag:Bool) (k:Nat):Prop where
 wQ:∀w,(isAgg T).run P w = .ok ag w
 sz:∀w,(sizeOf T).run P w = .ok k w
structure pY (P:Program) (T:TypeId) (i k:Nat):Prop where
 run:∀a w,(Instr.fieldAt T (.pointer<|some a) i).run P w = .ok (.pointer<|some<|a.add k) w
structure sO (P:Program) (T e:TypeId) (k:Nat):Prop where
 oZ:P.underlying T=some (.slice e)
 sz:∀w,(sizeOf e).run P w = .ok k w
def cv(c:Bool)(v:Value):Value:=bif c then v else undef
theorem m9{c:Bool}{v:Value}(h:c=true):cv c v=v:=by rw[h];rfl
theorem uJ{a b:Bool}(h:(a&&b)=true):a=true:=by grind
theorem nG(c:Bool){a b:Bool}(h:c=true:=by exact rfl):(if a=true then Value.bool true else cv (c&&(a==false)) (.bool b)) = .bool (a||b):=by
 subst h;cases a <;> rfl
theorem kW(c:Bool){a b:Bool}(h:c=true:=by exact rfl):(if a=true then cv (c&&(a==true)) (.bool b)else Value.bool false) = .bool (a&&b):=by
 subst h;cases a <;> rfl
@[reducible] def jl:BinOp->Int->Int->Bool
 | .eql,a,b=>a==b
 | .neq,a,b=>a != b
 | .lss,a,b=>decide (a<b)
 | .leq,a,b=>decide (a<=b)
 | .gtr,a,b=>decide (a>b)
 | .geq,a,b=>decide (a>=b)
 |_,_,_=>false
def nH:BinOp->Bool
 | .eql| .neq| .lss| .leq| .gtr| .geq=>true
 |_=>false
@[reducible] def lQ:BinOp->Int->Int->Int
 | .add,a,b=>a+b
 | .sub,a,b=>a - b
 | .mul,a,b=>a*b
 |_,_,_=>0
def xL:BinOp->Bool
 | .add| .sub| .mul=>true
 |_=>false
def aQ.fe(a b:aQ):Bool:=a.bF==b.bF
def aQ.iC(a b:aQ):Bool:=Op.bytesLess a.bF b.bF
@[reducible] def iT:BinOp->aQ->aQ->Bool
 | .eql,a,b=>a.fe b
 | .neq,a,b=> !a.fe b
 | .lss,a,b=>a.iC b
 | .leq,a,b=>a.iC b||a.fe b
 | .gtr,a,b=> !(a.iC b||a.fe b)
 | .geq,a,b=> !a.iC b
 |_,_,_=>false
section
variable {P:Program}{n:Nat}{U:Nat->Value}{w:World}{Q:dC}{E:World}{V:List HP}
variable {ops:Array Oper}{rest:List Oper}{d:Nat}{ty:TypeId}{pos:String}{af:Array Edge}{g:Option (Nat×Bool)}{v v' u:Value}{x y z:Operand}{T T':TypeId}
theorem w_(v:Value)(hg:Wn ops U g)(k:RL P n ops rest (cM U d v) w Q)(hd:Nat.blt d n=true:=by exact rfl)(hx:ev U x=v:=by exact rfl):
  RL P n ops (⟨some d, .move x,ty,pos,af,g⟩::rest) U w Q:=zJ hg hd (by rw[<-hx];rfl) k
theorem A6(hg:Wn ops U g)(hd:Nat.blt d n=true)(hx:ev U x=v)(k:RL P n ops rest (cM U d v) w Q):
  RL P n ops (⟨some d, .assign x,ty,pos,af,g⟩::rest) U w Q:=zJ hg hd (by rw[<-hx];rfl) k
theorem z8{i:Nat}{vs:Array Value}(v:Value)(k:RL P n ops rest (cM U d v) w Q)(hg:Wn ops U g:=by exact trivial)(hd:Nat.blt d n=true:=by exact rfl)(hx:ev U x = .tuple vs:=by exact rfl)(hi:vs[i]? =some v:=by exact rfl):
  RL P n ops (⟨some d, .extract x i,ty,pos,af,g⟩::rest) U w Q:=
 zJ hg hd (by grind [execOp,Instr.extract,aM,aV,aS]) k
theorem Aa{b:Bool}(hg:Wn ops U g)(hd:Nat.blt d n=true)(hx:ev U x = .bool b)(hv:(if b=true then ev U y else ev U z)=v)(k:RL P n ops rest (cM U d v) w Q):
  RL P n ops (⟨some d, .pick x y z,ty,pos,af,g⟩::rest) U w Q:=
 zJ hg hd (by grind [execOp,asBool,aM,aV,aS]) k
theorem z7(b:Bool)(k:RL P n ops rest (cM U d<|.bool<|!b) w Q)(hg:Wn ops U g:=by exact trivial)(hd:Nat.blt d n=true:=by exact rfl)(hx:ev U x = .bool b:=by exact rfl):
  RL P n ops (⟨some d, .unOp .not T x,ty,pos,af,g⟩::rest) U w Q:=
 zJ hg hd (by grind [execOp,Op.unary,aM,aV,aS]) k
theorem BM{a:Int}{K:IntKind}(hg:Wn ops U g)(hd:Nat.blt d n=true)(hx:ev U x = .int K a)(k:RL P n ops rest (cM U d<|.int K<|K.wrap<|0 - a) w Q):
  RL P n ops (⟨some d, .unOp .neg T x,ty,pos,af,g⟩::rest) U w Q:=
 zJ hg hd (by grind [execOp,Op.unary,Op.intArith,aM,aV,aS]) k
theorem rC{bop:BinOp}{K:IntKind}{a b:Int}(hc:nH bop=true)(w:World):(binOp bop T (.int K a)<|.int K b).run P w = .ok (.bool<|jl bop a b) w:=by
 cases bop <;> first|(cases hc;done)|(simp only[binOp,ne_eq,not_true,if_false,Op.intCmp,aV,jl])
theorem Ag{bop:BinOp}{K:IntKind}(a b:Int)(hg:Wn ops U g)(k:RL P n ops rest (cM U d<|.bool<|jl bop a b) w Q)(hd:Nat.blt d n=true:=by exact rfl)(hx:ev U x = .int K a:=by exact rfl)(hy:ev U y = .int K b:=by exact rfl)(hc:nH bop=true:=by exact rfl):RL P n ops (⟨some d, .binOp bop T x y T',ty,pos,af,g⟩::rest) U w Q:=by
 refine zJ hg hd ?_ k
 grind [eqGuard,execOp,aM,aS,rC,aV]
theorem zY{bop:BinOp}{K:IntKind}(a b:Int)(k:RL P n ops rest (cM U d<|.int K<|K.wrap<|lQ bop a b) w Q)(hg:Wn ops U g:=by exact trivial)(hd:Nat.blt d n=true:=by exact rfl)(hx:ev U x = .int K a:=by exact rfl)(hy:ev U y = .int K b:=by exact rfl)(hc:xL bop=true:=by exact rfl):RL P n ops (⟨some d, .binOp bop T x y T',ty,pos,af,g⟩::rest) U w Q:=by
 refine zJ hg hd ?_ k;have e:(eqGuard bop T x y (.int K a)<|.int K b).run P w = .ok () w:=by simp[eqGuard]
 have e2:(binOp bop T (.int K a)<|.int K b).run P w = .ok (.int K<|K.wrap<|Gk.lQ bop a b) w:=by
  cases bop <;> first|(cases hc;done)|(simp only[binOp,ne_eq,not_true,if_false,Op.intArith,aV,Gk.lQ])
 grind [execOp,aM,aS,aV]
theorem AH{bop:BinOp}(v v' u:Value)(hd:Nat.blt d n=true)(hx:ev U x=v)(hy:ev U y=v')(k:RL P n ops rest (cM U d u) w Q)(hg:Wn ops U g:=by exact trivial)(he:∀w,(eqGuard bop T x y v v').run P w = .ok () w:=by exact(λ_=>rfl))(hr:∀w,(binOp bop T v v').run P w = .ok u w:=by exact(λ_=>rfl)):RL P n ops (⟨some d, .binOp bop T x y T',ty,pos,af,g⟩::rest) U w Q:=by
 refine zJ hg hd ?_ k
 simp_all[execOp,aM,aS,aV]
theorem sS(s:aQ):(⟨s.bF.toArray⟩:ByteArray).toList=s.bF:=by rw[ByteArray.toList_eq]
theorem rD{bop:BinOp}{a b:aQ}(hc:nH bop=true)(w:World):(binOp bop T (str a)<|str b).run P w = .ok (.bool<|iT bop a b) w:=by
 cases bop <;> first|(cases hc;done)|(simp only[binOp,str,Op.stringOp,sS,aV,iT,aQ.fe,aQ.iC])
theorem z9{bop:BinOp}(a b:aQ)(hg:Wn ops U g)(k:RL P n ops rest (cM U d<|.bool<|iT bop a b) w Q)(hd:Nat.blt d n=true:=by exact rfl)(hx:ev U x=str a:=by exact rfl)(hy:ev U y=str b:=by exact rfl)(hc:nH bop=true:=by exact rfl):RL P n ops (⟨some d, .binOp bop T x y T',ty,pos,af,g⟩::rest) U w Q:=by
 refine zJ hg hd ?_ k
 grind [eqGuard,execOp,aM,aS,rD,aV]
theorem Ah{t:TypeId}(s:aQ)(ht:P.underlying t=some .string)(k:RL P n ops rest (cM U d<|.int .i64 (s.bF.length:Nat)) w Q)(hg:Wn ops U g:=by exact trivial)(hd:Nat.blt d n=true:=by exact rfl)(hx:ev U x=str s:=by exact rfl):RL P n ops (⟨some d, .call ⟨.builtin .len,#[x],#[t]⟩,ty,pos,af,g⟩::rest) U w Q:=by
 refine zJ hg hd ?_ k;have e:(⟨s.bF.toArray⟩:ByteArray).size=s.bF.length:=rfl;simp[execOp,resolve,hx,invoke,builtin,Builtin.len_,run_underlying ht,goInt,str,e]
theorem A7{t e:TypeId}{a:Option Addr}{m cap:Nat}(hg:Wn ops U g)(hd:Nat.blt d n=true)(hx:ev U x = .slice a m cap)(ht:P.underlying t=some (.slice e))
  (k:RL P n ops rest (cM U d<|.int .i64 (m:Nat)) w Q):RL P n ops (⟨some d, .call ⟨.builtin .len,#[x],#[t]⟩,ty,pos,af,g⟩::rest) U w Q:=by
 refine zJ hg hd ?_ k;simp[execOp,resolve,hx,invoke,builtin,Builtin.len_,run_underlying ht,goInt]
theorem AI(s:aQ)(i:Int)(c:UInt8){K:IntKind}(hd:Nat.blt d n=true)(hx:ev U x=str s)(hy:ev U y = .int K i)(ht:P.underlying T=some .string)(hc:(if 0<=i then s.bF[i.toNat]? else none)=some c)(k:RL P n ops rest (cM U d<|.int .u8 (c.toNat:Nat)) w Q)(hg:Wn ops U g:=by exact trivial):
  RL P n ops (⟨some d, .index T x y,ty,pos,af,g⟩::rest) U w Q:=by
 refine zJ hg hd ?_ k;have e:(if 0<=i then(⟨s.bF.toArray⟩:ByteArray)[i.toNat]? else none)=some c:=by
  rw[<-hc];split
  ·have:(⟨s.bF.toArray⟩:ByteArray)[i.toNat]? =s.bF.toArray[i.toNat]? :=rfl
   grind
  ·rfl
 simp_all[execOp,Instr.index,asIntOf,run_underlying,str,aM,aV,aS]
theorem Ab{j t:Nat}(c:Bool){want:Bool}(b:Bool){op:Op}(v:Value)(ht:(ops[j]?).bind (·.dst)=some t)(hv:U t=cv c (.bool b))(hd:Nat.blt d n=true)(hrun:(c&&(b==want))=true->(execOp (ev U) ⟨some d,op,ty,pos,af,some (j,want)⟩).run P w = .ok (.value v) w)(k:RL P n ops rest (cM U d<|cv (c&&(b==want)) v) w Q):RL P n ops (⟨some d,op,ty,pos,af,some (j,want)⟩::rest) U w Q:=by
 cases hC:(c&&(b==want))with
 |true=>
  rw[hC]at k;have hb:b=want:=by grind
  exact zJ (v:=v) ⟨t,ht,by grind [m9]⟩ hd (hrun hC) k
 |false=>
  rw[hC]at k;refine A4 ht ?_ hd k;rw[hv]
  cases c with
  |false=>exact .inr rfl
  |true=>left;cases b <;> cases want <;> first|rfl|(cases hC)
theorem vz{C:Bool}{o:Oper}(ho:o.op = .move x)(hx:C=true->ev U x=v):C=true->(execOp (ev U) o).run P w = .ok (.value v) w:=
 by simp_all[execOp]
theorem vA{C:Bool}{o:Oper}{bop:BinOp}{K:IntKind}{a b:Int}(ho:o.op = .binOp bop T x y T')(hx:C=true->ev U x = .int K a)(hy:C=true->ev U y = .int K b)(hc:nH bop=true):
  C=true->(execOp (ev U) o).run P w = .ok (.value<|.bool<|jl bop a b) w:=by grind [eqGuard,execOp,aM,aS,rC,aV]
theorem vB{C:Bool}{o:Oper}{bop:BinOp}{a b:aQ}(ho:o.op = .binOp bop T x y T')(hx:C=true->ev U x=str a)(hy:C=true->ev U y=str b)(hc:nH bop=true):
  C=true->(execOp (ev U) o).run P w = .ok (.value<|.bool<|iT bop a b) w:=by grind [eqGuard,execOp,aM,aS,rD,aV]
theorem tq{C:Bool}{o:Oper}{b:Bool}(ho:o.op = .pick x y z)(hx:C=true->ev U x = .bool b)(hv:C=true->(if b=true then ev U y else ev U z)=v):
  C=true->(execOp (ev U) o).run P w = .ok (.value v) w:=by grind [execOp,asBool,aM,aV,aS]
theorem vC{C:Bool}{o:Oper}{t:TypeId}{s:aQ}(ho:o.op = .call ⟨.builtin .len,#[x],#[t]⟩)(hx:C=true->ev U x=str s)(ht:P.underlying t=some .string):
  C=true->(execOp (ev U) o).run P w = .ok (.value<|.int .i64 (s.bF.length:Nat)) w:=λh=>by
 unfold execOp;rw[ho];have e:(⟨s.bF.toArray⟩:ByteArray).size=s.bF.length:=rfl;simp[resolve,hx h,invoke,builtin,Builtin.len_,run_underlying ht,goInt,str,e]
end
section
variable {α β:Type}[GT α][GT β]{P:Program}{E w:World}{V:List HP}{i:Nat}{v:Value}{x:α}
theorem Holds.m8(h:Holds E w V)(hi:V[i]? =some (rd v x)):∃M hs,Good E w M hs V/\Gk.m8 M v x:=
 let⟨M,hs,g⟩:=h
 ⟨M,hs,g,(g.sat i _ hi).1⟩
theorem Holds.slice{l:List α}(h:Holds E w V)(hi:V[i]? =some (rd v l)):∃a cap,v = .slice a l.length cap:=by
 obtain⟨M,hs,g,hr⟩:=h.m8 hi;obtain⟨a,m,cap,hv,hm,_⟩:=iS.1 hr
 grind
theorem Holds.dup(i:Nat)(h:Holds E w V)(hi:V[i]? =some (rd v x)):Holds E w (rd v x::V):=
 h.rA λ_ _ g=>⟨(g.sat i _ hi).1,rfl⟩
theorem Holds.sc(γ:Type)[Sc γ](h:Holds E w V)(y:γ):Holds E w (rd (Sc.toV y) y::V):=h.rA λ_ _ _=>⟨sR.2 rfl,rfl⟩
theorem Holds.kp{γ:Type}[Sc γ]{y:γ}(h:Holds E w V)(hi:V[i]? =some (rd v y)):v=Sc.toV y:=by
 obtain⟨M,hs,g,hr⟩:=h.m8 hi;exact sR.1 hr
end
section
variable {α β:Type}[GT α][GT β]
variable {P:Program}{n:Nat}{U:Nat->Value}{w:World}{Q:dC}{E:World}{V:List HP}{i:Nat}
variable {ops:Array Oper}{rest:List Oper}{d:Nat}{ty:TypeId}{pos:String}{af:Array Edge}{g:Option (Nat×Bool)}{v:Value}{q r:Operand}{T T' e:TypeId}
variable {x:α}
theorem iU{cs:List Value}{a:Addr}{M:cE}(hT:kn P T (GT.agg α) (GT.sz α))(ho:GT.ok M cs x)(hat:∀j u,cs[j]? =some u->w.cell? (a.add j)=some u):
  (loadVar T a).run P w = .ok (oY α cs) w:=by
 have hl:=GT.len ho;unfold loadVar oY;simp only[aM,hT.wQ,aS]
 cases e:GT.agg α with
 |true=>
  simp only[if_true,aM,hT.sz,aS,<-hl,run_loadCells_list w a cs hat,aV]
 |false=>
  rw[GT.ag1 e]at hl
  match cs,hl with
  | [c],_=>
   have:=hat 0 c rfl;have ha:a.add 0=a:=rfl
   simp_all
theorem m_{p:Value}(i:Nat)(x:α)(hw:Holds E w V)(hT:kn P T (GT.agg α) (GT.sz α))(k:∀v,Holds E w (rd v x::V)->RL P n ops rest (cM U d v) w Q)(hg:Wn ops U g:=by exact trivial)(hd:Nat.blt d n=true:=by exact rfl)(hx:ev U q=p:=by exact rfl)(hi:V[i]? =some (pt p x):=by exact rfl):RL P n ops (⟨some d, .load T q,ty,pos,af,g⟩::rest) U w Q:=by
 obtain⟨M,hs,gd⟩:=hw;obtain⟨⟨ad,cs,hv,ho,ha⟩,_⟩:=gd.sat i _ hi;refine zJ (v:=oY α cs) hg hd ?_<|k _ ⟨M,_,gd.el ⟨⟨cs,rfl,ho⟩,rfl⟩⟩
 simp only[execOp,hx,hv,Instr.loadAt,Instr.sureAddr,aM,aV,aS,iU hT ho<|λj u hu=>l3 gd.im<|ha j u hu]
theorem zZ{γ:Type}[Sc γ](y:γ){p:Value}(i:Nat)(hg:Wn ops U g)(hw:Holds E w V)(hT:kn P T false 1)(k:RL P n ops rest (cM U d<|Sc.toV y) w Q)(hd:Nat.blt d n=true:=by exact rfl)(hx:ev U q=p:=by exact rfl)(hi:V[i]? =some (pt p y):=by exact rfl):RL P n ops (⟨some d, .load T q,ty,pos,af,g⟩::rest) U w Q:=by
 refine m_ (hg:=hg) (hd:=hd) (hx:=hx) (hi:=hi) _ y hw hT λv h=>?_;rw[h.kp (i:=0) rfl];exact k
theorem zO{p:Value}{j m:Nat}{f:α->β}(i:Nat)(hw:Holds E w V)(hi:V[i]? =some (pt p x))(hf:pY P T j m)(hF:Fd m f)(k:∀v,Holds E w (pt v (f x)::V)->RL P n ops rest (cM U d v) w Q)(hg:Wn ops U g:=by exact trivial)(hd:Nat.blt d n=true:=by exact rfl)(hx:ev U q=p:=by exact rfl):RL P n ops (⟨some d, .fieldAddr T q j,ty,pos,af,g⟩::rest) U w Q:=by
 obtain⟨M,hs,gd⟩:=hw;obtain⟨⟨ad,cs,hv,ho,ha⟩,_⟩:=gd.sat i _ hi;refine zJ (v:= .pointer<|some<|ad.add m) hg hd ?_<|k _ ⟨M,_,gd.el ⟨⟨ad.add m,_,rfl,hF M cs x ho,ha.sub m<|GT.sz β⟩,rfl⟩⟩
 simp only[execOp,hx,hv,aM,hf.run,aS,aV]
theorem r_{l:List α}{sv:Value}{K:IntKind}{j:Int}(i:Nat)(hw:Holds E w V)(hT:sO P T e (GT.sz α))(hj:(if 0<=j then l[j.toNat]? else none)=some x)(k:∀v,Holds E w (pt v x::V)->RL P n ops rest (cM U d v) w Q)(hg:Wn ops U g:=by exact trivial)(hd:Nat.blt d n=true:=by exact rfl)(hx:ev U q=sv:=by exact rfl)(hy:ev U r = .int K j:=by exact rfl)(hi:V[i]? =some (rd sv l):=by exact rfl):RL P n ops (⟨some d, .indexAddr T q r,ty,pos,af,g⟩::rest) U w Q:=by
 obtain⟨M,hs,gd⟩:=hw;obtain⟨a,m,cap,hv,hm,hc,hmx,hel⟩:=iS.1 (gd.sat i _ hi).1;have h0:0<=j:=by
  grind
 rw[aO h0]at hj;obtain⟨ad,cs,hae,ho,ha⟩:=hel _ _ hj;have hlt:j<m:=by grind
 refine zJ (v:= .pointer<|some<|ad.add<|j.toNat*GT.sz α) hg hd ?_<|k _ ⟨M,_,gd.el ⟨⟨_,cs,rfl,ho,ha⟩,rfl⟩⟩
 simp only[execOp,hx,hv,hae,hy,Instr.indexAt,asIntOf,aM,aV,aS,run_underlying hT.oZ,hT.sz,h0,hlt,and_self,if_true]
theorem zL{b m:Nat}{f:α->β}(i:Nat)(hw:Holds E w V)(hi:V[i]? =some (bx e b x))(hF:Fd m f)(hT:kn P T (GT.agg β) (GT.sz β))(k:∀v,Holds E w (rd v (f x)::V)->RL P n ops rest (cM U d v) w Q)(hg:Wn ops U g:=by exact trivial)(hd:Nat.blt d n=true:=by exact rfl)(hx:ev U q = .pointer (some ⟨b,m,none⟩):=by exact rfl):RL P n ops (⟨some d, .load T q,ty,pos,af,g⟩::rest) U w Q:=by
 obtain⟨M,hs,gd⟩:=hw;obtain⟨cs,ho,hh⟩:=gd.sat i _ hi;have hb:=gd.le i b _ (bY hi) (by rw[hh];exact bJ b _);have ho':=hF M cs x ho;refine zJ (v:=oY β<|(cs.drop m).take<|GT.sz β) hg hd ?_<|k _ ⟨M,_,gd.el ⟨⟨_,rfl,ho'⟩,rfl⟩⟩
 simp only[execOp,hx,Instr.loadAt,Instr.sureAddr,aM,aV,aS];rw[iU hT ho'<|λj u hu=>?_];rfl;rw[Addr.add_lit,cell_of_row w b _ _ _ _ hb]
 grind
theorem t_{γ:Type}[Sc γ]{b m:Nat}{f:α->γ}(i:Nat)(hw:Holds E w V)(hi:V[i]? =some (bx e b x))(hF:Fd m f)(hT:kn P T false 1)(k:RL P n ops rest (cM U d<|Sc.toV<|f x) w Q)(hg:Wn ops U g:=by exact trivial)(hd:Nat.blt d n=true:=by exact rfl)(hx:ev U q = .pointer (some ⟨b,m,none⟩):=by exact rfl):RL P n ops (⟨some d, .load T q,ty,pos,af,g⟩::rest) U w Q:=by
 refine zL (hg:=hg) (hd:=hd) (hx:=hx) (f:=f) _ hw hi hF hT λv h=>?_;rw[h.kp (i:=0) rfl];exact k
theorem j_{b o j m:Nat}(hx:ev U q = .pointer (some ⟨b,o,none⟩))(hf:pY P T j m)(k:RL P n ops rest (cM U d<|.pointer<|some ⟨b,o+m,none⟩) w Q)(hg:Wn ops U g:=by exact trivial)(hd:Nat.blt d n=true:=by exact rfl):RL P n ops (⟨some d, .fieldAddr T q j,ty,pos,af,g⟩::rest) U w Q:=by
 refine zJ hg hd ?_ k;simp only[execOp,hx,aM,hf.run,aS,aV,Addr.add_lit]
theorem zK(i:Nat)(v:Value)(hw:Holds E w V)(hi:V[i]? =some (rd v x))(k:∀b w',Holds E w' (bx T b x::V)->RL P n ops rest (cM U d<|.pointer<|some ⟨b,0,none⟩) w' Q)(hg:Wn ops U g:=by exact trivial)(hd:Nat.blt d n=true:=by exact rfl)(hx:ev U q=v:=by exact rfl):RL P n ops (⟨some d, .box T q,ty,pos,af,g⟩::rest) U w Q:=by
 obtain⟨M,hs,gd,hr⟩:=hw.m8 hi;refine zJ (w':=w.alloc<|.cells v.cells T) hg hd ?_<|k w.heap.size _<|hw.alloc _ λM' hs' g'=>⟨v.cells.toList,?_,by simp⟩
 ·simp only[execOp,hx,Instr.box,newVar,newRow,newObj,aM,aV];rfl
 ·exact((g'.sat i _ hi).1).cells
def raw(e:TypeId)(b k:Nat):HP:=⟨λ_ h=>∃cs:List Value,cs.length=k/\h=Gk.one b (.cells cs.toArray e (0,0)),λ_ h=>h⟩
theorem zQ{m:Nat}(hw:Holds E w V)(hz:∃z,(∀w,(zeroValue T).run P w = .ok z w)/\z.cells.size=m)(k:∀b w',Holds E w' (raw T b m::V)->RL P n ops rest (cM U d<|.pointer<|some ⟨b,0,none⟩) w' Q)(hg:Wn ops U g:=by exact trivial)(hd:Nat.blt d n=true:=by exact rfl):RL P n ops (⟨some d, .alloc T,ty,pos,af,g⟩::rest) U w Q:=by
 obtain⟨z,hz,hs⟩:=hz;refine zJ (w':=w.alloc<|.cells z.cells T) hg hd ?_<|k w.heap.size _<|hw.alloc _ λ_ _ _=>⟨z.cells.toList,by omega,by simp⟩
 simp only[execOp,Instr.alloc,newVar,newRow,newObj,aM,aV,hz,aS];rfl
theorem kX{m:Nat}{b o:Nat}{cur:Array Value}(hsz:∀w,(sizeOf T).run P w = .ok m w)(hv:v.cells.size=m)(h1:∀u∈v.cells.toList,u.oneCell'=true)
  (hb:w.heap[b]? =some (.cells cur e (0,0))) (ho:o+m<=cur.size):
  (storeVar T ⟨b,o,none⟩ v).run P w = .ok () (w.setRow b (cur.toList.take o++v.cells.toList++cur.toList.drop (o+m)).toArray):=by
 have:=run_storeCells_at P b o e v.cells.toList 0 cur w hb (by grind) h1
 grind [Array.length_toList,storeVar,aM,aS,not_true]
theorem jU{M:cE}{hs:Nat->cE}{P':HP}{b:Nat}{cur new:Array Value}{Pi:HP}(gd:Good E w M hs V)(hi:V[i]? =some Pi)(hh:hs i=Gk.one b (.cells cur e (0,0)))
  (hp:P'.ok M (Gk.one b<|.cells new e (0,0))):Holds E (w.setRow b new) (V.set i P'):=by
 have hb:=gd.le i b _ (bY hi) (by rw[hh];exact bJ b _);refine⟨M,_,gd.update (bY hi) (Gk.one b<|.cells new e (0,0)) hp rfl rfl rfl (λb' o' hb'=>?_) (λb' o' hb'=>?_)<|λb' hb' _=>?_⟩
 ·grind [eC,setRow_heap]
 ·obtain⟨rfl,rfl⟩:=eC hb';simp_all[bJ]
 ·rw[hh]at hb'
  grind [setRow_other,bJ]
theorem zR{m b:Nat}(i:Nat)(hw:Holds E w V)(j:Nat)(hj:V[j]? =some (rd v x))(hT:kn P T (GT.agg α) (GT.sz α))(k:∀w',Holds E w' (V.set i<|bx e b x)->RL P n ops rest U w' Q)(hg:Wn ops U g:=by exact trivial)(hx:ev U q = .pointer (some ⟨b,0,none⟩):=by exact rfl)(hy:ev U r=v:=by exact rfl)(hi:V[i]? =some (raw e b m):=by exact rfl)(hm:m=GT.sz α:=by exact rfl):RL P n ops (⟨none, .store T q r,ty,pos,af,g⟩::rest) U w Q:=by
 obtain⟨M,hs,gd⟩:=hw;obtain⟨cs,hl,hh⟩:=gd.sat i _ hi;have hr:=(gd.sat j _ hj).1;have hb:=gd.le i b _ (bY hi) (by rw[hh];exact bJ b _);have hc:v.cells.size=GT.sz α:=by rw[<-GT.len hr.cells];simp
 have hrun:=kX (P:=P) (v:=v) (o:=0) hT.sz hc (GT.one hr.cells) hb (by simp[hl,hm]);refine Ax (w':=w.setRow b v.cells) hg ?_<|k _<|jU gd hi hh ⟨v.cells.toList,hr.cells,by simp⟩
 have hd:List.drop (GT.sz α) cs= []:=List.drop_eq_nil_of_le (by omega);simp only[fc,List.take_zero,List.nil_append,hd,jT,Array.toArray_toList]at hrun
 grind [execOp,Instr.storeAt,Instr.sureAddr,aM,aV,aS]
end
inductive Fl (S R:Type)where
 |nx (s:S)
 |br (s:S)
 |rt (r:R)
inductive Fo (S R:Type)where
 |go (s:S)
 |rt (r:R)
section
variable {S R:Type}
def qH(body:Nat->S->Option (Fl S R)):Nat->Nat->S->Option (Fo S R)
 | 0,_,s=>some (.go s)
 |m+1,k,s=>(body k s).bind λ
  | .nx s'=>qH body m (k+1) s'
  | .br s'=>some (.go s')
  | .rt r=>some (.rt r)
def iV(m:Nat)(body:Nat->S->Option (Fl S R))(s:S):Option (Fo S R):=if m<=4611686018427387904 then qH body m 0 s else none
def sT(body:Nat->S->Option S):Nat->Nat->S->Option S
 | 0,_,s=>some s
 |m+1,k,s=>(body k s).bind λs'=>sT body m (k+1) s'
def oK(m:Nat)(body:Nat->S->Option S)(s:S):Option S:=if m<=4611686018427387904 then sT body m 0 s else none
def p7(body:S->Option (Fl S R)):Nat->S->Option (Fo S R)
 | 0,_=>none
 |N+1,s=>(body s).bind λ
  | .nx s'=>p7 body N s'
  | .br s'=>some (.go s')
  | .rt r=>some (.rt r)
theorem bd{α β:Type}{o:Option α}{f:α->Option β}{r:β}(h:o.bind f=some r):∃x,o=some x/\f x=some r:=by
 cases o with
 |none=>cases h
 |some x=>grind
end
section
variable {S R:Type}{P:Program}{n:Nat}{U:Nat->Value}{w:World}{Q:dC}{c x y:Code}{b0:Nat}
def wi(b0:Nat)(J:S->(Nat->Value)->World->Prop)(K:R->(Nat->Value)->World->Prop):Fo S R->dC
 | .go s=>λex U w=>ex = .exit b0/\J s U w
 | .rt r=>λex U w=>ex = .ret/\K r U w
def uK(I:Nat->S->(Nat->Value)->World->Prop)(b0:Nat)(J:S->(Nat->Value)->World->Prop)(K:R->(Nat->Value)->World->Prop)(k:Nat):Fl S R->dC
 | .nx s=>λex U w=>ex = .normal/\I (k+1) s U w
 | .br s=>λex U w=>ex = .exit b0/\J s U w
 | .rt r=>λex U w=>ex = .ret/\K r U w
def qI(I:S->(Nat->Value)->World->Prop)(b0:Nat)(J:S->(Nat->Value)->World->Prop)(K:R->(Nat->Value)->World->Prop):Fl S R->dC
 | .nx s=>λex U w=>ex = .normal/\I s U w
 | .br s=>λex U w=>ex = .exit b0/\J s U w
 | .rt r=>λex U w=>ex = .ret/\K r U w
theorem uL{a:Act}{Q:Exit->Act->World->Prop}(I:Nat->Act->World->Prop){m:Nat}(h0:I m a w)
  (round:∀m a w,I m a w->c.wp P (Exit.then (λa' w'=>∃m',m'<m/\I m' a' w') Q) a w):(Code.loop c).wp P Q a w:=by
 intro b k cs;have key:∀m a w,I m a w->∃e a' w',Q e a' w'/\Arrives P (lone (b.at a<|.code c:: .inLoop c::k) cs w) b k cs e a' w':=by
  intro m
  induction m using Nat.strongRecOn with
  |_ m ih=>
   intro a w hI;obtain⟨e,a₁,w₁,hq,harr⟩:=round m a w hI b (.inLoop c::k) cs
   cases e with
   |normal=>
    obtain⟨m',hlt,hI₁⟩:=hq;obtain⟨e₂,a₂,w₂,hq₂,harr₂⟩:=ih m' hlt a₁ w₁ hI₁;exact⟨e₂,a₂,w₂,hq₂, .of_steps (Steps.trans harr<|.one step_inLoop) harr₂⟩
   |exit id=>exact⟨_,a₁,w₁,hq, .pass (x:= .inLoop c) rfl (λ_ _=> .inl (by simp)) harr⟩
   |goto l=>exact⟨_,a₁,w₁,hq, .pass (x:= .inLoop c) rfl (λ_ _=> .inl (by simp)) harr⟩
   |ret=>exact⟨_,a₁,w₁,hq, .pass (x:= .inLoop c) rfl (λ_ _=> .inl (by simp)) harr⟩
   |panic ch=>exact⟨_,a₁,w₁,hq, .pass (x:= .inLoop c) rfl (λ_ _=> .inl (by simp)) harr⟩
   |outgrown=>exact⟨_,a₁,w₁,hq, .pass (x:= .inLoop c) rfl (λ_ _=> .inl (by simp)) harr⟩
 obtain⟨e,a',w',hq,harr⟩:=key _ a w h0;exact⟨e,a',w',hq, .of_steps (.one step_loop) harr⟩
theorem AQ(I:Nat->(Nat->Value)->World->Prop){m:Nat}(h0:I m U w)
  (step:∀m U w,I m U w->RC P n c U w (λex σ' w'=>(ex = .normal/\∃m',m'<m/\I m' σ' w')\/(ex≠ .normal/\Q ex σ' w'))):RC P n (.loop c) U w Q:=by
 intro a ha;refine uL (λm a w=>∃U,Sl n U a/\I m U w) ⟨U,ha,h0⟩ ?_;rintro m a w⟨U,hs,hI⟩;refine wp_mono (step m U w hI a hs) λe a' w'⟨σ',hs',q⟩=>?_
 rcases q with⟨rfl,m',hm,hI'⟩|⟨hne,hq⟩
 ·exact⟨m',hm,σ',hs',hI'⟩
 ·cases e with
  |normal=>grind
  |_=>exact⟨σ',hs',hq⟩
theorem A8(I:Nat->S->(Nat->Value)->World->Prop)(J:S->(Nat->Value)->World->Prop)(K:R->(Nat->Value)->World->Prop)
  {body:Nat->S->Option (Fl S R)} {m:Nat} {s0:S} {out:Fo S R} (hN:iV m body s0=some out) (h0:I 0 s0 U w)
  (stop:m<=4611686018427387904->∀s U w,I m s U w->RC P n c U w (wi (R:=R) b0 J K<|.go s))
  (step:m<=4611686018427387904->∀k s fl U w,k<m->I k s U w->body k s=some fl->RC P n c U w (uK I b0 J K k fl))
  (hrt:∀r U w,out = .rt r->K r U w->Q .ret U w) (hgo:∀s U w,out = .go s->J s U w->Q .normal U w):RC P n (.block b0<|.loop c) U w Q:=by
 unfold iV at hN;split at hN
 ·rename_i hm;refine AG<|AQ (λj U w=>(∃k s,k+j=m+1/\k<=m/\I k s U w/\qH body (m - k) k s=some out)) (m:=m+1) ⟨0,s0,by omega,by omega,h0,hN⟩ ?_
  rintro j U w⟨k,s,hk,hkm,hI,hr⟩
  by_cases e:k<m
  ·obtain⟨j',hj'⟩:∃j',m - k=j'+1:=⟨m - k - 1,by omega⟩;rw[hj']at hr;obtain⟨fl,hb,hr⟩:=bd hr;refine RC.mono (step hm k s fl U w e hI hb) λex σ' w' q=>?_
   cases fl with
   |nx s'=>
    obtain⟨rfl,hI'⟩:=q;exact .inl ⟨rfl,j - 1,by omega,k+1,s',by omega,by omega,hI',by grind⟩
   |br s'=>
    obtain⟨rfl,hJ⟩:=q
    grind [oc]
   |rt r=>
    obtain⟨rfl,hK⟩:=q;injection hr with hr
    exact .inr ⟨by simp,hrt r σ' w' hr.symm hK⟩
  ·obtain rfl:k=m:=by omega
   rw[Nat.sub_self]at hr;injection hr with hr
   refine RC.mono (stop hm s U w hI) λex σ' w' q=>?_;obtain⟨rfl,hJ⟩:=q
   grind [oc]
 ·cases hN
theorem qf{body:Nat->S->Option S}:∀(m k:Nat)(s s':S),sT body m k s=some s'->qH (R:=Empty) (λk s=>(body k s).map Fl.nx) m k s=some (.go s')
 | 0,_,s,s',h=>by injection h with h;subst h;rfl
 |m+1,k,s,s',h=>by
  obtain⟨s1,hb,hr⟩:=bd h;unfold qH;simp only[hb,Option.map_some,Option.bind_some];exact qf m (k+1) s1 s' hr
theorem Bn(I:Nat->S->(Nat->Value)->World->Prop)(J:S->(Nat->Value)->World->Prop)
  {body:Nat->S->Option S} {m:Nat} {s0 out:S} (hN:oK m body s0=some out) (h0:I 0 s0 U w)
  (stop:m<=4611686018427387904->∀s U w,I m s U w->RC P n c U w (λex U w=>ex = .exit b0/\J s U w))
  (step:m<=4611686018427387904->∀k s s' U w,k<m->I k s U w->body k s=some s'->RC P n c U w (λex U w=>ex = .normal/\I (k+1) s' U w))
  (hgo:∀U w,J out U w->Q .normal U w):RC P n (.block b0<|.loop c) U w Q:=by
 have hN':iV (R:=Empty) m (λk s=>(body k s).map Fl.nx) s0=some (.go out):=by
  grind [oK,iV,qf]
 refine A8 I J (λr _ _=>r.elim) hN' h0 (λhm s U w hI=>stop hm s U w hI) (λhm k s fl U w hk hI hb=>?_) (λr _ _ _ _=>r.elim)<|λs U w e hJ=>?_
 ·cases hx:body k s with
  |none=>grind
  |some s'=>
   rw[hx]at hb;injection hb with hb
   subst hb;exact step hm k s s' U w hk hI hx
 grind
theorem AR(I:S->(Nat->Value)->World->Prop)(J:S->(Nat->Value)->World->Prop)(K:R->(Nat->Value)->World->Prop)
  {body:S->Option (Fl S R)} {N:Nat} {s0:S} {out:Fo S R} (hN:p7 body N s0=some out) (h0:I s0 U w)
  (step:∀s fl U w,I s U w->body s=some fl->RC P n c U w (qI I b0 J K fl))
  (hrt:∀r U w,out = .rt r->K r U w->Q .ret U w) (hgo:∀s U w,out = .go s->J s U w->Q .normal U w):RC P n (.block b0<|.loop c) U w Q:=by
 refine AG<|AQ (λj U w=>∃s,I s U w/\p7 body j s=some out) (m:=N) ⟨s0,h0,hN⟩ ?_
 rintro j U w⟨s,hI,hr⟩
 cases j with
 |zero=>cases hr
 |succ j=>
  obtain⟨fl,hb,hr⟩:=bd hr;refine RC.mono (step s fl U w hI hb) λex σ' w' q=>?_
  cases fl with
  |nx s'=>obtain⟨rfl,hI'⟩:=q;grind
  |br s'=>
   obtain⟨rfl,hJ⟩:=q
   grind [oc]
  |rt r=>
   obtain⟨rfl,hK⟩:=q;injection hr with hr
   exact .inr ⟨by simp,hrt r σ' w' hr.symm hK⟩
theorem BN(J:S->(Nat->Value)->World->Prop)(s:S)(hx:RC P n x U w (λex U w=>ex = .normal/\J s U w))(hy:∀U w,J s U w->RC P n y U w Q):RC P n (.seq x y) U w Q:=
 o_ (RC.mono hx λex U w⟨e,hJ⟩=>by subst e;exact hy U w hJ)
theorem fY{x:Int}(h1: -9223372036854775808<=x)(h2:x<9223372036854775808):IntKind.i64.wrap x=x:=by
 have e1:(2:Int) ^ (IntKind.i64.bits)=18446744073709551616:=by decide
 have e2:(2:Int) ^ (IntKind.i64.bits - 1)=9223372036854775808:=by decide
 have e3:IntKind.i64.signed=true:=by decide
 grind [wrap]
theorem tO{k m:Nat}(h:k<m)(hm:m<=4611686018427387904):IntKind.i64.wrap ((k:Int)+1)=((k+1:Nat):Int):=by
 grind [fY]
end
section
variable {α β:Type}[GT α][GT β]{M:cE}
theorem Cells.nil:Cells M [] ([]:List α):=⟨by simp,λi x h=>by simp at h⟩
theorem Cells.append{xs ys:List Value}{l l':List α}(h:Cells M xs l)(h':Cells M ys l'):Cells M (xs++ys) (l++l'):=by
 refine⟨by rw[g6,g6,h.1,h'.1,Nat.add_mul],λi x hx=>?_⟩
 by_cases hi:i<l.length
 ·rw[jQ hi]at hx;have hb:i*GT.sz α+GT.sz α<=xs.length:=by
   rw[h.1]
   calc i*GT.sz α+GT.sz α=(i+1)*GT.sz α:=by rw[Nat.add_mul,Nat.one_mul]
    _<=l.length*GT.sz α:=Nat.mul_le_mul_right _ hi
  rw[List.drop_append_of_le_length (by omega),List.take_append_of_le_length (by grind)];exact h.2 i x hx
 ·rw[kU (by omega)]at hx;have:=h'.2 _ x hx;obtain⟨k,rfl⟩:∃k,i=l.length+k:=⟨i - l.length,by omega⟩;rw[Nat.add_sub_cancel_left]at this;rw[Nat.add_mul,<-h.1,List.drop_length_add_append];exact this
theorem Cells.one{cs:List Value}{x:α}(h:GT.ok M cs x):Cells M cs [x]:=
 ⟨by grind [GT.len],λi y hy=>by
  cases i with
  |zero=>grind [mG,GT.len]
  |succ i=>simp at hy⟩
theorem Cells.xM{xs:List Value}{l:List α}(h:Cells M xs l):∀u∈xs,u.oneCell'=true:=by
 intro u hu;obtain⟨j,hj,rfl⟩:=List.getElem_of_mem hu;have hp:=GT.pos (α:=α);have hq:j / GT.sz α<l.length:=by rw[Nat.div_lt_iff_lt_mul hp,<-h.1];exact hj
 refine GT.one (h.2 (j / GT.sz α) l[j / GT.sz α]<|aZ hq) _ ?_;have hm:j % GT.sz α<GT.sz α:=Nat.mod_lt _ hp;have hd:j / GT.sz α*GT.sz α+j % GT.sz α=j:=by simp[Nat.mul_comm,Nat.div_add_mod]
 refine eP (i:=j % GT.sz α) ?_
 grind
theorem rE{ad:Addr}{m cap:Nat}{l:List α}(h:ib M (.slice (some ad) m cap) l):∃xs,Cells M xs l/\At M ad xs:=by
 obtain⟨a,n',cap',hv,hn,_,_,hel⟩:=h;injection hv with h1 h2 h3
 subst h1;have key:∀k,k<=l.length->∃xs,Cells M xs (l.take k)/\At M ad xs:=by
  intro k
  induction k with
  |zero=>exact λ_=>⟨[],by simp[Cells.nil],λj u hu=>by simp at hu⟩
  |succ k ih=>
   intro hk;obtain⟨xs,hc,ha⟩:=ih (by omega);have hx:l[k]? =some l[k]:=aZ (by omega);obtain⟨ad',cs,e,ho,hat⟩:=hel k _ hx;injection e with e
   subst e;refine⟨xs++cs,?_,λj u hu=>?_⟩
   ·rw[List.take_succ_eq_append_getElem (by omega)];exact hc.append<|Cells.one ho
   ·have hl:xs.length=k*GT.sz α:=by rw[hc.1,fX];congr 1;omega
    by_cases hj:j<xs.length
    ·rw[jQ hj]at hu;exact ha j u hu
    ·rw[kU (by omega)]at hu;have:=hat _ u hu
     grind [add_add,GT.sz]
 have:=key l.length<|cI _
 grind
theorem At.nil(a:Addr):At M a []:=λj u hu=>by simp at hu
theorem nI{g o cap:Nat}{cur:Array Value}{e:TypeId}{fr:Nat×Nat}{xs:List Value}{l:List α}(hM:M g=some (.cells cur e fr))(hc:Cells M xs l)(hx:(cur.toList.drop o).take (l.length*GT.sz α)=xs)
  (hl:l.length<=cap) (hm:cap<=maxLen):ib M (.slice (some ⟨g,o,none⟩) l.length cap) l:=by
 refine⟨_,_,_,rfl,rfl,hl,hm,λi x hix=>⟨_,_,rfl,hc.2 i x hix,λj u hu=>?_⟩⟩
 grind [Addr.add_lit,nF,Option.isSome_none,Nat.add_assoc]
end
section
variable {α β:Type}[GT α][GT β]{P:Program}{E w:World}{V:List HP}{i:Nat}{v:Value}{l:List α}{e:TypeId}
theorem kY(e:TypeId)(M:cE):p6 (α:=α) e M j4 (.slice none 0 0) []:= .inl ⟨rfl,rfl,rfl⟩
theorem Holds.kY(h:Holds E w V)(α:Type)[GT α](e:TypeId):Holds E w (own (α:=α) e (.slice none 0 0) []::V):=h.rA λM _ _=>Gk.kY e M
theorem Holds.freeze(i:Nat)(h:Holds E w V)(hi:V[i]? =some (own e v l):=by exact rfl):Holds E w (V.set i<|rd v l):=by
 obtain⟨M,hs,g⟩:=h;have hlt:=bY hi;have ho:=g.sat i _ hi;refine⟨_,_,g.freeze (P':=rd v l) hlt ⟨iS.2 ?_,rfl⟩⟩
 rcases ho with⟨rfl,rfl,_⟩|⟨b,o,cap,cur,xs,rfl,h2,h3,h4,h5,h6,h7⟩
 ·exact⟨none,0,0,rfl,rfl,cI _,by simp[maxLen],λi x hx=>by simp at hx⟩
 ·refine nI (M:=mY M<|hs i) (e:=e) (fr:=(0,0)) ?_ (h7.mono<|oT _ _) h6 h2 h3;have hb:hs i b=some (.cells cur e (0,0)):=by simp_all[bJ]
  simp[mY,g.dm i b _ hlt hb,hb]
theorem Holds.qg(h:Holds E w V)(hi:V[i]? =some (own e v l)):∃a cap,v = .slice a l.length cap:=by
 obtain⟨M,hs,g⟩:=h
 rcases g.sat i _ hi with⟨rfl,rfl,_⟩|⟨b,o,cap,cur,xs,rfl,_⟩
 ·simp
 simp
end
def app{α:Type}(bytes:Nat)(l ys:List α):Option (List α):=if(l.length+ys.length)*bytes<=140737488355328 then some (l++ys)else none
structure uN (P:Program) (t e:TypeId) (k bytes:Nat):Prop where
 oZ:P.underlying t=some (.slice e)
 inf:∃i z,P.info? e=some i/\i.zero=some z/\i.size=k/\i.bytes=bytes/\z.cells.size=k
 pos:0<bytes
section
variable {α:Type}[GT α]{P:Program}{E w:World}{V:List HP}{i j:Nat}{v vy:Value}{l ys l':List α}{e t ty:TypeId}{bytes:Nat}
theorem oe(i:TypeInfo)(ht:P.underlying t=some (.slice e))(hi:P.info? e=some i)
  (g o sLen sCap:Nat) (cur:Array Value) (hg:w.heap[g]? =some (.cells cur e (0,0)))
  (a:Addr) (m c:Nat) (news:List Value) (hl:news.length=m*i.size) (hnews:∀j u,news[j]? =some u->w.cell? (a.add j)=some u) (h1:∀u∈news,u.oneCell'=true)
  (hroom:sLen+m<=sCap) (hfit:o+sLen*i.size+news.length<=cur.size):
  (Builtin.append_ #[t,t] ty #[.slice (some ⟨g,o,none⟩) sLen sCap, .slice (some a) m c]).run P w =
   .ok (.slice (some ⟨g,o,none⟩) (sLen+m) sCap) (w.setRow g (cur.toList.take (o+sLen*i.size)++news++cur.toList.drop (o+sLen*i.size+news.length)).toArray):=by
 have hf:=run_firstCells_some (P:=P) w i.size m a m c news hl hnews;have hst:=run_storeCells_at P g (o+sLen*i.size) e news 0 cur w hg (by omega) h1;simp only[Nat.add_zero]at hst;simp[Builtin.append_,run_underlying ht,sizeOf,typeInfo,hi,Builtin.lenOf,hroom,hf,Addr.add_lit,hst]
theorem lM(i:TypeInfo)(ht:P.underlying t=some (.slice e))(hi:P.info? e=some i)(a:Option Addr)(sLen sCap c:Nat)(hc:sLen<=sCap):
  (Builtin.append_ #[t,t] ty #[.slice a sLen sCap, .slice none 0 c]).run P w = .ok (.slice a sLen sCap) w:=by
 cases a <;> simp[Builtin.append_,run_underlying ht,sizeOf,typeInfo,hi,Builtin.lenOf,Builtin.firstCells,hc,storeCells]
theorem o4{V:List HP}{i:Nat}{Pr:HP}(h:V[i]? =some Pr):V.set i Pr=V:=by
 apply List.ext_getElem?
 grind
theorem vD(hw:Holds E w V)(hi:V[i]? =some (own e v l))(hj:V[j]? =some (rd vy ys))(hT:uN P t e (GT.sz α) bytes)(hb:app bytes l ys=some l'):
  ∃v' w',(Builtin.append_ #[t,t] ty #[v,vy]).run P w = .ok v' w'/\Holds E w' (V.set i<|own e v' l'):=by
 obtain⟨inf,z,hinf,hz,hsz,hby,hzs⟩:=hT.inf;unfold app at hb;split at hb
 case isFalse=>cases hb
 rename_i hroom;injection hb with hb
 subst hb;obtain⟨M,hs,g⟩:=hw;have hlt:=bY hi;have ho:=g.sat i _ hi;have hle63:l.length+ys.length<=140737488355328:=Nat.le_trans (Nat.le_mul_of_pos_right _ hT.pos) hroom;obtain⟨a,m,c,hvy,hm,hmc,hcm,hel⟩:=iS.1 (g.sat j _ hj).1;subst hvy;have hcase:(ys= []/\a=none)\/∃ad news,a=some ad/\Cells M news ys/\At M ad news:=by
  cases a with
  |none=>
   left;refine⟨?_,rfl⟩
   cases ys with
   |nil=>rfl
   |cons y r=>obtain⟨ad,cs,h,_⟩:=hel 0 y rfl;cases h
  |some ad=>
   right;obtain⟨xs,h1,h2⟩:=rE (l:=ys) (ad:=ad) (m:=m) (cap:=c) ⟨_,_,_,rfl,hm,hmc,hcm,hel⟩
   grind
 rcases hcase with⟨rfl,rfl⟩|⟨ad,news,rfl,hcn,hat⟩
 ·
  simp only[List.length_nil]at hm;subst hm;rw[jT];have ja:V.set i (own e v l)=V:=o4 hi;refine⟨v,w,?_,by rw[ja];exact⟨M,hs,g⟩⟩
  rcases ho with⟨rfl,rfl,_⟩|⟨b,o,cap,cur,xs,rfl,h2,h3,h4,h5,h6,h7⟩
  ·exact lM inf hT.oZ hinf none 0 0 c<|cI _
  ·exact lM inf hT.oZ hinf _ _ cap c h2
 ·have hnews:∀j u,news[j]? =some u->w.cell? (ad.add j)=some u:=λj u hu=>l3 g.im<|hat j u hu
  have hnl:news.length=m*inf.size:=by rw[hcn.1,hm,hsz]
  have h1:=hcn.xM;have grown:∀(olds:List Value)(N:Nat),Cells M olds l->N=l.length+m->∀(old:Nat),
    Holds E (w.drew.alloc<|.cells (olds.toArray++news.toArray++Builtin.zeroCells z.cells (grownCap w N old e - N)) e)
     (V.set i<|own e (.slice (some ⟨w.heap.size,0,none⟩) N<|grownCap w N old e)<|l++ys):=by
   intro olds N hol hN old;have hge:=grownCap_ge w N old e;have hcm':grownCap w N old e<=maxLen:=grownCap_le_maxLen w N old e (by grind [maxLen]);have hNl:N=(l++ys).length:=by rw[g6,hN,hm]
   have hca:=hol.append hcn;refine⟨M,_,g.update (w':=w.drew.alloc _) hlt (Gk.one w.heap.size<|.cells (olds.toArray++news.toArray++Builtin.zeroCells z.cells (grownCap w N old e - N)) e (0,0)) (.inr ⟨w.heap.size,0,grownCap w N old e,_,olds++news,by rw[<-hNl],by omega,hcm',rfl,?_,?_,hca⟩) rfl rfl rfl (λb o' hb=>?_) (λb o' hb=>?_)<|λb _ hb=>?_⟩
   ·simp only[Array.size_append,List.size_toArray,size_zeroCells,hzs,fc];refine Nat.le_of_eq<|Eq.symm ?_
    rw[<-g6,hca.1,<-hNl,<-Nat.add_mul];congr 1;omega
   ·simp only[Array.toList_append,List.drop_zero];rw[<-hca.1];exact List.take_left
   ·obtain⟨rfl,rfl⟩:=eC hb;exact heap_alloc_new w.drew _
   ·obtain⟨rfl,rfl⟩:=eC hb;exact .inr<|cI _
   ·exact j5 w.drew _ b hb
  rcases ho with⟨rfl,rfl,_⟩|⟨b,o,cap,cur,xs,rfl,h2,h3,h4,h5,h6,h7⟩
  ·by_cases hm0:m=0
   ·subst hm0;have hy:ys= []:=List.eq_nil_of_length_eq_zero hm.symm;subst hy;have ja:V.set i (own e (.slice none 0 0) ([]:List α))=V:=o4 hi;refine⟨.slice none 0 0,w,?_,by rw[jT,ja];exact⟨M,hs,g⟩⟩;have hf:=run_firstCells_some (P:=P) w inf.size 0 ad 0 c [] (by simp) (λj u hu=>by simp at hu);simp[Builtin.append_,run_underlying hT.oZ,sizeOf,typeInfo,hinf,Builtin.lenOf,hf]
   ·have hr:=run_append_nil (P:=P) w t ty e inf z hT.oZ hinf hz ad m c news hnl hnews (by omega) (by omega) (by grind);have:=grown [] m Cells.nil (by simp) 0
    grind
  ·have hb:=g.le i b _ hlt (by rw[h4];exact bJ b _);have hxl:xs.length=l.length*GT.sz α:=h7.1
   by_cases hfit:l.length+m<=cap
   ·have hcapm:(l.length+m)*GT.sz α<=cap*GT.sz α:=Nat.mul_le_mul_right _ hfit;rw[Nat.add_mul]at hcapm;have hr:=oe (P:=P) (ty:=ty) inf hT.oZ hinf b o l.length cap cur hb ad m c news hnl hnews h1 hfit (by grind);refine⟨_,_,hr,?_⟩;have:=jU (P':=own e (.slice (some ⟨b,o,none⟩) (l.length+m) cap)<|l++ys) (new:=(cur.toList.take (o+l.length*inf.size)++news++cur.toList.drop (o+l.length*inf.size+news.length)).toArray) g hi h4
     (.inr ⟨b,o,cap,_,xs++news,by rw[g6,hm],by rw[g6,<-hm];exact hfit,h3,rfl,?_,?_,h7.append hcn⟩)
    ·exact this
    ·simp only[List.size_toArray,g6,fX,jS,Array.length_toList,hnl,hsz];omega
    ·rw[g6,Nat.add_mul,<-hm];have e1:(cur.toList.take<|o+l.length*inf.size).length=o+l.length*GT.sz α:=by
      have e0:cur.toList.length=cur.size:=rfl;rw[fX,e0,hsz];omega
     have e2:(cur.toList.take<|o+l.length*inf.size).drop o=xs:=by
      rw[hsz,List.drop_take,Nat.add_sub_cancel_left];exact h6
     simp only[kV];rw[List.drop_append_of_le_length (by omega),e2,<-kV];have:l.length*GT.sz α+m*GT.sz α=(xs++news).length:=by rw[g6,hxl,hnl,hsz]
     rw[this];exact List.take_left
   ·have holds:∀j u,xs[j]? =some u->w.cell? ((⟨b,o,none⟩:Addr).add j)=some u:=λj u hu=>by
     rw[Addr.add_lit,cell_of_row w b _ _ _ _ hb,<-Array.getElem?_toList];rw[<-h6,fJ]at hu;split at hu
     ·rw[iL]at hu;exact hu
     ·cases hu
    have hr:=run_append_grow (P:=P) w t ty e inf z hT.oZ hinf hz ⟨b,o,none⟩ l.length cap xs (by rw[hxl,hsz]) holds ad m c news hnl hnews (by omega) (by omega)
     (growslice_fits (by omega) (by rw[hby];rw[hm];exact hroom))
    exact⟨_,_,hr,grown xs _ h7 rfl cap⟩
end
section
variable {α:Type}[GT α]{P:Program}{n:Nat}{U:Nat->Value}{w:World}{Q:dC}{E:World}{V:List HP}{i j:Nat}
variable {ops:Array Oper}{rest:List Oper}{d:Nat}{ty t e:TypeId}{pos:String}{af:Array Edge}{g:Option (Nat×Bool)}{v vy:Value}{q r:Operand}
variable {x:α}{l ys l':List α}{bytes:Nat}
theorem AS(i j:Nat)(hg:Wn ops U g)(hd:Nat.blt d n=true)(hw:Holds E w V)(hx:ev U q=v)(hy:ev U r=vy)(hi:V[i]? =some (own e v l))(hj:V[j]? =some (rd vy ys))(hT:uN P t e (GT.sz α) bytes)(hb:Gk.app bytes l ys=some l')(k:∀v' w',Holds E w' (V.set i<|own e v' l')->RL P n ops rest (cM U d v') w' Q):
  RL P n ops (⟨some d, .call ⟨.builtin .append,#[q,r],#[t,t]⟩,ty,pos,af,g⟩::rest) U w Q:=by
 obtain⟨v',w',hr,hw'⟩:=vD (P:=P) (ty:=ty) hw hi hj hT hb;refine zJ hg hd ?_<|k v' w' hw'
 grind [execOp,resolve,invoke,builtin,aM,aV,aS]
theorem x_(i:Nat)(l:List α)(hw:Holds E w V)(ht:P.underlying t=some (.slice e))(k:RL P n ops rest (cM U d<|.int .i64 (l.length:Nat)) w Q)(hg:Wn ops U g:=by exact trivial)(hd:Nat.blt d n=true:=by exact rfl)(hx:ev U q=v:=by exact rfl)(hi:V[i]? =some (rd v l):=by exact rfl):RL P n ops (⟨some d, .call ⟨.builtin .len,#[q],#[t]⟩,ty,pos,af,g⟩::rest) U w Q:=by
 obtain⟨a,cap,rfl⟩:=hw.slice hi
 grind [A7]
theorem AT{e':TypeId}(i:Nat)(l:List α)(hg:Wn ops U g)(hd:Nat.blt d n=true)(hw:Holds E w V)(hx:ev U q=v)(hi:V[i]? =some (own e' v l))(ht:P.underlying t=some (.slice e))(k:RL P n ops rest (cM U d<|.int .i64 (l.length:Nat)) w Q):RL P n ops (⟨some d, .call ⟨.builtin .len,#[q],#[t]⟩,ty,pos,af,g⟩::rest) U w Q:=by
 obtain⟨a,cap,rfl⟩:=hw.qg hi
 grind [A7]
end
def fw(M:cE)(place:Nat->Option (Nat×Nat)){α:Type}[GT α](cells:Array Value)(parts:List (Nat×Value))(y:α):Prop:=
 ∃cells',Instr.fill place cells parts=some cells'/\GT.ok M cells'.toList y
section
variable {α β:Type}[GT α][GT β]{M:cE}{place:Nat->Option (Nat×Nat)}{cells:Array Value}{parts:List (Nat×Value)}{x y:α}{v:Value}{z:β}
theorem fw.nil(h:GT.ok M cells.toList x):fw M place cells [] x:=⟨cells,rfl,h⟩
theorem uO(vs:List Value):∀(cells:Array Value)(o:Nat),o+vs.length<=cells.size->
  ((vs.toArray.zipIdx).foldl (λcs(c,j)=>cs.setIfInBounds (o+j) c) cells).toList=cells.toList.take o++vs++cells.toList.drop (o+vs.length):=by
 intro cells o h;have key:∀(vs:List Value)(k:Nat)(cells:Array Value),o+k+vs.length<=cells.size->
   ((vs.zipIdx k).foldl (λcs(p:Value×Nat)=>cs.setIfInBounds (o+p.2) p.1) cells).toList=cells.toList.take (o+k)++vs++cells.toList.drop (o+k+vs.length):=by
  intro vs
  induction vs with
  |nil=>intro k cells _;simp
  |cons u vs ih=>
   intro k cells h;simp only[jR]at h;rw[List.zipIdx_cons,List.foldl_cons,ih (k+1) _ (by simp;omega)];simp only[Array.toList_setIfInBounds,jR];have hk:o+k<cells.toList.length:=by simp;omega
   rw[show o+(k+1)=(o+k)+1 by omega,List.take_succ_eq_append_getElem (by grind),List.take_set_of_le<|cI _,List.drop_set_of_lt (by omega)];simp only[List.getElem_set_self,kV,List.cons_append,List.nil_append];congr 4;omega
 grind
theorem fw.cons{i m:Nat}{f:α->β->α}(hx:GT.ok M cells.toList x)(hF:Fs m β f)(hz:m8 M v z)(h:∀c,GT.ok M c.toList (f x z)->fw M place c parts y)(hp:place i=some (m,GT.sz β):=by exact rfl)(hm:m+GT.sz β<=GT.sz α:=by decide):fw M place cells ((i,v)::parts) y:=by
 have hc:v.cells.size=GT.sz β:=by rw[<-GT.len hz.cells];simp
 have hl:cells.size=GT.sz α:=by rw[<-GT.len hx];simp
 have hs:=uO v.cells.toList cells m (by grind);simp only[Array.toArray_toList,Array.length_toList,hc]at hs;obtain⟨c',h1,h2⟩:=h (v.cells.zipIdx.foldl (λcs(c,j)=>cs.setIfInBounds (m+j) c) cells) (by rw[hs];exact hF M _ _ x z hx hz.cells);refine⟨c',?_,h2⟩
 grind [Instr.fill]
end
structure sU (P:Program) (T:TypeId) (places:List (Nat×Nat)) (z:Array Value):Prop where
 run:∀parts w,(Instr.build T parts).run P w=match Instr.fill (places.toArray[·]?) z parts.toList with|some cs=> .ok (.agg cs) w|none=> .halt (.stuck "build: no such field, or a part of the wrong size") w
section
variable {α:Type}[GT α]{P:Program}{n:Nat}{U:Nat->Value}{w:World}{Q:dC}{E:World}{V:List HP}{i j:Nat}
variable {ops:Array Oper}{rest:List Oper}{d:Nat}{T ty t e:TypeId}{pos:String}{af:Array Edge}{g:Option (Nat×Bool)}{v vy:Value}{q r:Operand}
variable {y:α}{l:List α}{bytes:Nat}
theorem Ao{parts:Array (Nat×Operand)}{places:List (Nat×Nat)}{z:Array Value}(y:α)(hg:Wn ops U g)(hd:Nat.blt d n=true)(hw:Holds E w V)(vs:List (Nat×Value))(hvs:parts.toList.map (λp=>(p.1,ev U p.2))=vs)(hT:sU P T places z)(ha:GT.agg α=true)(hf:∀M hs,Good E w M hs V->fw M (places.toArray[·]?) z vs y)(k:∀v,Holds E w (rd v y::V)->RL P n ops rest (cM U d v) w Q):RL P n ops (⟨some d, .build T parts,ty,pos,af,g⟩::rest) U w Q:=by
 obtain⟨M,hs,gd⟩:=hw;obtain⟨cs,h1,h2⟩:=hf M hs gd;have e1:parts.map (λ(i,x)=>(i,ev U x))=vs.toArray:=by grind
 refine zJ (v:= .agg cs) hg hd ?_<|k _ ⟨M,_,gd.el ⟨⟨cs.toList,by simp[oY,ha],h2⟩,rfl⟩⟩
 simp only[execOp,aM];rw[e1,hT.run]
 simp_all
end
def ko:List (Nat×Value)->(Nat->Value)->Nat->Value
 | [],O=>O
 |(d,v)::l,O=>cM (ko l O) d v
def agree(U:Nat->Value):List (Nat×Value)->Prop
 | []=>True
 |(d,v)::l=>U d=v/\agree U l
theorem agree.ko{U:Nat->Value}{l:List (Nat×Value)}(h:agree U l):∃O,U=Gk.ko l O:=by
 refine⟨U,?_⟩
 induction l with
 |nil=>rfl
 |cons p l ih=>
  obtain⟨d,v⟩:=p;obtain⟨h1,h2⟩:=h;have:=ih h2;funext t;show U t=cM (Gk.ko l U) d v t;unfold cM
  cases e:Nat.beq t d with
  |true=>grind [cV]
  |false=>rw[<-this];rfl
def idx{α:Type}(l:List α)(i:Int):Option α:=if 0<=i then l[i.toNat]? else none
def rF(s:aQ)(i:Int):Option UInt8:=if 0<=i then s.bF[i.toNat]? else none
def Fo.cs{S R β:Type}(o:Fo S R)(f:S->β)(g:R->β):β:=match o with| .go s=>f s| .rt r=>g r
section
variable {P:Program}{n:Nat}{U:Nat->Value}{w:World}{Q:dC}{x y c:Code}{S:Type}
theorem zX(J:S->(Nat->Value)->World->Prop)(s:S)(hx:RC P n x U w (λex U w=>ex = .normal/\J s U w))(hy:∀U w,J s U w->Q .normal U w):RC P n x U w Q:=
 by grind [RC.mono]
theorem vE{i:Nat}(h:Q (.exit i) U w):hG P n y Q (.exit i) U w:=h
theorem aH(h:Q .ret U w):hG P n y Q .ret U w:=h
theorem wj{i id:Nat}(hne:i≠id)(h:Q (.exit i) U w):oc id Q (.exit i) U w:=by grind [oc]
theorem bZ{id:Nat}(h:Q .ret U w):oc id Q .ret U w:=h
end
section
variable {α β:Type}[GT α][GT β]{P:Program}{E w:World}{V:List HP}{i:Nat}{v:Value}{x:α}
theorem Holds.eM{e:TypeId}{b:Nat}(h:Holds E w V)(hi:V[i]? =some (bx e b x)):Holds E w (V.set i<|pt (.pointer<|some ⟨b,0,none⟩) x):=by
 obtain⟨M,hs,g⟩:=h;have hlt:=bY hi;obtain⟨cs,ho,hh⟩:=g.sat i _ hi;have hb:hs i b=some (.cells cs.toArray e (0,0)):=by simp_all[bJ]
 refine⟨_,_,g.freeze (P':=pt _ x) hlt ⟨⟨⟨b,0,none⟩,cs,rfl,GT.mono (oT _ _) ho,λj u hu=>?_⟩,rfl⟩⟩;rw[Addr.add_lit];simp only[nF,mY,g.dm i b _ hlt hb,hb]
 grind
theorem Fd.comp{γ:Type}[GT γ]{k k':Nat}{f:α->β}{f':β->γ}(h:Fd k f)(h':Fd k' f')(hk:k'+GT.sz γ<=GT.sz β):Fd (k+k') (λx=>f'<|f x):=by
 intro M cs x ho;have h1:=h' M _ _<|h M cs x ho
 grind [List.drop_take,List.drop_drop,Nat.min_eq_left]
end
section
variable {α β:Type}[GT α][GT β]{P:Program}{n:Nat}{U:Nat->Value}{w:World}{Q:dC}{E:World}{V:List HP}{i j:Nat}
variable {ops:Array Oper}{rest:List Oper}{d:Nat}{ty t e T:TypeId}{pos:String}{af:Array Edge}{g:Option (Nat×Bool)}{v vy:Value}{q r:Operand}
variable {x:α}
theorem rG{b m:Nat}{o:Oper}{f:α->β}(ho:o.op = .load T q)(hw:Holds E w V)(hx:ev U q = .pointer (some ⟨b,m,none⟩))(hi:V[i]? =some (bx e b x))(hF:Fd m f)(hT:kn P T (GT.agg β) (GT.sz β)):
  ∃v,(execOp (ev U) o).run P w = .ok (.value v) w/\Holds E w (rd v (f x)::V):=by
 obtain⟨M,hs,gd⟩:=hw;obtain⟨cs,ho2,hh⟩:=gd.sat i _ hi;have hb:=gd.le i b _ (bY hi) (by rw[hh];exact bJ b _);have ho':=hF M cs x ho2;refine⟨oY β<|(cs.drop m).take<|GT.sz β,?_,⟨M,_,gd.el ⟨⟨_,rfl,ho'⟩,rfl⟩⟩⟩;have hl:(loadVar T ⟨b,m,none⟩).run P w = .ok (oY β<|(cs.drop m).take<|GT.sz β) w:=iU hT ho' λj u hu=>by
  rw[Addr.add_lit,cell_of_row w b _ _ _ _ hb]
  grind
 grind [execOp,Instr.loadAt,Instr.sureAddr,aM,aV,aS]
theorem eJ{γ:Type}[Sc γ]{b m:Nat}{o:Oper}{f:α->γ}{C:Bool}(i:Nat)(ho:o.op = .load T q)(hw:Holds E w V)(hx:C=true->ev U q = .pointer (some ⟨b,m,none⟩))(hi:V[i]? =some (bx e b x))(hF:Fd m f)(hT:kn P T false 1):
  C=true->(execOp (ev U) o).run P w = .ok (.value<|Sc.toV<|f x) w:=λh=>by
 obtain⟨v,h1,h2⟩:=rG (f:=f) ho hw (hx h) hi hF hT;rw[h1,h2.kp (i:=0) rfl]
theorem iM{b o' j m:Nat}{o:Oper}{C:Bool}(hf:pY P T j m)(ho:o.op = .fieldAddr T q j:=by exact rfl)(hx:C=true->ev U q = .pointer (some ⟨b,o',none⟩):=by exact(λ_=>rfl)):
  C=true->(execOp (ev U) o).run P w = .ok (.value<|.pointer<|some ⟨b,o'+m,none⟩) w:=λh=>by
 unfold execOp;rw[ho];simp only[hx h,aM,hf.run,aS,aV,Addr.add_lit]
theorem Ap{K K':IntKind}(a:Int){s s':TypeId}(hs:∃D,P.underlying s=some D)(ht:P.underlying s'=some (.int K'))(k:RL P n ops rest (cM U d<|.int K'<|K'.wrap a) w Q)(hg:Wn ops U g:=by exact trivial)(hd:Nat.blt d n=true:=by exact rfl)(hx:ev U q = .int K a:=by exact rfl):RL P n ops (⟨some d, .convert s s' q,ty,pos,af,g⟩::rest) U w Q:=by
 obtain⟨D,hD⟩:=hs;refine zJ hg hd ?_ k;have:(convert s s'<|.int K a).run P w = .ok (.int K'<|K'.wrap a) w:=by
  unfold convert;simp only[aM,run_underlying hD,run_underlying ht,aS];rfl
 grind [execOp,aM,aS,aV]
theorem o5{vs:List Value}{m:Nat}(hu:P.underlying t=some (.slice e))(hz:∃z,(∀w,(zeroValue e).run P w = .ok z w)/\z.cells.size=m)(hs:∀w,(sizeOf e).run P w = .ok m w)(hm:0<m)
  (hlen:vs.length*m<=16777216) (hvs:∀v∈vs,v.cells.size=m) (w:World):
  (Instr.buildSlice t vs.length (vs.zipIdx.map λp=>(p.2,p.1)).toArray).run P w =
   .ok (.slice (some ⟨w.heap.size,0,none⟩) vs.length vs.length) (w.alloc<|.cells (vs.flatMap λv=>v.cells.toList).toArray e):=by
 obtain⟨z,hz,hzs⟩:=hz;have key:∀(us:List Value)(k:Nat)(cells:Array Value),cells.size=(k+us.length)*m->(∀v∈us,v.cells.size=m)->
   ∃c',Instr.fill (λi=>some (i*m,m)) cells ((us.zipIdx k).map λp=>(p.2,p.1))=some c'/\c'.toList=cells.toList.take (k*m)++us.flatMap λv=>v.cells.toList:=by
  intro us
  induction us with
  |nil=>intro k cells hc _;exact⟨cells,rfl,by grind [mG]⟩
  |cons u us ih=>
   intro k cells hc hu';have hcu:=hu' u (by simp);simp only[jR]at hc;have hkm:k*m+m<=cells.size:=by
    rw[hc,show(k+(us.length+1))=(k+1)+us.length by omega,Nat.add_mul,Nat.add_mul,Nat.one_mul];omega
   have hsp:=uO u.cells.toList cells (k*m) (by simp[hcu,hkm]);simp only[Array.toArray_toList,Array.length_toList,hcu]at hsp;have hsz:(u.cells.zipIdx.foldl (λcs(c,j)=>cs.setIfInBounds (k*m+j) c) cells).size=(k+1+us.length)*m:=by
    have:=congrArg List.length hsp;simp only[Array.length_toList,g6,fX,jS,hcu]at this;rw[this,Nat.min_eq_left (by omega)];have:(k+1+us.length)*m=cells.size:=by rw[hc];congr 1;omega
    omega
   obtain⟨c',h1,h2⟩:=ih (k+1) _ hsz<|λv hv=>hu' v (by simp[hv])
   refine⟨c',?_,?_⟩
   ·rw[List.zipIdx_cons,fu];simp only[Instr.fill];rw[aR (by grind)];exact h1
   ·rw[h2,hsp,List.flatMap_cons];have e1:(cells.toList.take (k*m)++u.cells.toList).length=(k+1)*m:=by
     rw[g6,fX,Array.length_toList,Array.length_toList,hcu,Nat.min_eq_left (by omega),Nat.add_mul,Nat.one_mul]
    rw[<-e1,List.take_left,kV]
 have h0:(Array.map (λi=>z.cells[i % z.cells.size]!)<|Array.range<|vs.length*m).size=(0+vs.length)*m:=by simp
 obtain⟨c',h1,h2⟩:=key vs 0 _ h0 hvs;simp only[Nat.zero_mul,List.take_zero,List.nil_append]at h2;have hc':c'=(vs.flatMap λv=>v.cells.toList).toArray:=by rw[<-h2]
 subst hc';unfold Instr.buildSlice;simp only[aM,run_underlying hu,aS,hs];rw[aR (by omega)]
 by_cases hv:vs.length*m=0
 ·have:vs= []:=by
   grind [Nat.mul_eq_zero,List.eq_nil_of_length_eq_zero]
  subst this;have e0:Array.range 0 = #[]:=rfl;simp[Instr.fill,newRow,newObj,Sem.run,e0]
 simp_all[aR,aM,aS,aV,newRow,newObj,Sem.run]
def rH{α:Type}[GT α](M:cE):List Value->List α->Prop
 | [],[]=>True
 |v::vs,x::l=>m8 M v x/\rH M vs l
 |_,_=>False
theorem rH.spec{M:cE}:∀{vs:List Value}{l:List α},rH M vs l->vs.length=l.length/\(∀v∈vs,v.cells.size=GT.sz α)/\Cells M (vs.flatMap λv=>v.cells.toList) l
 | [],[],_=>⟨rfl,λ_ h=>by simp at h,Cells.nil⟩
 |v::vs,x::l,h=>by
  obtain⟨h1,h2⟩:=h;obtain⟨a,b,c⟩:=rH.spec h2;refine⟨by simp[a],λu hu=>?_,?_⟩
  ·rcases fm.1 hu with rfl|hu
   ·rw[<-GT.len h1.cells];simp
   ·exact b u hu
  ·rw[List.flatMap_cons];exact(Cells.one h1.cells).append c
 | [],_::_,h=>h.elim
 |_::_,[],h=>h.elim
structure vv (P:Program) (e:TypeId) (m:Nat):Prop where
 z:∃z,(∀w,(zeroValue e).run P w = .ok z w)/\z.cells.size=m
 sz:∀w,(sizeOf e).run P w = .ok m w
theorem Ay{m:Nat}{parts:Array (Nat×Operand)}(l:List α)(hw:Holds E w V)(vs:List Value)(hT:sO P t e (GT.sz α))(hz:vv P e (GT.sz α))(hel:∀M hs,Good E w M hs V->rH M vs l)(k:∀v w',Holds E w' (own e v l::V)->RL P n ops rest (cM U d v) w' Q)(hg:Wn ops U g:=by exact trivial)(hd:Nat.blt d n=true:=by exact rfl)(hparts:parts.toList.map (λp=>(p.1,ev U p.2))=vs.zipIdx.map λp=>(p.2,p.1):=by exact rfl)(hl:m=vs.length:=by exact rfl)(hm:Nat.ble (m*GT.sz α) 16777216=true:=by exact rfl):RL P n ops (⟨some d, .buildSlice t m parts,ty,pos,af,g⟩::rest) U w Q:=by
 subst hl;have hm':=Nat.ble_eq▸hm;obtain⟨M0,hs0,gd0⟩:=hw;obtain⟨hlen,hsz,hcells⟩:=(hel M0 hs0 gd0).spec;have hle:vs.length<=vs.length*GT.sz α:=Nat.le_mul_of_pos_right _ GT.pos;have hrun:=o5 (P:=P) hT.oZ hz.z hT.sz GT.pos hm' hsz w;refine zJ (v:= .slice (some ⟨w.heap.size,0,none⟩) vs.length vs.length) (w':=w.alloc<|.cells (vs.flatMap λv=>v.cells.toList).toArray e) hg hd ?_<|k _ _<|Holds.alloc ⟨M0,hs0,gd0⟩ _ λM hs gd=>?_
 ·have e1:parts.map (λ(i,x)=>(i,ev U x))=(vs.zipIdx.map λp=>(p.2,p.1)).toArray:=by grind
  simp_all[execOp,aM]
 ·obtain⟨_,_,hc⟩:=(hel M hs gd).spec;refine .inr ⟨w.heap.size,0,vs.length,_,_,by rw[hlen],by omega,by grind [maxLen],rfl,?_,?_,hc⟩
  ·simp only[fc,List.size_toArray,hc.1,hlen];exact cI _
  ·simp only[List.drop_zero];rw[<-hc.1];exact List.take_length
end
section
variable {α β ρ:Type}[GT α][GT β]{P:Program}{E:World}{V Γ':List HP}{fv:Value}
def uD(P:Program)(E:World)(V:List HP)(fv:Value)(φ:α->Option ρ)(toV:ρ->Value):Prop:=
 ∃f cap,fv = .func (.func f) #[] (List.toArray cap)/\fK P f/\∀(w:World)(Γl:List HP)(v:Value)(x:α)(r:ρ)(i:Nat),
  Holds E w (Γl++V)->(Γl++V)[i]? =some (rd v x)->φ x=some r->Calls P f ([v]++cap).toArray w (fi λu w'=>u=toV r/\Holds E w' (Γl++V))
def vF(P:Program)(E:World)(V:List HP)(fv:Value)(φ:α->β->Option ρ)(toV:ρ->Value):Prop:=
 ∃f cap,fv = .func (.func f) #[] (List.toArray cap)/\fK P f/\∀(w:World)(Γl:List HP)(v v':Value)(x:α)(y:β)(r:ρ)(i j:Nat),
  Holds E w (Γl++V)->(Γl++V)[i]? =some (rd v x)->(Γl++V)[j]? =some (rd v' y)->φ x y=some r->Calls P f ([v,v']++cap).toArray w (fi λu w'=>u=toV r/\Holds E w' (Γl++V))
theorem uD.lift{φ:α->Option ρ}{toV:ρ->Value}(h:uD P E V fv φ toV)(m:Nat)(hd:Γ'.drop m=V):uD P E Γ' fv φ toV:=by
 obtain⟨f,cap,e,hf,hc⟩:=h;subst hd;refine⟨f,cap,e,hf,λw Γl v x r i hw hi hr=>?_⟩;have e2:Γl++Γ'=(Γl++Γ'.take m)++Γ'.drop m:=by rw[kV,List.take_append_drop]
 grind
theorem vF.lift{φ:α->β->Option ρ}{toV:ρ->Value}(h:vF P E V fv φ toV)(m:Nat)(hd:Γ'.drop m=V):vF P E Γ' fv φ toV:=by
 obtain⟨f,cap,e,hf,hc⟩:=h;subst hd;refine⟨f,cap,e,hf,λw Γl v v' x y r i j hw hi hj hr=>?_⟩;have e2:Γl++Γ'=(Γl++Γ'.take m)++Γ'.drop m:=by rw[kV,List.take_append_drop]
 grind
theorem j6{Γl V:List HP}{j:Nat}{Pr:HP}(h:V[j]? =some Pr:=by exact rfl):(Γl++V)[Γl.length+j]? =some Pr:=by
 grind
variable {n:Nat}{U:Nat->Value}{w:World}{Q:dC}{i j:Nat}
variable {ops:Array Oper}{rest:List Oper}{d:Nat}{ty:TypeId}{pos:String}{af:Array Edge}{g:Option (Nat×Bool)}{v v':Value}{q r r':Operand}{ts:Array TypeId}
theorem Az{φ:α->Option ρ}{toV:ρ->Value}{x:α}{y:ρ}(i:Nat)(hw:Holds E w V)(hf:uD P E Γ' fv φ toV)(m:Nat)(hr:φ x=some y)(k:∀w',Holds E w' V->RL P n ops rest (cM U d<|toV y) w' Q)(hg:Wn ops U g:=by exact trivial)(hd:Nat.blt d n=true:=by exact rfl)(hq:ev U q=fv:=by exact rfl)(hdr:V.drop m=Γ':=by exact rfl)(hx:ev U r=v:=by exact rfl)(hi:V[i]? =some (rd v x):=by exact rfl):
  RL P n ops (⟨some d, .call ⟨.value q,#[r],ts⟩,ty,pos,af,g⟩::rest) U w Q:=by
 obtain⟨f,cap,e,hF,hc⟩:=hf.lift m hdr;refine An (hg:=hg) _ hd hF (by rw[hq,e]) [v] (by simp[hx])<|cG (hc w [] v x y i (by grind) (by grind) hr) ?_
 grind
theorem Am{φ:α->β->Option ρ}{toV:ρ->Value}{x:α}{x':β}{y:ρ}(i j:Nat)(hg:Wn ops U g)(hw:Holds E w V)(hf:vF P E Γ' fv φ toV)(m:Nat)(hr:φ x x'=some y)(k:∀w',Holds E w' V->RL P n ops rest (cM U d<|toV y) w' Q)(hd:Nat.blt d n=true:=by exact rfl)(hq:ev U q=fv:=by exact rfl)(hdr:V.drop m=Γ':=by exact rfl)(hx:ev U r=v:=by exact rfl)(hx':ev U r'=v':=by exact rfl)(hi:V[i]? =some (rd v x):=by exact rfl)(hj:V[j]? =some (rd v' x'):=by exact rfl):
  RL P n ops (⟨some d, .call ⟨.value q,#[r,r'],ts⟩,ty,pos,af,g⟩::rest) U w Q:=by
 obtain⟨f,cap,e,hF,hc⟩:=hf.lift m hdr;refine An (hg:=hg) _ hd hF (by rw[hq,e]) [v,v'] (by simp[hx,hx'])<|cG (hc w [] v v' x x' y i j (by grind) (by grind) (by grind) hr) ?_
 grind
end
section
variable {P:Program}{n:Nat}{U:Nat->Value}{w:World}{Q:dC}{E:World}{V:List HP}{x y:Code}
variable {ops:Array Oper}{rest:List Oper}{d:Nat}{ty T T':TypeId}{pos:String}{af:Array Edge}{g:Option (Nat×Bool)}{v:Value}{q r:Operand}
theorem AU(hc:ev U q = .bool true)(h:RC P n x U w Q):RC P n (.cond q x y) U w Q:=by grind [AP]
theorem AV(hc:ev U q = .bool false)(h:RC P n y U w Q):RC P n (.cond q x y) U w Q:=by grind [AP]
theorem y7{k m:Nat}(h:k<m):Value.bool (decide<|(k:Int)<(m:Int)) = .bool true:=by grind
theorem y8{m:Nat}:Value.bool (decide<|(m:Int)<(m:Int)) = .bool false:=by simp
theorem zP{k m:Nat}(hk:k<m)(hm:m<=4611686018427387904)(h:RL P n ops rest (cM U d<|.int .i64 ((k+1:Nat):Int)) w Q)(hg:Wn ops U g:=by exact trivial)(hd:Nat.blt d n=true:=by exact rfl)(hx:ev U q = .int .i64 (k:Int):=by exact rfl)(hy:ev U r = .int .i64 1:=by exact rfl):RL P n ops (⟨some d, .binOp .add T q r T',ty,pos,af,g⟩::rest) U w Q:=by
 refine zY (hg:=hg) (hd:=hd) (hx:=hx) (hy:=hy) (bop:= .add) _ _ ?_
 grind [tO]
theorem uN.of{P:Program}{t e:TypeId}{k b:Nat}(z:Value)(h3:z.cells.size=k)(h1:P.underlying t=some (.slice e):=by kernel_rfl)(h2:(P.info? e).map (λi=>(i.zero,i.size,i.bytes))=some (some z,k,b):=by kernel_rfl)(h4:0<b:=by decide):uN P t e k b:=by
 refine⟨h1,?_,h4⟩
 cases hi:P.info? e with
 |none=>grind
 |some i=>
  grind
theorem sU.of{P:Program}{T:TypeId}{fs:Array Field}{places:List (Nat×Nat)}(z:Value)(h1:P.underlying T=some (.struct fs))(h2:∀w,(zeroValue T).run P w = .ok z w:=by intro _;kernel_rfl)(h3:∀w,(fs.mapM (m:=Sem) λf:Field=>do pure (f.offset,<-sizeOf f.type)).run P w = .ok places.toArray w:=by intro _;kernel_rfl):sU P T places z.cells:=by
 refine⟨λparts w=>?_⟩;unfold Instr.build;simp only[aM,h2,aS,run_underlying h1];rw[h3];simp only[aS]
 cases Instr.fill (λx=>places.toArray[x]?) z.cells parts.toList <;> rfl
end
section
variable {α:Type}[GT α]{E w:World}{V L:List HP}{i:Nat}{v:Value}{x:α}{Pr R:HP}
theorem Holds.j7(h:Holds E w V)(hi:V[i]? =some (pt v x)):Holds E w (pt v x::V):=h.rA λ_ _ g=>⟨(g.sat i _ hi).1,rfl⟩
theorem Holds.aW(h:Holds E w V):Holds E w (Gk.aW::V):=h.rA λ_ _ _=>trivial
end
section
variable {P:Program}{n:Nat}{U:Nat->Value}{w:World}{Q:dC}
theorem o6{o:Oper}{a:Act}{K K':Act->World->Prop}{Q Q':Exit->Act->World->Prop}(hK:∀a w,K a w->K' a w)(hp:∀c a w,Q (.panic c) a w->Q' (.panic c) a w)(hl:LetsOut Q->LetsOut Q')
  (h:o.wp P a w K Q):o.wp P a w K' Q':=by
 unfold Oper.wp at *;generalize (execOp a.eval o).run P w=r at *
 cases r with
 |ok nx w'=>
  cases nx <;> simp only[Oper.upon]at h ⊢ <;>
   first
    |exact hK _ _ h
    |exact Calls.mono h (λe w'' he=>by grind)
    |exact Rows.mono h (λ_ _ he=>hK _ _ he)
 |halt x w'=>cases x <;> simp only[Oper.upon]at h ⊢ <;> exact hp _ _ _ h
def ins(D:Nat->Bool)(i:Nat):Nat->Bool:=λj=>bif Nat.beq j i then true else D j
def ie(D:Nat->Bool):List Edge->Prop
 | []=>True
 |e::l=>(Region.binds .any e=true->D e.on=true)/\ie D l
def iN(F:Nat->Oper->Prop):Nat->List Oper->Prop
 |_,[]=>True
 |k,o::l=>F k o/\iN F (k+1) l
def l4:Nat->List Oper->Bool
 |_,[]=>true
 |k,o::l=>(o.after.toList.all λe=> !Region.binds .any e||Nat.blt e.on k)&&l4 (k+1) l
theorem iN.at{F:Nat->Oper->Prop}:∀{k:Nat}{l:List Oper},iN F k l->∀i o,l[i]? =some o->F (k+i) o
 |_,[],_,i,o,h=>by simp at h
 |k,p::l,hs,0,o,h=>by simp at h;subst h;exact hs.1
 |k,p::l,hs,i+1,o,h=>by have:=iN.at hs.2 i o (by simpa using h);rw[show k+(i+1)=k+1+i by omega];exact this
theorem l4.at:∀{k:Nat}{l:List Oper},l4 k l=true->∀(i:Nat)(o:Oper),l[i]? =some o->∀e∈o.after,Region.binds .any e=true->e.on<k+i
 |_,[],_,i,o,h=>by simp at h
 |k,p::l,hs,0,o,h=>by
  simp at h;subst h;intro e he hb;have h1:=(bV _ _▸hs:_/\_).1;have:=gL.1 h1 e (by grind);rw[hb]at this;simpa using Nat.blt_eq▸this
 |k,p::l,hs,i+1,o,h=>by
  intro e he hb;have:=l4.at (bV _ _▸hs:_/\_).2 i o (by simpa using h) e he hb;omega
theorem rI{D:Nat->Bool}:∀(l:List Edge),(∀e∈l,Region.binds .any e=true->D e.on=true)->ie D l
 | [],_=>trivial
 |e::l,h=>⟨h e (by simp),rI l λe' he=>h e' (by simp[he])⟩
theorem Bo{id:Nat}{l:List Oper}(hm:P.follows .mixedOrders=true)(hdep:l4 0 l=true)(J:(Nat->Bool)->(Nat->Value)->World->Prop)
  (h0:J (λ_=>false) U w.drew)
  (step:iN (λi o=>∀D U w,D i=false->ie D o.after.toList->J D U w->RL P n l.toArray [o] U w (λex U w=>ex = .normal/\J (ins D i) U w)) 0 l)
  (hend:∀D U w,(∀i,i<l.length->D i=true)->J D U w->Q .normal U w):RC P n (.region id l.toArray true) U w Q:=by
 intro a ha;refine wp_region_any hm ?_;have key:∀(fuel:Nat)(listed:Array Bool)(a:Act)(w:World)(U:Nat->Value),listed.size=l.length->Sl n U a->J (λi=>listed.getD i false) U w->
   (listed.toList.countP (· =false))=fuel->wpAny P .any l.toArray (Lf n Q) fuel listed a w:=by
  have ends:∀(listed:Array Bool)(a:Act)(w:World)(U:Nat->Value),listed.size=l.length->Sl n U a->J (λi=>listed.getD i false) U w->Region.ready .any l.toArray listed= []->Lf n Q .normal a w:=by
   intro listed a w U hsz hs hJ hr;refine⟨U,hs,hend _ U w (λi hi=>?_) hJ⟩
   induction i using Nat.strongRecOn with
   |ind i ih=>
    cases e:listed.getD i false with
    |true=>rfl
    |false=>
     have hmem:i∈Region.ready .any l.toArray listed:=by
      unfold Region.ready;rw[List.mem_filter];refine⟨by grind,?_⟩;have hi':i<listed.size:=by omega
      have e1:listed.getD i true=false:=by
       simp only[Array.getD_eq_getD_getElem?,eG hi',Option.getD_some]at e ⊢;exact e
      rw[e1];simp only[nE,Bool.true_and,List.getElem?_toArray,aZ hi,Option.map_some,Option.getD_some];rw[Array.all_eq_true_iff_forall_mem];intro ed hed
      cases hb:Region.binds .any ed with
      |false=>rfl
      |true=>
       have hlt:=l4.at hdep i l[i] (aZ hi) ed hed hb;have:=ih ed.on (by omega) (by omega);rw[this];rfl
     rw[hr]at hmem
     cases hmem
  intro fuel
  induction fuel with
  |zero=>
   intro listed a w U hsz hs hJ hc;have hall:∀i,i<l.length->listed.getD i false=true:=by
    intro i hi;have hi':i<listed.size:=by omega
    have:=List.countP_eq_zero.1 hc listed[i] (by simp);simp only[Array.getD_eq_getD_getElem?,eG hi',Option.getD_some];simpa using this
   refine⟨?_,U,hs,hend _ U w hall hJ⟩;unfold Region.ready;rw[List.filter_eq_nil_iff];intro i hi;have hi2:i<l.length:=by simpa using hi
   have:=hall i hi2;have hi':i<listed.size:=by omega
   have e1:listed.getD i true=true:=by
    simp only[Array.getD_eq_getD_getElem?,eG hi',Option.getD_some]at this ⊢;exact this
   rw[e1];simp
  |succ fuel ih=>
   intro listed a w U hsz hs hJ hc;refine⟨λhr=>ends listed a w U hsz hs hJ hr,λi hi=>?_⟩;unfold Region.ready at hi;rw[List.mem_filter]at hi;obtain⟨hi1,hi2⟩:=hi;have hil:i<l.length:=by simpa using hi1
   have hi':i<listed.size:=by omega
   simp only[bV,Bool.not_eq_true']at hi2;obtain⟨hnot,hd⟩:=hi2;simp only[List.getElem?_toArray,aZ hil,Option.map_some,Option.getD_some]at hd;rw[Array.all_eq_true_iff_forall_mem]at hd;have hD:(λi=>listed.getD i false) i=false:=by
    simp only[Array.getD_eq_getD_getElem?,eG hi',Option.getD_some]at hnot ⊢;exact hnot
   have hst:=step.at i l[i]<|aZ hil
   rw[fc]at hst
   have hrun:=hst _ U w hD (rI _ λe he hb=>by
    grind) hJ a hs
   have hins:ins (λi=>listed.getD i false) i=λj=>(listed.setIfInBounds i true).getD j false:=by
    funext j;unfold ins
    cases e:Nat.beq j i with
    |true=>
     have:=cV e;subst this;simp[Array.getD_eq_getD_getElem?,hi']
    |false=>
     have hne:i≠j:=λh=>by subst h;simp at e
     simp[Array.getD_eq_getD_getElem?,Array.getElem?_setIfInBounds_ne hne]
   have hcount:(listed.setIfInBounds i true).toList.countP (· =false)=fuel:=by
    have h1:listed.toList=listed.toList.take i++listed[i]::listed.toList.drop (i+1):=by
     have:=List.take_append_drop i listed.toList;rw[List.drop_eq_getElem_cons (by omega)]at this;simpa using this.symm
    have hx:listed[i]=false:=by
     simp only[Array.getD_eq_getD_getElem?,eG hi',Option.getD_some]at hnot;exact hnot
    rw[h1,List.countP_append,List.countP_cons,hx]at hc;have h2:(listed.setIfInBounds i true).toList=listed.toList.take i++true::listed.toList.drop (i+1):=by
     rw[Array.toList_setIfInBounds,List.set_eq_take_append_cons_drop,aO (by omega)]
    rw[h2,List.countP_append,List.countP_cons];simp at hc ⊢;omega
   have hK:∀a' w',wpList P l.toArray (Lf n λex U w=>ex = .normal/\J (ins (λi=>listed.getD i false) i) U w) [] a' w'->wpAny P .any l.toArray (Lf n Q) fuel (listed.setIfInBounds i true) a' w':=by
    rintro a' w'⟨σ',hs',_,hJ'⟩;rw[hins]at hJ';exact ih _ a' w' σ' (by simp[hsz]) hs' hJ' hcount
   unfold wpOp;simp only[List.getElem?_toArray,aZ hil];unfold wpList at hrun;split at hrun
   ·rename_i hw;rw[aO hw]
    rcases hrun with hrun|⟨_,a0,w0,σ0,_,hbad,_⟩
    ·exact .inl<|o6 hK (λc a w h=>by obtain⟨_,_,hbad,_⟩:=h;cases hbad) (λh=>by obtain⟨_,_,_,_,hbad,_⟩:=h;cases hbad) hrun
    ·cases hbad
   ·rename_i hw;rw[aR hw];exact hK _ _ hrun
 refine key _ _ a w.drew U (by simp) ha ?_ (by simp[List.countP_replicate]);have:(λi=>(Array.replicate l.toArray.size false).getD i false)=λ_=>false:=by
  funext i;simp only[Array.getD_eq_getD_getElem?,Array.getElem?_replicate];split <;> rfl
 grind
def cB(D:Nat->Bool)(U:Nat->Value):List (Nat×Nat×Value)->Prop
 | []=>True
 |(i,d,v)::l=>(D i=true->U d=v)/\cB D U l
theorem ie.mono{D D':Nat->Bool}(h:∀i,D i=true->D' i=true):∀{l:List Edge},ie D l->ie D' l
 | [],_=>trivial
 |_::_,hl=>⟨λhb=>h _ (hl.1 hb),ie.mono h hl.2⟩
def k6(l:List Oper)(D:Nat->Bool):Prop:=∀i o,l[i]? =some o->D i=true->ie D o.after.toList
theorem rJ{D:Nat->Bool}{i k:Nat}(h:D k=true):ins D i k=true:=by
 grind [ins,Nat.beq]
theorem AW{id:Nat}{l:List Oper}(hm:P.follows .mixedOrders=true)(hdep:l4 0 l=true)(J:(Nat->Bool)->(Nat->Value)->World->Prop)
  (h0:J (λ_=>false) U w.drew)
  (step:iN (λi o=>∀D U w,D i=false->ie D o.after.toList->k6 l D->J D U w->RL P n l.toArray [o] U w (λex U w=>ex = .normal/\J (ins D i) U w)) 0 l)
  (hend:∀D U w,(∀i,i<l.length->D i=true)->J D U w->Q .normal U w):RC P n (.region id l.toArray true) U w Q:=by
 refine Bo hm hdep (λD U w=>k6 l D/\J D U w) ⟨λi o _ h=>(by cases h),h0⟩ ?_<|λD U w hall h=>hend D U w hall h.2
 have key:∀(k:Nat)(m:List Oper),(∀i o,m[i]? =some o->l[k+i]? =some o)->iN (λi o=>∀D U w,D i=false->ie D o.after.toList->k6 l D->J D U w->RL P n l.toArray [o] U w (λex U w=>ex = .normal/\J (ins D i) U w)) k m->
   iN (λi o=>∀D U w,D i=false->ie D o.after.toList->(k6 l D/\J D U w)->RL P n l.toArray [o] U w (λex U w=>ex = .normal/\(k6 l (ins D i)/\J (ins D i) U w))) k m:=by
  intro k m
  induction m generalizing k with
  |nil=>intro _ _;trivial
  |cons o m ih=>
   intro hat hs;refine⟨λD U w hD hd hJ a ha=>?_,ih (k+1) (λi o h=>by have:=hat (i+1) o (by simpa using h);grind) hs.2⟩;have h1:=hs.1 D U w hD hd hJ.1 hJ.2 a ha;have hcl:k6 l (ins D k):=by
    intro i o' ho hi
    by_cases e:i=k
    ·subst e;have:=hat 0 o rfl;rw[Nat.add_zero,ho]at this;injection this with this
     subst this;exact ie.mono (λ_ h=>rJ h) hd
    ·have hDi:D i=true:=by
      unfold ins at hi;have:Nat.beq i k=false:=by
       cases hx:Nat.beq i k with
       |false=>rfl
       |true=>exact absurd (cV hx) e
      rw[this]at hi;exact hi
     exact ie.mono (λ_ h=>rJ h)<|hJ.1 i o' ho hDi
   unfold wpList at h1 ⊢;split at h1
   ·rename_i hw;rw[aO hw]
    rcases h1 with h1|⟨h2,h3⟩
    ·refine .inl<|o6 (λa w h=>?_) (λc a w h=>?_) (λh=>?_) h1
     ·obtain⟨σ',hs',he,hJ'⟩:=h;exact⟨σ',hs',he,hcl,hJ'⟩
     ·obtain⟨_,_,hbad,_⟩:=h;cases hbad
     ·obtain⟨_,_,_,_,hbad,_⟩:=h;cases hbad
    ·obtain⟨_,_,_,_,hbad,_⟩:=h3;cases hbad
   ·rename_i hw;rw[aR hw];obtain⟨σ',hs',he,hJ'⟩:=h1;exact⟨σ',hs',he,hcl,hJ'⟩
 grind
theorem cB.at{D:Nat->Bool}:∀{dv:List (Nat×Nat×Value)}(_:cB D U dv)(k:Nat){j d:Nat}{v:Value}(_:dv[k]? =some (j,d,v)),D j=true->U d=v
 | [],_,k,_,_,_,hk=>by simp at hk
 |(i,d',v')::l,h,0,j,d,v,hk=>by
  simp at hk;obtain⟨rfl,rfl,rfl⟩:=hk;exact h.1
 |(i,d',v')::l,h,k+1,j,d,v,hk=>cB.at h.2 k (by grind)
def o7(j d:Nat):Nat->List (Nat×Nat×Value)->Bool
 |_,[]=>true
 | 0,_::l=>dfreeA l
 |k+1,(i,t,_)::l=> !Nat.beq i j&& !Nat.beq t d&&o7 j d k l
where dfreeA:List (Nat×Nat×Value)->Bool
 | []=>true
 |(i,t,_)::l=> !Nat.beq i j&& !Nat.beq t d&&dfreeA l
theorem cB.up{D:Nat->Bool}{j d:Nat}{v:Value}:∀{dv:List (Nat×Nat×Value)}(_:cB D U dv)(_:o7.dfreeA j d dv=true),cB (ins D j) (cM U d v) dv
 | [],_,_=>trivial
 |(i,t,u)::l,h,hf=>by
  unfold o7.dfreeA at hf;simp only[bV,Bool.not_eq_true']at hf;refine⟨λhi=>?_,cB.up h.2 hf.2⟩;unfold ins at hi;rw[hf.1.1]at hi;unfold cM;rw[hf.1.2];exact h.1 hi
theorem cB.put{D:Nat->Bool}{j d:Nat}{v v':Value}:∀{dv:List (Nat×Nat×Value)}(_:cB D U dv)(k:Nat)(_:dv[k]? =some (j,d,v))(_:o7 j d k dv=true),cB (ins D j) (cM U d v') (dv.set k (j,d,v'))
 | [],_,k,hk,_=>by simp at hk
 |(i,t,u)::l,h,0,hk,hf=>by
  refine⟨λ_=>?_,cB.up h.2 hf⟩;unfold cM;have:Nat.beq d d=true:=Nat.beq_refl d;rw[this];rfl
 |(i,t,u)::l,h,k+1,hk,hf=>by
  unfold o7 at hf;simp only[bV,Bool.not_eq_true']at hf;refine⟨λhi=>?_,cB.put h.2 k (by simpa using hk) hf.2⟩;unfold ins at hi;rw[hf.1.1]at hi;unfold cM;rw[hf.1.2];exact h.1 hi
theorem cB.re{D:Nat->Bool}{j d:Nat}{v v':Value}:∀{dv:List (Nat×Nat×Value)}(_:cB D U dv)(k:Nat)(_:dv[k]? =some (j,d,v))(_:D j=true->False),cB D U (dv.set k (j,d,v'))
 | [],_,k,hk,_=>by simp at hk
 |(i,t,u)::l,h,0,hk,hf=>by
  simp at hk;obtain⟨rfl,rfl,rfl⟩:=hk;exact⟨λhi=>(hf hi).elim,h.2⟩
 |(i,t,u)::l,h,k+1,hk,hf=>⟨h.1,cB.re h.2 k (by simpa using hk) hf⟩
theorem nf{b:Bool}(h:b=true->False):b=false:=by grind
theorem cB.no{D:Nat->Bool}{j:Nat}:∀{dv:List (Nat×Nat×Value)}(_:cB D U dv)(_:(dv.all λx=> !Nat.beq x.1 j)=true),cB (ins D j) U dv
 | [],_,_=>trivial
 |(i,t,u)::l,h,hf=>by
  rw[List.all_cons,bV,Bool.not_eq_true']at hf;refine⟨λhi=>?_,cB.no h.2 hf.2⟩;unfold ins at hi;rw[hf.1]at hi;exact h.1 hi
theorem Holds.same{E w:World}{V Γ':List HP}(h:Holds E w V)(e:Γ'=V):Holds E w Γ':=by grind
theorem vG{V:List HP}{i:Nat}{Pr R:HP}(h:V[i]? =some Pr)(e:R=Pr):V.set i R=V:=by grind [o4]
theorem Holds.dL{E w:World}{V:List HP}(i:Nat){b:Bool}{R Pr:HP}(h:Holds E w V)(hb:b=false)(hi:V[i]? =some (bif b then R else Pr):=by exact rfl):Holds E w (V.set i Pr):=by grind [vG]
theorem Holds.ea{E w:World}{V:List HP}(i:Nat){b:Bool}{R Pr:HP}(h:Holds E w V)(hb:b=true)(hi:V[i]? =some (bif b then R else Pr):=by exact rfl):Holds E w (V.set i R):=by grind [vG]
theorem Holds.cS{E w:World}{V:List HP}(i:Nat)(b:Bool){Pr:HP}(h:Holds E w V)(hb:b=true)(R:HP)(hi:V[i]? =some Pr:=by exact rfl):Holds E w (V.set i (bif b then Pr else R)):=by grind [vG]
theorem Holds.tP{E w:World}{V:List HP}(i:Nat)(b:Bool){Pr:HP}(h:Holds E w V)(hb:b=false)(R:HP)(hi:V[i]? =some Pr:=by exact rfl):Holds E w (V.set i (bif b then R else Pr)):=by grind [vG]
theorem ft{b:Bool}(h1:b=false)(h2:b=true):False:=by grind
theorem agree.at:∀{l:List (Nat×Value)}(_:agree U l)(k:Nat){d:Nat}{v:Value}(_:l[k]? =some (d,v)),U d=v
 | [],_,k,_,_,hk=>by simp at hk
 |(d',v')::l,h,0,d,v,hk=>by simp at hk;obtain⟨rfl,rfl⟩:=hk;exact h.1
 |(d',v')::l,h,k+1,d,v,hk=>agree.at h.2 k (by grind)
def jV(d:Nat):List (Nat×Value)->Bool
 | []=>true
 |(t,_)::l=> !Nat.beq t d&&jV d l
theorem agree.up{d:Nat}{v:Value}:∀{l:List (Nat×Value)}(_:agree U l)(_:jV d l=true),agree (cM U d v) l
 | [],_,_=>trivial
 |(t,u)::l,h,hf=>by
  unfold jV at hf;simp only[bV,Bool.not_eq_true']at hf;refine⟨?_,agree.up h.2 hf.2⟩;unfold cM;rw[hf.1];exact h.1
theorem agree.c{d:Nat}{v:Value}{l:List (Nat×Value)}(h:U d=v)(hl:agree U l):agree U ((d,v)::l):=⟨h,hl⟩
theorem agree.z:agree U []:=trivial
theorem cB.none:∀{dv:List (Nat×Nat×Value)},cB (λ_=>false) U dv
 | []=>trivial
 |(_,_,_)::_=>⟨λh=>(by cases h),cB.none⟩
variable {ops:Array Oper}{rest:List Oper}{d:Nat}{ty T T':TypeId}{pos:String}{af:Array Edge}{g:Option (Nat×Bool)}{v:Value}{q r:Operand}
theorem o8{f:FuncId}{fn:Func}(e:Array Value->Sem Value){args:Array Value}(hf:P.funcs[f]? =some fn)(hr:(e args).run P w = .ok v w)(hname:(fn.name== "runtime.NumGoroutine")=false:=by kernel_rfl)(hb:fn.body.isNone=true:=by kernel_rfl)(hn:Extern.findNext fn=none:=by kernel_rfl)(he:Extern.find fn=some e:=by kernel_rfl):(callFunc f args).run P w = .ok (.value v) w:=by
 simp_all[run_callFunc_extern]
theorem AX{f:FuncId}{args:Array Operand}{ts:Array TypeId}(v:Value)(hd:Nat.blt d n=true)(vs:List Value)(hvs:args.toList.map (ev U)=vs)(hf:(callFunc f vs.toArray).run P w = .ok (.value v) w)(k:RL P n ops rest (cM U d v) w Q)(hg:Wn ops U g:=by exact trivial):
  RL P n ops (⟨some d, .call ⟨.value<|.func f,args,ts⟩,ty,pos,af,g⟩::rest) U w Q:=by
 have e:args.map (ev U)=vs.toArray:=by grind
 refine zJ hg hd ?_ k;simp only[execOp,resolve,aM];simp only[ev,Deferred.ofValue,e,aV,aS,invoke]
 grind
end
theorem str_inj{a b:aQ}:(⟨a.bF.toArray⟩:ByteArray)= ⟨b.bF.toArray⟩↔a=b:=by
 constructor
 ·intro h;have h1:a.bF.toArray=b.bF.toArray:=congrArg ByteArray.data h;have h2:a.bF=b.bF:=by grind
  cases a;simp_all
 grind
theorem tr(a b:aQ):((⟨a.bF.toArray⟩:ByteArray)==⟨b.bF.toArray⟩)= decide (a=b):=by
 have e:((⟨a.bF.toArray⟩:ByteArray)==⟨b.bF.toArray⟩)=(a.bF.toArray==b.bF.toArray):=rfl
 grind [str_inj]
section
variable {P:Program}{w:World}{T:TypeId}{fs:Array Field}{xs ys:Array Value}{d:Nat}
inductive uP (P:Program) (w:World) (d:Nat) (xs ys:Array Value):List Field->List Bool->Prop
 |nil:uP P w d xs ys [] []
 |cons {f:Field} {l:List Field} {b:Bool} {bs:List Bool} {x y:Value} (hn:f.name≠ "_") (hx:(part f.type xs f.offset).run P w = .ok x w) (hy:(part f.type ys f.offset).run P w = .ok y w)
   (he:(Op.equalIn d f.type x y).run P w = .ok b w) (h:uP P w d xs ys l bs):uP P w d xs ys (f::l) (b::bs)
theorem kq(d:Nat)(hu:P.underlying T=some (.struct fs)){bs:List Bool}(h:uP P w d xs ys fs.toList bs)(hs:P.stoodInHeld T=false:=by kernel_rfl):
  (Op.equalIn (d+1) T (.agg xs)<|.agg ys).run P w = .ok (bs.all id) w:=by
 obtain⟨l⟩:=fs;rw[Op.equalIn];simp only[aM,run_underlying hu,aS,program,Sem.run,hs,List.forIn_toArray];rw[aR (by decide)];simp only at h;simp only[aM,aV,aS];clear hu
 induction h with
 |nil=>simp
 | @cons f l b bs x y hn hx hy he h ih=>
  simp only[List.forIn_cons,hn,ne_eq,not_false_eq_true,if_true,aM,hx,hy,he,aS]
  cases b with
  |true=>simp_all
  |false=>simp
structure wS (P:Program) (T:TypeId) (α:Type) [GT α] [DecidableEq α]:Prop where
 eq:∀(M:cE)(cs ds:List Value)(a b:α)(w:World),GT.ok M cs a->GT.ok M ds b->(Op.equal T (oY α cs)<|oY α ds).run P w = .ok (decide<|a=b) w
 y9:P.eqGuardType P.depth T=false
end
section
variable {α:Type}[GT α][DecidableEq α]{P:Program}{n:Nat}{U:Nat->Value}{w:World}{Q:dC}{E:World}{V:List HP}{i j:Nat}
variable {ops:Array Oper}{rest:List Oper}{d:Nat}{ty T T':TypeId}{pos:String}{af:Array Edge}{g:Option (Nat×Bool)}{v v':Value}{q r:Operand}{a b:α}
theorem run_seq(hw:Holds E w V)(hi:V[i]? =some (rd v a))(hj:V[j]? =some (rd v' b))(hT:wS P T α)(hag:GT.agg α=true):
  ((eqGuard .eql T q r v v').run P w = .ok () w/\(binOp .eql T v v').run P w = .ok (.bool<|decide<|a=b) w)/\
  ((eqGuard .neq T q r v v').run P w = .ok () w/\(binOp .neq T v v').run P w = .ok (.bool<|!decide (a=b)) w):=by
 obtain⟨M,hs,gd⟩:=hw;obtain⟨cs,hv,ho⟩:=(gd.sat i _ hi).1;obtain⟨ds,hv',ho'⟩:=(gd.sat j _ hj).1;have he:=hT.eq M cs ds a b w ho ho';rw[<-hv,<-hv']at he;have e1:v = .agg cs.toArray:=by grind [oY]
 have e2:v' = .agg ds.toArray:=by grind [oY]
 subst e1;subst e2;refine⟨⟨?_,?_⟩,?_,?_⟩
 ·simp[eqGuard,program,Sem.run,hT.y9]
 ·grind [binOp,aM,aS,aV]
 ·simp[eqGuard,program,Sem.run,hT.y9]
 grind [binOp,aM,aS,aV]
theorem A9(i j:Nat)(a b:α)(hg:Wn ops U g)(hd:Nat.blt d n=true)(hw:Holds E w V)(hx:ev U q=v)(hy:ev U r=v')(hi:V[i]? =some (rd v a))(hj:V[j]? =some (rd v' b))(hT:wS P T α)(hag:GT.agg α=true)(k:RL P n ops rest (cM U d<|.bool<|decide<|a=b) w Q):RL P n ops (⟨some d, .binOp .eql T q r T',ty,pos,af,g⟩::rest) U w Q:=by
 obtain⟨⟨h1,h2⟩,_⟩:=run_seq (q:=q) (r:=r) hw hi hj hT hag;refine zJ hg hd ?_ k
 grind [execOp,aM,aS,aV]
end
theorem ei{P:Program}{T:TypeId}(hT:kn P T false 1){xs:Array Value}{k:Nat}{x:Value}(h:xs[k]? =some x)(w:World):(part T xs k).run P w = .ok x w:=by
 simp[part,hT.wQ,h]
theorem k7{P:Program}{T:TypeId}{K:IntKind}{d:Nat}(hu:P.underlying T=some (.int K))(a b:Int)(w:World):(Op.equalIn (d+1) T (.int K a)<|.int K b).run P w = .ok (a==b) w:=by
 rw[Op.equalIn];simp only[aM,run_underlying hu,aS];simp
theorem nc{P:Program}{T:TypeId}{d:Nat}(hu:P.underlying T=some .string)(a b:aQ)(w:World):(Op.equalIn (d+1) T (str a)<|str b).run P w = .ok (decide<|a=b) w:=by
 rw[Op.equalIn];simp only[aM,run_underlying hu,aS,str];simp[tr]
def uQ{α:Type}(l:List α)(lo hi:Int):Option (List α):=if 0<=lo/\lo<=hi/\hi<=l.length then some ((l.drop lo.toNat).take (hi - lo).toNat)else none
section
variable {α:Type}[GT α]{P:Program}{n:Nat}{U:Nat->Value}{w:World}{Q:dC}{E:World}{V:List HP}{i:Nat}
variable {ops:Array Oper}{rest:List Oper}{d:Nat}{ty T e:TypeId}{pos:String}{af:Array Edge}{g:Option (Nat×Bool)}{v:Value}{q:Operand}{l l':List α}{lo hi:Int}
theorem rK{M:cE}{a:Option Addr}{m cap:Nat}(h:ib M (.slice a m cap) l)(h0:0<=lo)(h1:lo<=hi)(h2:hi<=l.length):
  ib M (.slice (if cap=lo.toNat then a else a.map (·.add (lo.toNat*GT.sz α))) (hi.toNat - lo.toNat)<|cap - lo.toNat) ((l.drop lo.toNat).take (hi - lo).toNat):=by
 obtain⟨a',m',cap',hv,hm,hc,hx,hel⟩:=h;injection hv with e1 e2 e3
 subst e1;subst e2;subst e3;refine⟨_,_,_,rfl,?_,by omega,by omega,λk x hk=>?_⟩
 ·grind
 ·rw[fJ]at hk
  grind [GT.sz,add_add,Nat.add_mul]
theorem qK{a:Option Addr}{m cap:Nat}{lov hiv:Option Value}(hT:sO P T e (GT.sz α))(hl:lov=some (.int .i64 lo)\/(lov=none/\lo=0))(hh:hiv=some (.int .i64 hi)\/(hiv=none/\hi=m))
  (h0:0<=lo) (h1:lo<=hi) (h2:hi<=m) (hc:m<=cap) (w:World):
  (Instr.sliceAt T (.slice a m cap) lov hiv none).run P w = .ok (.slice (if cap=lo.toNat then a else a.map (·.add (lo.toNat*GT.sz α))) (hi.toNat - lo.toNat)<|cap - lo.toNat) w:=by
 have eh:(Instr.sliceBounds true m cap lov hiv none).run P w = .ok (lo.toNat,hi.toNat,cap) w:=by
  unfold Instr.sliceBounds;have e1:∀(y:Nat)(c:BoundsCode),hi<=y->(Instr.sliceBound (.int .i64 hi) y c).run P w = .ok hi.toNat w:=λy c hy=>by
   simp[Instr.sliceBound,asIntOf,show 0<=hi by omega,hy]
  have e2:∀(y:Nat)(c:BoundsCode),lo<=y->(Instr.sliceBound (.int .i64 lo) y c).run P w = .ok lo.toNat w:=λy c hy=>by
   simp_all[Instr.sliceBound,asIntOf]
  grind [aM,aV,aS]
 unfold Instr.sliceAt;simp only[aM,run_underlying hT.oZ,aS];unfold Instr.slice;simp only[aM,run_underlying hT.oZ,aS,eh,hT.sz,aV]
theorem AJ{lop hip:Option Operand}(i:Nat)(hd:Nat.blt d n=true)(hw:Holds E w V)(hx:ev U q=v)(hi':V[i]? =some (rd v l))(hT:sO P T e (GT.sz α))(hl:lop.map (ev U)=some (.int .i64 lo)\/(lop.map (ev U)=none/\lo=0))(hb:uQ l lo hi=some l')(k:∀v',Holds E w (rd v' l'::V)->RL P n ops rest (cM U d v') w Q)(hg:Wn ops U g:=by exact trivial)(hh:hip.map (ev U)=some (.int .i64 hi)\/(hip.map (ev U)=none/\hi=(l.length:Nat)):=by exact(.inl rfl)):
  RL P n ops (⟨some d, .slice T q lop hip none,ty,pos,af,g⟩::rest) U w Q:=by
 unfold uQ at hb;split at hb
 ·rename_i hc;injection hb with hb
  subst hb;obtain⟨M,hs,gd⟩:=hw;have hs':=iS.1 (gd.sat i _ hi').1;obtain⟨a,m,cap,hv,hm,hcap,_⟩:=hs';subst hv;have hs2:=iS.1 (gd.sat i _ hi').1;have hcut:=rK hs2 hc.1 hc.2.1 hc.2.2;refine zJ hg hd ?_<|k _ ⟨M,_,gd.el ⟨iS.2 hcut,rfl⟩⟩
  grind [qK,execOp,aM,aS,aV]
 ·cases hb
end
def nd(s:aQ)(lo hi:Int):Option aQ:=if 0<=lo/\lo<=hi/\hi<=s.bF.length then some ⟨(s.bF.drop lo.toNat).take (hi - lo).toNat⟩else none
section
variable {P:Program}{n:Nat}{U:Nat->Value}{w:World}{Q:dC}{E:World}{V:List HP}{i:Nat}
variable {ops:Array Oper}{rest:List Oper}{d:Nat}{ty T T':TypeId}{pos:String}{af:Array Edge}{g:Option (Nat×Bool)}{v:Value}{q r:Operand}{lo hi:Int}
theorem AY{lop hip:Option Operand}(s:aQ){s':aQ}(hd:Nat.blt d n=true)(hx:ev U q=str s)(hT:P.underlying T=some .string)(hl:lop.map (ev U)=some (.int .i64 lo)\/(lop.map (ev U)=none/\lo=0))(hh:hip.map (ev U)=some (.int .i64 hi)\/(hip.map (ev U)=none/\hi=(s.bF.length:Nat)))(hb:nd s lo hi=some s')(k:RL P n ops rest (cM U d<|str s') w Q)(hg:Wn ops U g:=by exact trivial):
  RL P n ops (⟨some d, .slice T q lop hip none,ty,pos,af,g⟩::rest) U w Q:=by
 unfold Gk.nd at hb;split at hb
 ·rename_i hc;injection hb with hb
  subst hb;refine zJ hg hd ?_ k;have esz:(⟨s.bF.toArray⟩:ByteArray).size=s.bF.length:=rfl;have eb:(Instr.sliceBounds false s.bF.length s.bF.length (lop.map<|ev U) (hip.map<|ev U) none).run P w = .ok (lo.toNat,hi.toNat,s.bF.length) w:=by
   unfold Instr.sliceBounds;have e1:∀(y:Nat)(c:BoundsCode),hi<=y->(Instr.sliceBound (.int .i64 hi) y c).run P w = .ok hi.toNat w:=λy c hy=>by
    simp[Instr.sliceBound,asIntOf,show 0<=hi by omega,hy]
   have e2:∀(y:Nat)(c:BoundsCode),lo<=y->(Instr.sliceBound (.int .i64 lo) y c).run P w = .ok lo.toNat w:=λy c hy=>by
    simp_all[Instr.sliceBound,asIntOf]
   grind [aM,aV,aS]
  have ex:(⟨s.bF.toArray⟩:ByteArray).extract lo.toNat hi.toNat= ⟨((s.bF.drop lo.toNat).take (hi - lo).toNat).toArray⟩:=by
   apply ByteArray.ext;simp only[ByteArray.data_extract]
   grind
  simp only[execOp,hx,aM,Option.map_none,Instr.sliceAt,run_underlying hT,aS,Instr.slice,str]
  simp_all
 ·cases hb
end
def uE{α:Type}(a:Nat)(ds xs:List α):List α:=xs.take a++ds++xs.drop (a+ds.length)
theorem sX{α:Type}{a:Nat}{ds xs:List α}(h:a+ds.length<=xs.length):(uE a ds xs).length=xs.length:=by
 unfold uE;grind
theorem qL{α:Type}{a:Nat}{ds xs:List α}(h:a+ds.length<=xs.length)(t:Nat):
  (uE a ds xs)[t]? =if t<a then xs[t]? else if t<a+ds.length then ds[t - a]? else xs[t]? :=by
 unfold uE
 grind
def wT(v:Value)(k sz off:Nat)(p:Value):Prop:=∃a n c,v = .slice (some a) n c/\p = .pointer (some<|a.add<|k*sz+off)
theorem qh{i k sz:Nat}(h:i<k):i*sz+sz<=k*sz:=by
 calc i*sz+sz=(i+1)*sz:=by rw[Nat.add_mul,Nat.one_mul]
  _<=k*sz:=Nat.mul_le_mul_right _ h
section
variable {α β:Type}[GT α][GT β]{P:Program}{n:Nat}{U:Nat->Value}{w:World}{Q:dC}{E:World}{V:List HP}{i j:Nat}
variable {ops:Array Oper}{rest:List Oper}{d:Nat}{ty T T' e:TypeId}{pos:String}{af:Array Edge}{g:Option (Nat×Bool)}{v u p:Value}{q r:Operand}{l l':List α}{x:α}{jj:Int}{k off:Nat}
theorem l5{α:Type}{l:List α}{jj:Int}{x:α}(h:idx l jj=some x):0<=jj/\l[jj.toNat]? =some x/\jj.toNat<l.length:=by
 grind [idx,bS]
theorem Bp{K:IntKind}(hg:Wn ops U g)(hd:Nat.blt d n=true)(hw:Holds E w V)(hx:ev U q=v)(hy:ev U r = .int K jj)(hi:V[i]? =some (own e v l))
  (hT:sO P T e (GT.sz α)) (hj:idx l jj=some x) (kk:∀p,wT v jj.toNat (GT.sz α) 0 p->RL P n ops rest (cM U d p) w Q):
  RL P n ops (⟨some d, .indexAddr T q r,ty,pos,af,g⟩::rest) U w Q:=by
 obtain⟨h0,hx',hlt⟩:=l5 hj;obtain⟨M,hs,gd⟩:=hw
 rcases gd.sat i _ hi with⟨rfl,rfl,_⟩|⟨b,o,cap,cur,xs,rfl,h2,_⟩
 ·simp at hlt
 ·refine zJ (v:= .pointer<|some<|(⟨b,o,none⟩:Addr).add<|jj.toNat*GT.sz α) hg hd ?_<|kk _ ⟨_,_,_,rfl,by rw[Nat.add_zero]⟩
  have hlt':jj<(l.length:Nat):=by omega
  simp only[execOp,hx,hy,Instr.indexAt,asIntOf,aM,aV,aS,run_underlying hT.oZ,hT.sz,h0,hlt',and_self,if_true]
def wL(v:Value)(k sz off:Nat):Value:=match v with| .slice (some a) _ _=> .pointer (some<|a.add<|k*sz+off)|_=>undef
theorem xO{w E:World}{V:List HP}{i:Nat}{v:Value}{l:List α}{jj:Int}{x:α}(hw:Holds E w V)(hi:V[i]? =some (own e v l))(hx:idx l jj=some x)(off:Nat):wT v jj.toNat (GT.sz α) off (wL v jj.toNat (GT.sz α) off):=by
 obtain⟨h0,hx',hlt⟩:=l5 hx;obtain⟨M,hs,gd⟩:=hw
 rcases gd.sat i _ hi with⟨rfl,rfl,_⟩|⟨b,o,cap,cur,xs,rfl,h2,_⟩
 ·simp at hlt
 ·exact⟨_,_,_,rfl,rfl⟩
theorem AD{K:IntKind}(i:Nat)(hd:Nat.blt d n=true)(hw:Holds E w V)(hx:ev U q=v)(hy:ev U r = .int K jj)(hi:V[i]? =some (own e v l))(hT:sO P T e (GT.sz α))(hj:idx l jj=some x)(kk:RL P n ops rest (cM U d<|wL v jj.toNat (GT.sz α) 0) w Q)(hg:Wn ops U g:=by exact trivial):
  RL P n ops (⟨some d, .indexAddr T q r,ty,pos,af,g⟩::rest) U w Q:=
 Bp hg hd hw hx hy hi hT hj λp hp=>by
  obtain⟨a,n',c,hv,rfl⟩:=hp;have:wL v jj.toNat (GT.sz α) 0 = .pointer (some<|a.add<|jj.toNat*GT.sz α+0):=by rw[hv];rfl
  rw[<-this];exact kk
theorem A_{f:α->β}(hg:Wn ops U g)(hd:Nat.blt d n=true)(hw:Holds E w V)(hx:ev U q=p)(hp:wT v k (GT.sz α) off p)(hi:V[i]? =some (own e v l))(hl:l[k]? =some x)(hF:Fd off f)
  (hT:kn P T (GT.agg β) (GT.sz β)) (kk:∀u,Holds E w (rd u (f x)::V)->RL P n ops rest (cM U d u) w Q):RL P n ops (⟨some d, .load T q,ty,pos,af,g⟩::rest) U w Q:=by
 obtain⟨M,hs,gd⟩:=hw;obtain⟨a,n',c,hv,hpp⟩:=hp;have hkl:=(bS.1 hl).1
 rcases gd.sat i _ hi with⟨hv',rfl,_⟩|⟨b,o,cap,cur,xs,hv',h2,h3,h4,h5,h6,h7⟩
 ·simp at hkl
 ·rw[hv]at hv';injection hv' with e1 e2 e3
  injection e1 with e1
  subst e1;have hb:=gd.le i b _ (bY hi) (by rw[h4];exact bJ b _);have ho:=hF M _ x<|h7.2 k x hl
  refine zJ (v:=oY β<|(((xs.drop<|k*GT.sz α).take<|GT.sz α).drop off).take<|GT.sz β) hg hd ?_<|kk _ ⟨M,_,gd.el ⟨⟨_,rfl,ho⟩,rfl⟩⟩
  simp only[execOp,hx,hpp,Instr.loadAt,Instr.sureAddr,aM,aV,aS];rw[iU hT ho<|λt y hy=>?_];rfl
  grind [Addr.add_lit,cell_of_row]
theorem Bq{γ:Type}[Sc γ]{f:α->γ}(hg:Wn ops U g)(hd:Nat.blt d n=true)(hw:Holds E w V)(hx:ev U q=p)(hp:wT v k (GT.sz α) off p)(hi:V[i]? =some (own e v l))(hl:l[k]? =some x)(hF:Fd off f)
  (hT:kn P T false 1) (kk:RL P n ops rest (cM U d<|Sc.toV<|f x) w Q):RL P n ops (⟨some d, .load T q,ty,pos,af,g⟩::rest) U w Q:=by
 refine A_ (f:=f) hg hd hw hx hp hi hl hF hT λu h=>?_;rw[h.kp (i:=0) rfl];exact kk
theorem Bs{f:α->β->α}{y:β}(hg:Wn ops U g)(hw:Holds E w V)(hx:ev U q=p)(hy:ev U r=u)(hp:wT v k (GT.sz α) off p)(hi:V[i]? =some (own e v l))(hl:l[k]? =some x)(hj:V[j]? =some (rd u y))
  (hF:Fs off β f) (hm:off+GT.sz β<=GT.sz α) (hT:kn P T (GT.agg β) (GT.sz β)) (kk:∀w',Holds E w' (V.set i<|own e v<|l.set k<|f x y)->RL P n ops rest U w' Q):
  RL P n ops (⟨none, .store T q r,ty,pos,af,g⟩::rest) U w Q:=by
 obtain⟨M,hs,gd⟩:=hw;obtain⟨a,n',c,hv,hpp⟩:=hp;have hkl:=(bS.1 hl).1;have hr:=(gd.sat j _ hj).1
 rcases gd.sat i _ hi with⟨hv',rfl,_⟩|⟨b,o,cap,cur,xs,hv',h2,h3,h4,h5,h6,h7⟩
 ·simp at hkl
 ·have hv0:=hv';rw[hv]at hv';injection hv' with e1 e2 e3
  injection e1 with e1
  subst e1;have hb:=gd.le i b _ (bY hi) (by rw[h4];exact bJ b _);have hc:u.cells.size=GT.sz β:=by rw[<-GT.len hr.cells];simp
  have hcl:u.cells.toList.length=GT.sz β:=GT.len hr.cells;have hks:=qh (sz:=GT.sz α) hkl;have hcap:l.length*GT.sz α<=cap*GT.sz α:=Nat.mul_le_mul_right _ h2;have hcs:o+cap*GT.sz α<=cur.toList.length:=h5;have hrun:=kX (P:=P) (v:=u) (o:=o+(k*GT.sz α+off)) hT.sz hc (GT.one hr.cells) hb (by omega);have hnew:(cur.toList.take (o+(k*GT.sz α+off))++u.cells.toList++cur.toList.drop (o+(k*GT.sz α+off)+GT.sz β))=uE (o+(k*GT.sz α+off)) u.cells.toList cur.toList:=by
   grind [uE]
  rw[hnew]at hrun;have hfit:o+(k*GT.sz α+off)+u.cells.toList.length<=cur.toList.length:=by omega
  have hxl:xs.length=l.length*GT.sz α:=h7.1;have hget:∀t,xs[t]? =if t<l.length*GT.sz α then cur.toList[o+t]? else none:=λt=>by
   grind
  refine Ax hg ?_<|kk _<|jU (P':=own e v<|l.set k<|f x y) (new:=(uE (o+(k*GT.sz α+off)) u.cells.toList cur.toList).toArray) gd hi h4<|.inr ⟨b,o,cap,_,((uE (o+(k*GT.sz α+off)) u.cells.toList cur.toList).drop o).take<|l.length*GT.sz α,by grind,by grind,h3,rfl,?_,by rw[fo],?_⟩
  ·grind [execOp,Instr.storeAt,Instr.sureAddr,aM,aV,aS,Addr.add_lit]
  ·grind
  ·refine⟨by rw[fX,jS,sX hfit,fo];omega,λm z hz=>?_⟩;rw[List.getElem?_set]at hz
   by_cases hmk:k=m
   ·subst hmk;rw[aO rfl,aO hkl]at hz;injection hz with hz
    subst hz;have hok:=hF M _ _ x y (h7.2 k x hl) hr.cells;have heq:(List.drop (k*GT.sz α)<|((uE (o+(k*GT.sz α+off)) u.cells.toList cur.toList).drop o).take<|l.length*GT.sz α).take (GT.sz α) =
      (List.take (GT.sz α)<|List.drop (k*GT.sz α) xs).take off++u.cells.toList++(List.take (GT.sz α)<|List.drop (k*GT.sz α) xs).drop (off+GT.sz β):=by
     have e0:(List.take (GT.sz α)<|List.drop (k*GT.sz α) xs).take off++u.cells.toList++(List.take (GT.sz α)<|List.drop (k*GT.sz α) xs).drop (off+GT.sz β)=uE off u.cells.toList (List.take (GT.sz α)<|List.drop (k*GT.sz α) xs):=by
      unfold uE;rw[hcl]
     rw[e0];apply List.ext_getElem?;intro t;rw[qL (by rw[hcl,fX,jS];omega),fJ,iL,fJ,iL,qL hfit,hcl];simp only[fJ,iL,hget]
     by_cases ht:t<GT.sz α
     ·rw[aO ht,aO (by omega)]
      by_cases h1:t<off
      ·rw[aO (by omega),aO h1,aO ht,aO (by omega)]
      ·rw[aR (by omega),aR h1]
       by_cases h2':t<off+GT.sz β
       ·rw[aO (by omega),aO h2'];congr 1;omega
       ·rw[aR (by omega),aR h2',aO ht,aO (by omega)]
     ·rw[aR ht,aR (by omega),aR (by omega),aR ht]
    rw[heq];exact hok
   ·rw[aR hmk]at hz;have hml:=(bS.1 hz).1;have hms:=qh (sz:=GT.sz α) hml;have hok:=h7.2 m z hz;have heq:(List.drop (m*GT.sz α)<|((uE (o+(k*GT.sz α+off)) u.cells.toList cur.toList).drop o).take<|l.length*GT.sz α).take (GT.sz α)=(List.drop (m*GT.sz α) xs).take (GT.sz α):=by
     apply List.ext_getElem?;intro t;simp only[fJ,iL,qL hfit,hcl,hget]
     by_cases ht:t<GT.sz α
     ·rw[aO ht,aO ht,aO (show m*GT.sz α+t<l.length*GT.sz α by omega),aO (show m*GT.sz α+t<l.length*GT.sz α by omega)]
      rcases Nat.lt_or_gt_of_ne hmk with h1|h1
      ·have:=qh (sz:=GT.sz α) h1;rw[aR (by omega),aR (by omega)]
      ·have:=qh (sz:=GT.sz α) h1;rw[aO (by omega)]
     ·rw[aR ht,aR ht]
    rw[heq];exact hok
theorem Bt{lop hip:Option Operand}{lo hi:Int}(hg:Wn ops U g)(hd:Nat.blt d n=true)(hw:Holds E w V)(hx:ev U q=v)(hi':V[i]? =some (own e v l))(hT:sO P T e (GT.sz α))
  (hl:lop.map (ev U)=some (.int .i64 lo)\/(lop.map (ev U)=none/\lo=0)) (hh:hip.map (ev U)=some (.int .i64 hi)\/(hip.map (ev U)=none/\hi=(l.length:Nat)))
  (hb:uQ l lo hi=some l') (kk:∀v',Holds E w (V.set i<|own e v' l')->RL P n ops rest (cM U d v') w Q):
  RL P n ops (⟨some d, .slice T q lop hip none,ty,pos,af,g⟩::rest) U w Q:=by
 unfold uQ at hb;split at hb
 ·rename_i hc;injection hb with hb
  subst hb;obtain⟨M,hs,gd⟩:=hw;have hlt:=bY hi';have hlen:((l.drop lo.toNat).take (hi - lo).toNat).length=hi.toNat - lo.toNat:=by grind
  rcases gd.sat i _ hi' with⟨rfl,rfl,hh0⟩|⟨b,o,cap,cur,xs,rfl,h2,h3,h4,h5,h6,h7⟩
  ·have hr:=qK (P:=P) (α:=α) (a:=none) (m:=0) (cap:=0) hT hl hh hc.1 hc.2.1 hc.2.2 (cI _) w;have h00:hi.toNat - lo.toNat=0:=by grind
   have hlo:lo.toNat=0:=by grind
   refine zJ (v:= .slice none 0 0) hg hd ?_<|kk _ ⟨M,_,gd.update (P':=own e _ _) hlt j4 (.inl ⟨rfl,by rw[List.drop_nil,List.take_nil],rfl⟩) rfl rfl rfl (λ_ _ h=>by cases h) (λ_ _ h=>by cases h)<|λ_ _ _=>rfl⟩
   grind [execOp,aM,aS,aV]
  ·have hr:=qK (P:=P) (α:=α) (a:=some ⟨b,o,none⟩) (m:=l.length) (cap:=cap) hT hl hh hc.1 hc.2.1 hc.2.2 h2 w;have hxl:xs.length=l.length*GT.sz α:=h7.1;have hself:ja hs i (hs i)=hs:=by grind [ja]
   by_cases hce:cap=lo.toNat
   ·
    have h00:hi.toNat - lo.toNat=0:=by omega
    have hz:(l.drop lo.toNat).take (hi - lo).toNat= []:=List.eq_nil_of_length_eq_zero (by rw[hlen,h00]);have hz':l.length=cap:=by omega
    rw[hz]at kk;refine zJ (v:= .slice (some ⟨b,o,none⟩) 0 0) hg hd ?_<|kk _ ⟨M,_,gd.update (P':=own e (.slice (some ⟨b,o,none⟩) 0 0) ([]:List α)) hlt (hs i) ?_ rfl rfl rfl (λb' o' hb'=>gd.le i b' o' hlt hb') (λb' o' hb'=> .inl ⟨o',hb'⟩)<|λ_ _ _=>rfl⟩
    ·grind [execOp,aM,aS,aV]
    ·exact .inr ⟨b,o,0,cur,[],rfl,cI _,by simp[maxLen],h4,by omega,by simp,Cells.nil⟩
   ·refine zJ (v:= .slice (some ⟨b,o+lo.toNat*GT.sz α,none⟩) ((l.drop lo.toNat).take (hi - lo).toNat).length<|cap - lo.toNat) hg hd ?_<|kk _ ⟨M,_,gd.update (P':=own e _ _) hlt (hs i) (.inr ⟨b,o+lo.toNat*GT.sz α,cap - lo.toNat,cur,(xs.drop<|lo.toNat*GT.sz α).take<|(hi - lo).toNat*GT.sz α,rfl,?_,by omega,h4,?_,?_,?_⟩) rfl rfl rfl (λb' o' hb'=>gd.le i b' o' hlt hb') (λb' o' hb'=> .inl ⟨o',hb'⟩)<|λ_ _ _=>rfl⟩
    ·grind [execOp,aM,aS,aV,Addr.add_lit]
    ·omega
    ·rw[Nat.sub_mul];have:lo.toNat*GT.sz α<=cap*GT.sz α:=Nat.mul_le_mul_right _ (by omega);omega
    ·rw[hlen,<-h6];have e1:(hi - lo).toNat=hi.toNat - lo.toNat:=by omega
     rw[e1,List.drop_take,List.drop_drop,List.take_take];congr 1;have:hi.toNat*GT.sz α<=l.length*GT.sz α:=Nat.mul_le_mul_right _ (by have:=hc.2.2;omega);rw[Nat.sub_mul];omega
    ·refine⟨?_,λm z hz=>?_⟩
     ·rw[fX,jS,hxl,hlen];have e1:(hi - lo).toNat=hi.toNat - lo.toNat:=by omega
      have:hi.toNat*GT.sz α<=l.length*GT.sz α:=Nat.mul_le_mul_right _ (by have:=hc.2.2;omega);rw[e1,Nat.sub_mul];omega
     ·rw[fJ]at hz;split at hz
      ·rename_i hm;rw[iL]at hz;have:=h7.2 _ z hz;have hms:=qh (sz:=GT.sz α) hm;rw[List.drop_take,List.drop_drop,List.take_take,Nat.min_eq_left (by omega),<-Nat.add_mul];exact this
      ·cases hz
 ·cases hb
end
def mk{α:Type}(bytes:Nat)(z:α)(n:Int):Option (List α):=if 0<=n/\n*bytes<=140737488355328 then some (List.replicate n.toNat z)else none
def wU(P:Program)(e:TypeId){α:Type}[GT α](z0:α):Prop:=∀(M:cE)(z:Value),(P.info? e).bind (·.zero)=some z->GT.ok M z.cells.toList z0
section
variable {α:Type}[GT α]{P:Program}{n:Nat}{U:Nat->Value}{w:World}{Q:dC}{E:World}{V:List HP}{i:Nat}
variable {ops:Array Oper}{rest:List Oper}{d:Nat}{ty t e:TypeId}{pos:String}{af:Array Edge}{g:Option (Nat×Bool)}{q r:Operand}{bytes:Nat}{l':List α}{z0:α}{k:Int}
theorem Bu(hg:Wn ops U g)(hd:Nat.blt d n=true)(hw:Holds E w V)(hx:ev U q = .int .i64 k)(hy:ev U r = .int .i64 k)(hT:uN P t e (GT.sz α) bytes)
  (hz0:wU P e z0)
  (hb:Gk.mk bytes z0 k=some l') (kk:∀v w',Holds E w' (own e v l'::V)->RL P n ops rest (cM U d v) w' Q):RL P n ops (⟨some d, .makeSlice t q r,ty,pos,af,g⟩::rest) U w Q:=by
 obtain⟨inf,z,hi,hz,hsz,hby,hzs⟩:=hT.inf;unfold Gk.mk at hb;split at hb
 case isFalse=>cases hb
 rename_i hc;injection hb with hb
 subst hb;obtain⟨m,rfl⟩:=Int.eq_ofNat_of_zero_le hc.1;rw[lZ]at kk;have h1:m*bytes<=140737488355328:=by omega
 have h2:m<=140737488355328:=Nat.le_trans (Nat.le_mul_of_pos_right _ hT.pos) h1;have hbn:(inf.bytes:Int)*(m:Int)<=281474976710656:=by
  grind
 have hr:=run_make (P:=P) w t e inf z hT.oZ hi hz .i64 .i64 m m (by omega) (Int.le_refl _) hbn (by omega);simp only[lZ]at hr;refine zJ (v:= .slice (some ⟨w.heap.size,0,none⟩) m m) (w':=w.alloc<|.cells (madeCells z.cells<|m*inf.size) e) hg hd ?_<|kk _ _<|hw.alloc _ λM hs gd=> .inr ⟨w.heap.size,0,m,madeCells z.cells<|m*inf.size,_,by rw[List.length_replicate],by simp,by grind [maxLen],rfl,?_,rfl,?_⟩
 ·grind [execOp,aM,aS,aV]
 ·grind [size_madeCells]
 ·have hok:=hz0 M z (by grind);have hml:(madeCells z.cells<|m*inf.size).toList.length=m*GT.sz α:=by grind [Array.length_toList,size_madeCells]
  refine⟨by grind,λa x hx=>?_⟩;rw[List.getElem?_replicate]at hx;split at hx
  ·rename_i ha;injection hx with hx
   subst hx;have hms:=qh (sz:=GT.sz α) ha;have:(List.drop (a*GT.sz α)<|(List.drop 0 (madeCells z.cells<|m*inf.size).toList).take<|(List.replicate m z0).length*GT.sz α).take (GT.sz α)=z.cells.toList:=by
    apply List.ext_getElem?;intro t;have hzl:z.cells.toList.length=GT.sz α:=by omega
    simp only[fJ,iL,List.length_replicate,fc]
    by_cases ht:t<GT.sz α
    ·have hlt:a*GT.sz α+t<(madeCells z.cells<|m*inf.size).size:=by grind
     rw[aO ht,aO (by omega),Array.getElem?_toList,eG hlt,aZ (show t<z.cells.toList.length by omega)]
     grind [madeCells,GT.sz,Nat.mul_comm,Nat.mul_add_mod,Nat.mod_eq_of_lt]
    grind
   grind
  ·cases hx
end
class KV (κ:Type) [GT κ]where
 cs:κ->List Value
 spec:∀{M:cE}{c:List Value}{k:κ},GT.ok M c k->c=cs k
 ok:∀(M:cE)(k:κ),GT.ok M (cs k) k
instance instKVSc {α:Type} [Sc α]:KV α:=⟨λx=>[Sc.toV x],λh=>h,λ_ _=>rfl⟩
instance instKVProd {α β:Type} [GT α] [GT β] [KV α] [KV β]:KV (α×β):=
 ⟨λx=>KV.cs x.1++KV.cs x.2,λ⟨_,_,e,h1,h2⟩=>by rw[e,KV.spec h1,KV.spec h2],λM x=>⟨_,_,rfl,KV.ok M x.1,KV.ok M x.2⟩⟩
def KV.enc{κ:Type}[GT κ][KV κ](k:κ):Value:=oY κ<|KV.cs k
theorem KV.wV{κ:Type}[GT κ][KV κ]{M:cE}{v:Value}{k:κ}(h:m8 M v k):v=KV.enc k:=by
 obtain⟨cs,e,h⟩:=h;rw[e,KV.spec h];rfl
theorem KV.rd{κ:Type}[GT κ][KV κ](M:cE)(k:κ):m8 M (KV.enc k) k:=⟨_,rfl,KV.ok M k⟩
structure ng (P:Program) (kt:TypeId) (κ:Type) [GT κ] [KV κ] [DecidableEq κ]:Prop where
 v8:∀(b:Bool)(k:κ)(w:World),(Instr.checkKey b 10000 kt<|KV.enc k).run P w = .ok () w
 eq:∀(a b:κ)(w:World),(Op.equal kt (KV.enc a)<|KV.enc b).run P w = .ok (decide<|a=b) w
 now:(∀(a b:κ),∃D,P.underlying kt=some D/\Instr.sameNow D (KV.enc a) (KV.enc b)=some (decide<|a=b))\/(∃D,P.underlying kt=some D/\∀(a b:κ),Instr.sameNow D (KV.enc a) (KV.enc b)=none)
 bits:∀(a:κ),Instr.sameBits 10000 (KV.enc a) (KV.enc a)=true
section
variable {κ ν:Type}[GT κ][KV κ][GT ν]
def gD(M:cE):List MapEntry->List (κ×ν)->Prop
 | [],[]=>True
 |e::es,p::m=>e.key=KV.enc p.1/\m8 M e.val p.2/\gD M es m
 |_,_=>False
theorem gD.mono{M M':cE}(h:hle M M'):∀{es:List MapEntry}{m:List (κ×ν)},gD M es m->gD M' es m
 | [],[],_=>trivial
 |e::es,p::m,⟨h1,h2,h3⟩=>⟨h1,h2.mono h,gD.mono h h3⟩
 | [],_::_,h=>h.elim
 |_::_,[],h=>h.elim
def uT(es:List MapEntry)(clock:Nat)(m:List (κ×ν)):Prop:=(∀x∈es,x.born<clock)/\(es.map (·.born)).Nodup/\(m.map Prod.fst).Nodup
def mp(v:Value)(m:List (κ×ν)):HP:=
 ⟨λM h=>∃r es clock,v = .map (some r)/\(gD M (Array.toList es) m/\uT es.toList clock m)/\h=Gk.one r (.map es clock),λk⟨r,es,c,hv,⟨he,hst⟩,hh⟩=>⟨r,es,c,hv,⟨gD.mono k he,hst⟩,hh⟩⟩
end
section
variable {κ ν:Type}[GT κ][KV κ][DecidableEq κ][GT ν]
def fx(m:List (κ×ν))(k:κ):Option Nat:=m.findIdx?<|λp=>decide<|k=p.1
def bM(m:List (κ×ν))(k:κ)(z:ν):ν:=match m.find? (λp=>decide<|k=p.1)with|some p=>p.2|none=>z
def ig(m:List (κ×ν))(k:κ):Bool:=m.any<|λp=>decide<|k=p.1
def dU(m:List (κ×ν))(k:κ)(x:ν):List (κ×ν):=
 match m with
 | []=>[(k,x)]
 |p::m=>if k=p.1 then(k,x)::m else p::dU m k x
theorem rL(k:κ)(x:ν):∀m:List (κ×ν),(dU m k x).map Prod.fst=if k∈m.map Prod.fst then m.map Prod.fst else m.map Prod.fst++[k]
 | []=>by simp[dU]
 |p::m=>by
  unfold dU
  by_cases h:k=p.1
  ·simp[h]
  ·rw[aR h,fu,rL k x m];simp only[fu,fm,h,false_or];split <;> simp
theorem o9{m:List (κ×ν)}(h:(m.map Prod.fst).Nodup)(k:κ)(x:ν):((dU m k x).map Prod.fst).Nodup:=by
 rw[rL]
 grind
theorem uT.push{es:List MapEntry}{clock:Nat}{m:List (κ×ν)}(h:uT es clock m)(k:κ)(x:ν){en:MapEntry}(he:en.born=clock):uT (es++[en]) (clock+1) (dU m k x):=by
 refine⟨λy hy=>?_,?_,o9 h.2.2 k x⟩
 ·rcases List.mem_append.1 hy with hy|hy
  ·have:=h.1 y hy;omega
  grind
 ·rw[List.map_append,List.nodup_append];refine⟨h.2.1,by simp,λa ha b hb e=>?_⟩;simp at hb;obtain⟨y,hy,rfl⟩:=List.mem_map.1 ha;have:=h.1 y hy;omega
theorem uT.modify{es:List MapEntry}{clock:Nat}{m:List (κ×ν)}(h:uT es clock m)(k:κ)(x:ν){f:MapEntry->MapEntry}(hf:∀e,(f e).born=e.born)(a:Nat):uT (es.modify a f) clock (dU m k x):=by
 have hm:(es.modify a f).map (·.born)=es.map (·.born):=by
  refine List.ext_getElem? λj=>?_
  grind
 refine⟨λy hy=>?_,by rw[hm];exact h.2.1,o9 h.2.2 k x⟩;have hy':y.born∈(es.modify a f).map (·.born):=List.mem_map.2 ⟨y,hy,rfl⟩;rw[hm]at hy';obtain⟨z,hz,e⟩:=List.mem_map.1 hy';rw[<-e];exact h.1 z hz
variable {P:Program}{n:Nat}{U:Nat->Value}{w:World}{Q:dC}{E:World}{V:List HP}{i j l:Nat}
variable {ops:Array Oper}{rest:List Oper}{d:Nat}{ty T kt et:TypeId}{pos:String}{af:Array Edge}{g:Option (Nat×Bool)}{v kv u:Value}{q qk qv:Operand}{r:Nat}{m:List (κ×ν)}{k:κ}{x z0:ν}
theorem run_findKey(hK:ng P kt κ)(M:cE){es:List MapEntry}(he:gD M es m)(w:World):
  ∃o,(Instr.findKey kt (KV.enc k) es).run P w = .ok o w/\
   match o with
   |some (a,y)=>∃x,fx m k=some a/\m.find? (λp=>decide (k=p.1))=some (k,x)/\m8 M y x/\∃en,es[a]? =some en/\en.key=KV.enc k
   |none=>fx m k=none/\m.find? (λp=>decide (k=p.1))=none:=by
 have ask:∀(es:List MapEntry)(m:List (κ×ν))(a:Nat),gD M es m->∃o,(Instr.findAsking kt (KV.enc k) es a).run P w = .ok o w/\
   (match o with
   |some (b,y)=>∃c x,b=a+c/\fx m k=some c/\m.find? (λp=>decide (k=p.1))=some (k,x)/\m8 M y x/\∃en,es[c]? =some en/\en.key=KV.enc k
   |none=>fx m k=none/\m.find? (λp=>decide (k=p.1))=none):=by
  intro es
  induction es with
  |nil=>intro m a he;cases m with
   |nil=>exact⟨none,rfl,rfl,rfl⟩
   |cons p m=>exact he.elim
  |cons en es ih=>
   intro m a he
   cases m with
   |nil=>exact he.elim
   |cons p m=>
    obtain⟨h1,h2,h3⟩:=he;obtain⟨p1,p2⟩:=p;simp only at h1 h2;rw[Instr.findAsking];simp only[aM,h1,hK.eq,aS]
    by_cases e:k=p1
    ·subst e;refine⟨some (a,en.val),by simp[aV],0,p2,rfl,?_,?_,h2,en,rfl,h1⟩
     ·simp[fx,List.findIdx?_cons]
     ·simp
    ·obtain⟨o,ho,hs⟩:=ih m (a+1) h3;refine⟨o,by grind,?_⟩
     cases o with
     |none=>
      obtain⟨s1,s2⟩:=hs;refine⟨?_,?_⟩
      ·simp only[fx,List.findIdx?_cons,bX e]at s1 ⊢;simpa using s1
      ·simpa[List.find?_cons,bX e]using s2
     |some by_=>
      obtain⟨b,y⟩:=by_;obtain⟨c,x,hb,s1,s2,s3,en',s4,s5⟩:=hs;refine⟨c+1,x,by omega,?_,?_,s3,en',by grind,s5⟩
      ·simp only[fx,List.findIdx?_cons,bX e]at s1 ⊢;simp[s1]
      ·simpa[List.find?_cons,bX e]using s2
 have asked:∃o,(Instr.findAsking kt (KV.enc k) es).run P w = .ok o w/\
   (match o with
   |some (b,y)=>∃x,fx m k=some b/\m.find? (λp=>decide (k=p.1))=some (k,x)/\m8 M y x/\∃en,es[b]? =some en/\en.key=KV.enc k
   |none=>fx m k=none/\m.find? (λp=>decide (k=p.1))=none):=by
  obtain⟨o,ho,hs⟩:=ask es m 0 he;refine⟨o,ho,?_⟩
  cases o with
  |none=>exact hs
  |some by_=>
   obtain⟨b,y⟩:=by_;obtain⟨c,x,hb,rest⟩:=hs;rw[fc]at hb;subst hb;exact⟨x,rest⟩
 unfold Instr.findKey
 rcases hK.now with hnow|⟨D,hD,hno⟩
 ·obtain⟨D,hD,_⟩:=hnow k k;have hnow':∀a b:κ,Instr.sameNow D (KV.enc a) (KV.enc b)=some (decide<|a=b):=λa b=>by
   simp_all
  have fn:∀(es:List MapEntry)(m:List (κ×ν))(a:Nat),gD M es m->∃o,Instr.findNow D (KV.enc k) es a=some o/\
    (match o with
    |some (b,y)=>∃c x,b=a+c/\fx m k=some c/\m.find? (λp=>decide (k=p.1))=some (k,x)/\m8 M y x/\∃en,es[c]? =some en/\en.key=KV.enc k
    |none=>fx m k=none/\m.find? (λp=>decide (k=p.1))=none):=by
   intro es
   induction es with
   |nil=>intro m a he;cases m with
    |nil=>exact⟨none,rfl,rfl,rfl⟩
    |cons p m=>exact he.elim
   |cons en es ih=>
    intro m a he
    cases m with
    |nil=>exact he.elim
    |cons p m=>
     obtain⟨h1,h2,h3⟩:=he;obtain⟨p1,p2⟩:=p;simp only at h1 h2;rw[Instr.findNow,h1,hnow']
     by_cases e:k=p1
     ·subst e;refine⟨some (a,en.val),by simp,0,p2,rfl,?_,?_,h2,en,rfl,h1⟩
      ·simp[fx,List.findIdx?_cons]
      ·simp
     ·obtain⟨o,ho,hs⟩:=ih m (a+1) h3;refine⟨o,by grind,?_⟩
      cases o with
      |none=>
       obtain⟨s1,s2⟩:=hs;refine⟨?_,?_⟩
       ·simp only[fx,List.findIdx?_cons,bX e]at s1 ⊢;simpa using s1
       ·simpa[List.find?_cons,bX e]using s2
      |some by_=>
       obtain⟨b,y⟩:=by_;obtain⟨c,x,hb,s1,s2,s3,en',s4,s5⟩:=hs;refine⟨c+1,x,by omega,?_,?_,s3,en',by grind,s5⟩
       ·simp only[fx,List.findIdx?_cons,bX e]at s1 ⊢;simp[s1]
       ·simpa[List.find?_cons,bX e]using s2
  obtain⟨o,ho,hs⟩:=fn es m 0 he
  simp_all[aM,run_underlying,aS,aV,fc]
 ·cases es with
  |nil=>
   cases m with
   |nil=>exact⟨none,by simp_all[run_underlying,Instr.findNow],rfl,rfl⟩
   |cons p m=>exact he.elim
  |cons en es=>
   obtain⟨o,ho,hs⟩:=asked;refine⟨o,?_,hs⟩
   cases m with
   |nil=>exact he.elim
   |cons p m=>
    have:Instr.findNow D (KV.enc k) (en::es) 0=none:=by rw[Instr.findNow,he.1,hno]
    simp only[aM,run_underlying hD,aS,this,ho]
theorem tu(m:List (κ×ν))(k:κ)(z:ν):bM m k z=match m.find? (λp=>decide<|k=p.1)with|some p=>p.2|none=>z:=rfl
theorem tv(m:List (κ×ν))(k:κ):ig m k=(m.find?<|λp=>decide<|k=p.1).isSome:=by
 unfold ig
 grind
theorem pb(hT:P.underlying T=some (.map kt et))(hK:ng P kt κ)(hz:∃inf z,P.info? et=some inf/\inf.zero=some z/\∀M,m8 M z z0)
  (hw:Holds E w V) (hi:V[i]? =some (mp v m)) (ok:Bool):
  ∃y,(Instr.lookup T v (KV.enc k) ok).run P w = .ok (if ok then .tuple #[y, .bool<|ig m k]else y) w/\Holds E w (rd y (bM m k z0)::V):=by
 obtain⟨M,hs,gd⟩:=hw;obtain⟨r,es,clock,rfl,⟨he,hst⟩,hh⟩:=gd.sat i _ hi;have hb:=gd.le i r _ (bY hi) (by rw[hh];exact bJ r _);obtain⟨o,ho,hs'⟩:=run_findKey hK M he w (k:=k);obtain⟨inf,z,hin,hzz,hzr⟩:=hz
 cases o with
 |none=>
  obtain⟨h1,h2⟩:=hs';refine⟨z,?_,Holds.rA ⟨M,hs,gd⟩ λM' hs' gd'=>⟨?_,rfl⟩⟩
  ·simp[Instr.lookup,run_underlying hT,MapKept.run_getObj_map hb,hK.v8,ho,Result.andThen,zeroValue,typeInfo,hin,hzz,tv,h2,program,Sem.run]
  grind [tu]
 |some ay=>
  obtain⟨a,y⟩:=ay;obtain⟨x,h1,h2,h3,_⟩:=hs';refine⟨y,?_,⟨M,ry j4 hs,gd.el ⟨?_,rfl⟩⟩⟩
  ·simp[Instr.lookup,run_underlying hT,MapKept.run_getObj_map hb,hK.v8,ho,Result.andThen,tv,h2]
  grind [tu]
omit [DecidableEq κ]in
theorem k8(j:Nat)(hw:Holds E w V)(hj:V[j]? =some (rd kv k)):kv=KV.enc k:=by
 obtain⟨M,hs,gd⟩:=hw;exact KV.wV (gd.sat j _ hj).1
structure oL (P:Program) (T kt et:TypeId) (κ ν:Type) [GT κ] [KV κ] [DecidableEq κ] [GT ν] (z0:ν):Prop where
 oZ:P.underlying T=some (.map kt et)
 key:ng P kt κ
 zero:∃inf z,P.info? et=some inf/\inf.zero=some z/\∀M,m8 M z z0
theorem Bv(hg:Wn ops U g)(hd:Nat.blt d n=true)(hw:Holds E w V)(hx:ev U q=v)(hk:ev U qk=KV.enc k)(hi:V[i]? =some (mp v m))(hT:oL P T kt et κ ν z0)
  (kk:∀y,Holds E w (rd y (bM m k z0)::V)->RL P n ops rest (cM U d<|.tuple #[y, .bool<|ig m k]) w Q):RL P n ops (⟨some d, .lookup T q qk true,ty,pos,af,g⟩::rest) U w Q:=by
 obtain⟨y,hr,hh⟩:=pb hT.oZ hT.key hT.zero hw hi true (k:=k);refine zJ hg hd ?_<|kk y hh
 grind [execOp,aM,aS,aV]
theorem Bw(hg:Wn ops U g)(hd:Nat.blt d n=true)(hw:Holds E w V)(hx:ev U q=v)(hk:ev U qk=KV.enc k)(hi:V[i]? =some (mp v m))(hT:oL P T kt et κ ν z0)
  (kk:∀y,Holds E w (rd y (bM m k z0)::V)->RL P n ops rest (cM U d y) w Q):RL P n ops (⟨some d, .lookup T q qk false,ty,pos,af,g⟩::rest) U w Q:=by
 obtain⟨y,hr,hh⟩:=pb hT.oZ hT.key hT.zero hw hi false (k:=k);refine zJ hg hd ?_<|kk y hh
 grind [execOp,aM,aS,aV,Bool.false_eq_true]
theorem AZ [KV ν](i:Nat)(k:κ)(hd:Nat.blt d n=true)(hw:Holds E w V)(hx:ev U q=v)(hk:ev U qk=KV.enc k)(hi:V[i]? =some (mp v m))(hT:oL P T kt et κ ν z0)(kk:RL P n ops rest (cM U d<|.tuple #[KV.enc<|bM m k z0, .bool<|ig m k]) w Q)(hg:Wn ops U g:=by exact trivial):RL P n ops (⟨some d, .lookup T q qk true,ty,pos,af,g⟩::rest) U w Q:=
 Bv hg hd hw hx hk hi hT λy hh=>by have:=k8 0 hh rfl;rw[this];exact kk
theorem AK [KV ν](i:Nat)(k:κ)(hg:Wn ops U g)(hd:Nat.blt d n=true)(hw:Holds E w V)(hx:ev U q=v)(hk:ev U qk=KV.enc k)(hi:V[i]? =some (mp v m))(hT:oL P T kt et κ ν z0)(kk:RL P n ops rest (cM U d<|KV.enc<|bM m k z0) w Q):RL P n ops (⟨some d, .lookup T q qk false,ty,pos,af,g⟩::rest) U w Q:=
 Bw hg hd hw hx hk hi hT λy hh=>by have:=k8 0 hh rfl;rw[this];exact kk
theorem Ar(hw:Holds E w V)(kk:∀v w',Holds E w' (mp v ([]:List (κ×ν))::V)->RL P n ops rest (cM U d v) w' Q)(hg:Wn ops U g:=by exact trivial)(hd:Nat.blt d n=true:=by exact rfl):RL P n ops (⟨some d, .makeMap T none,ty,pos,af,g⟩::rest) U w Q:=by
 refine zJ (v:= .map<|some w.heap.size) (w':=w.alloc<|.map #[] 0) hg hd ?_<|kk _ _<|hw.alloc _ λM hs gd=>⟨w.heap.size,#[],0,rfl,⟨trivial,by simp[uT]⟩,rfl⟩
 rfl
theorem gD.len{M:cE}:∀{es:List MapEntry}{m:List (κ×ν)},gD M es m->es.length=m.length
 | [],[],_=>rfl
 |_::_,_::_,⟨_,_,h3⟩=>congrArg (· +1) (gD.len h3)
 | [],_::_,h=>h.elim
 |_::_,[],h=>h.elim
theorem Ba(i:Nat)(hg:Wn ops U g)(hd:Nat.blt d n=true)(hw:Holds E w V)(hx:ev U q=v)(hi:V[i]? =some (mp v m))(hT:P.underlying T=some (.map kt et))(kk:RL P n ops rest (cM U d<|.int .i64 (m.length:Nat)) w Q):RL P n ops (⟨some d, .call ⟨.builtin .len,#[q],#[T]⟩,ty,pos,af,g⟩::rest) U w Q:=by
 obtain⟨M,hs,gd⟩:=hw;obtain⟨r,es,clock,rfl,⟨he,hst⟩,hh⟩:=gd.sat i _ hi;have hb:=gd.le i r _ (bY hi) (by rw[hh];exact bJ r _);refine zJ hg hd ?_ kk;have hl:es.size=m.length:=by rw[<-he.len];simp
 simp[execOp,resolve,hx,invoke,builtin,Builtin.len_,run_underlying hT,MapKept.run_getObj_map hb,hl,goInt]
theorem iW{M:cE}{hs:Nat->cE}{P':HP}{b c c':Nat}{es es':Array MapEntry}{Pi:HP}(gd:Good E w M hs V)(hi:V[i]? =some Pi)(hh:hs i=Gk.one b (.map es c))
  (hp:P'.ok M (Gk.one b<|.map es' c')):Holds E {w with heap:=w.heap.setIfInBounds b<|.map es' c'} (V.set i P'):=by
 have hb:=gd.le i b _ (bY hi) (by rw[hh];exact bJ b _);refine⟨M,_,gd.update (bY hi) (Gk.one b<|.map es' c') hp rfl rfl rfl (λb' o' hb'=>?_) (λb' o' hb'=>?_)<|λb' hb' _=>?_⟩
 ·grind [eC,MapKept.heap_set]
 ·obtain⟨rfl,rfl⟩:=eC hb';simp_all[bJ]
 ·rw[hh]at hb'
  grind [MapKept.heap_set,bJ]
theorem gD.push{M:cE}{en:MapEntry}:∀{es:List MapEntry}{m:List (κ×ν)},gD M es m->fx m k=none->en.key=KV.enc k->m8 M en.val x->gD M (es++[en]) (dU m k x)
 | [],[],_,_,h1,h2=>⟨h1,h2,trivial⟩
 |e::es,p::m,⟨a1,a2,a3⟩,hf,h1,h2=>by
  have hne:¬k=p.1:=λe=>by simp[fx,List.findIdx?_cons,e]at hf
  have hf':fx m k=none:=by simp only[fx,List.findIdx?_cons,bX hne]at hf ⊢;simpa using hf
  show gD M (e::(es++[en])) _;unfold dU;rw[aR hne];exact⟨a1,a2,gD.push a3 hf' h1 h2⟩
 | [],_::_,h,_,_,_=>h.elim
 |_::_,[],h,_,_,_=>h.elim
theorem gD.modify{M:cE}{f:MapEntry->MapEntry}(h1:∀e,(f e).key=KV.enc k)(h2:∀e,m8 M (f e).val x):∀{es:List MapEntry}{m:List (κ×ν)}{a:Nat},gD M es m->fx m k=some a->gD M (es.modify a f) (dU m k x)
 | [],[],_,_,hf=>by simp[fx]at hf
 |e::es,p::m,a,⟨a1,a2,a3⟩,hf=>by
  unfold dU
  by_cases hk:k=p.1
  ·have ha:a=0:=by simp[fx,List.findIdx?_cons,hk]at hf;omega
   subst ha;rw[aO hk];exact⟨h1 e,h2 e,a3⟩
  ·rw[aR hk];simp only[fx,List.findIdx?_cons,bX hk,Bool.false_eq_true,if_false,Option.map_eq_some_iff]at hf;obtain⟨a',hf',rfl⟩:=hf;exact⟨a1,a2,gD.modify h1 h2 a3 hf'⟩
 | [],_::_,_,h,_=>h.elim
 |_::_,[],_,h,_=>h.elim
theorem AE(i j:Nat)(k:κ)(hw:Holds E w V)(hx:ev U q=v)(hk:ev U qk=KV.enc k)(hv:ev U qv=u)(hi:V[i]? =some (mp v m))(hj:V[j]? =some (rd u x))(hT:oL P T kt et κ ν z0)(kk:∀w',Holds E w' (V.set i<|mp v<|dU m k x)->RL P n ops rest U w' Q)(hg:Wn ops U g:=by exact trivial):RL P n ops (⟨none, .mapUpdate T q qk qv,ty,pos,af,g⟩::rest) U w Q:=by
 obtain⟨M,hs,gd⟩:=hw;obtain⟨r,es,clock,rfl,⟨he,hst⟩,hh⟩:=gd.sat i _ hi;have hu:=(gd.sat j _ hj).1;have hb:=gd.le i r _ (bY hi) (by rw[hh];exact bJ r _);obtain⟨o,ho,hs'⟩:=run_findKey hT.key M he w (k:=k)
 cases o with
 |none=>
  refine Ax hg ?_<|kk _<|iW gd hi hh (es':=es.push {key:=KV.enc k,val:=u,born:=clock}) (c':=clock+1) ⟨r,_,_,rfl,⟨?_,by rw[Array.toList_push];exact hst.push k x rfl⟩,rfl⟩
  ·simp[execOp,hx,hk,hv,Instr.mapUpdate,run_underlying hT.oZ,MapKept.run_getObj_map hb,hT.key.v8,ho,MapKept.run_setObj_map _ hb]
  grind [Array.toList_push,gD.push]
 |some ay=>
  obtain⟨a,y⟩:=ay;obtain⟨x',h1,h2,h3,en,h4,h5⟩:=hs';have h4':es[a]? =some en:=by grind
  have hstay:(Instr.keyThatStays (KV.enc k)<|KV.enc k).run P w = .ok (KV.enc k) w:=by simp[Instr.keyThatStays,hT.key.bits]
  refine Ax hg ?_<|kk _<|iW gd hi hh (es':=es.modify a λe=>{e with key:=KV.enc k,val:=u}) (c':=clock) ⟨r,_,_,rfl,⟨?_,by rw[Array.toList_modify];exact hst.modify k x (f:=λe=>{e with key:=KV.enc k,val:=u}) (λ_=>rfl) a⟩,rfl⟩
  ·simp[execOp,hx,hk,hv,Instr.mapUpdate,run_underlying hT.oZ,MapKept.run_getObj_map hb,hT.key.v8,ho,MapKept.run_setObj_map _ hb,h4',h5,hstay]
  simp_all[Array.toList_modify,gD.modify]
end
@[reducible] def instKVvia{α β:Type}[GT β][KV β](f:α->β): @KV α (GT.via f):= @KV.mk α (GT.via f) (λx=>KV.cs<|f x) (λh=>KV.spec h)<|λM x=>KV.ok M<|f x
theorem ng.str{P:Program}{kt:TypeId}(h:P.underlying kt=some .string):ng P kt aQ where
 v8 b k w:=MapKept.run_checkKey h (k:=Gk.str k) trivial b 9999
 eq a b w:=nc (d:=9999) h a b w
 now:= .inl λa b=>⟨_,h,by show some ((⟨a.bF.toArray⟩:ByteArray)==⟨b.bF.toArray⟩)=_;rw[tr]⟩
 bits a:=MapKept.sameBits_self (d:= .string) (k:=Gk.str a) trivial _
theorem ng.int{P:Program}{kt:TypeId}(h:P.underlying kt=some (.int .i64)):ng P kt Int where
 v8 b k w:=MapKept.run_checkKey h (k:= .int .i64 k) rfl b 9999
 eq a b w:=(k7 (d:=9999) h a b w).trans (by rfl)
 now:= .inl λa b=>⟨_,h,by rfl⟩
 bits a:=MapKept.sameBits_self (d:= .int .i64) (k:= .int .i64 a) rfl _
inductive uF (P:Program) (n:Nat) (xs:Array Value):List Field->Prop
 |nil:uF P n xs []
 |cons {f:Field} {l:List Field} {x:Value} (hn:f.name≠ "_") (hx:∀w,(part f.type xs f.offset).run P w = .ok x w) (hc:∀b w,(Instr.checkKey b n f.type x).run P w = .ok () w) (h:uF P n xs l):uF P n xs (f::l)
theorem mP{P:Program}{T:TypeId}{fs:Array Field}{xs:Array Value}{n:Nat}(hu:P.underlying T=some (.struct fs))(h:uF P n xs fs.toList)(b:Bool)(w:World):
  (Instr.checkKey b (n+1) T<|.agg xs).run P w = .ok () w:=by
 obtain⟨l⟩:=fs;rw[Instr.checkKey];simp only[aM,run_underlying hu,aS,List.forIn_toArray];simp only at h;clear hu
 induction h with
 |nil=>simp
 | @cons f l x hn hx hc h ih=>
  simp only[List.forIn_cons,hn,ne_eq,not_false_eq_true,if_true,aM,hx,hc,aS,aV]
  simp_all
theorem uU{n:Nat}{cs:List Value}(h:∀x∈cs,Instr.sameBits n x x=true):Instr.sameBits (n+1) (.agg cs.toArray) (.agg cs.toArray)=true:=by
 rw[Instr.sameBits];simp only[beq_self_eq_true,Bool.true_and,gL];intro p hp;have:∀(l:List Value)(p:Value×Value),p∈l.zip l->p.1=p.2/\p.1∈l:=by
  intro l
  induction l with
  |nil=>simp
  |cons a l ih=>
   grind [List.zip_cons_cons]
 grind
theorem ng.struct{κ:Type}[GT κ][KV κ][DecidableEq κ]{P:Program}{T:TypeId}{fs:Array Field}(hu:P.underlying T=some (.struct fs))(hag:GT.agg κ=true)(hE:wS P T κ)
  (hc:∀k:κ,uF P 9999 (KV.cs k).toArray fs.toList) (hb:∀(k:κ),∀x∈KV.cs k,Instr.sameBits 9999 x x=true):ng P T κ:=by
 have he:∀k:κ,KV.enc k = .agg (KV.cs k).toArray:=λk=>by grind [KV.enc,oY]
 refine⟨λb k w=>?_,λa b w=>?_, .inr ⟨_,hu,λa b=>?_⟩,λa=>?_⟩
 ·grind [mP]
 ·exact hE.eq j4 _ _ a b w (KV.ok j4 a)<|KV.ok j4 b
 ·rfl
 grind [uU]
theorem nL{ν:Type}[GT ν]{P:Program}{et:TypeId}(Z:Value){z0:ν}(hz:∀M,m8 M Z z0)(h:(P.info? et).bind (·.zero)=some Z:=by kernel_rfl):∃inf z,P.info? et=some inf/\inf.zero=some z/\∀M,m8 M z z0:=by
 cases e:P.info? et with
 |none=>grind
 |some inf=>grind
theorem wU.of{α:Type}[GT α]{P:Program}{e:TypeId}{Z:Value}{z0:α}(h:(P.info? e).bind (·.zero)=some Z)(hz:∀M,GT.ok M Z.cells.toList z0):wU P e z0:=λM z hh=>by
 rw[h]at hh;injection hh with hh;subst hh;exact hz M
section
variable {P:Program}{n:Nat}{U:Nat->Value}{w:World}{Q:dC}{ops:Array Oper}{rest:List Oper}{d:Nat}{ty t u:TypeId}{pos:String}{af:Array Edge}{g:Option (Nat×Bool)}{q r:Operand}{K:IntKind}{a b:Int}
theorem Bx(hg:Wn ops U g)(hd:Nat.blt d n=true)(hx:ev U q = .int K a)(hy:ev U r = .int K b)(kk:RL P n ops rest (cM U d<|.int K (if b<a then b else a)) w Q):
  RL P n ops (⟨some d, .call ⟨.builtin .min,#[q,r],#[t,u]⟩,ty,pos,af,g⟩::rest) U w Q:=by
 refine zJ hg hd ?_ kk;simp[execOp,resolve,hx,hy,invoke,builtin,Builtin.min_,Builtin.min2]
theorem As{f:Fn}{args:Array Operand}(vs:List Value)(kk:RL P n ops rest (cM U d<|.func f #[] vs.toArray) w Q)(hg:Wn ops U g:=by exact trivial)(hd:Nat.blt d n=true:=by exact rfl)(hvs:args.toList.map (ev U)=vs:=by exact rfl):RL P n ops (⟨some d, .makeFunc f #[] args,ty,pos,af,g⟩::rest) U w Q:=by
 have e:args.map (ev U)=vs.toArray:=by grind
 refine zJ hg hd ?_ kk
 simp_all[execOp,Instr.makeFunc]
end
@[reducible] def vi(n:Int):Value:= .int .i64 n
@[reducible] def vb(b:Bool):Value:= .bool b
@[reducible] def vp(b o:Nat):Value:= .pointer<|some ⟨b,o,none⟩
section
variable {P:Program}{n:Nat}{U:Nat->Value}{w:World}{Q:dC}{y:Code}{ops:Array Oper}{rest:List Oper}{d:Nat}{ty T T':TypeId}{pos:String}{af:Array Edge}{q r:Operand}{K:IntKind}{id:Nat}{l:List Oper}
theorem mv(v:Value)(k:RL P n ops rest (cM U d v) w Q)(hd:Nat.blt d n=true:=by exact rfl)(hx:ev U q=v:=by exact rfl):RL P n ops (⟨some d, .move q,ty,pos,af,none⟩::rest) U w Q:=w_ (hd:=hd) (hx:=hx) _ trivial k
theorem ju(v:Value)(k:RL P n ops rest (cM U d v) w Q)(hd:Nat.blt d n=true:=by exact rfl)(hx:ev U q=v:=by exact rfl):RL P n ops (⟨some d, .assign q,ty,pos,af,none⟩::rest) U w Q:=A6 trivial hd hx k
theorem ic{bop:BinOp}(a b:Int)(k:RL P n ops rest (cM U d<|.bool<|jl bop a b) w Q)(hd:Nat.blt d n=true:=by exact rfl)(hx:ev U q = .int K a:=by exact rfl)(hy:ev U r = .int K b:=by exact rfl)(hc:nH bop=true:=by exact rfl):
  RL P n ops (⟨some d, .binOp bop T q r T',ty,pos,af,none⟩::rest) U w Q:=Ag (hd:=hd) (hx:=hx) (hy:=hy) (hc:=hc) _ _ trivial k
theorem sk{op:Op}{j t:Nat}{b:Bool}(ht:(ops[j]?).bind (·.dst)=some t)(hv:U t = .bool (!b)\/U t=undef)(hd:Nat.blt d n=true)
  (k:RL P n ops rest (cM U d undef) w Q):RL P n ops (⟨some d,op,ty,pos,af,some (j,b)⟩::rest) U w Q:=A4 ht hv hd k
theorem cb{a b:Bool}(h:a=b):Value.bool a = .bool b:=by rw[h]
theorem g_(h:RL P n l.toArray l U w (hG P n y Q)):RC P n (.seq (.region id l.toArray false) y) U w Q:=o_<|u_ h
theorem h_(h:RC P n y U w Q):RL P n ops [] U w (hG P n y Q):=i_<|aD h
theorem l_{z:Code}(h:RL P n l.toArray l U w (hG P n z Q)):RL P n ops [] U w (hG P n (.seq (.region id l.toArray false) z) Q):=h_<|g_ h
theorem p_{z:Code}(h:RC P n y U w (hG P n z Q)):RL P n ops [] U w (hG P n (.seq y z) Q):=h_<|o_ h
theorem zN(h:Q .ret U w):RC P n .ret U w (hG P n y Q):=s_<|aH h
theorem zI(h:Q .ret U w):RC P n .ret U w (oc id Q):=s_<|bZ h
theorem Aj(h:RC P n y U w Q):RC P n .skip U w (hG P n y Q):=zS<|aD h
theorem z4{z:Code}(h:RC P n y U w (hG P n z Q)):RC P n .skip U w (hG P n (.seq y z) Q):=Aj<|o_ h
theorem Ac{z:Code}(h:RL P n l.toArray l U w (hG P n z Q)):RC P n .skip U w (hG P n (.seq (.region id l.toArray false) z) Q):=Aj<|g_ h
theorem Ak{i:Nat}(h:Q (.exit i) U w):RC P n (.exit i) U w (hG P n y Q):=Bl<|vE h
theorem y_{b:Nat}(h:RL P n l.toArray l U w (hG P n y<|oc b Q)):RC P n (.block b<|.seq (.region id l.toArray false) y) U w Q:=AG<|g_ h
theorem ac{d:Nat}{v:Value}{l:List (Nat×Value)}(h:U d=v)(hl:agree U l):agree U ((d,v)::l):=⟨h,hl⟩
theorem az:agree U []:=trivial
theorem oi{α:Type}{a b:α}(h:some a=some b):a=b:=by injection h
end
def bc(e:TypeId)(g:Nat)(vs:List Value):HP:=⟨λ_ h=>(∀v∈vs,v.oneCell'=true)/\h=Gk.one g (.cells vs.toArray e (0,0)),λ_ h=>h⟩
def zp{α:Type}[GT α](vs:List Value)(x:α):HP:=⟨λM h=>GT.ok M vs x/\h=j4,λk⟨a,b⟩=>⟨GT.mono k a,b⟩⟩
structure za (P:Program) (T:TypeId) (zs:List Value):Prop where
 z:∃z,(∀w,(zeroValue T).run P w = .ok z w)/\z.cells=zs.toArray
section
variable {α β:Type}[GT α][GT β]{E w:World}{V:List HP}{i j:Nat}{v:Value}{x:α}{e e':TypeId}{b:Nat}{vs:List Value}
theorem qM{κ ν:Type}[GT κ][KV κ][GT ν]{m:List (κ×ν)}(i:Nat)(h:Holds E w V)(hi:V[i]? =some (mp v m)):v.oneCell'=true:=by
 obtain⟨M,hs,g⟩:=h;obtain⟨r,es,c,rfl,_⟩:=g.sat i _ hi;rfl
theorem Holds.oK{cs:List Value}{k:Nat}{f:α->β}(h:Holds E w V)(hi:V[i]? =some (zp cs x))(hF:Fd k f)(hv:cs[k]? =some v)(hs:GT.sz β=1)(ha:GT.agg β=false):Holds E w (rd v (f x)::V):=by
 obtain⟨M,hs',g⟩:=h;obtain⟨ho,_⟩:=g.sat i _ hi;refine⟨M,_,g.el ⟨?_,rfl⟩⟩;have h1:=hF M cs x ho;obtain⟨hlt,rfl⟩:=bS.1 hv;have h2:(cs.drop k).take (GT.sz β)= [cs[k]]:=by
  grind [List.drop_eq_getElem_cons]
 rw[h2]at h1;refine⟨_,?_,h1⟩
 grind [oY]
end
section
variable {P:Program}{n:Nat}{U:Nat->Value}{w:World}{Q:dC}{E:World}{V:List HP}{i j:Nat}
variable {ops:Array Oper}{rest:List Oper}{d:Nat}{ty T T' e:TypeId}{pos:String}{af:Array Edge}{g:Option (Nat×Bool)}{v v':Value}{q r:Operand}{b m:Nat}{vs:List Value}
theorem AL(i:Nat)(v:Value)(hd:Nat.blt d n=true)(hw:Holds E w V)(hx:ev U q = .pointer (some ⟨b,m,none⟩))(hi:V[i]? =some (bc e b vs))(hv:vs[m]? =some v)(hT:kn P T false 1)(k:RL P n ops rest (cM U d v) w Q)(hg:Wn ops U g:=by exact trivial):RL P n ops (⟨some d, .load T q,ty,pos,af,g⟩::rest) U w Q:=by
 obtain⟨M,hs,gd⟩:=hw;obtain⟨_,hh⟩:=gd.sat i _ hi;have hb:=gd.le i b _ (bY hi) (by rw[hh];exact bJ b _);have hc:w.cell? ⟨b,m,none⟩=some v:=by rw[cell_of_row w b _ _ _ _ hb];grind
 refine zJ (v:=v) hg hd ?_ k;simp[execOp,hx,Instr.loadAt,Instr.sureAddr,loadVar,hT.wQ,load,Sem.run,hc]
theorem By{zs:List Value}(hg:Wn ops U g)(hd:Nat.blt d n=true)(hw:Holds E w V)(hz:za P T zs)(h1:zs.all (·.oneCell')=true)
  (k:∀b w',Holds E w' (bc T b zs::V)->RL P n ops rest (cM U d<|.pointer<|some ⟨b,0,none⟩) w' Q):RL P n ops (⟨some d, .alloc T,ty,pos,af,g⟩::rest) U w Q:=by
 obtain⟨z,hz,hs⟩:=hz.z;refine zJ (w':=w.alloc<|.cells z.cells T) hg hd ?_<|k w.heap.size _<|hw.alloc _ λ_ _ _=>⟨λv hv=>gL.1 h1 v hv,by rw[hs]⟩
 simp only[execOp,Instr.alloc,newVar,newRow,newObj,aM,aV,hz,aS];rfl
theorem BO{a:Addr}(hg:Wn ops U g)(hd:Nat.blt d n=true)(hx:ev U q = .pointer (some a))(k:RL P n ops rest (cM U d<|.pointer<|some a) w Q):RL P n ops (⟨some d, .nilCheck q,ty,pos,af,g⟩::rest) U w Q:=by
 refine zJ hg hd ?_ k
 simp_all[execOp]
end
structure zq where
 n:Int
 deriving DecidableEq,Inhabited
instance:Sc zq:=⟨λx=> .int .i32 x.n,λ_=>rfl⟩
def bs(s:aQ):ByteArray:=⟨s.bF.toArray⟩
def it(g:Nat)(s:aQ)(p:Nat):HP:=⟨λ_ h=>h=Gk.one g (.stringIter (bs s) p),λ_ h=>h⟩
section
variable {P:Program}{n:Nat}{U:Nat->Value}{w:World}{Q:dC}{E:World}{V:List HP}{i j:Nat}
variable {ops:Array Oper}{rest:List Oper}{d:Nat}{ty T:TypeId}{pos:String}{af:Array Edge}{g:Option (Nat×Bool)}{q:Operand}{b p:Nat}{s:aQ}
end
def wm:List (Nat×Value)->Prop
 | []=>True
 |(_,v)::l=>v.oneCell'=true/\wm l
section
variable {P:Program}{n:Nat}{U:Nat->Value}{w:World}{Q:dC}{E:World}{V:List HP}{i j:Nat}
variable {ops:Array Oper}{rest:List Oper}{d:Nat}{ty T e:TypeId}{pos:String}{af:Array Edge}{g:Option (Nat×Bool)}{q r:Operand}{b m:Nat}{vs cs zs:List Value}
theorem Bz(hg:Wn ops U g)(hw:Holds E w V)(hx:ev U q = .pointer (some ⟨b,0,none⟩))(hy:ev U r = .agg cs.toArray)(hi:V[i]? =some (bc e b vs))(h1:∀v∈cs,v.oneCell'=true)
  (hT:kn P T true m) (hl:vs.length=m) (hc:cs.length=m) (k:∀w',Holds E w' (V.set i<|bc e b cs)->RL P n ops rest U w' Q):RL P n ops (⟨none, .store T q r,ty,pos,af,g⟩::rest) U w Q:=by
 obtain⟨M,hs,gd⟩:=hw;obtain⟨_,hh⟩:=gd.sat i _ hi;have hb:=gd.le i b _ (bY hi) (by rw[hh];exact bJ b _);have hrun:=kX (P:=P) (v:= .agg cs.toArray) (o:=0) hT.sz (by grind [Value.cells]) (by grind [Value.cells]) hb (by simp[hl]);have hd:List.drop m vs= []:=List.drop_eq_nil_of_le (by omega);simp only[fc,List.take_zero,List.nil_append,hd,jT,Array.toArray_toList,Value.cells]at hrun;refine Ax (w':=w.setRow b cs.toArray) hg ?_<|k _<|jU gd hi hh ⟨h1,rfl⟩
 simp_all[execOp,Instr.storeAt,Instr.sureAddr,aM,aV,aS]
def tR:List Value->Prop
 | []=>True
 |v::l=>v.oneCell'=true/\tR l
theorem tR.all:∀{l:List Value},tR l->∀v∈l,v.oneCell'=true
 |v::l,h,u,hu=>by
  rcases fm.1 hu with h'|h'
  ·subst h';exact h.1
  ·exact tR.all h.2 u h'
end
section
variable {α:Type}[GT α]{P:Program}{n:Nat}{U:Nat->Value}{w:World}{Q:dC}{E:World}{V:List HP}{i j:Nat}
variable {ops:Array Oper}{rest:List Oper}{d:Nat}{ty T t u e:TypeId}{pos:String}{af:Array Edge}{g:Option (Nat×Bool)}{v:Value}{q r:Operand}{l l':List α}{z0:α}{bytes:Nat}{k:Int}
end
section
variable {P:Program}{n:Nat}{U:Nat->Value}{w:World}{Q:dC}{E:World}{V:List HP}{i j:Nat}
variable {ops:Array Oper}{rest:List Oper}{d:Nat}{ty T T' t u e:TypeId}{pos:String}{af:Array Edge}{g:Option (Nat×Bool)}{v:Value}{q r:Operand}{K:IntKind}{a b:Int}
theorem BP(hg:Wn ops U g)(hd:Nat.blt d n=true)(hx:ev U q = .int K a)(hy:ev U r = .int K b)(kk:RL P n ops rest (cM U d<|.int K (if a<b then b else a)) w Q):
  RL P n ops (⟨some d, .call ⟨.builtin .max,#[q,r],#[t,u]⟩,ty,pos,af,g⟩::rest) U w Q:=by
 refine zJ hg hd ?_ kk;simp[execOp,resolve,hx,hy,invoke,builtin,Builtin.max_,Builtin.max2]
variable {α:Type}[GT α]{l:List α}{lo hi:Int}{x z0:α}{bytes:Nat}
end
def ku(D:Nat->Bool)(U:Nat->Value):List (Nat×Nat×Value)->Prop
 | []=>True
 |(j,d,v)::r=>(D j=false->U d=v)/\ku D U r
theorem ku.at{D:Nat->Bool}{U:Nat->Value}:∀{dv:List (Nat×Nat×Value)}(_:ku D U dv)(k:Nat){j d:Nat}{v:Value}(_:dv[k]? =some (j,d,v)),D j=false->U d=v
 | [],_,k,_,_,_,h=>by simp at h
 |(j,d,v)::r,h,0,j',d',v',e=>by simp at e;obtain⟨rfl,rfl,rfl⟩:=e;exact h.1
 |(j,d,v)::r,h,k+1,j',d',v',e=>ku.at h.2 k (by simpa using e)
theorem qi{D:Nat->Bool}{i k:Nat}(h:ins D i k=false):D k=false/\Nat.beq k i=false:=by
 grind [ins,Nat.beq]
theorem ku.no{D:Nat->Bool}{U:Nat->Value}{j:Nat}:∀{dv:List (Nat×Nat×Value)}(_:ku D U dv),ku (ins D j) U dv
 | [],_=>trivial
 |(i,d,v)::r,h=>⟨λhi=>h.1 (qi hi).1,ku.no h.2⟩
theorem ku.up{D:Nat->Bool}{U:Nat->Value}{j d:Nat}{v:Value}:∀{dv:List (Nat×Nat×Value)}(_:ku D U dv)(_:(dv.all λx=>Nat.beq x.1 j|| !Nat.beq x.2.1 d)=true),ku (ins D j) (cM U d v) dv
 | [],_,_=>trivial
 |(i,d',v')::r,h,ha=>by
  simp only[List.all_cons,bV,ee,Bool.not_eq_true']at ha;refine⟨λhi=>?_,ku.up h.2 ha.2⟩;obtain⟨h1,h2⟩:=qi hi
  rcases ha.1 with e|e
  ·rw[e]at h2;cases h2
  ·unfold cM;rw[e];exact h.1 h1
section
variable {E w:World}{M:cE}{hs:Nat->cE}{V:List HP}{P P1 P2:HP}{j:Nat}{h1 h2:cE}
theorem Good.split(g:Good E w M hs V)(hj:j<V.length)(hl1:∀b o,h1 b=some o->hs j b=some o)(hl2:∀b o,h2 b=some o->hs j b=some o)
  (hd:∀b o,h1 b=some o->h2 b=none) (hp1:P1.ok M h1) (hp2:P2.ok M h2):Good E w M (ry h1<|ja hs j h2) (P1::V.set j P2):=by
 have g2:Good E w M (ja hs j h2) (V.set j P2):=by
  have:=g.update (w':=w) (P':=P2) hj h2 hp2 rfl rfl rfl (λb o hb=>g.le j b o hj<|hl2 b o hb) (λb o hb=> .inl ⟨o,hl2 b o hb⟩)<|λb _ _=>rfl
  exact this
 refine g2.cons h1 hp1 (λb o hb=>g.le j b o hj<|hl1 b o hb) (λb o hb=>g.dm j b o hj<|hl1 b o hb)<|λi b o hi hb=>?_
 rw[fo]at hi;unfold ja;split
 ·grind
 ·rename_i hne;exact g.dj j i b o hj hi (λh=>hne h.symm)<|hl1 b o hb
theorem Good.join(g:Good E w M hs (P1::V))(hj:j<V.length)(hp:P.ok M (mY (hs 0)<|hs<|j+1)):
  Good E w M (ja (λi=>hs<|i+1) j<|mY (hs 0)<|hs<|j+1) (V.set j P):=by
 have hj1:j+1<(P1::V).length:=by grind
 have ho:∀b o,mY (hs 0) (hs<|j+1) b=some o->hs 0 b=some o\/hs (j+1) b=some o:=λb o hb=>by
  grind [mY]
 have h0:0<(P1::V).length:=by simp
 refine⟨g.os,g.tape,g.out,g.dr,g.im,λi Q hq=>?_,λi b o hi hb=>?_,λi b o hi hb=>?_,λi k b o hi hk hne hb=>?_⟩
 ·rw[List.getElem?_set]at hq;unfold ja
  by_cases e:j=i
  ·grind
  ·rw[aR e]at hq;rw[aR<|λh=>e h.symm];exact g.sat (i+1) Q (by grind)
 ·rw[fo]at hi;unfold ja at hb;split at hb
  ·rcases ho b o hb with h|h
   ·exact g.le 0 b o h0 h
   ·exact g.le (j+1) b o hj1 h
  ·exact g.le (i+1) b o (by grind) hb
 ·rw[fo]at hi;unfold ja at hb;split at hb
  ·rcases ho b o hb with h|h
   ·exact g.dm 0 b o h0 h
   ·exact g.dm (j+1) b o hj1 h
  ·exact g.dm (i+1) b o (by grind) hb
 ·rw[fo]at hi hk;have hi1:i+1<(P1::V).length:=by grind
  have hk1:k+1<(P1::V).length:=by grind
  unfold ja at hb ⊢;split at hb
  ·rename_i e;rw[aR<|λh=>hne<|e.trans h.symm]
   rcases ho b o hb with h|h
   ·exact g.dj 0 (k+1) b o h0 hk1 (by omega) h
   ·exact g.dj (j+1) (k+1) b o hj1 hk1 (by omega) h
  ·split
   ·rename_i e1 e2;have a1:=g.dj (i+1) 0 b o hi1 h0 (by omega) hb;have a2:=g.dj (i+1) (j+1) b o hi1 hj1 (by omega) hb
    grind [mY]
   ·exact g.dj (i+1) (k+1) b o hi1 hk1 (by omega) hb
end
structure RV where
 v:Value
 one:v.oneCell'=true
instance:Sc RV:=⟨RV.v,RV.one⟩
structure XT (ρ α:Type)where
 rest:ρ->α->Prop
 ok:cE->cE->ρ->α->Prop
 mono:∀{M M' h:cE}{u:ρ}{x:α},hle M M'->ok M h u x->ok M' h u x
 res:∀{M h:cE}{u:ρ}{x:α},ok M h u x->rest u x
def zb{ρ α:Type}(X:XT ρ α)(us:List ρ)(xs:List α)(k:Option Nat):HP:=
 ⟨λM h=>us.length=xs.length/\(∀(i:Nat)u x,us[i]? =some u->xs[i]? =some x->X.rest u x)/\∃c:Nat->Nat,(∀b o,h b=some o->c b<us.length/\k≠some (c b))/\
  ∀i u x,k≠some i->us[i]? =some u->xs[i]? =some x->X.ok M (λb=>if c b=i then h b else none) u x,
  λhk⟨h1,h0,c,h2,h3⟩=>⟨h1,h0,c,h2,λi u x hi hu hx=>X.mono hk (h3 i u x hi hu hx)⟩⟩
section
variable {ρ α:Type}{X:XT ρ α}{us:List ρ}{xs:List α}{E w:World}{V:List HP}{j i:Nat}{u u':ρ}{x x':α}
end
section
variable {ρ α:Type}[GT ρ]{X:XT ρ α}{us:List ρ}{xs:List α}{E w:World}{V:List HP}{j i:Nat}{e:TypeId}{v:Value}
end
section
variable {β:Type}[GT β]
def XS(e:TypeId)(β:Type)[GT β]:XT RV (List β):=⟨λ_ _=>True,λM h u l=>p6 e M h u.v l,λ{M M' h u l}hk hh=>(own e u.v l).mono hk hh,λ_=>trivial⟩
theorem p6.sl{e:TypeId}{M h:cE}{v:Value}{l:List β}(hd:∀b o,h b=some o->M b=none)(ho:p6 e M h v l):ib (mY M h) v l:=by
 rcases ho with⟨rfl,rfl,_⟩|⟨b,o,cap,cur,xs,rfl,h2,h3,h4,h5,h6,h7⟩
 ·exact⟨none,0,0,rfl,rfl,cI _,by simp[maxLen],λi x hx=>by simp at hx⟩
 ·refine nI (M:=mY M h) (e:=e) (fr:=(0,0)) ?_ (h7.mono<|oT _ _) h6 h2 h3
  simp_all[bJ,mY]
end
def zu:RV:=⟨.slice none 0 0,rfl⟩
instance:Inhabited RV:=⟨zu⟩
structure XO {ρ α β:Type} [GT ρ] [GT β] (X:XT ρ α) (e':TypeId) (off:Nat) (f:ρ->RV) (fs:ρ->RV->ρ) (g:α->List β) (gs:α->List β->α):Prop where
 zF:Fd off f
 zv:Fs off RV fs
 le:off+1<=GT.sz ρ
 get:∀{M h u x},X.ok M h u x->p6 e' M h (f u).v (g x)
 put:∀{M h' u x r y},X.rest u x->p6 e' M h' (RV.v r) y->X.ok M h' (fs u r) (gs x y)
section
variable {ρ α β:Type}[GT ρ][GT β]{X:XT ρ α}{us:List ρ}{xs:List α}{E w:World}{V:List HP}{i j k o b:Nat}{e e':TypeId}{v u:Value}{x:α}{y:List β}{jj:Int}{z:ρ}
variable {off:Nat}{f:ρ->RV}{fs:ρ->RV->ρ}{gg:α->List β}{gs:α->List β->α}
end
section
variable {ρ α β:Type}[GT ρ][GT β]{P:Program}{n:Nat}{U:Nat->Value}{w:World}{Q:dC}{E:World}{V:List HP}{i j k o b:Nat}
variable {ops:Array Oper}{rest:List Oper}{d:Nat}{ty t T e e':TypeId}{pos:String}{af:Array Edge}{g:Option (Nat×Bool)}{v vy u p:Value}{q r:Operand}
variable {X:XT ρ α}{us:List ρ}{xs xs':List α}{x:α}{y:List β}{jj:Int}{z:ρ}{bytes:Nat}
variable {off:Nat}{f:ρ->RV}{fs:ρ->RV->ρ}{gg:α->List β}{gs:α->List β->α}
end
section
variable {α β:Type}[GT β]{P:Program}{n:Nat}{U:Nat->Value}{w:World}{Q:dC}{E:World}{V:List HP}{i j k o b:Nat}
variable {ops:Array Oper}{rest:List Oper}{d:Nat}{ty t T e e':TypeId}{pos:String}{af:Array Edge}{g:Option (Nat×Bool)}{v vy u p:Value}{q r:Operand}
variable {us:List RV}{xs xs':List (List β)}{y:List β}{jj:Int}{bytes:Nat}
end
section
variable {P:Program}{n:Nat}{U:Nat->Value}{w:World}{Q:dC}{E:World}{V:List HP}{i j k o b:Nat}
variable {ops:Array Oper}{rest:List Oper}{d:Nat}{ty t T e e':TypeId}{pos:String}{af:Array Edge}{g:Option (Nat×Bool)}{v vy u p:Value}{q r:Operand}
end
section
variable {κ ν ρ:Type}[GT κ][KV κ][DecidableEq κ]
end
section
variable {κ β:Type}[GT κ][KV κ][DecidableEq κ][GT β]{E w:World}{V:List HP}{i j b o:Nat}{e e':TypeId}{v u:Value}{mr:List (κ×RV)}{m:List (κ×List β)}{k:κ}{y:List β}
def zw(e':TypeId)(mr:List (κ×RV))(m:List (κ×List β))(h:Option κ):HP:=
 ⟨λM hp=>mr.map Prod.fst=m.map Prod.fst/\(zb (XS e' β) (mr.map Prod.snd) (m.map Prod.snd)<|h.bind<|fx m).ok M hp,λhk⟨a,b⟩=>⟨a,(zb (XS e' β) _ _ _).mono hk b⟩⟩
theorem gD.raw{M h:cE}(hd:∀b o,h b=some o->M b=none):∀{es:List MapEntry}{mr:List (κ×RV)}{m:List (κ×List β)},gD M es mr->mr.map Prod.fst=m.map Prod.fst->
  (∀(i:Nat)u x,(mr.map Prod.snd)[i]? =some u->(m.map Prod.snd)[i]? =some x->∃h',(∀b o,h' b=some o->h b=some o)/\p6 e' M h' (RV.v u) x)->gD (mY M h) es m
 | [],[],[],_,_,_=>trivial
 |en::es,p::mr,q::m,⟨h1,h2,h3⟩,hk,hx=>by
  simp only[fu,List.cons.injEq]at hk;obtain⟨h',hs,ho⟩:=hx 0 p.2 q.2 rfl rfl;refine⟨by rw[h1,hk.1],?_,gD.raw hd h3 hk.2<|λi u x hu hx'=>hx (i+1) u x (by grind) (by grind)⟩;have:en.val=p.2.v:=sR.1 h2;rw[this];refine iS.2<|ib.mono (λb o hb=>?_)<|p6.sl (λb o hb=>hd b o<|hs b o hb) ho
  unfold mY at hb ⊢
  cases hM:M b with
  |some o'=>rw[hM]at hb;exact hb
  |none=>rw[hM]at hb;exact hs b o hb
 | [],p::mr,_,h,_,_=>h.elim
 |_::_,[],_,h,_,_=>h.elim
 | [],[],q::m,_,hk,_=>by simp at hk
 |_::_,p::mr,[],_,hk,_=>by simp at hk
end
section
variable {κ β:Type}[GT κ][KV κ][DecidableEq κ][GT β]{P:Program}{n:Nat}{U:Nat->Value}{w:World}{Q:dC}{E:World}{V:List HP}{i j b o:Nat}
variable {ops:Array Oper}{rest:List Oper}{d:Nat}{ty T kt et e':TypeId}{pos:String}{af:Array Edge}{g:Option (Nat×Bool)}{v u:Value}{q qk qv:Operand}{mr:List (κ×RV)}{m:List (κ×List β)}{k:κ}{y:List β}
end
section
variable {P:Program}{n:Nat}{U:Nat->Value}{w:World}{Q:dC}{E:World}{V:List HP}{i j k o b m:Nat}
variable {ops:Array Oper}{rest:List Oper}{d:Nat}{ty t T e e':TypeId}{pos:String}{af:Array Edge}{g:Option (Nat×Bool)}{v vy u p:Value}{q r:Operand}{cs:List Value}
end
section
variable {ρ α β:Type}[GT ρ][GT α][GT β]
structure XP (X:XT ρ α) (e':TypeId) (off:Nat) (fs:ρ->RV->ρ) (gs:α->List β->α):Prop where
 zv:Fs off RV fs
 le:off+1<=GT.sz ρ
 put:∀{M h' u x r y},X.rest u x->p6 e' M h' (RV.v r) y->X.ok M h' (fs u r) (gs x y)
end
section
variable {ρ α β:Type}[GT ρ][GT α][GT β]{X:XT ρ α}{E w:World}{V:List HP}{i j:Nat}{e e':TypeId}{v:Value}{xs:List α}{f:ρ->RV}{gg:α->List β}
end
section
variable {ρ α β:Type}[GT ρ][GT α][GT β]{P:Program}{n:Nat}{U:Nat->Value}{w:World}{Q:dC}{E:World}{V:List HP}{i j k o b:Nat}
variable {ops:Array Oper}{rest:List Oper}{d:Nat}{ty t T e e':TypeId}{pos:String}{af:Array Edge}{g:Option (Nat×Bool)}{v vy u p:Value}{q r:Operand}
variable {X:XT ρ α}{us:List ρ}{xs xs':List α}{x:α}{y:List β}{jj:Int}{z:ρ}{bytes off:Nat}{f:ρ->RV}{fs:ρ->RV->ρ}{gg:α->List β}{gs:α->List β->α}
end
structure zG (P:Program) (T:TypeId) (i:Nat) (ft:TypeId) (m:Nat):Prop where
 run:∀cs w,(Instr.field T (.agg cs) i).run P w=(part ft cs m).run P w
section
variable {α β:Type}[GT α][GT β]{P:Program}{n:Nat}{U:Nat->Value}{w:World}{Q:dC}{E:World}{V:List HP}{i:Nat}
variable {ops:Array Oper}{rest:List Oper}{d:Nat}{ty:TypeId}{pos:String}{af:Array Edge}{g:Option (Nat×Bool)}{v:Value}{q:Operand}{T ft:TypeId}{x:α}
end
def xP(n:Nat)(i:Int):Option (Fin n):=if h:0<=i/\i.toNat<n then some ⟨i.toNat,h.2⟩else none
theorem uW{n:Nat}{i:Int}{k:Fin n}(h:xP n i=some k):0<=i/\i=((k.val:Nat):Int):=by
 unfold xP at h;split at h
 ·rename_i h1;injection h with h
  subst h;exact⟨h1.1,by show i=((i.toNat:Nat):Int);omega⟩
 ·cases h
structure xG (P:Program) (T:TypeId) (n:Nat) (e:TypeId) (sz:Nat):Prop where
 oZ:P.underlying T=some (.array n e)
 sz:∀w,(sizeOf e).run P w = .ok sz w
structure wW (P:Program) (T:TypeId) (i:Int) (m:Nat):Prop where
 run:∀K a w,(Instr.indexAt T (.pointer<|some a)<|.int K i).run P w = .ok (.pointer<|some<|a.add m) w
structure zH (P:Program) (T:TypeId) (i:Int) (ft:TypeId) (m:Nat):Prop where
 run:∀K cs w,(Instr.index T (.agg cs)<|.int K i).run P w=(part ft cs m).run P w
section
variable {P:Program}{T e:TypeId}{n sz:Nat}{i:Int}
theorem xG.at(h:xG P T n e sz){k:Fin n}(hk:xP n i=some k):wW P T i (k.val*sz):=by
 obtain⟨h0,h1⟩:=uW hk;refine⟨λK a w=>?_⟩;have hlt:i<((n:Nat):Int):=by have:=k.isLt;omega
 have ht:i.toNat=k.val:=by omega
 simp only[Instr.indexAt,asIntOf,Instr.sureAddr,aM,aV,aS,run_underlying h.oZ,h.sz,h0,hlt,and_self,if_true,ht]
end
section
variable {α β:Type}[GT α][GT β]{P:Program}{n:Nat}{U:Nat->Value}{w:World}{Q:dC}{E:World}{V:List HP}{i:Nat}
variable {ops:Array Oper}{rest:List Oper}{d:Nat}{T ty e ft:TypeId}{pos:String}{af:Array Edge}{g:Option (Nat×Bool)}{v p:Value}{q r:Operand}{x:α}{K:IntKind}{jj:Int}{k off m:Nat}
theorem BA{b o:Nat}(hg:Wn ops U g)(hd:Nat.blt d n=true)(hx:ev U q = .pointer (some ⟨b,o,none⟩))(hy:ev U r = .int K jj)(hf:wW P T jj m)
  (kk:RL P n ops rest (cM U d<|.pointer<|some ⟨b,o+m,none⟩) w Q):RL P n ops (⟨some d, .indexAddr T q r,ty,pos,af,g⟩::rest) U w Q:=by
 refine zJ hg hd ?_ kk;simp only[execOp,hx,hy,aM,hf.run,aS,aV,Addr.add_lit]
theorem AM{b:Nat}(hd:Nat.blt d n=true)(hx:ev U q = .pointer (some ⟨b,0,none⟩))(hy:ev U r = .int K jj)(hf:wW P T jj m)(kk:RL P n ops rest (cM U d<|.pointer<|some ⟨b,m,none⟩) w Q)(hg:Wn ops U g:=by exact trivial):RL P n ops (⟨some d, .indexAddr T q r,ty,pos,af,g⟩::rest) U w Q:=
 BA (o:=0) (m:=m) hg hd hx hy hf (by rw[fc];exact kk)
end
structure wX (P:Program) (T:TypeId) (sz:Nat) (z:Array Value):Prop where
 run:∀parts cs w,Instr.fill (λi=>some (i*sz,sz)) z parts.toList=some cs->(Instr.build T parts).run P w = .ok (.agg cs) w
theorem wX.of{P:Program}{T e:TypeId}{n sz:Nat}{z:Value}(h1:xG P T n e sz)(h2:∀w,(zeroValue T).run P w = .ok z w:=by intro _;kernel_rfl):wX P T sz z.cells:=by
 refine⟨λparts cs w h=>?_⟩;unfold Instr.build;simp only[aM,h2,aS,run_underlying h1.oZ,h1.sz,h,aV]
section
variable {α:Type}[GT α]{P:Program}{n:Nat}{U:Nat->Value}{w:World}{Q:dC}{E:World}{V:List HP}
variable {ops:Array Oper}{rest:List Oper}{d:Nat}{T ty:TypeId}{pos:String}{af:Array Edge}{g:Option (Nat×Bool)}
variable {y:α}
end
section
variable {P:Program}{n:Nat}{U:Nat->Value}{w:World}{Q:dC}
variable {ops:Array Oper}{rest:List Oper}{d:Nat}{ty:TypeId}{pos:String}{af:Array Edge}{g:Option (Nat×Bool)}{K:IntKind}
end
section
variable {κ ν S R T:Type}
def mZ(body:κ×ν->S->Option (Fl S R)):List (κ×ν)->S->Option (Fo S R)
 | [],s=>some (.go s)
 |e::l,s=>(body e s).bind λ
  | .nx s'=>mZ body l s'
  | .br s'=>some (.go s')
  | .rt r=>some (.rt r)
open Classical in
noncomputable def qN(m:List (κ×ν))(body:κ×ν->S->Option (Fl S R))(s:S)(kg:S->Option T)(kr:R->Option T):Option T:=
 if h:∃t,∀p:List (κ×ν),p.Perm m->(mZ body p s).bind (λo=>o.cs kg kr)=some t then some (Classical.choose h)else none
theorem uX{m:List (κ×ν)}{body:κ×ν->S->Option (Fl S R)}{s:S}{kg:S->Option T}{kr:R->Option T}{t:T}(h:qN m body s kg kr=some t):
  ∀p:List (κ×ν),p.Perm m->(mZ body p s).bind (λo=>o.cs kg kr)=some t:=by
 unfold qN at h;split at h
 ·rename_i h1;injection h with h
  intro p hp;rw[<-h];exact Classical.choose_spec h1 p hp
 ·cases h
theorem vK{m:List (κ×ν)}{body:κ×ν->S->Option (Fl S R)}{s:S}{kg:S->Option T}{kr:R->Option T}{t:T}(h:∀p:List (κ×ν),p.Perm m->(mZ body p s).bind (λo=>o.cs kg kr)=some t):
  qN m body s kg kr=some t:=by
 have he:∃t,∀p:List (κ×ν),p.Perm m->(mZ body p s).bind (λo=>o.cs kg kr)=some t:=⟨t,h⟩;unfold qN;rw[dif_pos he];have h1:=Classical.choose_spec he m<|List.Perm.refl m
 rw[h m<|List.Perm.refl m]at h1;exact h1.symm
def Pf(m pre:List (κ×ν)):Prop:=∃rest,(pre++rest).Perm m
end
section
variable {κ ν:Type}[GT κ][KV κ][GT ν]
def vL(v:Value)(g:Nat)(m pre:List (κ×ν)):HP:=
 ⟨λM h=>∃(r:Nat)(es:Array MapEntry)(clock since:Nat)(seen:Array Nat)(c0:Nat)(pz rz:List (MapEntry×(κ×ν))),v = .map (some r)/\(gD M es.toList m/\uT es.toList clock m)/\r≠g/\
   h=mY (Gk.one r<|.map es clock) (Gk.one g<|.mapIter (some r) since seen c0)/\(∀x∈es.toList,x.born<since)/\since<=c0/\since<=clock/\
   (pz++rz).Perm (es.toList.zip m)/\seen.toList=pz.map (·.1.born)/\pre=pz.map (·.2)/\(pz= []\/c0=clock),
  λk⟨r,es,c,si,se,c0,pz,rz,hv,⟨he,hst⟩,hne,hh⟩=>⟨r,es,c,si,se,c0,pz,rz,hv,⟨gD.mono k he,hst⟩,hne,hh⟩⟩
theorem gD.at{M:cE}:∀{es:List MapEntry}{m:List (κ×ν)}{e:MapEntry}{x:κ×ν},gD M es m->(e,x)∈es.zip m->e.key=KV.enc x.1/\m8 M e.val x.2
 | [],[],_,_,_,h=>by simp at h
 |e::es,p::m,e',x,⟨h1,h2,h3⟩,h=>by
  rw[List.zip_cons_cons,fm]at h
  rcases h with h|h
  ·injection h with ha hb;subst ha;subst hb;exact⟨h1,h2⟩
  ·exact gD.at h3 h
 | [],_::_,_,_,h,_=>h.elim
 |_::_,[],_,_,h,_=>h.elim
theorem qj{M h:cE}{b:Nat}{o:Obj}(e:M b=some o):mY M h b=some o:=by simp[mY,e]
theorem nM{M h:cE}{b:Nat}(e:M b=none):mY M h b=h b:=by simp[mY,e]
theorem jw{g b:Nat}{o:Obj}(h:b≠g):Gk.one g o b=none:=by simp[Gk.one,h]
end
section
variable {κ ν S R T:Type}[GT κ][KV κ][DecidableEq κ][GT ν]
variable {P:Program}{n:Nat}{U:Nat->Value}{w:World}{Q:dC}{E:World}{V:List HP}{i:Nat}
variable {ops:Array Oper}{rest:List Oper}{d:Nat}{ty Ty kt et:TypeId}{pos:String}{af:Array Edge}{g:Option (Nat×Bool)}{v:Value}{q:Operand}{m pre:List (κ×ν)}{b:Nat}
theorem BB(hg:Wn ops U g)(hd:Nat.blt d n=true)(hw:Holds E w V)(hx:ev U q=v)(hi:V[i]? =some (mp v m))(hT:P.underlying Ty=some (.map kt et))
  (k:∀b w',Holds E w' (V.set i<|vL v b m [])->RL P n ops rest (cM U d<|.pointer<|some ⟨b,0,none⟩) w' Q):RL P n ops (⟨some d, .range Ty q,ty,pos,af,g⟩::rest) U w Q:=by
 obtain⟨M,hs,gd⟩:=hw;have hlt:=bY hi;obtain⟨r,es,clock,rfl,⟨he,hst⟩,hh⟩:=gd.sat i _ hi;have hb:=gd.le i r _ hlt (by rw[hh];exact bJ r _);have hrs:r<w.heap.size:=(Array.getElem?_eq_some_iff.1 hb).1;refine zJ (v:= .pointer<|some ⟨w.heap.size,0,none⟩) (w':=w.alloc<|.mapIter (some r) clock #[] clock) hg hd (by simp only[execOp,hx,run_range_map w Ty kt et r es clock hT hb,aM,aV,aS])<|k w.heap.size _ ?_
 have g1:=(gd.world (w':=w.alloc<|.mapIter (some r) clock #[] clock) rfl rfl rfl<|λb hb=>j5 w _ b hb).cons (P:=Gk.aW) (Gk.one w.heap.size<|.mapIter (some r) clock #[] clock) trivial
  (λb o hb=>by obtain⟨rfl,rfl⟩:=eC hb;exact heap_alloc_new w _)
  (λb o hb=>by
   obtain⟨rfl,rfl⟩:=eC hb
   cases e:M w.heap.size with
   |none=>rfl
   |some o'=>exact absurd (Array.getElem?_eq_some_iff.1 (gd.im _ o' e)).1 (Nat.lt_irrefl _))
  (λj b o hj hb=>by
   obtain⟨rfl,rfl⟩:=eC hb
   cases e:hs j w.heap.size with
   |none=>rfl
   |some o'=>exact absurd (Array.getElem?_eq_some_iff.1 (gd.le j _ o' hj e)).1 (Nat.lt_irrefl _))
 have g2:=g1.join (P:=vL (.map (some r)) w.heap.size m []) (j:=i) hlt (by
  refine⟨r,es,clock,clock,#[],clock,[],es.toList.zip m,rfl,⟨he,hst⟩,Nat.ne_of_lt hrs,?_,hst.1,cI _,cI _,List.Perm.refl _,rfl,rfl, .inl rfl⟩;show mY (Gk.one w.heap.size _) (hs i)=_;rw[hh];funext x
  by_cases e1:x=r
  ·subst e1;rw[nM<|jw<|Nat.ne_of_lt hrs,bJ,qj<|bJ _ _]
  ·rw[nM (M:=Gk.one r _)<|jw e1]
   by_cases e2:x=w.heap.size
   ·subst e2;rw[qj<|bJ _ _,bJ]
   ·rw[nM (jw e2),jw e1,jw e2])
 exact⟨_,_,g2⟩
theorem qO:∀{es:List MapEntry}{m:List (κ×ν)},es.length=m.length->(es.zip m).map (·.2)=m
 | [],[],_=>rfl
 |_::es,_::m,h=>by simp only[List.zip_cons_cons,fu];rw[qO (by simpa using h)]
 | [],_::_,h=>by simp at h
 |_::_,[],h=>by simp at h
theorem zip_fst:∀{es:List MapEntry}{m:List (κ×ν)},es.length=m.length->(es.zip m).map (·.1)=es
 | [],[],_=>rfl
 |_::es,_::m,h=>by simp only[List.zip_cons_cons,fu];rw[zip_fst (by simpa using h)]
 | [],_::_,h=>by simp at h
 |_::_,[],h=>by simp at h
theorem Holds.uY(hw:Holds E w V)(hi:V[i]? =some (vL v b m pre))(ty:TypeId):
  (pre.Perm m/\(Instr.next (.pointer<|some ⟨b,0,none⟩) false ty).run P w = .ok (.tuple #[.bool false]) w)\/
  ∃(x:κ×ν)(u:Value)(w':World),Pf m (pre++[x])/\(Instr.next (.pointer<|some ⟨b,0,none⟩) false ty).run P w = .ok (.tuple #[.bool true,KV.enc x.1,u]) w'/\
   Holds E w' (rd u x.2::V.set i (vL v b m<|pre++[x])):=by
 obtain⟨M,hs,gd⟩:=hw;have hlt:=bY hi;obtain⟨r,es,clock,since,seen,c0,pz,rz,rfl,⟨he,hst⟩,hne,hh,hold,hsc,hsk,hperm,hseen,hpre,hc0⟩:=gd.sat i _ hi;have hbr:w.heap[r]? =some (.map es clock):=gd.le i r _ hlt (by rw[hh];exact qj<|bJ r _);have hbb:w.heap[b]? =some (.mapIter (some r) since seen c0):=gd.le i b _ hlt (by rw[hh,nM<|jw<|λe=>hne e.symm];exact bJ b _);have hlen:es.toList.length=m.length:=he.len;have hnd:((pz++rz).map (·.1.born)).Nodup:=by
  have h1:((pz++rz).map (·.1.born)).Perm ((es.toList.zip m).map (·.1.born)):=hperm.map _;refine h1.symm.nodup ?_;have h2:(es.toList.zip m).map (·.1.born)=es.toList.map (·.born):=by rw[show(λ(x:MapEntry×(κ×ν))=>x.1.born)=MapEntry.born∘Prod.fst from rfl,<-List.map_map,zip_fst hlen]
  rw[h2];exact hst.2.1
 have hin:∀e:MapEntry,e∈es.toList->∃x,(e,x)∈pz++rz:=λe hm=>by
  have:e∈(es.toList.zip m).map (·.1):=by rw[zip_fst hlen];exact hm
  obtain⟨⟨e',x⟩,h1,rfl⟩:=List.mem_map.1 this;exact⟨x,hperm.mem_iff.2 h1⟩
 rcases run_next_at (P:=P) w ty b r since c0 seen es clock hbb hbr hold hsc with⟨h0,hrun⟩|⟨e,hem,w1,hw1,hrun⟩
 ·refine .inl ⟨?_,hrun⟩;have hrz:rz= []:=by
   cases rz with
   |nil=>rfl
   |cons z rz=>
    exfalso;have hz:z∈es.toList.zip m:=hperm.mem_iff.1 (by simp);have hze:z.1∈es.toList:=by have:=List.mem_map_of_mem (f:=Prod.fst) hz;rw[zip_fst hlen]at this;exact this
    have hl:leftOf es seen = #[]:=Array.eq_empty_of_size_eq_zero h0;have hns:seen.contains z.1.born=true:=by
     cases hc:seen.contains z.1.born with
     |true=>rfl
     |false=>
      have:z.1∈(leftOf es seen).toList:=by unfold leftOf;simp only[Array.toList_filter,List.mem_filter,hc];exact⟨hze,rfl⟩
      rw[hl]at this;simp at this
    have hns2:z.1.born∈seen.toList:=by simpa using hns
    rw[hseen]at hns2;rw[List.map_append,List.nodup_append]at hnd;exact hnd.2.2 _ hns2 _ (by simp) rfl
  subst hrz;rw[jT]at hperm;have:=hperm.map (·.2);rw[qO hlen,<-hpre]at this;exact this
 ·right;have he1:e∈es.toList/\seen.contains e.born=false:=by
   unfold leftOf at hem;simp only[Array.toList_filter,List.mem_filter]at hem;exact⟨hem.1,by simpa using hem.2⟩
  obtain⟨x,hx⟩:=hin e he1.1;have hxr:(e,x)∈rz:=by
   rcases List.mem_append.1 hx with h|h
   ·exfalso;have h1:e.born∈seen.toList:=by rw[hseen];exact List.mem_map.2 ⟨(e,x),h,rfl⟩
    have h2:seen.contains e.born=true:=by simpa using h1
    rw[he1.2]at h2;cases h2
   ·exact h
  obtain⟨l1,l2,hl⟩:=List.append_of_mem hxr;have hperm2:((pz++[(e,x)])++(l1++l2)).Perm (es.toList.zip m):=by
   refine List.Perm.trans ?_ hperm;rw[hl,kV];refine List.Perm.append_left _ ?_;exact(List.perm_middle (a:=(e,x)) (l₁:=l1) (l₂:=l2)).symm
  have hat:=he.at<|hperm.mem_iff.1 hx
  refine⟨x,e.val,_,⟨(l1++l2).map (·.2),?_⟩,by rw[<-hat.1];exact hrun,?_⟩
  ·have:=hperm2.map (·.2);rw[qO hlen,List.map_append,List.map_append,<-hpre]at this;exact this
  have gw:Good E w1 M hs V:=by
   rcases hw1 with rfl|rfl
   ·exact gd
   ·exact gd.world rfl rfl rfl<|λ_ _=>rfl
  have hh1:w1.heap=w.heap:=by rcases hw1 with rfl|rfl <;> rfl
  have hbs:b<w.heap.size:=(Array.getElem?_eq_some_iff.1 hbb).1;have g2:=gw.update (w':=ChangeMaps.setBlock w1 b<|.mapIter (some r) since (seen.push e.born) clock) (P':=vL (.map<|some r) b m<|pre++[x]) hlt
   (mY (Gk.one r<|.map es clock)<|Gk.one b<|.mapIter (some r) since (seen.push e.born) clock)
   ⟨r,es,clock,since,seen.push e.born,clock,pz++[(e,x)],l1++l2,rfl,⟨he,hst⟩,hne,rfl,hold,hsk,hsk,hperm2,by rw[Array.toList_push,hseen];simp,by rw[hpre];simp, .inr rfl⟩
   rfl rfl rfl
   (λc o hc=>by
    show(w1.heap.setIfInBounds b _)[c]? =some o;rw[hh1]
    by_cases e1:c=r
    ·subst e1;rw[qj<|bJ _ _]at hc;injection hc with hc;subst hc
     rw[Array.getElem?_setIfInBounds_ne<|λh=>hne h.symm];exact hbr
    ·rw[nM<|jw e1]at hc;obtain⟨rfl,rfl⟩:=eC hc
     rw[Array.getElem?_setIfInBounds_self_of_lt hbs])
   (λc o hc=>by
    left
    by_cases e1:c=r
    ·subst e1;exact⟨_,by rw[hh];exact qj<|bJ _ _⟩
    ·rw[nM<|jw e1]at hc;obtain⟨rfl,rfl⟩:=eC hc
     exact⟨_,by rw[hh,nM (jw e1)];exact bJ _ _⟩)
   (λc hc hcs=>by
    show(w1.heap.setIfInBounds b _)[c]? =w1.heap[c]?;have hcb:b≠c:=λh=>by
     subst h;rw[hh,nM<|jw<|λe=>hne e.symm,bJ]at hc
     cases hc
    rw[Array.getElem?_setIfInBounds_ne hcb])
  exact⟨M,_,g2.el ⟨hat.2,rfl⟩⟩
theorem BC{x:κ×ν}(hg:Wn ops U g)(hd:Nat.blt d n=true)(hw:Holds E w V)(hx:ev U q = .pointer (some ⟨b,0,none⟩))(hi:V[i]? =some (vL v b m<|pre++[x]))
  (k:∀u,Holds E w (rd u x.2::V)->RL P n ops rest (cM U d<|.tuple #[KV.enc x.1,u]) w Q):RL P n ops (⟨some d, .entry q,ty,pos,af,g⟩::rest) U w Q:=by
 obtain⟨M,hs,gd⟩:=hw;have hlt:=bY hi;obtain⟨r,es,clock,since,seen,c0,pz,rz,rfl,⟨he,hst⟩,hne,hh,hold,hsc,hsk,hperm,hseen,hpre,hc0⟩:=gd.sat i _ hi;have hbr:w.heap[r]? =some (.map es clock):=gd.le i r _ hlt (by rw[hh];exact qj<|bJ r _);have hbb:w.heap[b]? =some (.mapIter (some r) since seen c0):=gd.le i b _ hlt (by rw[hh,nM<|jw<|λe=>hne e.symm];exact bJ b _);have hlen:es.toList.length=m.length:=he.len;have hpz:pz≠[]:=λe=>by subst e;simp at hpre
 obtain⟨pz',z,rfl⟩:∃pz' z,pz=pz'++[z]:=⟨pz.dropLast,pz.getLast hpz,(List.dropLast_concat_getLast hpz).symm⟩;have hx2:z.2=x:=by
  rw[List.map_append]at hpre;have:=congrArg List.getLast? hpre;simpa using this.symm
 subst hx2;have hz:z∈es.toList.zip m:=hperm.mem_iff.1 (by simp);have hze:z.1∈es.toList:=by have:=List.mem_map_of_mem (f:=Prod.fst) hz;rw[zip_fst hlen]at this;exact this
 have hc:c0=clock:=by rcases hc0 with h|h;exact absurd h hpz;exact h
 subst hc;have hseen2:seen=(pz'.map (·.1.born)).toArray.push z.1.born:=by
  apply Array.ext';rw[hseen];simp
 rw[hseen2]at hbb;have hrun:=run_entry_at (P:=P) w b r since _ es c0 z.1 hbb hbr hze hst.2.1;have hat:=he.at (e:=z.1) (x:=z.2) hz;refine zJ hg hd ?_<|k z.1.val ⟨M,_,gd.el ⟨hat.2,rfl⟩⟩
 simp only[execOp,hx,hrun,aM,aV,aS,hat.1]
theorem Holds.kv(h:Holds E w V)(k:κ):Holds E w (rd (KV.enc k) k::V):=h.rA λ_ _ _=>⟨KV.rd _ k,rfl⟩
def zc(m:List (κ×ν))(body:κ×ν->S->Option (Fl S R))(I:List (κ×ν)->S->(Nat->Value)->World->Prop)(b0:Nat)(J:S->(Nat->Value)->World->Prop)(K:R->(Nat->Value)->World->Prop)(pre:List (κ×ν))(s:S):dC:=
 λex U w=>(pre.Perm m/\wi (R:=R) b0 J K (.go s) ex U w)\/∃x fl,Pf m (pre++[x])/\body x s=some fl/\qI (I<|pre++[x]) b0 J K fl ex U w
theorem BD{b0:Nat}{c:Code}{body:κ×ν->S->Option (Fl S R)}{kg:S->Option T}{kr:R->Option T}{s0:S}{t:T}(I:List (κ×ν)->S->(Nat->Value)->World->Prop)(J:S->(Nat->Value)->World->Prop)(K:R->(Nat->Value)->World->Prop)
  (hN:Gk.qN m body s0 kg kr=some t) (h0:I [] s0 U w)
  (step:∀pre s U w,I pre s U w->(∀x,Pf m (pre++[x])->∃fl,body x s=some fl)->RC P n c U w (zc m body I b0 J K pre s))
  (hrt:∀r U w,kr r=some t->K r U w->Q .ret U w) (hgo:∀s U w,kg s=some t->J s U w->Q .normal U w):RC P n (.block b0<|.loop c) U w Q:=by
 have hall:=uX hN;refine AG<|AQ (λj U w=>∃pre s,j+pre.length=m.length/\I pre s U w/\∀p,(pre++p).Perm m->(mZ body p s).bind (λo=>o.cs kg kr)=some t) (m:=m.length) ⟨[],s0,rfl,h0,λp hp=>hall p (by simpa using hp)⟩ ?_
 rintro j U w⟨pre,s,hj,hI,hp⟩;have hone:∀x rest,(pre++[x]++rest).Perm m->∃fl,body x s=some fl/\(match fl with| .nx s'=>(mZ body rest s').bind (λo=>o.cs kg kr)=some t| .br s'=>kg s'=some t| .rt r=>kr r=some t):=λx rest hr=>by
  have h1:=hp (x::rest) (by simpa using hr);obtain⟨o,h2,h3⟩:=bd h1;unfold mZ at h2;obtain⟨fl,h4,h5⟩:=bd h2;refine⟨fl,h4,?_⟩
  cases fl with
  |nx s'=>simp only at h5 ⊢;rw[h5];exact h3
  |br s'=>simp only at h5 ⊢;injection h5 with h5;subst h5;exact h3
  |rt r=>simp only at h5 ⊢;injection h5 with h5;subst h5;exact h3
 refine RC.mono (step pre s U w hI λx⟨rest,hx⟩=>by obtain⟨fl,h1,_⟩:=hone x rest hx;exact⟨fl,h1⟩) λex σ' w' q=>?_
 rcases q with⟨hpm,rfl,hJ⟩|⟨x,fl,⟨rest,hx⟩,hb,q⟩
 ·refine .inr ⟨by simp,?_⟩;have h1:=hp [] (by simpa using hpm);have h2:kg s=some t:=h1;exact uI<|hgo s σ' w' h2 hJ
 ·obtain⟨fl',hb',hm⟩:=hone x rest hx;rw[hb]at hb';injection hb' with hb';subst hb'
  have hl:=hx.length_eq;simp only[g6,jR,List.length_nil]at hl
  cases fl with
  |nx s'=>
   obtain⟨rfl,hI'⟩:=q;refine .inl ⟨rfl,j - 1,by omega,pre++[x],s',by simp;omega,hI',λp hpp=>?_⟩;obtain⟨fl2,hb2,hm2⟩:=hone x p hpp;rw[hb]at hb2;injection hb2 with hb2;subst hb2
   exact hm2
  |br s'=>
   obtain⟨rfl,hJ⟩:=q;exact .inr ⟨by simp,uI<|hgo s' σ' w' hm hJ⟩
  |rt r=>
   obtain⟨rfl,hK⟩:=q;exact .inr ⟨by simp,bZ<|hrt r σ' w' hm hK⟩
theorem BE{b0 id:Nat}{y:Code}{body:κ×ν->S->Option (Fl S R)}{s:S}{I:List (κ×ν)->S->(Nat->Value)->World->Prop}{J:S->(Nat->Value)->World->Prop}{K:R->(Nat->Value)->World->Prop}
  (hd:Nat.blt d n=true) (hw:Holds E w V) (hx:ev U q = .pointer (some ⟨b,0,none⟩)) (hi:V[i]? =some (vL v b m pre)) (hb:∀x,Pf m (pre++[x])->∃fl,body x s=some fl)
  (h0:RL P n (⟨some d, .next q false,ty,pos,af,none⟩::rest).toArray rest (cM U d<|.tuple #[.bool false]) w (hG P n y<|wi b0 J K<|.go s))
  (h1:∀x u fl w',body x s=some fl->Holds E w' (rd u x.2::V.set i (vL v b m (pre++[x])))->
   RL P n (⟨some d, .next q false,ty,pos,af,none⟩::rest).toArray rest (cM U d (.tuple #[.bool true,KV.enc x.1,u])) w' (hG P n y (qI (I (pre++[x])) b0 J K fl))):
  RC P n (.seq (.region id (⟨some d, .next q false,ty,pos,af,none⟩::rest).toArray false) y) U w (zc m body I b0 J K pre s):=by
 rcases hw.uY (P:=P) hi ty with⟨hp,hrun⟩|⟨x,u,w',hx',hrun,hw'⟩
 ·refine RC.mono (g_<|zJ trivial hd ?_ h0) λex U w q=> .inl ⟨hp,q⟩;simp only[execOp,hx,hrun,aM,aV,aS]
 ·obtain⟨fl,hfl⟩:=hb x hx';refine RC.mono (g_<|zJ trivial hd ?_<|h1 x u fl w' hfl hw') λex U w q=> .inr ⟨x,fl,hx',hfl,q⟩;simp only[execOp,hx,hrun,aM,aV,aS]
end
end Go.Gk
namespace Go.Gk
open Go IntKind Go.Sort
def qP(l:List Int):Option (List Int):=if l.length<4611686018427387904 then some (l.mergeSort λx y=>decide<|x<=y)else none
section
variable {α:Type}[GT α]
end
end Go.Gk
namespace Go.Gk
open Go IntKind
def l6:Op->Bool
 | .move _| .assign _| .pick .. | .load .. | .nilCheck _| .binOp .. | .unOp .. | .fieldAddr .. | .indexAddr .. | .index .. | .field .. | .extract .. | .slice .. | .lookup .. | .build .. | .makeFunc .. =>true
 | .call ⟨.builtin .len,_,_⟩| .call ⟨.builtin .cap,_,_⟩| .call ⟨.builtin .min,_,_⟩| .call ⟨.builtin .max,_,_⟩=>true
 |_=>false
theorem ik{α:Type}{s:Sem α}{P:Program}{w w':World}{f:α->Value}{nx:Next}(h:(do let a <-s;pure (.value<|f a):Sem Next).run P w = .ok nx w'):∃v,nx = .value v:=by
 rw[aM]at h
 cases hr:s.run P w with
 |ok a w1=>grind [Result.andThen,aV]
 |halt x w1=>simp_all
theorem rM{ρ:Operand->Value}{o:Oper}{P:Program}{w w':World}{nx:Next}(hk:l6 o.op=true)(h:(execOp ρ o).run P w = .ok nx w'):∃v,nx = .value v:=by
 obtain⟨dst,op,ty,pos,af,g⟩:=o
 cases op
 case move x=>grind [execOp,aV]
 case assign x=>grind [execOp,aV]
 case pick c a b=>exact ik (s:=asBool<|ρ c) (f:=λt=>if t then ρ a else ρ b) h
 case load t a=>exact ik h
 case binOp a b c d e=>
  simp only[execOp]at h;exact ik h
 case unOp a b c=>exact ik h
 case fieldAddr a b c=>exact ik h
 case indexAddr a b c=>exact ik h
 case index a b c=>exact ik h
 case field a b c=>exact ik h
 case extract a b=>exact ik h
 case slice a b c d e=>exact ik h
 case lookup a b c d=>exact ik h
 case build a b=>exact ik h
 case makeFunc a b c=>exact ik h
 case nilCheck x=>
  simp only[execOp]at h;split at h
  ·cases h
  ·cases h
  ·cases h
  ·split at h
   ·cases h
   ·rw[aM]at h
    cases h1:program.run P w with
    |halt x w1=>simp_all
    |ok p w1=>
     rw[h1]at h;simp only[Result.andThen,aM]at h;split at h
     ·rename_i r w2 h2;split at h
      ·simp_all
      grind [aV]
     ·cases h
   grind [aV]
  grind [aV]
 case call c=>
  obtain⟨cal,args,ts⟩:=c
  cases cal with
  |builtin b=>
   cases b <;> first
    |(cases hk;done)
    |(simp only[execOp,resolve,aM,aV,Result.andThen,invoke,builtin]at h;exact ik (by rw[aM];exact h))
  |value f=>cases hk
  |invoke r m=>cases hk
 all_goals cases hk
theorem Sl.uniq{n:Nat}{U σ':Nat->Value}{a:Act}(h:Sl n U a)(h':Sl n σ' a):U=σ':=funext λt=>(h.get t).symm.trans<|h'.get t
section
variable {P:Program}{n:Nat}{ops:Array Oper}{w:World}{Q:dC}{U:Nat->Value}{o:Oper}{rest l:List Oper}
def RO(P:Program)(n:Nat)(ops:Array Oper)(w:World)(Q:dC):List Oper->(Nat->Value)->Prop
 | [],U=>Q .normal U w
 |o::rest,U=>RL P n ops [o] U w (λex σ' w'=>ex = .normal/\w'=w/\RO P n ops w Q rest σ')
theorem Ae(h:RL P n ops [o] U w (λex σ' w'=>ex = .normal/\w'=w/\RO P n ops w Q rest σ')):RO P n ops w Q (o::rest) U:=h
theorem d5(h:RL P n ops [o] U w (λex σ' w'=>ex = .normal/\w'=w/\RO P n ops w Q rest σ')):RL P n ops [] U w (λex σ' w'=>ex = .normal/\w'=w/\RO P n ops w Q (o::rest) σ'):=i_ ⟨rfl,rfl,h⟩
theorem z5(h:Q .normal U w):RL P n ops [] U w (λex σ' w'=>ex = .normal/\w'=w/\RO P n ops w Q [] σ'):=i_ ⟨rfl,rfl,h⟩
def rq(P:Program)(ops:Array Oper)(w:World)(a:Act)(o:Oper)(v:Value):Prop:=
 (Region.wanted o (yielded ops a.tmps)=true/\(execOp a.eval o).run P w = .ok (.value v) w)\/(Region.wanted o (yielded ops a.tmps)=false/\v=undef)
theorem BF{a:Act}{d:Nat}(hs:Sl n U a)(hk:l6 o.op=true)(hd:o.dst=some d)(hdn:Nat.blt d n=true)(h:RO P n ops w Q (o::rest) U):
  ∃v,rq P ops w a o v/\RO P n ops w Q rest (cM U d v):=by
 have h1:=h a hs;unfold wpList at h1;split at h1
 ·rename_i hw
  rcases h1 with h1|⟨_,h1⟩
  ·unfold Oper.wp at h1
   cases hr:(execOp a.eval o).run P w with
   |ok nx w'=>
    rw[hr]at h1;obtain⟨v,rfl⟩:=rM hk hr;obtain⟨σ',hs',_,hw',hrest⟩:=h1;have hw':w'=w:=hw';subst hw';rw[hd]at hs';have:=hs'.uniq<|hs.put hdn v
    subst this;exact⟨v, .inl ⟨hw,hr⟩,hrest⟩
   |halt x w'=>
    rw[hr]at h1
    cases x with
    |panic v=>obtain⟨_,_,hbad,_⟩:=h1;cases hbad
    |_=>exact h1.elim
  ·obtain⟨_,_,_,_,hbad,_⟩:=h1;cases hbad
 ·rename_i hw;obtain⟨σ',hs',_,_,hrest⟩:=h1;rw[hd]at hs';have:=hs'.uniq<|hs.put hdn undef
  subst this;exact⟨undef, .inr ⟨by grind,rfl⟩,hrest⟩
def oM(U:Nat->Value):List Oper->List Value->(Nat->Value)
 |o::l,v::vs=>oM (match o.dst with|some d=>cM U d v|none=>U) l vs
 |_,_=>U
theorem BG:∀(l:List Oper)(U:Nat->Value)(a:Act),Sl n U a->(∀o∈l,l6 o.op=true/\∃d,o.dst=some d/\Nat.blt d n=true)->RO P n ops w Q l U->
  ∃vs:List Value,vs.length=l.length/\Q .normal (oM U l vs) w/\∀(j:Nat)o v,l[j]? =some o->vs[j]? =some v->∃aj,Sl n (oM U (l.take j)<|vs.take j) aj/\rq P ops w aj o v:=by
 intro l
 induction l with
 |nil=>intro U a hs _ h;exact⟨[],rfl,h,λj o v ho=>by simp at ho⟩
 |cons o l ih=>
  intro U a hs hk h;obtain⟨hk1,d,hd,hdn⟩:=hk o (by simp);obtain⟨v,hst,hrest⟩:=BF hs hk1 hd hdn h;obtain⟨vs,hl,hq,hj⟩:=ih (cM U d v) _ (hs.put hdn v) (λo' ho'=>hk o' (by simp[ho'])) hrest;refine⟨v::vs,by simp[hl],?_,λj o' v' ho hv=>?_⟩
  ·grind [oM]
  ·cases j with
   |zero=>
    simp at ho hv;subst ho;subst hv;exact⟨a,hs,hst⟩
   |succ j=>
    grind [oM]
theorem l7{t:Nat}:∀(l:List Oper)(vs:List Value)(U:Nat->Value),(∀o∈l,o.dst≠some t)->oM U l vs t=U t
 | [],_,U,_=>rfl
 |_::_,[],U,_=>rfl
 |o::l,v::vs,U,h=>by
  unfold oM;rw[l7 l vs _<|λo' ho=>h o' (by simp[ho])]
  cases hd:o.dst with
  |none=>rfl
  |some d=>
   have hne:t≠d:=λe=>h o (by simp) (by rw[hd,e]);show cM U d v t=U t;unfold cM
   cases hb:Nat.beq t d with
   |true=>exact absurd (cV hb) hne
   |false=>rfl
theorem qQ{t:Nat}:∀(l:List Oper)(vs:List Value)(U:Nat->Value)(j:Nat)(o:Oper)(v:Value),l[j]? =some o->vs[j]? =some v->o.dst=some t->
  (∀(k:Nat)o',l[k]? =some o'->k≠j->o'.dst≠some t)->oM U l vs t=v
 | [],_,_,_,_,_,h,_,_,_=>by simp at h
 |_::_,[],_,_,_,_,_,h,_,_=>by simp at h
 |o::l,v::vs,U,0,o',v',ho,hv,hd,hu=>by
  simp at ho hv;subst ho;subst hv;unfold oM
  rw[l7 l vs _ (λo' ho=>by
   obtain⟨k,hk⟩:=List.mem_iff_getElem?.1 ho
   exact hu (k+1) o' (by grind) (by omega)),hd]
  show cM U t v t=v;unfold cM;rw[Nat.beq_refl];rfl
 |o::l,v::vs,U,j+1,o',v',ho,hv,hd,hu=>by
  unfold oM;exact qQ l vs _ j o' v' (by grind) (by grind) hd<|λk o2 hk hne=>hu (k+1) o2 (by grind) (by omega)
def nN(o:Oper)(k:Nat):Bool:=o.after.toList.any λe=>Region.binds .any e&&Nat.beq e.on k
def oN(ops:Array Oper)(o:Oper)(d:Nat):Bool:=(o.looksAt ops).any λt=>Nat.beq t d
def pd(ops:Array Oper)(i:Nat)(o:Oper)(k:Nat)(o':Oper):Bool:=
 Nat.beq i k||match o'.dst with
  |some d=>(match o.dst with|some d2=> !Nat.beq d d2|none=>true)&&(!oN ops o d||(bif Nat.blt k i then nN o k else nN o' i))
  |none=>false
def ql(ops:Array Oper)(i:Nat)(o:Oper):Nat->List Oper->Bool
 |_,[]=>true
 |k,o'::l=>pd ops i o k o'&&ql ops i o (k+1) l
def rN(n:Nat)(ops:Array Oper)(l:List Oper):Nat->List Oper->Bool
 |_,[]=>true
 |i,o::l'=>l6 o.op&&(match o.dst with|some d=>Nat.blt d n|none=>false)&&ql ops i o 0 l&&rN n ops l (i+1) l'
theorem nO{i:Nat}:∀{k:Nat}{l:List Oper},ql ops i o k l=true->∀(j:Nat)o',l[j]? =some o'->pd ops i o (k+j) o'=true
 |_,[],_,j,o',h=>by simp at h
 |k,p::l,hs,0,o',h=>by
  unfold ql at hs;rw[bV]at hs;simp at h;subst h;exact hs.1
 |k,p::l,hs,j+1,o',h=>by
  unfold ql at hs;rw[bV]at hs;have:=nO hs.2 j o' (by simpa using h);rw[show k+(j+1)=k+1+j by omega];exact this
theorem rO{l0:List Oper}:∀{i:Nat}{l:List Oper},rN n ops l0 i l=true->∀(j:Nat)o,l[j]? =some o->l6 o.op=true/\(∃d,o.dst=some d/\Nat.blt d n=true)/\ql ops (i+j) o 0 l0=true
 |_,[],_,j,o',h=>by simp at h
 |i,p::l,hs,0,o',h=>by
  unfold rN at hs;simp only[bV]at hs;simp at h;subst h;refine⟨hs.1.1.1,?_,hs.1.2⟩;have:=hs.1.1.2
  cases hd:p.dst with
  |none=>rw[hd]at this;cases this
  |some d=>rw[hd]at this;exact⟨d,rfl,this⟩
 |i,p::l,hs,j+1,o',h=>by
  unfold rN at hs;simp only[bV]at hs;have:=rO hs.2 j o' (by simpa using h);rw[show i+(j+1)=i+1+j by omega];exact this
theorem hL{D:Nat->Bool}{k:Nat}:∀{l:List Edge},ie D l->(l.any λe=>Region.binds .any e&&Nat.beq e.on k)=true->D k=true
 | [],_,h=>by cases h
 |e::l,hd,h=>by
  rw[List.any_cons,ee,bV]at h
  rcases h with⟨h1,h2⟩|h
  ·have:=hd.1 h1;rwa[cV h2]at this
  ·exact hL hd.2 h
theorem la{a a':Act}{U σ':Nat->Value}(hs:Sl n U a)(hs':Sl n σ' a')(h:∀t,oN ops o t=true->U t=σ' t)(hsz:∀(g:Nat)o2 d,ops[g]? =some o2->o2.dst=some d->d<n):
  Region.wanted o (yielded ops a.tmps)=Region.wanted o (yielded ops a'.tmps):=by
 unfold Region.wanted;split
 ·rfl
 ·rename_i g want hg;have:yielded ops a.tmps g=yielded ops a'.tmps g:=by
   unfold yielded
   cases ho:ops[g]? with
   |none=>rfl
   |some o2=>
    cases hd:o2.dst with
    |none=>simp[hd]
    |some d=>
     have hlt:=hsz g o2 d ho hd
     have he:=h d (by
      unfold oN Oper.looksAt
      simp_all)
     have h1:=hs.get d;have h2:=hs'.get d;have l1:d<a.tmps.size:=by rw[hs.size];exact hlt
     have l2:d<a'.tmps.size:=by rw[hs'.size];exact hlt
     simp_all
  rw[this]
theorem lb{F:Nat->Oper->Prop}:∀{k:Nat}{l:List Oper},(∀(i:Nat)o,l[i]? =some o->F (k+i) o)->iN F k l
 |_,[],_=>trivial
 |k,p::l,h=>⟨h 0 p rfl,lb (λi o ho=>by have:=h (i+1) o (by grind);grind)⟩
theorem nP(D:Nat->Bool)(i:Nat):ins D i i=true:=by simp[ins,Nat.beq_refl]
theorem jd{D:Nat->Bool}{i j:Nat}(h:j≠i):ins D i j=D j:=by
 unfold ins
 simp_all
theorem Af{id:Nat}{l:List Oper}(hm:P.follows .mixedOrders=true)(h:RO P n l.toArray w.drew Q l U)(hdep:l4 0 l=true:=by exact rfl)(hro:rN n l.toArray l 0 l=true:=by kernel_rfl):RC P n (.region id l.toArray true) U w Q:=by
 intro a0 ha0;have hA:=λj o(ho:l[j]? =some o)=>rO hro j o ho
 obtain⟨vs,hvl,hq,hst⟩:=BG l U a0 ha0 (λo ho=>by
  grind [List.mem_iff_getElem?]) h
 have hsz:∀(g:Nat)o2 d,l.toArray[g]? =some o2->o2.dst=some d->d<n:=λg o2 d ho hd=>by
  grind [Nat.blt_eq]
 have hdist:∀(i k:Nat)o o' t,l[i]? =some o->l[k]? =some o'->k≠i->o.dst=some t->o'.dst≠some t:=λi k o o' t ho ho' hne hd hd'=>by
  have hp:=nO (hA i o ho).2.2 k o' ho';unfold pd at hp
  simp_all
 refine AW (U:=U) (w:=w) hm hdep (λD σ' w'=>w'=w.drew/\(∀(i:Nat)o v t,l[i]? =some o->vs[i]? =some v->o.dst=some t->D i=true->σ' t=v)/\(∀t,(∀(i:Nat)o,l[i]? =some o->o.dst=some t->D i=false)->σ' t=U t)) ?_ ?_ ?_ a0 ha0
 ·simp
 ·refine lb λi o ho=>?_;rw[fc];rintro D σ' w' hD hdeps hcl⟨rfl,hJ1,hJ2⟩;obtain⟨hk,⟨d,hd,hdn⟩,hrow⟩:=hA i o ho;rw[fc]at hrow;have hiv:i<vs.length:=by grind
  obtain⟨ai,hsi,hstp⟩:=hst i o vs[i] ho<|aZ hiv
  have hag:∀t,oN l.toArray o t=true->oM U (l.take i) (vs.take i) t=σ' t:=by
   intro t ht
   by_cases hex:∃(k:Nat)(o':Oper),l[k]? =some o'/\o'.dst=some t
   ·obtain⟨k,o',ho',hd'⟩:=hex;have hkv:k<vs.length:=by rw[hvl];exact(bS.1 ho').1
    by_cases hki:k<i
    ·have hp:=nO hrow k o' ho';rw[fc]at hp;unfold pd at hp;rw[hd',ee]at hp
     rcases hp with hp|hp
     ·have:=cV hp;omega
     simp only[bV,ee,Bool.not_eq_true']at hp;have hp2:=hp.2;rw[ht]at hp2
     rcases hp2 with hp2|hp2
     ·cases hp2
     have hb:Nat.blt k i=true:=by rw[Nat.blt_eq];exact hki
     rw[hb]at hp2;have hDk:=hL hdeps hp2;rw[hJ1 k o' vs[k] t ho' (aZ hkv) hd' hDk];refine qQ (l.take i) (vs.take i) U k o' vs[k] (by rw[fJ,aO hki];exact ho') (by rw[fJ,aO hki];exact aZ hkv) hd' λk2 o2 hk2 hne=>?_;rw[fJ]at hk2;split at hk2
     ·exact hdist k k2 o' o2 t ho' hk2 hne hd'
     ·cases hk2
    ·have hDk:D k=false:=by
      by_cases he:k=i
      ·subst he;exact hD
      ·have hp:=nO hrow k o' ho';rw[fc]at hp;unfold pd at hp;rw[hd',ee]at hp
       rcases hp with hp|hp
       ·have:=cV hp;omega
       simp only[bV,ee,Bool.not_eq_true']at hp;have hp2:=hp.2;rw[ht]at hp2
       rcases hp2 with hp2|hp2
       ·cases hp2
       have hb:Nat.blt k i=false:=by
        cases hx:Nat.blt k i with
        |false=>rfl
        |true=>rw[Nat.blt_eq]at hx;omega
       rw[hb]at hp2;refine nf λhDk=>?_;have:=hL (hcl k o' ho' hDk) hp2;rw[hD]at this;cases this
     rw[hJ2 t λk2 o2 ho2 hd2=>?_]
     ·refine l7 _ _ _ λo2 ho2 hd2=>?_;obtain⟨k2,hk2⟩:=List.mem_iff_getElem?.1 ho2;rw[fJ]at hk2;split at hk2
      ·rename_i hlt;exact hdist k k2 o' o2 t ho' hk2 (by omega) hd' hd2
      ·cases hk2
     ·by_cases he:k2=k
      ·subst he;exact hDk
      ·exact absurd hd2<|hdist k k2 o' o2 t ho' ho2 he hd'
   ·rw[hJ2 t λk o' ho' hd'=>absurd ⟨k,o',ho',hd'⟩ hex];refine l7 _ _ _ λo2 ho2 hd2=>?_;obtain⟨k2,hk2⟩:=List.mem_iff_getElem?.1 ho2;rw[fJ]at hk2;split at hk2
    ·exact hex ⟨k2,o2,hk2,hd2⟩
    ·cases hk2
  intro a' hs';have hrun:execOp a'.eval o=execOp ai.eval o:=execOp_congr o (λcs b e=>by rw[e]at hk;cases hk) λx hx=>by
   rw[hs'.ev,hsi.ev]
   cases x with
   |tmp t=>
    refine(hag t ?_).symm;unfold oN Oper.looksAt;rw[List.any_append,ee];left;rw[jk];exact⟨t,List.mem_filterMap.2 ⟨.tmp t,by simpa using hx,rfl⟩,Nat.beq_refl t⟩
   |_=>rfl
  have hwant:=la (ops:=l.toArray) (o:=o) hsi hs' hag hsz;have hfin:∀v,vs[i]? =some v->(∀(k:Nat)o2 u t,l[k]? =some o2->vs[k]? =some u->o2.dst=some t->ins D i k=true->cM σ' d v t=u)/\(∀t,(∀(k:Nat)o2,l[k]? =some o2->o2.dst=some t->ins D i k=false)->cM σ' d v t=U t):=by
   intro v hv;refine⟨λk o2 u t ho2 hu hd2 hDk=>?_,λt ht=>?_⟩
   ·by_cases he:k=i
    ·subst he;rw[ho]at ho2;injection ho2 with ho2;subst ho2
     rw[hd]at hd2;injection hd2 with hd2;subst hd2
     rw[hv]at hu;injection hu with hu;subst hu
     unfold cM;rw[Nat.beq_refl];rfl
    ·rw[jd he]at hDk;have hne:t≠d:=λe=>by subst e;exact hdist i k o o2 t ho ho2 he hd hd2
     unfold cM
     cases hb:Nat.beq t d with
     |true=>exact absurd (cV hb) hne
     |false=>exact hJ1 k o2 u t ho2 hu hd2 hDk
   ·have hne:t≠d:=λe=>by
     subst e;have:=ht i o ho hd;rw[nP]at this;cases this
    unfold cM
    cases hb:Nat.beq t d with
    |true=>exact absurd (cV hb) hne
    |false=>
     refine hJ2 t λk o2 ho2 hd2=>?_;have:=ht k o2 ho2 hd2
     by_cases he:k=i
     ·subst he;exact hD
     ·rw[jd he]at this;exact this
  unfold wpList
  rcases hstp with⟨hw1,hr1⟩|⟨hw1,hv1⟩
  ·rw[hwant]at hw1;rw[aO hw1];left;unfold Oper.wp;rw[hrun,hr1];refine⟨cM σ' d vs[i],?_,rfl,rfl,hfin _<|aZ hiv⟩;rw[hd];exact hs'.put hdn _
  ·rw[hwant]at hw1;rw[aR (by rw[hw1];exact Bool.false_ne_true)];refine⟨cM σ' d undef,?_,rfl,rfl,hfin _ (by rw[<-hv1];exact aZ hiv)⟩;rw[hd];exact hs'.put hdn _
 ·rintro D σ' w' hall⟨rfl,hJ1,hJ2⟩;have:σ'=oM U l vs:=by
   funext t
   by_cases hex:∃(k:Nat)(o':Oper),l[k]? =some o'/\o'.dst=some t
   ·obtain⟨k,o',ho',hd'⟩:=hex;have hkl:=(bS.1 ho').1;have hkv:k<vs.length:=by rw[hvl];exact hkl
    rw[hJ1 k o' vs[k] t ho' (aZ hkv) hd'<|hall k hkl];exact(qQ l vs U k o' vs[k] ho' (aZ hkv) hd' λk2 o2 hk2 hne=>hdist k k2 o' o2 t ho' hk2 hne hd').symm
   ·rw[hJ2 t λk o' ho' hd'=>absurd ⟨k,o',ho',hd'⟩ hex];refine(l7 _ _ _ λo2 ho2 hd2=>?_).symm;obtain⟨k2,hk2⟩:=List.mem_iff_getElem?.1 ho2;exact hex ⟨k2,o2,hk2,hd2⟩
  rw[this];exact hq
end
def v9:List (Nat×Value)->Nat->Value
 | [],_=>undef
 |(d,v)::r,t=>bif Nat.beq d t then v else v9 r t
def uG:List (Nat×Nat×Value)->List (Nat×Value)->Nat->Value
 | [],ag,t=>v9 ag t
 |(_,d,v)::r,ag,t=>bif Nat.beq d t then v else uG r ag t
def wo(dv:List (Nat×Nat×Value))(ag:List (Nat×Value)):Operand->Value
 | .tmp t=>uG dv ag t
 | .const v=>v
 | .global g=> .pointer (some ⟨g,0,none⟩)
 | .func f=> .func (.func f) #[] #[]
def oE(ops:Array Oper)(o:Oper):Operand->Bool
 | .tmp t=>oN ops o t
 |_=>true
def Pu(P:Program)(n:Nat)(ops:Array Oper)(o:Oper)(dv:List (Nat×Nat×Value))(ag:List (Nat×Value)):Prop:=
 ∀(U:Nat->Value)(w:World),(∀q,oE ops o q=true->ev U q=wo dv ag q)->RL P n ops [o] U w (λex σ' w'=>ex = .normal/\w'=w/\∃d,o.dst=some d/\σ'=cM U d (uG dv ag d))
section
variable {P:Program}{n:Nat}{ops:Array Oper}{U:Nat->Value}{w:World}{d:Nat}{v u:Value}{rest:List Oper}{ty T T':TypeId}{pos:String}{af:Array Edge}{g:Option (Nat×Bool)}{x y z:Operand}{Q:dC}
theorem BQ(h:v=u):RL P n ops [] (cM U d v) w (λex σ' w'=>ex = .normal/\w'=w/\∃d',(some d:Option Nat)=some d'/\σ'=cM U d' (bif Nat.beq d d' then u else undef)):=
 by grind [i_,Nat.beq_refl]
theorem AN{f:Nat->Value}(h:v=f d):RL P n ops [] (cM U d v) w (λex σ' w'=>ex = .normal/\w'=w/\∃d',(some d:Option Nat)=some d'/\σ'=cM U d' (f d')):=
 by grind [i_]
theorem Wn.k{j t:Nat}{b:Bool}(h1:(ops[j]?).bind (·.dst)=some t)(h:ev U (.tmp t) = .bool b):Wn ops U (some (j,b)):=⟨t,h1,h⟩
theorem Wn.h{j t:Nat}{a b:Bool}(h1:(ops[j]?).bind (·.dst)=some t)(h:ev U (.tmp t) = .bool a)(e:a=b):Wn ops U (some (j,b)):=⟨t,h1,by rw[<-e];exact h⟩
end
def m0:List (Nat×Nat×Value)->Nat->Option Nat
 | [],_=>none
 |(k,d,_)::r,t=>bif Nat.beq d t then some k else m0 r t
def tS(ag:List (Nat×Value))(t:Nat):Bool:=ag.any λp=>Nat.beq p.1 t
def wq(ops:Array Oper)(i:Nat)(o:Oper)(cs:List Nat)(dv:List (Nat×Nat×Value))(ag:List (Nat×Value))(od:List (Nat×Nat×Value)):Bool:=
 ((o.looksAt ops).all λt=>match m0 dv t with|some k=>nN o k|none=>tS ag t)&&
 (match o.dst with
  |some d=>Nat.beq (m0 dv d).isNone.toNat 0&&(dv.all λe=>(!Nat.beq e.1 i||Nat.beq e.2.1 d)&&(!Nat.beq e.2.1 d||Nat.beq e.1 i))&&Nat.beq (dv.filter λe=>Nat.beq e.2.1 d).length 1&& !tS ag d&&
    (od.all λe=>Nat.beq e.1 i|| !Nat.beq e.2.1 d)
  |none=>false)&&(cs.all λc=> !Nat.beq c i)&& !Nat.beq i 999
def rP(ops:Array Oper)(cs:List Nat)(dv:List (Nat×Nat×Value))(ag:List (Nat×Value))(od:List (Nat×Nat×Value)):Nat->List Oper->List Nat->Bool
 |_,[],_=>true
 |_,_::_,[]=>false
 |i,o::l,m::ms=>(!Nat.beq m 1||wq ops i o cs dv ag od)&&rP ops cs dv ag od (i+1) l ms
theorem rQ{ops:Array Oper}{cs:List Nat}{dv:List (Nat×Nat×Value)}{ag:List (Nat×Value)}{od:List (Nat×Nat×Value)}:∀{i:Nat}{l:List Oper}{ms:List Nat},rP ops cs dv ag od i l ms=true->
  ∀(j:Nat)o,l[j]? =some o->ms[j]? =some 1->wq ops (i+j) o cs dv ag od=true
 |_,[],_,_,j,o,h,_=>by simp at h
 |_,_::_,[],h0,_,_,_,h=>by simp at h
 |i,p::l,m::ms,h0,0,o,h,hm=>by
  unfold rP at h0;rw[bV]at h0;simp at h hm;subst h;subst hm
  rcases ee _ _▸h0.1 with h|h
  ·cases h
  ·exact h
 |i,p::l,m::ms,h0,j+1,o,h,hm=>by
  unfold rP at h0;rw[bV]at h0;have:=rQ h0.2 j o (by simpa using h) (by grind);rw[show i+(j+1)=i+1+j by omega];exact this
theorem oj{ag:List (Nat×Value)}{t k:Nat}:∀{dv:List (Nat×Nat×Value)},m0 dv t=some k->∃v,(k,t,v)∈dv/\uG dv ag t=v
 | [],h=>by cases h
 |(k',d,v)::r,h=>by
  unfold m0 at h;unfold uG
  cases hb:Nat.beq d t with
  |true=>
   rw[hb]at h;simp at h;subst h;have:=cV hb;subst this;exact⟨v,by simp,rfl⟩
  |false=>
   rw[hb]at h;obtain⟨u,h1,h2⟩:=oj (ag:=ag) h;exact⟨u,by simp[h1],h2⟩
theorem pe{ag:List (Nat×Value)}{t:Nat}:∀{dv:List (Nat×Nat×Value)},m0 dv t=none->uG dv ag t=v9 ag t
 | [],_=>rfl
 |(k',d,v)::r,h=>by
  unfold m0 at h;unfold uG
  cases hb:Nat.beq d t with
  |true=>rw[hb]at h;cases h
  |false=>rw[hb]at h;exact pe h
theorem cB.mem{D:Nat->Bool}{U:Nat->Value}{k t:Nat}{v:Value}:∀{dv:List (Nat×Nat×Value)},cB D U dv->(k,t,v)∈dv->D k=true->U t=v
 | [],_,h,_=>by cases h
 |(i,d,u)::r,hd,h,hD=>by
  rcases fm.1 h with e|h
  ·injection e with e1 e2;injection e2 with e2 e3;subst e1;subst e2;subst e3;exact hd.1 hD
  ·exact hd.2.mem h hD
theorem cB.of{D:Nat->Bool}{U:Nat->Value}:∀{dv:List (Nat×Nat×Value)},(∀k t v,(k,t,v)∈dv->D k=true->U t=v)->cB D U dv
 | [],_=>trivial
 |(i,d,u)::r,h=>⟨h i d u (by simp),cB.of λk t v hm=>h k t v (by simp[hm])⟩
theorem agree.v9{U:Nat->Value}{t:Nat}:∀{ag:List (Nat×Value)},agree U ag->tS ag t=true->U t=v9 ag t
 | [],_,h=>by cases h
 |(d,v)::r,ha,h=>by
  unfold Gk.v9
  cases hb:Nat.beq d t with
  |true=>have:=cV hb;subst this;exact ha.1
  |false=>
   unfold tS at h;rw[List.any_cons,hb]at h;exact agree.v9 ha.2 h
theorem agree.zd{U:Nat->Value}{d:Nat}{v:Value}:∀{ag:List (Nat×Value)},agree U ag->tS ag d=false->agree (cM U d v) ag
 | [],_,_=>trivial
 |(t,u)::r,ha,h=>by
  unfold tS at h;rw[List.any_cons,Bool.or_eq_false_iff]at h;refine⟨?_,agree.zd ha.2 h.2⟩;unfold cM;rw[h.1];exact ha.1
theorem Au{P:Program}{n:Nat}{U:Nat->Value}{w:World}(E:World){Q:dC}(V:List HP){X:Type}{id:Nat}{l:List Oper}(hm:P.follows .mixedOrders=true)(ms cs:List Nat)(dv:X->List (Nat×Nat×Value))(ag:List (Nat×Value))(od:List (Nat×Nat×Value))(g:(Nat->Bool)->X->List HP)(hpu:∀x,rP l.toArray cs (dv x) ag od 0 l ms=true)(h0:∃x,cB (λ_=>false) U (dv x)/\agree U ag/\ku (λ_=>false) U od/\Holds E w.drew (g (λq=>(λ_=>false) (cs.getD q 999)) x++V))(step:iN (λi o=>bif Nat.beq (ms.getD i 0) 1 then(∀x,Pu P n l.toArray o (dv x) ag)else
   (∀D U w,D i=false->ie D o.after.toList->k6 l D->(∃x,cB D U (dv x)/\agree U ag/\ku D U od/\Holds E w (g (λq=>D (cs.getD q 999)) x++V))->
    RL P n l.toArray [o] U w (λex U w=>ex = .normal/\∃x,cB (ins D i) U (dv x)/\agree U ag/\ku (ins D i) U od/\Holds E w (g (λq=>ins D i (cs.getD q 999)) x++V)))) 0 l) (hend:∀D U w,(∀i,i<l.length->D i=true)->(∃x,cB D U (dv x)/\agree U ag/\ku D U od/\Holds E w (g (λq=>D (cs.getD q 999)) x++V))->Q .normal U w) (hdep:l4 0 l=true:=by exact rfl):RC P n (.region id l.toArray true) U w Q:=by
 refine AW hm hdep (λD U w=>∃x,cB D U (dv x)/\agree U ag/\ku D U od/\Holds E w (g (λq=>D<|cs.getD q 999) x++V)) h0 ?_ hend;refine lb λi o ho=>?_;have hs:=step.at i o ho;rw[fc]at hs ⊢
 cases hmi:Nat.beq (ms.getD i 0) 1 with
 |false=>grind
 |true=>
  rw[hmi]at hs;have hs:∀x,Pu P n l.toArray o (dv x) ag:=hs;have hms:ms[i]? =some 1:=by
   grind [cV]
  rintro D U w hD hdeps hcl⟨x,hv,ha,hod,hw⟩;have hok:=rQ (hpu x) i o ho hms;rw[fc]at hok;unfold wq at hok;simp only[bV]at hok;obtain⟨⟨⟨h1,h2⟩,h3⟩,h4⟩:=hok;have hsee:∀q,oE l.toArray o q=true->ev U q=wo (dv x) ag q:=by
   intro q hq
   cases q with
   |tmp t=>
    have ht:t∈o.looksAt l.toArray:=by
     grind [oE,oN,jk,cV]
    have h1t:=gL.1 h1 t ht;show U t=uG (dv x) ag t
    cases hf:m0 (dv x) t with
    |some k=>
     rw[hf]at h1t;obtain⟨v,hm,hv2⟩:=oj (ag:=ag) hf;rw[hv2];exact hv.mem hm<|hL hdeps h1t
    |none=>
     rw[hf]at h1t;rw[pe hf];exact ha.v9 h1t
   |const v=>rfl
   |global g=>rfl
   |func f=>rfl
  have hrun:=hs x U w hsee;intro a haa;have hr:=hrun a haa
  cases hdst:o.dst with
  |none=>rw[hdst]at h2;cases h2
  |some d=>
   rw[hdst]at h2;simp only[bV]at h2;obtain⟨⟨⟨⟨e1,e2⟩,e3⟩,e4⟩,e5⟩:=h2;obtain⟨k0,hf⟩:∃k,m0 (dv x) d=some k:=by
    cases hf:m0 (dv x) d with
    |some k=>exact⟨k,rfl⟩
    |none=>rw[hf]at e1;cases e1
   obtain⟨v,hmv,hv2⟩:=oj (ag:=ag) hf;have fin:∀σ',σ'=cM U d v->∃x,cB (ins D i) σ' (dv x)/\agree σ' ag/\ku (ins D i) σ' od/\Holds E w (g (λq=>ins D i<|cs.getD q 999) x++V):=by
    rintro σ' rfl
    refine⟨x,cB.of λk t u hm hDk=>?_,ha.zd (by simpa using e4),hod.up (by
     rw[gL];intro e he;have:=gL.1 e5 e he
     exact this),?_⟩
    ·have he:=gL.1 e2 (k,t,u) hm;simp only[bV,ee,Bool.not_eq_true']at he
     by_cases htd:t=d
     ·subst htd;have hlen:=cV e3;have hm1:(k,t,u)∈(dv x).filter λe=>Nat.beq e.2.1 t:=by rw[List.mem_filter];exact⟨hm,Nat.beq_refl t⟩
      have hm2:(k0,t,v)∈(dv x).filter λe=>Nat.beq e.2.1 t:=by rw[List.mem_filter];exact⟨hmv,Nat.beq_refl t⟩
      obtain⟨z,hz⟩:=List.length_eq_one_iff.1 hlen;rw[hz]at hm1 hm2;simp at hm1 hm2;have:=hm1.trans hm2.symm;injection this with _ this;injection this with _ this
      subst this;unfold cM;rw[Nat.beq_refl];rfl
     ·have hki:k≠i:=λe=>by
       subst e
       rcases he.1 with h|h
       ·rw[Nat.beq_refl]at h;cases h
       ·exact htd<|cV h
      rw[jd hki]at hDk;unfold cM
      cases hb:Nat.beq t d with
      |true=>exact absurd (cV hb) htd
      |false=>exact hv.mem hm hDk
    ·have:(λq=>ins D i<|cs.getD q 999)=(λq=>D<|cs.getD q 999):=by
      funext q;refine jd λe=>?_;rw[List.getD_eq_getElem?_getD]at e
      cases hq:cs[q]? with
      |some c=>
       rw[hq]at e;have hc:=gL.1 h3 c<|eP hq
       have e:c=i:=e;subst e;rw[Nat.beq_refl]at hc;cases hc
      |none=>
       rw[hq]at e;have e:999=i:=e;subst e;cases h4
     rw[this];exact hw
   unfold wpList at hr ⊢;split at hr
   ·rename_i hwn;rw[aO hwn]
    rcases hr with hr|⟨h2,h3⟩
    ·refine .inl<|o6 (λa w' h=>?_) (λc a w' h=>?_) (λh=>?_) hr
     ·obtain⟨σ',hs',_,hw',d',hd',he⟩:=h;have hd':some d=some d':=by rw[<-hdst];exact hd'
      injection hd' with hd';subst hd'
      have hw':w'=w:=hw';subst hw';exact⟨σ',hs',rfl,fin σ' (by rw[he,hv2])⟩
     ·obtain⟨_,_,hbad,_⟩:=h;cases hbad
     ·obtain⟨_,_,_,_,hbad,_⟩:=h;cases hbad
    ·obtain⟨_,_,_,_,hbad,_⟩:=h3;cases hbad
   ·rename_i hwn;rw[aR hwn];obtain⟨σ',hs',_,hw',d',hd',he⟩:=hr;have hd':some d=some d':=by rw[<-hdst];exact hd'
    injection hd' with hd';subst hd'
    exact⟨σ',hs',rfl,fin σ' (by rw[he,hv2])⟩
section
variable {P:Program}{n:Nat}{ops:Array Oper}{d:Nat}{v u:Value}{ty T T' t0:TypeId}{pos:String}{af:Array Edge}{g:Option (Nat×Bool)}{q r y z:Operand}{dv:List (Nat×Nat×Value)}{ag:List (Nat×Value)}{a b:Bool}{o:Oper}
def PG(ops:Array Oper)(o:Oper)(dv:List (Nat×Nat×Value))(ag:List (Nat×Value))(g:Option (Nat×Bool)):Prop:=∀U:Nat->Value,(∀q,oE ops o q=true->ev U q=wo dv ag q)->Wn ops U g
theorem gn:PG ops o dv ag none:=λ_ _=>trivial
theorem sZ(hg:PG ops ⟨some d, .move q,ty,pos,af,g⟩ dv ag g)(h:(Nat.blt d n,oE ops ⟨some d, .move q,ty,pos,af,g⟩ q,wo dv ag q)=(true,true,uG dv ag d):=by exact rfl):Pu P n ops ⟨some d, .move q,ty,pos,af,g⟩ dv ag:=λU w hs=>by
 injection h with h1 h;injection h with h2 h3
 exact w_ (hd:=h1) (hx:=hs _ h2) _ (hg U hs)<|AN h3
theorem uZ(hg:PG ops ⟨some d, .assign q,ty,pos,af,g⟩ dv ag g)(h:(Nat.blt d n,oE ops ⟨some d, .assign q,ty,pos,af,g⟩ q,wo dv ag q)=(true,true,uG dv ag d)):Pu P n ops ⟨some d, .assign q,ty,pos,af,g⟩ dv ag:=λU w hs=>by
 injection h with h1 h;injection h with h2 h3
 exact A6 (hg U hs) h1 (hs _ h2)<|AN h3
theorem l8{c o' j m:Nat}(hg:PG ops ⟨some d, .fieldAddr T q j,ty,pos,af,g⟩ dv ag g)(hf:pY P T j m)(h:(Nat.blt d n,oE ops ⟨some d, .fieldAddr T q j,ty,pos,af,g⟩ q,wo dv ag q,uG dv ag d)=(true,true, .pointer<|some ⟨c,o',none⟩, .pointer<|some ⟨c,o'+m,none⟩):=by exact rfl):
  Pu P n ops ⟨some d, .fieldAddr T q j,ty,pos,af,g⟩ dv ag:=λU w hs=>by
 injection h with h1 h;injection h with h2 h;injection h with h3 h4
 exact j_ (hg:=hg U hs) (hd:=h1) ((hs _ h2).trans h3) hf<|AN h4.symm
theorem xR(hg:PG ops ⟨some d, .unOp .not T q,ty,pos,af,g⟩ dv ag g)(h:(Nat.blt d n,oE ops ⟨some d, .unOp .not T q,ty,pos,af,g⟩ q,wo dv ag q,uG dv ag d)=(true,true, .bool a, .bool<|!a)):
  Pu P n ops ⟨some d, .unOp .not T q,ty,pos,af,g⟩ dv ag:=λU w hs=>by
 injection h with h1 h;injection h with h2 h;injection h with h3 h4
 exact z7 (hg:=hg U hs) (hd:=h1) (hx:=(hs _ h2).trans h3) _<|AN h4.symm
end
def jm(o:Oper)(U:Nat->Value)(v:Value):Nat->Value:=match o.dst with|some d=>cM U d v|none=>U
def pf(acc:List Nat):List Edge->Nat
 | []=>0
 |e::r=>bif Region.binds .any e then Nat.lor (Nat.lor (Nat.shiftLeft 1 e.on) (acc.getD e.on 0)) (pf acc r)else pf acc r
def s6:List Oper->List Nat->List Nat
 | [],acc=>acc
 |o::l,acc=>s6 l (acc++[pf acc o.after.toList])
def s8(l:List Oper)(i:Nat)(rest:List Nat):Bool:=(List.range l.length).all λk=>Nat.beq k i||(rest.any λq=>Nat.beq q k)||Nat.testBit ((s6 l []).getD i 0) k
section
variable {P:Program}{n:Nat}{l:List Oper}{mk:List Nat}{Q:dC}{U:Nat->Value}{w:World}{i:Nat}{rest:List Nat}{o:Oper}
def DP(P:Program)(n:Nat)(l:List Oper)(mk:List Nat)(Q:dC):(World->Prop)->List Nat->(Nat->Value)->World->Prop
 |_,[],U,w=>Q .normal U w
 |S,i::rest,U,w=>∃o,l[i]? =some o/\
  ((mk.getD i 0=0/\RL P n l.toArray [o] U w (λex σ' w'=>ex = .normal/\w'=w/\DP P n l mk Q S rest σ' w))\/
   (mk.getD i 0=1/\∃v,∃S1:World->Prop,(∀w2,S1 w2->S w2)/\(S w->S1 w)/\(∀w',S1 w'->RL P n l.toArray [o] U w' (λex σ' w''=>ex = .normal/\w''=w'/\σ'=jm o U v))/\DP P n l mk Q S1 rest (jm o U v) w)\/
   (mk.getD i 0=2/\∃S1:World->Prop,((∀w2,S1 w2->S w2)\/s8 l i rest=true)/\RL P n l.toArray [o] U w (λex σ' w'=>ex = .normal/\S1 w'/\DP P n l mk Q S1 rest σ' w'))\/
   (mk.getD i 0=3/\∃T q b m row e ag k,o.op = .load T q/\ev U q = .pointer (some ⟨b,m,none⟩)/\kn P T ag k/\m+k<=row.size/\m<row.size/\w.heap[b]? =some (.cells row e (0,0))/\
    RL P n l.toArray [o] U w (λex σ' w'=>ex = .normal/\w'=w/\DP P n l mk Q (λw2=>S w2/\w2.heap[b]? =some (.cells row e (0,0))) rest σ' w)))
section
variable {S:World->Prop}
theorem zM(ho:l[i]? =some o)(hm:mk.getD i 0=0)(h:RL P n l.toArray [o] U w (λex σ' w'=>ex = .normal/\w'=w/\DP P n l mk Q S rest σ' w)):DP P n l mk Q S (i::rest) U w:=⟨o,ho, .inl ⟨hm,h⟩⟩
theorem z1(v:Value)(ho:l[i]? =some o)(h1:∀w',RL P n l.toArray [o] U w'<|λex σ' w''=>ex = .normal/\w''=w'/\σ'=jm o U v)(h:DP P n l mk Q S rest (jm o U v) w)(hm:mk.getD i 0=1:=by exact rfl):DP P n l mk Q S (i::rest) U w:=⟨o,ho, .inr<|.inl ⟨hm,v,S,λ_ h=>h,λh=>h,λw' _=>h1 w',h⟩⟩
theorem Av(v:Value)(ho:l[i]? =some o)(h1:∀w',S w'->RL P n l.toArray [o] U w' (λex σ' w''=>ex = .normal/\w''=w'/\σ'=jm o U v))(h:DP P n l mk Q S rest (jm o U v) w)(hm:mk.getD i 0=1:=by exact rfl):DP P n l mk Q S (i::rest) U w:=⟨o,ho, .inr<|.inl ⟨hm,v,S,λ_ h=>h,λh=>h,h1,h⟩⟩
theorem BH(v:Value)(S1:World->Prop)(hS:∀w2,S1 w2->S w2)(hS':S w->S1 w)(ho:l[i]? =some o)(hm:mk.getD i 0=1)(h1:∀w',S1 w'->RL P n l.toArray [o] U w' (λex σ' w''=>ex = .normal/\w''=w'/\σ'=jm o U v))(h:DP P n l mk Q S1 rest (jm o U v) w):DP P n l mk Q S (i::rest) U w:=⟨o,ho, .inr<|.inl ⟨hm,v,S1,hS,hS',h1,h⟩⟩
theorem z6(ho:l[i]? =some o)(hm:mk.getD i 0=2)(h:RL P n l.toArray [o] U w (λex σ' w'=>ex = .normal/\S w'/\DP P n l mk Q S rest σ' w')):DP P n l mk Q S (i::rest) U w:=⟨o,ho, .inr<|.inr<|.inl ⟨hm,S, .inl λ_ h=>h,h⟩⟩
theorem Bb(ho:l[i]? =some o)(hm:mk.getD i 0=2)(h:RL P n l.toArray [o] U w (λex σ' w'=>ex = .normal/\True/\DP P n l mk Q (λ_=>True) rest σ' w'))(hk:s8 l i rest=true:=by kernel_rfl):DP P n l mk Q S (i::rest) U w:=⟨o,ho, .inr<|.inr<|.inl ⟨hm,λ_=>True, .inr hk,h⟩⟩
theorem BR{T e:TypeId}{q:Operand}{b m k:Nat}{row:Array Value}{ag:Bool}(ho:l[i]? =some o)(hm:mk.getD i 0=3)(hop:o.op = .load T q)(hp:ev U q = .pointer (some ⟨b,m,none⟩))(hT:kn P T ag k)(hh:w.heap[b]? =some (.cells row e (0,0))/\m+k<=row.size/\m<row.size)
  (h:RL P n l.toArray [o] U w (λex σ' w'=>ex = .normal/\w'=w/\DP P n l mk Q (λw2=>S w2/\w2.heap[b]? =some (.cells row e (0,0))) rest σ' w)):DP P n l mk Q S (i::rest) U w:=
 ⟨o,ho, .inr<|.inr<|.inr ⟨hm,T,q,b,m,row,e,ag,k,hop,hp,hT,hh.2.1,hh.2.2,hh.1,h⟩⟩
theorem Ad(h:Q .normal U w):DP P n l mk Q S [] U w:=by grind [DP]
theorem zT{ops:Array Oper}(h:DP P n l mk Q S rest U w):RL P n ops [] U w (λex σ' w'=>ex = .normal/\w'=w/\DP P n l mk Q S rest σ' w):=by grind [i_]
theorem z2{ops:Array Oper}(hS:S w)(h:DP P n l mk Q S rest U w):RL P n ops [] U w (λex σ' w'=>ex = .normal/\S w'/\DP P n l mk Q S rest σ' w'):=by grind [i_]
theorem zW{ops:Array Oper}{σ0:Nat->Value}(h:U=σ0:=by exact rfl):RL P n ops [] U w (λex σ' w'=>ex = .normal/\w'=w/\σ'=σ0):=by grind [i_]
end
end
section
variable {P:Program}{n:Nat}{ops:Array Oper}{U:Nat->Value}{w:World}{o:Oper}
theorem qR{a:Act}{d:Nat}{C:(Nat->Value)->Prop}(hs:Sl n U a)(hk:l6 o.op=true)(hd:o.dst=some d)(hdn:Nat.blt d n=true)
  (h:RL P n ops [o] U w (λex σ' w'=>ex = .normal/\w'=w/\C σ')):∃v,rq P ops w a o v/\C (cM U d v):=by
 have h1:=h a hs;unfold wpList at h1;split at h1
 ·rename_i hw
  rcases h1 with h1|⟨_,h1⟩
  ·unfold Oper.wp at h1
   cases hr:(execOp a.eval o).run P w with
   |ok nx w'=>
    rw[hr]at h1;obtain⟨v,rfl⟩:=rM hk hr;obtain⟨σ',hs',_,hw',hrest⟩:=h1;have hw':w'=w:=hw';subst hw';rw[hd]at hs';have:=hs'.uniq<|hs.put hdn v
    subst this;exact⟨v, .inl ⟨hw,hr⟩,hrest⟩
   |halt x w'=>
    rw[hr]at h1
    cases x with
    |panic v=>obtain⟨_,_,hbad,_⟩:=h1;cases hbad
    |_=>exact h1.elim
  ·obtain⟨_,_,_,_,hbad,_⟩:=h1;cases hbad
 ·rename_i hw;obtain⟨σ',hs',_,_,hrest⟩:=h1;rw[hd]at hs';have:=hs'.uniq<|hs.put hdn undef
  subst this;exact⟨undef, .inr ⟨by grind,rfl⟩,hrest⟩
end
theorem rR{P:Program}{w:World}{b k:Nat}{row:Array Value}{e:TypeId}(h:w.heap[b]? =some (.cells row e (0,0)))(hk:k<row.size):(load ⟨b,k,none⟩).run P w = .ok row[k] w:=by
 have hc:w.cell? ⟨b,k,none⟩=some row[k]:=by rw[cell_of_row w b _ _ _ _ h];simp[hk]
 simp_all
theorem qm{P:Program}{b k:Nat}{row:Array Value}{e:TypeId}:∀(n i:Nat)(acc:Array Value),k+i+n<=row.size->∃cs,∀w:World,w.heap[b]? =some (.cells row e (0,0))->(loadCellsFrom ⟨b,k,none⟩ i n acc).run P w = .ok cs w
 | 0,i,acc,_=>⟨acc,λw _=>rfl⟩
 |n+1,i,acc,h=>by
  obtain⟨cs,hcs⟩:=qm (P:=P) (b:=b) (k:=k) (row:=row) (e:=e) n (i+1) (acc.push<|row[k+i]'(by omega)) (by omega);refine⟨cs,λw hw=>?_⟩;unfold loadCellsFrom;have hl:=rR (P:=P) (k:=k+i) hw (by omega);rw[aM,Addr.add_lit,hl];exact hcs w hw
theorem rS{P:Program}{b k m:Nat}{row:Array Value}{e T:TypeId}{ag:Bool}(hT:kn P T ag m)(h1:k+m<=row.size)(h2:k<row.size):∃v,∀w:World,w.heap[b]? =some (.cells row e (0,0))->(loadVar T ⟨b,k,none⟩).run P w = .ok v w:=by
 cases ag with
 |false=>
  refine⟨row[k],λw hw=>?_⟩;unfold loadVar;rw[aM,hT.wQ];exact rR hw h2
 |true=>
  obtain⟨cs,hcs⟩:=qm (P:=P) (b:=b) (k:=k) (row:=row) (e:=e) m 0 #[] (by omega);refine⟨.agg cs,λw hw=>?_⟩;unfold loadVar;rw[aM,hT.wQ];simp only[Result.andThen,if_true];rw[aM,hT.sz]
  simp_all[Result.andThen,aM,loadCells]
theorem u1{P:Program}{ops:Array Oper}{w w2:World}{a:Act}{n:Nat}{U:Nat->Value}{o:Oper}{T e0:TypeId}{q:Operand}{b m k:Nat}{v:Value}{row:Array Value}{ag:Bool}(hs:Sl n U a)(ho:o.op = .load T q)(hp:ev U q = .pointer (some ⟨b,m,none⟩))
  (hT:kn P T ag k) (h1:m+k<=row.size) (h2:m<row.size) (hw:w.heap[b]? =some (.cells row e0 (0,0))) (hw2:w2.heap[b]? =some (.cells row e0 (0,0))) (hst:rq P ops w a o v):rq P ops w2 a o v:=by
 rcases hst with⟨h3,h4⟩|h3
 ·refine .inl ⟨h3,?_⟩;obtain⟨dst,op,ty,pos,af,g⟩:=o;have ho:op = .load T q:=ho;subst ho;have e:∀w,(execOp a.eval ⟨dst, .load T q,ty,pos,af,g⟩).run P w=((loadVar T ⟨b,m,none⟩).run P w).andThen λv w=> .ok (.value v) w:=λw=>by
   simp only[execOp,hs.ev,hp,Instr.loadAt,Instr.sureAddr,aM,aV,aS]
  rw[e]at h4 ⊢;obtain⟨u,hu⟩:=rS (b:=b) (e:=e0) hT h1 h2
  simp_all
 ·exact .inr h3
def gE(l:List Oper)(U:Nat->Value):List Nat->List Value->(Nat->Value)
 |i::is,v::vs=>gE l (match l[i]? with|some o=>jm o U v|none=>U) is vs
 |_,_=>U
section
variable {l:List Oper}
theorem oF(U:Nat->Value):∀(is js:List Nat)(vs us:List Value),vs.length=is.length->gE l U (is++js) (vs++us)=gE l (gE l U is vs) js us
 | [],js,[],us,_=>rfl
 |i::is,js,v::vs,us,h=>by
  rw[List.cons_append,List.cons_append];unfold gE;rw[oF _ is js vs us (by simpa using h)]
  cases js <;> cases us <;> rfl
 | [],_,_::_,_,h=>by cases h
 |_::_,_,[],_,h=>by cases h
theorem qS{o:Oper}{U:Nat->Value}{v:Value}{t:Nat}(h:o.dst≠some t):jm o U v t=U t:=by
 unfold jm
 cases hd:o.dst with
 |none=>rfl
 |some d=>
  grind [cM,Nat.beq,cV]
theorem tz{o:Oper}{U:Nat->Value}{v:Value}{t:Nat}(h:o.dst=some t):jm o U v t=v:=by
 simp_all[jm,cM,Nat.beq_refl]
theorem kx{t:Nat}:∀(is:List Nat)(vs:List Value)(U:Nat->Value),(∀i∈is,∀o,l[i]? =some o->o.dst≠some t)->gE l U is vs t=U t
 | [],_,U,_=>rfl
 |_::_,[],U,_=>rfl
 |i::is,v::vs,U,h=>by
  unfold gE;rw[kx is vs _<|λj hj=>h j (by simp[hj])]
  cases ho:l[i]? with
  |none=>rfl
  |some o=>exact qS (h i (by simp) o ho)
theorem qT{t:Nat}:∀(is:List Nat)(vs:List Value)(U:Nat->Value)(j i:Nat)(o:Oper)(v:Value),is[j]? =some i->vs[j]? =some v->l[i]? =some o->o.dst=some t->
  (∀(k:Nat)i' o',is[k]? =some i'->l[i']? =some o'->k≠j->o'.dst≠some t)->gE l U is vs t=v
 | [],_,_,_,_,_,_,h,_,_,_,_=>by simp at h
 |_::_,[],_,_,_,_,_,_,h,_,_,_=>by simp at h
 |i0::is,v0::vs,U,0,i,o,v,hi,hv,ho,hd,hu=>by
  simp at hi hv;subst hi;subst hv;unfold gE
  rw[kx is vs _ (λj hj o' ho'=>by
   obtain⟨k,hk⟩:=List.mem_iff_getElem?.1 hj
   exact hu (k+1) j o' (by grind) ho' (by omega)),ho]
  exact tz hd
 |i0::is,v0::vs,U,j+1,i,o,v,hi,hv,ho,hd,hu=>by
  unfold gE;exact qT is vs _ j i o v (by grind) (by grind) ho hd<|λk i2 o2 hk ho2 hne=>hu (k+1) i2 o2 (by grind) ho2 (by omega)
end
inductive jy (l:List Oper):Nat->Nat->Prop
 |edge {i k:Nat} {o:Oper}:l[i]? =some o->nN o k=true->jy l i k
 |trans {i j k:Nat}:jy l i j->jy l j k->jy l i k
theorem jy.first{l:List Oper}{i k:Nat}(h:jy l i k):∃o j,l[i]? =some o/\nN o j=true/\(j=k\/jy l j k):=by
 induction h with
 |edge ho he=>grind
 |trans h1 h2 ih1 ih2=>
  obtain⟨o,j,ho,he,hr⟩:=ih1
  rcases hr with rfl|hr
  ·grind
  ·exact⟨o,j,ho,he, .inr<|hr.trans h2⟩
theorem jy.done{l:List Oper}{D:Nat->Bool}(hcl:k6 l D){i k:Nat}(h:jy l i k):(∃o,l[i]? =some o/\ie D o.after.toList)->D k=true:=by
 induction h with
 |edge ho he=>
  rintro⟨o2,ho2,hd⟩;rw[ho]at ho2;injection ho2 with ho2;subst ho2
  exact hL hd he
 |trans h1 h2 ih1 ih2=>
  intro hd;have hj:=ih1 hd;obtain⟨o,_,ho,_,_⟩:=h2.first;exact ih2 ⟨o,ho,hcl _ o ho hj⟩
def Sound(l:List Oper)(acc:List Nat):Prop:=∀i k,Nat.testBit (acc.getD i 0) k=true->jy l i k
theorem pg{l:List Oper}{acc:List Nat}{i k:Nat}{o:Oper}(hs:Sound l acc)(ho:l[i]? =some o):∀(es:List Edge),(∀e∈es,e∈o.after.toList)->Nat.testBit (pf acc es) k=true->jy l i k
 | [],_,h=>by unfold pf at h;simp at h
 |e::r,hm,h=>by
  unfold pf at h
  cases hb:Region.binds .any e with
  |false=>rw[hb]at h;exact pg hs ho r (λe he=>hm e (by simp[he])) h
  |true=>
   rw[hb]at h;have h:Nat.testBit (((1 <<< e.on)|||acc.getD e.on 0)|||pf acc r) k=true:=h;rw[Nat.testBit_or,Nat.testBit_or,ee,ee]at h;have hedge:∀k,e.on=k->nN o k=true:=λk hk=>by
    subst hk;unfold nN;rw[jk];exact⟨e,hm e (by simp),by simp_all⟩
   rcases h with(h|h)|h
   ·rw[Nat.one_shiftLeft,Nat.testBit_two_pow,gM]at h;exact .edge ho<|hedge k h
   ·exact .trans (.edge ho<|hedge e.on rfl)<|hs e.on k h
   ·exact pg hs ho r (λe he=>hm e (by simp[he])) h
theorem tA:∀(l l0:List Oper)(acc:List Nat),(∀(j:Nat),l[j]? =l0[acc.length+j]?)->Sound l0 acc->Sound l0 (s6 l acc)
 | [],_,_,_,h=>h
 |o::l,l0,acc,hl,h=>by
  unfold s6;refine tA l l0 _ (λj=>?_) λi k hb=>?_
  ·have:=hl<|j+1
   rw[g6,jR,List.length_nil];rw[show acc.length+(0+1)+j=acc.length+(j+1)by omega,<-this];simp
  ·rw[List.getD_eq_getElem?_getD,List.getElem?_append]at hb;split at hb
   ·rw[<-List.getD_eq_getElem?_getD]at hb;exact h i k hb
   ·rename_i hlt
    by_cases he:i=acc.length
    ·subst he;simp at hb;have ho:=hl 0;exact pg h (o:=o) (by grind) _ (λe he=>he) hb
    ·have:(i - acc.length)≠0:=by omega
     rw[List.getElem?_eq_none (by simp;omega)]at hb;simp at hb
def qU(ops:Array Oper)(i:Nat)(o:Oper)(k:Nat)(o':Oper):Bool:=
 Nat.beq i k||match o'.dst with
  |some d=>(match o.dst with|some d2=> !Nat.beq d d2|none=>true)&&(!oN ops o d||(bif Nat.blt k i then nN o k else nN o' i))
  |none=>true
def ld(ops:Array Oper)(i:Nat)(o:Oper):Nat->List Oper->Bool
 |_,[]=>true
 |k,o'::l=>qU ops i o k o'&&ld ops i o (k+1) l
def wY:Op->Bool| .select .. =>false|_=>true
def kindOk(n:Nat)(o:Oper)(m:Nat):Bool:=wY o.op&&(bif Nat.beq m 2 then(match o.dst with|some d=>Nat.blt d n|none=>true)else l6 o.op&&(match o.dst with|some d=>Nat.blt d n|none=>false))
def ph(n:Nat)(ops:Array Oper)(l:List Oper)(mk:List Nat):Nat->List Oper->Bool
 |_,[]=>true
 |i,o::l'=>kindOk n o (mk.getD i 0)&&ld ops i o 0 l&&ph n ops l mk (i+1) l'
def rT(A mk:List Nat):List Nat->List Nat->Bool
 |_,[]=>true
 |pre,i::post=>(bif Nat.beq (mk.getD i 0) 2 then(post.all λq=>Nat.testBit (A.getD q 0) i)&&(pre.all λq=>Nat.beq (mk.getD q 0) 1||Nat.beq (mk.getD q 0) 3||Nat.testBit (A.getD i 0) q)else true)&&rT A mk (pre++[i]) post
def qV:List Nat->Bool
 | []=>true
 |a::l=> !(l.any λb=>Nat.beq a b)&&qV l
def u2(l:List Oper):List Nat->Bool
 | []=>true
 |i::post=>(match l[i]? with|some o=>post.all λq=> !nN o q|none=>true)&&u2 l post
theorem qW{l:List Oper}:∀{ord:List Nat},u2 l ord=true->∀(p1:List Nat)(i:Nat)(p2:List Nat),ord=p1++i::p2->∀o,l[i]? =some o->∀q∈p2,nN o q=false
 | [],_,p1,i,p2,e,_,_,_,_=>by cases p1 <;> cases e
 |a::ord,h,[],i,p2,e,o,ho,q,hq=>by
  injection e with e1 e2;subst e1;subst e2
  unfold u2 at h;rw[ho,bV]at h;have:=gL.1 h.1 q hq;rwa[Bool.not_eq_true']at this
 |a::ord,h,b::p1,i,p2,e,o,ho,q,hq=>by
  injection e with e1 e2
  unfold u2 at h;rw[bV]at h;exact qW h.2 p1 i p2 e2 o ho q hq
def u3(n:Nat)(l:List Oper)(mk ord:List Nat):Bool:=
 qV ord&&(List.range l.length).all (λi=>ord.any λj=>Nat.beq i j)&&(ord.all λi=>Nat.blt i l.length)&&ph n l.toArray l mk 0 l&&rT (s6 l []) mk [] ord&&u2 l ord
theorem qn:∀{l:List Nat},qV l=true->l.Nodup
 | [],_=>List.nodup_nil
 |a::l,h=>by
  unfold qV at h;rw[bV,Bool.not_eq_true']at h;refine List.nodup_cons.2 ⟨λhm=>?_,qn h.2⟩;have:(l.any λb=>Nat.beq a b)=true:=jk.2 ⟨a,hm,Nat.beq_refl a⟩;rw[this]at h;cases h.1
theorem ni{ops:Array Oper}{i:Nat}{o:Oper}:∀{k:Nat}{l:List Oper},ld ops i o k l=true->∀(j:Nat)o',l[j]? =some o'->qU ops i o (k+j) o'=true
 |_,[],_,j,o',h=>by simp at h
 |k,p::l,hs,0,o',h=>by
  unfold ld at hs;rw[bV]at hs;simp at h;subst h;exact hs.1
 |k,p::l,hs,j+1,o',h=>by
  unfold ld at hs;rw[bV]at hs;have:=ni hs.2 j o' (by simpa using h);rw[show k+(j+1)=k+1+j by omega];exact this
theorem qo{n:Nat}{ops:Array Oper}{l0:List Oper}{mk:List Nat}:∀{i:Nat}{l:List Oper},ph n ops l0 mk i l=true->∀(j:Nat)o,l[j]? =some o->kindOk n o (mk.getD (i+j) 0)=true/\ld ops (i+j) o 0 l0=true
 |_,[],_,j,o',h=>by simp at h
 |i,p::l,hs,0,o',h=>by
  unfold ph at hs;simp only[bV]at hs;simp at h;subst h;exact hs.1
 |i,p::l,hs,j+1,o',h=>by
  unfold ph at hs;simp only[bV]at hs;have:=qo hs.2 j o' (by simpa using h);rw[show i+(j+1)=i+1+j by omega];exact this
theorem rU{A mk:List Nat}:∀{post pre:List Nat},rT A mk pre post=true->∀(p1:List Nat)(i:Nat)(p2:List Nat),post=p1++i::p2->mk.getD i 0=2->
  (∀q∈p2,Nat.testBit (A.getD q 0) i=true)/\(∀q∈pre++p1,(mk.getD q 0=1\/mk.getD q 0=3)\/Nat.testBit (A.getD i 0) q=true)
 | [],_,_,p1,i,p2,e,_=>by cases p1 <;> cases e
 |a::post,pre,h,[],i,p2,e,hm=>by
  injection e with e1 e2;subst e1;subst e2
  unfold rT at h;rw[hm]at h;simp only[Nat.beq_refl,bQ,bV]at h;refine⟨λq hq=>gL.1 h.1.1 q hq,λq hq=>?_⟩;have:=gL.1 h.1.2 q (by grind);rw[ee,ee]at this
  rcases this with(h|h)|h
  ·exact .inl<|.inl<|cV h
  ·exact .inl<|.inr<|cV h
  ·exact .inr h
 |a::post,pre,h,b::p1,i,p2,e,hm=>by
  injection e with e1 e2;subst e1
  unfold rT at h;rw[bV]at h;have:=rU h.2 p1 i p2 e2 hm;refine⟨this.1,λq hq=>this.2 q (by grind)⟩
theorem p8{P:Program}{o:Oper}{a a':Act}{next next':Act->World->Prop}{Qf Qf':Exit->Act->World->Prop}{r:Result Next}(ha:a.defers= [])
  (hn:∀v w,next (a.put o.dst v) w->next' (a'.put o.dst v) w) (hdf:∀(b:Act)w,next b w->b.defers= []) (hp:∀c b w,¬Qf (.panic c) b w) (hl:¬LetsOut Qf) (h:o.upon P a next Qf r):o.upon P a' next' Qf' r:=by
 cases r with
 |ok nx w'=>
  cases nx with
  |value v=>exact hn v w' h
  |skip=>exact hn undef w' h
  |defer d=>
   have h:next ({a with defers:=d::a.defers}.put o.dst undef) w':=h;have:=hdf _ _ h
   cases hd:o.dst with
   |none=>rw[hd]at this;cases this
   |some t=>rw[hd]at this;cases this
  |enter f args=>
   refine Calls.mono h λe w'' he=>?_
   grind
  |row row args=>exact Rows.mono h λv w'' he=>hn v w'' he
  |_=>exact h.elim
 |halt x w'=>
  cases x with
  |panic v=>exact(hp _ _ _ h).elim
  |_=>exact h.elim
section
variable {P:Program}{n:Nat}{l:List Oper}{mk:List Nat}{Q:dC}
theorem Bc:∀(ord:List Nat)(S:World->Prop)(U:Nat->Value)(w:World)(a:Act),Sl n U a->S w->(∀i∈ord,∀o,l[i]? =some o->kindOk n o (mk.getD i 0)=true)->DP P n l mk Q S ord U w->
  ∃pre vs post a' S',ord=pre++post/\vs.length=pre.length/\Sl n (gE l U pre vs) a'/\DP P n l mk Q S' post (gE l U pre vs) w/\(∀e rest,post=e::rest->mk.getD e 0=2)/\
   (∀(j i:Nat)v,pre[j]? =some i->vs[j]? =some v->mk.getD i 0≠2/\∃o aj,l[i]? =some o/\Sl n (gE l U (pre.take j) (vs.take j)) aj/\
    ((mk.getD i 0≠0/\∀w2,S' w2->rq P l.toArray w2 aj o v)\/(mk.getD i 0=0/\rq P l.toArray w aj o v)))/\S' w/\(∀w2,S' w2->S w2):=by
 intro ord
 induction ord with
 |nil=>intro S U w a hs hS _ h;exact⟨[],[],[],a,S,rfl,rfl,hs,h,λ_ _ e=>(by cases e),λj i v hi=>(by simp at hi),hS,λ_ h=>h⟩
 |cons i ord ih=>
  intro S U w a hs hS hk h;have h0:=h;unfold DP at h;obtain⟨o,ho,h⟩:=h;have hko:=hk i (by simp) o ho;have cont:∀(S1:World->Prop)v d,o.dst=some d->Nat.blt d n=true->mk.getD i 0≠2->S1 w->(∀w2,S1 w2->S w2)->((mk.getD i 0≠0/\∀w2,S1 w2->rq P l.toArray w2 a o v)\/(mk.getD i 0=0/\rq P l.toArray w a o v))->DP P n l mk Q S1 ord (cM U d v) w->
    ∃pre vs post a' S',i::ord=pre++post/\vs.length=pre.length/\Sl n (gE l U pre vs) a'/\DP P n l mk Q S' post (gE l U pre vs) w/\(∀e rest,post=e::rest->mk.getD e 0=2)/\
     (∀(j i:Nat)v,pre[j]? =some i->vs[j]? =some v->mk.getD i 0≠2/\∃o aj,l[i]? =some o/\Sl n (gE l U (pre.take j) (vs.take j)) aj/\
      ((mk.getD i 0≠0/\∀w2,S' w2->rq P l.toArray w2 aj o v)\/(mk.getD i 0=0/\rq P l.toArray w aj o v)))/\S' w/\(∀w2,S' w2->S w2):=by
   intro S1 v d hd hdn hn2 hS1 hSS hev hrest;have hstep:∀is us,gE l U (i::is) (v::us)=gE l (cM U d v) is us:=λis us=>by
    unfold gE;rw[ho];have:jm o U v=cM U d v:=by unfold jm;rw[hd]
    simp only[this]
    cases is <;> cases us <;> rfl
   obtain⟨pre,vs,post,a',S',e1,e2,e3,e4,e5,e6,e7,e8⟩:=ih S1 (cM U d v) w _ (hs.put hdn v) hS1 (λj hj=>hk j (by simp[hj])) hrest;refine⟨i::pre,v::vs,post,a',S',by rw[e1];rfl,by simp[e2],by rw[hstep];exact e3,by rw[hstep];exact e4,e5,λj i' v' hi' hv'=>?_,e7,λw2 h=>hSS w2<|e8 w2 h⟩
   cases j with
   |zero=>
    simp at hi' hv';subst hi';subst hv';refine⟨hn2,o,a,ho,hs,?_⟩
    rcases hev with⟨h1,h2⟩|h1
    ·exact .inl ⟨h1,λw2 h=>h2 w2<|e8 w2 h⟩
    ·exact .inr h1
   |succ j=>
    obtain⟨hn,o',aj,h1,h2,h3⟩:=e6 j i' v' (by simpa using hi') (by simpa using hv');exact⟨hn,o',aj,h1,by rw[List.take_succ_cons,List.take_succ_cons,hstep];exact h2,h3⟩
  unfold kindOk at hko;rw[bV]at hko;have dst:mk.getD i 0≠2->l6 o.op=true/\∃d,o.dst=some d/\Nat.blt d n=true:=λhn=>by
   have hk2:=hko.2;have hb:Nat.beq (mk.getD i 0) 2=false:=by
    cases hx:Nat.beq (mk.getD i 0) 2 with
    |false=>rfl
    |true=>exact absurd (cV hx) hn
   rw[hb,bG,bV]at hk2;refine⟨hk2.1,?_⟩
   cases hd:o.dst with
   |none=>rw[hd]at hk2;cases hk2.2
   |some d=>rw[hd]at hk2;exact⟨d,rfl,hk2.2⟩
  rcases h with⟨hm,h⟩|⟨hm,v,S1,hSS,hS1,h1,h⟩|⟨hm,h⟩|⟨hm,T,q,b,m,row,e,ag,k,hop,hp,hT,h3,h4,hh,h⟩
  ·have hn2:mk.getD i 0≠2:=by rw[hm];decide
   obtain⟨hr,d,hd,hdn⟩:=dst hn2;obtain⟨v,hst,hrest⟩:=qR (C:=λσ'=>DP P n l mk Q S ord σ' w) hs hr hd hdn h;exact cont S v d hd hdn hn2 hS (λ_ h=>h) (.inr ⟨hm,hst⟩) hrest
  ·have hn2:mk.getD i 0≠2:=by rw[hm];decide
   obtain⟨hr,d,hd,hdn⟩:=dst hn2;have hu:jm o U v=cM U d v:=by unfold jm;rw[hd]
   rw[hu]at h;refine cont S1 v d hd hdn hn2 (hS1 hS) hSS (.inl ⟨by rw[hm];decide,λw2 hS2=>?_⟩) h;obtain⟨v',hst,he⟩:=qR (C:=λσ'=>σ'=jm o U v) hs hr hd hdn<|h1 w2 hS2
   rw[hu]at he;have:=congrFun he d;unfold cM at this;rw[Nat.beq_refl]at this;have:v'=v:=this;subst this;exact hst
  ·exact⟨[],[],i::ord,a,S,rfl,rfl,hs,h0,λe rest he=>by injection he with h1 _;subst h1;exact hm,λj i v hi=>(by simp at hi),hS,λ_ h=>h⟩
  ·have hn2:mk.getD i 0≠2:=by rw[hm];decide
   obtain⟨hr,d,hd,hdn⟩:=dst hn2;obtain⟨v,hst,hrest⟩:=qR (C:=λσ'=>DP P n l mk Q (λw2=>S w2/\w2.heap[b]? =some (.cells row e (0,0))) ord σ' w) hs hr hd hdn h;exact cont _ v d hd hdn hn2 ⟨hS,hh⟩ (λ_ h=>h.1) (.inl ⟨by rw[hm];decide,λw2 hS2=>u1 hs hop hp hT h3 h4 hh hS2.2 hst⟩) hrest
theorem Aw(S0:World->Prop){U:Nat->Value}{w:World}{id:Nat}(hm:P.follows .mixedOrders=true)(hdep:l4 0 l=true)(mk ord:List Nat)(hS0:S0 w.drew)(h:DP P n l mk Q S0 ord U w.drew)(hc:u3 n l mk ord=true:=by kernel_rfl):RC P n (.region id l.toArray true) U w Q:=by
 intro a0 ha0;unfold u3 at hc;simp only[bV]at hc;obtain⟨⟨⟨⟨⟨c1,c2⟩,c3⟩,c4⟩,c5⟩,c6⟩:=hc;have hnd:=qn c1;have hall:∀i,i<l.length->i∈ord:=λi hi=>by
  simp_all
 have hlt:∀i∈ord,i<l.length:=λi hi=>Nat.blt_eq▸gL.1 c3 i hi;have hK:∀i o,l[i]? =some o->kindOk n o (mk.getD i 0)=true/\ld l.toArray i o 0 l=true:=λi o ho=>by
  have:=qo c4 i o ho;grind
 have hA:Sound l (s6 l []):=tA l l [] (λj=>by simp) (λi k hb=>by simp at hb);have hdist:∀(i k:Nat)o o' t,l[i]? =some o->l[k]? =some o'->k≠i->o.dst=some t->o'.dst≠some t:=λi k o o' t ho ho' hne hd hd'=>by
  have hp:=ni (hK i o ho).2 k o' ho'
  grind [qU,cV,Bool.not_eq_true',Nat.beq_refl]
 have hsee:∀(i k:Nat)o o' t,l[i]? =some o->l[k]? =some o'->k≠i->o'.dst=some t->oN l.toArray o t=true->(k<i/\nN o k=true)\/(i<k/\nN o' i=true):=λi k o o' t ho ho' hne hd' hs=>by
  have hp:=ni (hK i o ho).2 k o' ho';rw[fc]at hp
  grind [qU,cV,Bool.not_eq_true',Nat.blt,Nat.blt_eq]
 have hsz:∀(g:Nat)o2 d,l.toArray[g]? =some o2->o2.dst=some d->d<n:=λg o2 d ho hd=>by
  grind [kindOk,Nat.beq,Nat.blt_eq]
 refine AW (U:=U) (w:=w) hm hdep (λD σ' w'=>∃pre vs post a S,ord=pre++post/\vs.length=pre.length/\Sl n (gE l U pre vs) a/\DP P n l mk Q S post (gE l U pre vs) w'/\(∀e rest,post=e::rest->mk.getD e 0=2)/\
   (∀i∈post,D i=false)/\
   (∀(j i:Nat)v,pre[j]? =some i->vs[j]? =some v->D i=false->mk.getD i 0≠2/\∃o aj,l[i]? =some o/\Sl n (gE l U (pre.take j)<|vs.take j) aj/\((mk.getD i 0≠0/\∀w2,S w2->rq P l.toArray w2 aj o v)\/(mk.getD i 0=0/\rq P l.toArray w' aj o v)))/\S w'/\
   (∀(j i:Nat)v o t,pre[j]? =some i->vs[j]? =some v->l[i]? =some o->o.dst=some t->D i=true->σ' t=v)/\
   (∀t,(∀(i:Nat)o,l[i]? =some o->o.dst=some t->D i=false)->σ' t=U t)) ?_ ?_ ?_ a0 ha0
 ·obtain⟨pre,vs,post,a',S,e1,e2,e3,e4,e5,e6,eS,_⟩:=Bc ord _ U w.drew a0 ha0 hS0 (λi _ o ho=>(hK i o ho).1) h;exact⟨pre,vs,post,a',S,e1,e2,e3,e4,e5,λ_ _=>rfl,λj i v hi hv _=>e6 j i v hi hv,eS,λj i v o t _ _ _ _ hD=>(by cases hD),λt _=>rfl⟩
 ·refine lb λi o ho=>?_;rw[fc];rintro D σ' w' hD hdeps hcl⟨pre,vs,post,a,S,e1,e2,e3,e4,e5,e6,e7,eS,e8,e9⟩;have hil:i<l.length:=(bS.1 ho).1;have hio:=hall i hil;have hancD:∀k,Nat.testBit ((s6 l []).getD i 0) k=true->D k=true:=λk hb=>(hA i k hb).done hcl ⟨o,ho,hdeps⟩;have hag:∀(p1:List Nat)(vs1:List Value)(p2:List Nat),p1++i::p2=ord->vs1.length=p1.length->(∀(j i':Nat)v o' t,p1[j]? =some i'->vs1[j]? =some v->l[i']? =some o'->o'.dst=some t->D i'=true->σ' t=v)->
    ∀t,oN l.toArray o t=true->gE l U p1 vs1 t=σ' t:=by
   intro p1 vs1 p2 he hl1 h8 t ht;have hni:i∉p1:=λhm=>by
    rw[<-he]at hnd;exact(List.nodup_append.1 hnd).2.2 i hm i (by simp) rfl
   have hnd1:p1.Nodup:=by rw[<-he]at hnd;exact(List.nodup_append.1 hnd).1
   by_cases hex:∃(k:Nat)(o':Oper),l[k]? =some o'/\o'.dst=some t
   ·obtain⟨k,o',ho',hd'⟩:=hex;have hkd:k≠i->D k=true->k∈p1\/k∈p2:=λhne _=>by
     have:=hall k (bS.1 ho').1;rw[<-he]at this;simp at this
     rcases this with h|h|h
     ·exact .inl h
     ·exact absurd h hne
     ·exact .inr h
    by_cases hki:k=i
    ·subst hki;rw[kx p1 vs1 U<|λi' hi' o2 ho2 hd2=>hdist k i' o' o2 t ho' ho2 (λe=>hni<|e▸hi') hd' hd2];refine(e9 t λk2 o2 ho2 hd2=>?_).symm
     by_cases he2:k2=k
     ·subst he2;exact hD
     ·exact absurd hd2<|hdist k k2 o' o2 t ho' ho2 he2 hd'
    ·rcases hsee i k o o' t ho ho' hki hd' ht with⟨_,hE⟩|⟨hlt2,hE⟩
     ·have hDk:=hL hdeps hE
      by_cases hp:k∈p1
      ·obtain⟨j,hj⟩:=List.mem_iff_getElem?.1 hp;have hjl:j<vs1.length:=by rw[hl1];exact(bS.1 hj).1
       rw[h8 j k vs1[j] o' t hj (aZ hjl) ho' hd' hDk];refine qT p1 vs1 U j k o' vs1[j] hj (aZ hjl) ho' hd' λk2 i2 o2 hk2 ho2 hne=>?_;refine hdist k i2 o' o2 t ho' ho2 (λe=>hne ?_) hd';subst e;exact(List.getElem?_inj (bS.1 hk2).1 hnd1).1 (by rw[hk2,hj])
      ·rcases hkd hki hDk with h|h
       ·exact absurd h hp
       ·rw[qW c6 p1 i p2 he.symm o ho k h]at hE;cases hE
     ·have hDk:D k=false:=nf λhDk=>by
       have:=hL (hcl k o' ho' hDk) hE;rw[hD]at this;cases this
      rw[kx p1 vs1 U<|λi' hi' o2 ho2 hd2=>?_]
      ·refine(e9 t λk2 o2 ho2 hd2=>?_).symm
       by_cases he2:k2=k
       ·subst he2;exact hDk
       ·exact absurd hd2<|hdist k k2 o' o2 t ho' ho2 he2 hd'
      ·by_cases he2:i'=k
       ·subst he2;obtain⟨q1,q2,hq⟩:=List.append_of_mem hi';have:=qW c6 q1 i' (q2++i::p2) (by rw[<-he,hq];simp) o' ho' i (by simp);rw[this]at hE;cases hE
       ·exact hdist k i' o' o2 t ho' ho2 he2 hd' hd2
   ·rw[e9 t λk o' ho' hd'=>absurd ⟨k,o',ho',hd'⟩ hex];exact kx p1 vs1 U<|λi' hi' o2 ho2 hd2=>hex ⟨i',o2,ho2,hd2⟩
  have hrunC:∀(σ1:Nat->Value)(a1 a2:Act),Sl n σ1 a1->Sl n σ' a2->(∀t,oN l.toArray o t=true->σ1 t=σ' t)->execOp a2.eval o=execOp a1.eval o:=λσ1 a1 a2 hs1 hs2 hag=>by
   refine execOp_congr o (λcs b e=>?_) λx hx=>?_
   ·have:=(hK i o ho).1;unfold kindOk at this;rw[e]at this;cases this
   ·rw[hs2.ev,hs1.ev]
    cases x with
    |tmp t=>
     refine(hag t ?_).symm;unfold oN Oper.looksAt;rw[List.any_append,ee];left;rw[jk];exact⟨t,List.mem_filterMap.2 ⟨.tmp t,by simpa using hx,rfl⟩,Nat.beq_refl t⟩
    |_=>rfl
  by_cases hip:i∈pre
  ·
   obtain⟨p1,p2,hpre⟩:=List.append_of_mem hip;have hjv:p1.length<vs.length:=by rw[e2,hpre];simp
   have hpj:pre[p1.length]? =some i:=by rw[hpre];simp
   obtain⟨v1,hv1⟩:∃v,vs[p1.length]? =some v:=⟨_,aZ hjv⟩;obtain⟨hn2,o2,aj,ho2,hsj,hev⟩:=e7 p1.length i v1 hpj hv1 hD;rw[ho]at ho2;injection ho2 with ho2;subst ho2
   have htk:pre.take p1.length=p1:=by rw[hpre];simp
   rw[htk]at hsj;have hst:rq P l.toArray w' aj o v1:=by
    rcases hev with⟨_,h⟩|⟨_,h⟩
    ·exact h w' eS
    ·exact h
   have hag1:=hag p1 (vs.take p1.length) (p2++post) (by rw[e1,hpre];simp) (by rw[fX];omega) (λj i' v o' t hj hv ho' hd' hDi=>by
    have hjl:=(bS.1 hj).1;rw[fJ,aO hjl]at hv
    exact e8 j i' v o' t (by rw[hpre,jQ hjl];exact hj) hv ho' hd' hDi)
   have hmk:∃d,o.dst=some d/\Nat.blt d n=true:=by
    have:=(hK i o ho).1;unfold kindOk at this;rw[bV]at this;have h2:=this.2;have hne:Nat.beq (mk.getD i 0) 2=false:=by
     cases hx:Nat.beq (mk.getD i 0) 2 with
     |false=>rfl
     |true=>exact absurd (cV hx) hn2
    rw[hne,bG,bV]at h2
    cases hd:o.dst with
    |none=>rw[hd]at h2;cases h2.2
    |some d=>rw[hd]at h2;exact⟨d,rfl,h2.2⟩
   obtain⟨d,hd,hdn⟩:=hmk;have hJ:∃pre vs post a S,ord=pre++post/\vs.length=pre.length/\Sl n (gE l U pre vs) a/\DP P n l mk Q S post (gE l U pre vs) w'/\(∀e rest,post=e::rest->mk.getD e 0=2)/\
     (∀i'∈post,ins D i i'=false)/\
     (∀(j i':Nat)v,pre[j]? =some i'->vs[j]? =some v->ins D i i'=false->mk.getD i' 0≠2/\∃o aj,l[i']? =some o/\Sl n (gE l U (pre.take j)<|vs.take j) aj/\((mk.getD i' 0≠0/\∀w2,S w2->rq P l.toArray w2 aj o v)\/(mk.getD i' 0=0/\rq P l.toArray w' aj o v)))/\S w'/\
     (∀(j i':Nat)v o' t,pre[j]? =some i'->vs[j]? =some v->l[i']? =some o'->o'.dst=some t->ins D i i'=true->cM σ' d v1 t=v)/\
     (∀t,(∀(i':Nat)o',l[i']? =some o'->o'.dst=some t->ins D i i'=false)->cM σ' d v1 t=U t):=by
    refine⟨pre,vs,post,a,S,e1,e2,e3,e4,e5,λi' hi'=>?_,λj i' v hj hv hDi=>?_,eS,λj i' v o' t hj hv ho' hd' hDi=>?_,λt ht=>?_⟩
    ·rw[jd (λe=>by
      subst e;rw[e1]at hnd
      exact(List.nodup_append.1 hnd).2.2 i' hip i' hi' rfl)]
     exact e6 i' hi'
    ·refine e7 j i' v hj hv ?_
     by_cases he:i'=i
     ·subst he;exact hD
     ·rwa[jd he]at hDi
    ·by_cases he:i'=i
     ·subst he;rw[ho]at ho';injection ho' with ho';subst ho'
      rw[hd]at hd';injection hd' with hd';subst hd'
      have hndp:pre.Nodup:=by rw[e1]at hnd;exact(List.nodup_append.1 hnd).1
      have:j=p1.length:=(List.getElem?_inj (bS.1 hj).1 hndp).1 (by rw[hj,hpj]);subst this;rw[hv1]at hv;injection hv with hv
      unfold cM;rw[Nat.beq_refl];exact hv
     ·rw[jd he]at hDi;have hne:t≠d:=λe=>by subst e;exact hdist i i' o o' t ho ho' he hd hd'
      unfold cM
      cases hb:Nat.beq t d with
      |true=>exact absurd (cV hb) hne
      |false=>exact e8 j i' v o' t hj hv ho' hd' hDi
    ·have hne:t≠d:=λe=>by
      subst e;have:=ht i o ho hd;rw[nP]at this;cases this
     unfold cM
     cases hb:Nat.beq t d with
     |true=>exact absurd (cV hb) hne
     |false=>
      refine e9 t λk2 o2 ho2 hd2=>?_;have:=ht k2 o2 ho2 hd2
      by_cases he:k2=i
      ·subst he;exact hD
      ·rwa[jd he]at this
   intro a2 hs2;have hrun:=hrunC _ aj a2 hsj hs2 hag1;have hwant:=la (ops:=l.toArray) (o:=o) hsj hs2 hag1 hsz;unfold wpList
   rcases hst with⟨hw1,hr1⟩|⟨hw1,hvu⟩
   ·rw[hwant]at hw1;rw[aO hw1];left;unfold Oper.wp;rw[hrun,hr1];refine⟨cM σ' d v1,?_,rfl,hJ⟩;rw[hd];exact hs2.put hdn _
   ·rw[hwant]at hw1;rw[aR (by rw[hw1];exact Bool.false_ne_true)];rw[hvu]at hJ;refine⟨cM σ' d undef,?_,rfl,hJ⟩;rw[hd];exact hs2.put hdn _
  ·
   have hipo:i∈post:=by
    rw[e1]at hio
    rcases List.mem_append.1 hio with h|h
    ·exact absurd h hip
    ·exact h
   cases post with
   |nil=>cases hipo
   |cons e rest=>
    have hme:=e5 e rest rfl;have hoa:=rU c5 pre e rest e1 hme;have hie:i=e:=by
     rcases fm.1 hipo with h|h
     ·exact h
     ·have:=hancD e<|hoa.1 i h
      rw[e6 e (by simp)]at this;cases this
    subst hie;unfold DP at e4;obtain⟨o2,ho2,hdp⟩:=e4;rw[ho]at ho2;injection ho2 with ho2;subst ho2
    obtain⟨S1,mY,hdp⟩:∃S1:World->Prop,((∀w2,S1 w2->S w2)\/s8 l i rest=true)/\RL P n l.toArray [o] (gE l U pre vs) w' (λex σ' w'=>ex = .normal/\S1 w'/\DP P n l mk Q S1 rest σ' w'):=by
     rcases hdp with⟨h,_⟩|⟨h,_⟩|⟨_,h⟩|⟨h,_⟩
     ·rw[hme]at h;cases h
     ·rw[hme]at h;cases h
     ·exact h
     ·rw[hme]at h;cases h
    have hag1:=hag pre vs rest e1.symm e2 e8;have hdn:∀d,o.dst=some d->Nat.blt d n=true:=λd hd=>by
     have:=(hK i o ho).1;unfold kindOk at this;rw[hme,bV]at this;have h2:=this.2;rw[hd]at h2;exact h2
    have hput:∀(σ1:Nat->Value)(a1:Act)v,Sl n σ1 a1->Sl n (jm o σ1 v) (a1.put o.dst v):=λσ1 a1 v hs1=>by
     unfold jm
     cases hd:o.dst with
     |none=>exact hs1.rB v
     |some d=>exact hs1.put (hdn d hd) v
    have hni:i∉pre:=hip;have hnr:i∉rest:=λhm=>by
     rw[e1]at hnd;exact(List.nodup_cons.1 (List.nodup_append.1 hnd).2.1).1 hm
    have key:∀(a2:Act)v w1,Sl n σ' a2->Lf n (λex σ' w'=>ex = .normal/\S1 w'/\DP P n l mk Q S1 rest σ' w') .normal (a.put o.dst v) w1->
      Lf n (λex σ' w1=>ex = .normal/\∃pre vs post a S,ord=pre++post/\vs.length=pre.length/\Sl n (gE l U pre vs) a/\DP P n l mk Q S post (gE l U pre vs) w1/\(∀e rest,post=e::rest->mk.getD e 0=2)/\
       (∀i'∈post,ins D i i'=false)/\
       (∀(j i':Nat)v,pre[j]? =some i'->vs[j]? =some v->ins D i i'=false->mk.getD i' 0≠2/\∃o aj,l[i']? =some o/\Sl n (gE l U (pre.take j)<|vs.take j) aj/\((mk.getD i' 0≠0/\∀w2,S w2->rq P l.toArray w2 aj o v)\/(mk.getD i' 0=0/\rq P l.toArray w1 aj o v)))/\S w1/\
       (∀(j i':Nat)v o' t,pre[j]? =some i'->vs[j]? =some v->l[i']? =some o'->o'.dst=some t->ins D i i'=true->σ' t=v)/\
       (∀t,(∀(i':Nat)o',l[i']? =some o'->o'.dst=some t->ins D i i'=false)->σ' t=U t)) .normal (a2.put o.dst v) w1:=by
     rintro a2 v w1 hs2⟨σ1,hs1,_,hS1,hdp1⟩;have hσ1:σ1=jm o (gE l U pre vs) v:=hs1.uniq<|hput _ a v e3
     subst hσ1;obtain⟨pre2,vs2,post2,a3,S2,f1,f2,f3,f4,f5,f6,f7,f8⟩:=Bc rest S1 _ w1 _ hs1 hS1 (λi' _ o' ho'=>(hK i' o' ho').1) hdp1;have hX:∀is us,gE l U (pre++i::is) (vs++v::us)=gE l (jm o (gE l U pre vs) v) is us:=λis us=>by
      rw[oF U pre (i::is) vs (v::us) e2]
      conv=>lhs;unfold gE
      rw[ho]
     refine⟨jm o σ' v,hput _ a2 v hs2,rfl,pre++i::pre2,vs++v::vs2,post2,a3,S2,by rw[e1,f1];simp,by simp[e2,f2],by rw[hX];exact f3,by rw[hX];exact f4,f5,λi' hi'=>?_,λj i' u hj hu hDi=>?_,f7,λj i' u o' t hj hu ho' hd' hDi=>?_,λt ht=>?_⟩
     ·have hir:i'∈rest:=by rw[f1];simp[hi']
      rw[jd (λe:i'=i=>hnr (by rw[<-e];exact hir))];exact e6 i' (by simp[hir])
     ·have hne:i'≠i:=λe=>by subst e;rw[nP]at hDi;cases hDi
      have hDi2:D i'=false:=by rwa[jd hne]at hDi
      by_cases hjl:j<pre.length
      ·rw[jQ hjl]at hj;rw[jQ (by omega)]at hu;obtain⟨hn3,o3,aj,ho3,hsj,hev⟩:=e7 j i' u hj hu hDi2;have t1:(pre++i::pre2).take j=pre.take j:=List.take_append_of_le_length (by omega);have t2:(vs++v::vs2).take j=vs.take j:=List.take_append_of_le_length (by omega);refine⟨hn3,o3,aj,ho3,by rw[t1,t2];exact hsj,?_⟩
       rcases hev with⟨h,hh⟩|⟨h,_⟩
       ·rcases mY with mY|mY
        ·exact .inl ⟨h,λw2 h2=>hh w2<|mY w2<|f8 w2 h2⟩
        ·have hmem:i'∈pre:=eP hj;have hil':i'<l.length:=(bS.1 ho3).1;have hk:=gL.1 mY i' (by simpa using hil');rw[ee,ee]at hk
         rcases hk with(hk|hk)|hk
         ·exact absurd (cV hk) hne
         ·obtain⟨q,hq,hqe⟩:=jk.1 hk;have:=cV hqe;subst this;rw[e1]at hnd;exact absurd rfl<|(List.nodup_append.1 hnd).2.2 q hmem q (by simp[hq])
         ·have:=hancD i' hk;rw[hDi2]at this;cases this
       ·rcases hoa.2 i' (by simp[eP hj])with(h2|h2)|h2
        ·rw[h]at h2;cases h2
        ·rw[h]at h2;cases h2
        ·rw[hancD i' h2]at hDi2;cases hDi2
      ·rw[kU (by omega)]at hj;rw[kU (by omega),e2]at hu
       cases hq:j - pre.length with
       |zero=>
        rw[hq]at hj;simp at hj;exact absurd hj.symm hne
       |succ q=>
        rw[hq]at hj hu;obtain⟨hn3,o3,aj,ho3,hsj,hev⟩:=f6 q i' u (by simpa using hj) (by simpa using hu);have hjq:j=pre.length+(q+1):=by omega
        have t1:(pre++i::pre2).take j=pre++i::pre2.take q:=by rw[hjq,List.take_length_add_append,List.take_succ_cons]
        have t2:(vs++v::vs2).take j=vs++v::vs2.take q:=by rw[hjq,<-e2,List.take_length_add_append,List.take_succ_cons]
        exact⟨hn3,o3,aj,ho3,by rw[t1,t2,hX];exact hsj,hev⟩
     ·have hnd2:(pre++i::pre2).Nodup:=by
       rw[e1,f1]at hnd;have:pre++i::(pre2++post2)=(pre++i::pre2)++post2:=by simp
       rw[this]at hnd;exact(List.nodup_append.1 hnd).1
      by_cases hne:i'=i
      ·subst hne;rw[ho]at ho';injection ho' with ho';subst ho'
       have hjp:(pre++i'::pre2)[pre.length]? =some i':=by simp
       have:j=pre.length:=(List.getElem?_inj (bS.1 hj).1 hnd2).1 (by rw[hj,hjp]);subst this;rw[<-e2]at hu;simp at hu;subst hu;exact tz hd'
      ·rw[jd hne]at hDi;rw[qS<|λhd=>hdist i i' o o' t ho ho' hne hd hd']
       by_cases hjl:j<pre.length
       ·rw[jQ hjl]at hj;rw[jQ (by omega)]at hu;exact e8 j i' u o' t hj hu ho' hd' hDi
       ·rw[kU (by omega)]at hj
        cases hq:j - pre.length with
        |zero=>rw[hq]at hj;simp at hj;exact absurd hj.symm hne
        |succ q=>
         rw[hq]at hj;have hm2:i'∈pre2:=eP (i:=q) (by simpa using hj);have:=e6 i' (by rw[f1];simp[hm2]);rw[this]at hDi;cases hDi
     ·rw[qS (λhd=>by have:=ht i o ho hd;rw[nP]at this;cases this)];refine e9 t λk2 o2 ho2 hd2=>?_;have:=ht k2 o2 ho2 hd2
      by_cases he:k2=i
      ·subst he;exact hD
      ·rwa[jd he]at this
    intro a2 hs2;have hrun:=hrunC _ a a2 e3 hs2 hag1;have hwant:=la (ops:=l.toArray) (o:=o) e3 hs2 hag1 hsz;have h1:=hdp a e3;unfold wpList at h1 ⊢;split at h1
    ·rename_i hw1;rw[hwant]at hw1;rw[aO hw1]
     rcases h1 with h1|⟨_,h1⟩
     ·left;unfold Oper.wp at h1 ⊢;rw[hrun];refine p8 e3.defers (λv w1 hk=>key a2 v w1 hs2 hk) (λb w1 hk=>?_) (λc b w1 hk=>?_) (λhk=>?_) h1
      ·obtain⟨_,hsb,_⟩:=hk;exact hsb.defers
      ·obtain⟨_,_,hbad,_⟩:=hk;cases hbad
      ·obtain⟨_,_,_,_,hbad,_⟩:=hk;cases hbad
     ·obtain⟨_,_,_,_,hbad,_⟩:=h1;cases hbad
    ·rename_i hw1;rw[hwant]at hw1;rw[aR hw1];exact key a2 undef w' hs2 h1
 ·rintro D σ' w' hDall⟨pre,vs,post,a,S,e1,e2,e3,e4,e5,e6,e7,eS,e8,e9⟩;have hpost:post= []:=by
   cases post with
   |nil=>rfl
   |cons e rest=>
    have h1:=e6 e (by simp);rw[hDall e<|hlt e (by rw[e1];simp)]at h1;cases h1
  subst hpost;rw[jT]at e1;subst e1;have:σ'=gE l U ord vs:=by
   funext t
   by_cases hex:∃(k:Nat)(o':Oper),l[k]? =some o'/\o'.dst=some t
   ·obtain⟨k,o',ho',hd'⟩:=hex;have hkl:=(bS.1 ho').1;obtain⟨j,hj⟩:=List.mem_iff_getElem?.1<|hall k hkl
    have hjl:j<vs.length:=by rw[e2];exact(bS.1 hj).1
    rw[e8 j k vs[j] o' t hj (aZ hjl) ho' hd'<|hDall k hkl];refine(qT ord vs U j k o' vs[j] hj (aZ hjl) ho' hd' λk2 i2 o2 hk2 ho2 hne=>?_).symm;refine hdist k i2 o' o2 t ho' ho2 (λe=>hne ?_) hd';subst e;exact(List.getElem?_inj (bS.1 hk2).1 hnd).1 (by rw[hk2,hj])
   ·rw[e9 t λk o' ho' hd'=>absurd ⟨k,o',ho',hd'⟩ hex];exact(kx ord vs U<|λi' hi' o2 ho2 hd2=>hex ⟨i',o2,ho2,hd2⟩).symm
  rw[this];unfold DP at e4;exact e4
theorem Aq{U:Nat->Value}{w:World}{id:Nat}(hm:P.follows .mixedOrders=true)(mk ord:List Nat)(h:DP P n l mk Q (λ_=>True) ord U w.drew)(hdep:l4 0 l=true:=by exact rfl)(hc:u3 n l mk ord=true:=by kernel_rfl):RC P n (.region id l.toArray true) U w Q:=Aw (hc:=hc) _ hm hdep mk ord trivial h
end
def tT(m:Nat):List Nat->Bool
 | []=>true
 |i::l=>Nat.blt i m&& !(l.any λj=>Nat.beq i j)&&tT m l
theorem nQ{m:Nat}:∀{l:List Nat},tT m l=true->l.Nodup/\∀i∈l,i<m
 | [],_=>⟨List.nodup_nil,λi h=>by cases h⟩
 |a::l,h=>by
  unfold tT at h;simp only[bV,Bool.not_eq_true']at h;obtain⟨h1,h2⟩:=nQ h.2;refine⟨List.nodup_cons.2 ⟨λhm=>?_,h1⟩,λi hi=>?_⟩
  ·have:(l.any λb=>Nat.beq a b)=true:=jk.2 ⟨a,hm,Nat.beq_refl a⟩;rw[this]at h;cases h.1.2
  ·rcases fm.1 hi with e|hi
   ·rw[e];exact Nat.blt_eq▸h.1.1
   ·exact h2 i hi
section
variable {E w:World}{V Γ0 new:List HP}
theorem Holds.pk(h:Holds E w V)(m:Nat)(idx:List Nat)(e:(V.drop m,idx.map<|λi=>V[i]?,tT m idx)=(Γ0,new.map some,true):=by exact rfl):Holds E w (new++Γ0):=by
 injection e with e1 e;injection e with e2 e3
 exact h.pick m idx e1 e2 (nQ e3).1 (nQ e3).2
def wZ(m:Nat)(idx:List Nat)(V:List HP):List HP:=idx.map (λi=>V.getD i aW)++V.drop m
theorem Holds.pl(h:Holds E w V)(m:Nat)(idx:List Nat)(e:(tT m idx&&(idx.all λi=>Nat.blt i V.length))=true):Holds E w (wZ m idx V):=by
 rw[bV]at e;refine h.pick m idx rfl ?_ (nQ e.1).1 (nQ e.1).2
 simp_all
end
section
variable {P:Program}{n:Nat}{l:List Oper}{mk:List Nat}{Q:dC}{U:Nat->Value}{w:World}{i:Nat}{rest:List Nat}{o:Oper}{ops:Array Oper}{S:World->Prop}
theorem eB(ho:l[i]? =some o)(h:RL P n l.toArray [o] U w (λex σ' w'=>ex = .normal/\w'=w/\DP P n l mk Q S rest σ' w))(hm:mk.getD i 0=0:=by exact rfl):RL P n ops [] U w (λex σ' w'=>ex = .normal/\w'=w/\DP P n l mk Q S (i::rest) σ' w):=zT<|zM ho hm h
theorem u4(ho:l[i]? =some o)(h:RL P n l.toArray [o] U w (λex σ' w'=>ex = .normal/\S w'/\DP P n l mk Q S rest σ' w'))(hm:mk.getD i 0=2:=by exact rfl):RL P n ops [] U w (λex σ' w'=>ex = .normal/\w'=w/\DP P n l mk Q S (i::rest) σ' w):=zT<|z6 ho hm h
theorem w3(ho:l[i]? =some o)(hm:mk.getD i 0=0)(h:RL P n l.toArray [o] U w (λex σ' w'=>ex = .normal/\w'=w/\DP P n l mk Q S rest σ' w))(hS:S w:=by exact trivial):RL P n ops [] U w (λex σ' w'=>ex = .normal/\S w'/\DP P n l mk Q S (i::rest) σ' w'):=by simp_all[z2,zM]
theorem zf(hS:S w)(ho:l[i]? =some o)(hm:mk.getD i 0=2)(h:RL P n l.toArray [o] U w (λex σ' w'=>ex = .normal/\S w'/\DP P n l mk Q S rest σ' w')):RL P n ops [] U w (λex σ' w'=>ex = .normal/\S w'/\DP P n l mk Q S (i::rest) σ' w'):=by simp_all[z2,z6]
end
theorem zy{P:Program}{n:Nat}{q:Operand}{x y:Code}{U:Nat->Value}{w:World}{Q:dC}{β:Type}{b:Bool}{A B:Option β}{r:β}(hb:(bif b then A else B)=some r)(hc:ev U q = .bool b)
  (ht:b=true->A=some r->RC P n x U w Q) (hf:b=false->B=some r->RC P n y U w Q):RC P n (.cond q x y) U w Q:=
 by grind [AP]
theorem hY{G:Prop}{β:Type}{b:Bool}{A B:Option β}{r:β}(hb:(bif b then A else B)=some r)(ht:b=true->A=some r->G)(hf:b=false->B=some r->G):G:=by
 grind
def xH(ad:Addr)(cs:List Value):HP:=⟨λM h=>At M ad cs/\h=j4,λk⟨a,b⟩=>⟨a.mono k,b⟩⟩
section
variable {α β:Type}[GT α][GT β]{E w:World}{V:List HP}{P:Program}{n:Nat}{l:List Oper}{mk:List Nat}{Q:dC}{U:Nat->Value}{i j0:Nat}{rest:List Nat}{S:World->Prop}
variable {d:Nat}{ty:TypeId}{pos:String}{af:Array Edge}{g:Option (Nat×Bool)}{q r:Operand}{T e:TypeId}{x:α}{p:Value}
theorem Holds.l9(h:Holds E w V)(i:Nat){A:HP}(hi:V[i]? =some A:=by exact rfl):Holds E w [A]:=by
 have hlt:=(bS.1 hi).1;have:=h.pick V.length [i] (Γ0:=[]) (new:=[A]) (by simp) (by simp[hi]) (by simp) (λk hk=>by grind)
 grind
theorem Bd{v:Value}(hg:Wn l.toArray U g)(hd:Nat.blt d n=true){op:Op}{w':World}(hrun:(execOp (ev U) ⟨some d,op,ty,pos,af,g⟩).run P w' = .ok (.value v) w'):
  RL P n l.toArray [⟨some d,op,ty,pos,af,g⟩] U w' (λex σ' w''=>ex = .normal/\w''=w'/\σ'=jm ⟨some d,op,ty,pos,af,g⟩ U v):=
 zJ hg hd hrun (i_ ⟨rfl,rfl,rfl⟩)
theorem Be{j m:Nat}{f:α->β}(i:Nat)(ho:l[j0]? =some ⟨some d, .fieldAddr T q j,ty,pos,af,g⟩)(hm:mk.getD j0 0=1)(hg:Wn l.toArray U g)(hd:Nat.blt d n=true)(hw:Holds E w V)(hx:ev U q=p)(hi:V[i]? =some (pt p x))(hf:pY P T j m)(hF:Fd m f)
  (k:∀v,Holds E w (pt v (f x)::V)->DP P n l mk Q S rest (cM U d v) w):DP P n l mk Q S (j0::rest) U w:=by
 obtain⟨M,hs,gd⟩:=hw;obtain⟨⟨ad,cs,hv,hok,ha⟩,_⟩:=gd.sat i _ hi;refine z1 (hm:=hm) (.pointer<|some<|ad.add m) ho (λw'=>Bd hg hd ?_)<|k _ ⟨M,_,gd.el ⟨⟨ad.add m,_,rfl,hF M cs x hok,ha.sub m<|GT.sz β⟩,rfl⟩⟩
 simp only[execOp,hx,hv,aM,hf.run,aS,aV]
theorem AA(x:α)(i:Nat)(ho:l[j0]? =some ⟨some d, .load T q,ty,pos,af,g⟩)(hw:Holds E w V)(hT:kn P T (GT.agg α) (GT.sz α))(k:∀v ad cs,Holds E w (xH ad cs::rd v x::V)->DP P n l mk Q (λw2=>S w2/\Holds E w2 [xH ad cs]) rest (cM U d v) w)(hm:mk.getD j0 0=1:=by exact rfl)(hg:Wn l.toArray U g:=by exact trivial)(hd:Nat.blt d n=true:=by exact rfl)(hx:ev U q=p:=by exact rfl)(hi:V[i]? =some (pt p x):=by exact rfl):DP P n l mk Q S (j0::rest) U w:=by
 have hw0:=hw;obtain⟨M,hs,gd⟩:=hw;obtain⟨⟨ad,cs,hv,hok,ha⟩,_⟩:=gd.sat i _ hi;have hw1:Holds E w (rd (oY α cs) x::V):=⟨M,_,gd.el ⟨⟨cs,rfl,hok⟩,rfl⟩⟩;have hw2:Holds E w (xH ad cs::rd (oY α cs) x::V):=⟨M,_,(gd.el (P:=rd (oY α cs) x) ⟨⟨cs,rfl,hok⟩,rfl⟩).el ⟨ha,rfl⟩⟩;refine BH (oY α cs) (λw2=>S w2/\Holds E w2 [xH ad cs]) (λ_ h=>h.1) (λh=>⟨h,hw2.l9 0⟩) ho hm (λw' hS=>Bd hg hd ?_)<|k _ _ _ hw2
 obtain⟨M',hs',gd'⟩:=hS.2;obtain⟨ha',_⟩:=gd'.sat 0 _ rfl;simp only[execOp,hx,hv,Instr.loadAt,Instr.sureAddr,aM,aV,aS,iU hT hok<|λj u hu=>l3 gd'.im<|ha' j u hu]
end
def SH(E:World)(V:List HP)(l:List (Nat×Value))(G:List HP)(U:Nat->Value)(w:World):Prop:=∃O,U=ko l O/\Holds E w (G++V)
theorem sh{U:Nat->Value}{w E:World}{l:List (Nat×Value)}{G V:List HP}(h:agree U l)(hw:Holds E w (G++V)):SH E V l G U w:=by
 obtain⟨O,e⟩:=h.ko;exact⟨O,e,hw⟩
theorem vO{U:Nat->Value}:∀{l:List (Nat×Value)},l.map (λp=>U p.1)=l.map (λp=>p.2)->agree U l
 | [],_=>True.intro
 |(d,v)::l,h=>by
  rw[fu,fu]at h;injection h with h1 h2
  exact⟨h1,vO h2⟩
section
variable {P:Program}{n:Nat}{U:Nat->Value}{w:World}{Q:dC}{E:World}{V Γ1 new:List HP}{ops:Array Oper}{rest:List Oper}{d t j:Nat}{ty:TypeId}{pos:String}{af:Array Edge}{g:Option (Nat×Bool)}{x y z:Operand}{op:Op}
theorem bL{a b:Bool}(h:a = !b)(k:RL P n ops rest (cM U d undef) w Q)(ht:(ops[j]?).bind (·.dst)=some t:=by exact rfl)(hv:U t = .bool a:=by exact rfl)(hd:Nat.blt d n=true:=by exact rfl):
  RL P n ops (⟨some d,op,ty,pos,af,some (j,b)⟩::rest) U w Q:=sk ht (.inl<|hv.trans<|cb h) hd k
theorem vw{b:Bool}(k:RL P n ops rest (cM U d undef) w Q)(ht:(ops[j]?).bind (·.dst)=some t:=by exact rfl)(hv:U t = .bool (!b):=by exact rfl)(hd:Nat.blt d n=true:=by exact rfl):
  RL P n ops (⟨some d,op,ty,pos,af,some (j,b)⟩::rest) U w Q:=sk ht (.inl hv) hd k
theorem hZ{b c:Bool}(h:b=c)(v:Value)(k:RL P n ops rest (cM U d v) w Q)(hg:Wn ops U g:=by exact trivial)(hd:Nat.blt d n=true:=by exact rfl)(hx:ev U x = .bool b:=by exact rfl)(hv:(if c=true then ev U y else ev U z)=v:=by exact rfl):
  RL P n ops (⟨some d, .pick x y z,ty,pos,af,g⟩::rest) U w Q:=by grind [Aa]
theorem Holds.sp{l:List (Nat×Value)}(h:Holds E w Γ1)(m:Nat)(idx:List Nat)(e:(Γ1.drop m,idx.map<|λi=>Γ1[i]?,tT m idx)=(V,new.map some,true):=by exact rfl)
  (ha:l.map (λp=>U p.1)=l.map (λp=>p.2):=by exact rfl):SH E V l new U w:=sh (vO ha)<|h.pk (e:=e) m idx
end
section
variable {S T γ:Type}[GT S][GT T][GT γ]{m:Nat}
theorem Fd.v{r:S->γ}(g:S->T){f:T->γ}(h:Fd m f)(ho:∀M cs x,GT.ok (α:=S) M cs x=GT.ok M cs (g x):=by exact λ_ _ _=>rfl)(e:∀x,f (g x)=r x:=by exact λ_=>rfl):Fd m r:=λM cs x hx=>by
 rw[<-e];exact h M cs (g x)<|ho M cs x▸hx
theorem Fs.v{r:S->γ->S}(g:S->T){f:T->γ->T}(h:Fs m γ f)(ho:∀M cs x,GT.ok (α:=S) M cs x=GT.ok M cs (g x):=by exact λ_ _ _=>rfl)(e:∀x y,f (g x) y=g (r x y):=by exact λ_ _=>rfl):Fs m γ r:=λM cs ds x y hx hy=>by
 rw[ho,<-e];exact h M cs ds (g x) y (ho M cs x▸hx) hy
end
section
variable {P:Program}{T e i k m f:Nat}{fn:Func}{ag:Bool}{zs:List Value}
theorem gj{f:FuncId}(h:P.funcs[f]? =some fn)(h1:(fn.name== "runtime.NumGoroutine")=false:=by kernel_rfl)(h2:fn.body.isNone=false:=by exact rfl):fK P f:=⟨λ_ _=>qG h h1 h2⟩
theorem sP{T:TypeId}(h:∀a w,(Instr.fieldAt T (.pointer<|some a) i).run P w = .ok (.pointer<|some<|a.add k) w:=by intro _ _;kernel_rfl):pY P T i k:=⟨h⟩
theorem ru{T:TypeId}(h:∀w,(isAgg T).run P w = .ok ag w:=by intro _;kernel_rfl)(h2:∀w,(sizeOf T).run P w = .ok k w:=by intro _;kernel_rfl):kn P T ag k:=⟨h,h2⟩
theorem wb{T e:TypeId}(h:P.underlying T=some (.slice e):=by kernel_rfl)(h2:∀w,(sizeOf e).run P w = .ok k w:=by intro _;kernel_rfl):sO P T e k:=⟨h,h2⟩
theorem wc{e:TypeId}(z:Value)(h:∀w,(zeroValue e).run P w = .ok z w:=by intro _;kernel_rfl)(h1:z.cells.size=m:=by exact rfl)(h2:∀w,(sizeOf e).run P w = .ok m w:=by intro _;kernel_rfl):vv P e m:=⟨⟨z,h,h1⟩,h2⟩
end
section
variable {l:List Oper}{D:Nat->Bool}{U:Nat->Value}{j d n:Nat}{v v':Value}{dv:List (Nat×Nat×Value)}{ag:List (Nat×Value)}
theorem nh(hcl:k6 l D)(hD:D j=false)(K:Nat)(h:((l[K]?).any λo=>nN o j)=true:=by exact rfl):D K=false:=nf λh1=>by
 cases ho:l[K]? with
 |none=>rw[ho]at h;cases h
 |some o=>
  rw[ho]at h;have:=hL (hcl K o ho h1) h;rw[hD]at this;cases this
theorem qX(h:∀i,i<n->D i=true)(i:Nat)(hi:Nat.blt i n=true:=by exact rfl):D i=true:=h i<|Nat.blt_eq.mp hi
theorem cB.pu(h:cB D U dv)(k:Nat)(h1:dv[k]? =some (j,d,v):=by exact rfl)(h2:o7 j d k dv=true:=by exact rfl):cB (ins D j) (cM U d v') (dv.set k (j,d,v')):=h.put k h1 h2
theorem cB.n1(h:cB D U dv)(h1:(dv.all λx=> !Nat.beq x.1 j)=true:=by exact rfl):cB (ins D j) U dv:=h.no h1
theorem agree.u(h:agree U ag)(h1:jV d ag=true:=by exact rfl):agree (cM U d v) ag:=h.up h1
end
def w5:List (Nat×Value)->Bool
 | []=>true
 |(d,_)::l=>jV d l&&w5 l
theorem qp{d:Nat}:∀{l k:List (Nat×Value)},jV d (l++k)=true->jV d l=true/\jV d k=true
 | [],_,h=>⟨rfl,h⟩
 |(t,v)::l,k,h=>by
  have h:(!Nat.beq t d&&jV d (l++k))=true:=h;rw[bV]at h;have:=qp h.2;exact⟨by show(!Nat.beq t d&&jV d l)=true;rw[bV];exact⟨h.1,this.1⟩,this.2⟩
theorem qq{O:Nat->Value}:∀{l:List (Nat×Value)},w5 l=true->agree (ko l O) l
 | [],_=>trivial
 |(d,v)::l,h=>by
  have h:(jV d l&&w5 l)=true:=h;rw[bV]at h;refine⟨?_,(qq h.2).up h.1⟩;show(bif Nat.beq d d then v else _)=v;rw[Nat.beq_refl];rfl
theorem qs{U:Nat->Value}:∀{l k:List (Nat×Value)},agree U (l++k)->agree U l
 | [],_,_=>trivial
 |(d,v)::l,k,h=>⟨h.1,qs h.2⟩
section
variable {S R X Y β:Type}{res:β}{P:Program}{n:Nat}{U:Nat->Value}{w E:World}{Q:dC}{z:Code}{b0 id d A B:Nat}{T T' ty:TypeId}{pos:String}{af:Array Edge}{V:List HP}
theorem SH.out{W L:List (Nat×Value)}{C:List HP}{U:Nat->Value}{w:World}(h:SH E V (W++L) C U w)(hf:(jV d (W++L)&&w5 (W++L))=true)(v:Value):SH E V W C (cM U d v) w:=by
 obtain⟨O,rfl,hw⟩:=h;rw[bV]at hf;exact sh ((qs<|qq hf.2).up (qp hf.1).1) hw
theorem nR{U:Nat->Value}{v:Value}:ev (cM U d v) (.tmp d)=v:=by
 show(bif Nat.beq d d then v else U d)=v;rw[Nat.beq_refl];rfl
abbrev cl(id d A B b0:Nat)(T T' ty:TypeId)(pos:String)(af:Array Edge)(z:Code):Code:= .block b0<|.loop<|.seq (.region id [(⟨some d, .binOp .lss T (.tmp A) (.tmp B) T',ty,pos,af,none⟩:Oper)].toArray false)<|.seq (.cond (.tmp d) .skip<|.exit b0) z
def lv(d A B k m:Nat)(l:List (Nat×Value)):Prop:=(jV d l&&w5 l)=true/\(∀O,ko l O A = .int .i64 (k:Int))/\∀O,ko l O B = .int .i64 (m:Int)
theorem SH.hd{d A B k m:Nat}{l C}{U:Nat->Value}{w:World}(h:SH E V l C U w)(hl:lv d A B k m l):U A = .int .i64 (k:Int)/\U B = .int .i64 (m:Int):=by
 obtain⟨O,rfl,_⟩:=h;exact⟨hl.2.1 O,hl.2.2 O⟩
theorem A0{I:Nat->S->(Nat->Value)->World->Prop}{J:S->(Nat->Value)->World->Prop}{K:R->(Nat->Value)->World->Prop}
  {body:Nat->S->Option (Fl S R)} {f:S->Option β} {g:R->Option β} {m:Nat} {s0:S} (hb:((iV m body s0).bind λo=>o.cs f g)=some res) (h0:I 0 s0 U w) (hd:Nat.blt d n=true)
  (hJ:∀s U v w,I m s U w->J s (cM U d v) w) (hx:∀k s U w,I k s U w->U A = .int .i64 (k:Int)/\U B = .int .i64 (m:Int))
  (step:m<=4611686018427387904->∀k s fl U w,k<m->I k s U w->body k s=some fl->RC P n z (cM U d<|.bool<|decide<|(k:Int)<(m:Int)) w (uK I b0 J K k fl))
  (hrt:∀r U w,g r=some res->K r U w->Q .ret U w) (hgo:∀s U w,f s=some res->J s U w->Q .normal U w):RC P n (cl id d A B b0 T T' ty pos af z) U w Q:=by
 obtain⟨out,hN,hb⟩:=bd hb;exact A8 I J K hN h0
  (λhm s U w h=>g_<|ic (hd:=hd) (hx:=(hx m s U w h).1) (hy:=(hx m s U w h).2) (K:= .i64) m m<|p_<|AV (nR.trans y8)<|Ak ⟨rfl,hJ s U _ w h⟩)
  (λhm k s fl U w hk h hb=>g_<|ic (hd:=hd) (hx:=(hx k s U w h).1) (hy:=(hx k s U w h).2) (K:= .i64) k m<|p_<|AU (nR.trans<|y7 hk)<|Aj<|step hm k s fl U w hk h hb) (λr U w e=>by subst e;exact hrt r U w hb) (λs U w e=>by subst e;exact hgo s U w hb)
theorem A1{I:Nat->S->(Nat->Value)->World->Prop}{J:S->(Nat->Value)->World->Prop}
  {body:Nat->S->Option S} {f:S->Option β} {m:Nat} {s0:S} (hb:(oK m body s0).bind f=some res) (h0:I 0 s0 U w) (hd:Nat.blt d n=true)
  (hJ:∀s U v w,I m s U w->J s (cM U d v) w) (hx:∀k s U w,I k s U w->U A = .int .i64 (k:Int)/\U B = .int .i64 (m:Int))
  (step:m<=4611686018427387904->∀k s s' U w,k<m->I k s U w->body k s=some s'->RC P n z (cM U d<|.bool<|decide<|(k:Int)<(m:Int)) w (λex U w=>ex = .normal/\I (k+1) s' U w))
  (hgo:∀s U w,f s=some res->J s U w->Q .normal U w):RC P n (cl id d A B b0 T T' ty pos af z) U w Q:=by
 obtain⟨out,hN,hb⟩:=bd hb;exact Bn I J hN h0
  (λhm s U w h=>g_<|ic (hd:=hd) (hx:=(hx m s U w h).1) (hy:=(hx m s U w h).2) (K:= .i64) m m<|p_<|AV (nR.trans y8)<|Ak ⟨rfl,hJ s U _ w h⟩)
  (λhm k s fl U w hk h hb=>g_<|ic (hd:=hd) (hx:=(hx k s U w h).1) (hy:=(hx k s U w h).2) (K:= .i64) k m<|p_<|AU (nR.trans<|y7 hk)<|Aj<|step hm k s fl U w hk h hb) (λU w=>hgo out U w hb)
theorem AB(E:World)(V:List HP)(C:S->List HP)(W:S->List (Nat×Value))(L:Nat->S->List (Nat×Value)){body:Nat->S->Option S}{f:S->Option β}{m:Nat}{s0:S}(hb:(oK m body s0).bind f=some res)(h0:SH E V (W s0++L 0 s0) (C s0) U w)
  (step:m<=4611686018427387904->∀k s s' U w,k<m->SH E V (W s++L k s) (C s) U w->body k s=some s'->RC P n z (cM U d<|.bool<|decide<|(k:Int)<(m:Int)) w (λex U w=>ex = .normal/\SH E V (W s'++L (k+1) s') (C s') U w))
  (hgo:∀s U w,f s=some res->SH E V (W s) (C s) U w->Q .normal U w) (hd:Nat.blt d n=true:=by exact rfl) (hl:∀k s,lv d A B k m (W s++L k s):=by exact λ_ _=>⟨rfl,λ_=>rfl,λ_=>rfl⟩):RC P n (cl id d A B b0 T T' ty pos af z) U w Q:=
 A1 (I:=λk s U w=>SH E V (W s++L k s) (C s) U w) (J:=λs U w=>SH E V (W s) (C s) U w) hb h0 hd (λs U v w h=>h.out (hl m s).1 v) (λk s U w h=>h.hd<|hl k s) step hgo
theorem z3(E:World)(V:List HP)(C:S->List HP)(W:S->List (Nat×Value))(L:Nat->S->List (Nat×Value))(K:R->(Nat->Value)->World->Prop){body:Nat->S->Option (Fl S R)}{f:S->Option β}{g:R->Option β}{m:Nat}{s0:S}(hb:((iV m body s0).bind λo=>o.cs f g)=some res)(h0:SH E V (W s0++L 0 s0) (C s0) U w)
  (step:m<=4611686018427387904->∀k s fl U w,k<m->SH E V (W s++L k s) (C s) U w->body k s=some fl->RC P n z (cM U d<|.bool<|decide<|(k:Int)<(m:Int)) w (uK (λk s U w=>SH E V (W s++L k s) (C s) U w) b0 (λs U w=>SH E V (W s) (C s) U w) K k fl))
  (hrt:∀r U w,g r=some res->K r U w->Q .ret U w) (hgo:∀s U w,f s=some res->SH E V (W s) (C s) U w->Q .normal U w) (hd:Nat.blt d n=true:=by exact rfl) (hl:∀k s,lv d A B k m (W s++L k s):=by exact λ_ _=>⟨rfl,λ_=>rfl,λ_=>rfl⟩):RC P n (cl id d A B b0 T T' ty pos af z) U w Q:=
 A0 (I:=λk s U w=>SH E V (W s++L k s) (C s) U w) (J:=λs U w=>SH E V (W s) (C s) U w) hb h0 hd (λs U v w h=>h.out (hl m s).1 v) (λk s U w h=>h.hd<|hl k s) step hrt hgo
theorem A2{c:Code}(E:World)(V:List HP)(C:S->List HP)(W L:S->List (Nat×Value))(K:R->(Nat->Value)->World->Prop){body:S->Option (Fl S R)}{f:S->Option β}{g:R->Option β}{N:Nat}{s0:S}(hb:((p7 body N s0).bind λo=>o.cs f g)=some res)(h0:SH E V (W s0++L s0) (C s0) U w)
  (step:∀s fl U w,SH E V (W s++L s) (C s) U w->body s=some fl->RC P n c U w (qI (λs U w=>SH E V (W s++L s) (C s) U w) b0 (λs U w=>SH E V (W s) (C s) U w) K fl))
  (hrt:∀r U w,g r=some res->K r U w->Q .ret U w) (hgo:∀s U w,f s=some res->SH E V (W s) (C s) U w->Q .normal U w):RC P n (.block b0<|.loop c) U w Q:=by
 obtain⟨out,hN,hb⟩:=bd hb;exact AR _ _ K hN h0 step (λr U w e=>by subst e;exact hrt r U w hb) (λs U w e=>by subst e;exact hgo s U w hb)
theorem AF{c:Code}(E:World)(V:List HP)(C:S->List HP)(W L:S->List (Nat×Value)){body:S->Option (Fl S Empty)}{f:S->Option β}{g:Empty->Option β}{N:Nat}{s0:S}(hb:((p7 body N s0).bind λo=>o.cs f g)=some res)(h0:SH E V (W s0++L s0) (C s0) U w)
  (step:∀s fl U w,SH E V (W s++L s) (C s) U w->body s=some fl->RC P n c U w (qI (λs U w=>SH E V (W s++L s) (C s) U w) b0 (λs U w=>SH E V (W s) (C s) U w) (λr _ _=>r.elim) fl))
  (hgo:∀s U w,f s=some res->SH E V (W s) (C s) U w->Q .normal U w):RC P n (.block b0<|.loop c) U w Q:=
 A2 E V C W L (λr _ _=>r.elim) hb h0 step (λr _ _ _=>r.elim) hgo
theorem AO(E:World)(V:List HP)(C:S->X->List HP)(W:S->X->List (Nat×Value))(L:Nat->S->X->List (Nat×Value)){body:Nat->S->Option S}{f:S->Option β}{m:Nat}{s0:S}(hb:(oK m body s0).bind f=some res)(h0:(∃x,SH E V (W s0 x++L 0 s0 x) (C s0 x) U w))
  (step:m<=4611686018427387904->∀k s s' U w,k<m->(∃x,SH E V (W s x++L k s x) (C s x) U w)->body k s=some s'->RC P n z (cM U d<|.bool<|decide<|(k:Int)<(m:Int)) w (λex U w=>ex = .normal/\(∃x,SH E V (W s' x++L (k+1) s' x) (C s' x) U w)))
  (hgo:∀s U w,f s=some res->(∃x,SH E V (W s x) (C s x) U w)->Q .normal U w) (hd:Nat.blt d n=true:=by exact rfl) (hl:∀k s x,lv d A B k m (W s x++L k s x):=by exact λ_ _ _=>⟨rfl,λ_=>rfl,λ_=>rfl⟩):RC P n (cl id d A B b0 T T' ty pos af z) U w Q:=
 A1 (I:=λk s U w=>(∃x,SH E V (W s x++L k s x) (C s x) U w)) (J:=λs U w=>(∃x,SH E V (W s x) (C s x) U w)) hb h0 hd (λs U v w⟨x,h⟩=>⟨x,h.out (hl m s x).1 v⟩) (λk s U w⟨x,h⟩=>h.hd<|hl k s x) step hgo
theorem BS(E:World)(V:List HP)(C:S->X->List HP)(W:S->X->List (Nat×Value))(L:Nat->S->X->List (Nat×Value))(K:R->(Nat->Value)->World->Prop){body:Nat->S->Option (Fl S R)}{f:S->Option β}{g:R->Option β}{m:Nat}{s0:S}(hb:((iV m body s0).bind λo=>o.cs f g)=some res)(h0:(∃x,SH E V (W s0 x++L 0 s0 x) (C s0 x) U w))
  (step:m<=4611686018427387904->∀k s fl U w,k<m->(∃x,SH E V (W s x++L k s x) (C s x) U w)->body k s=some fl->RC P n z (cM U d<|.bool<|decide<|(k:Int)<(m:Int)) w (uK (λk s U w=>(∃x,SH E V (W s x++L k s x) (C s x) U w)) b0 (λs U w=>(∃x,SH E V (W s x) (C s x) U w)) K k fl))
  (hrt:∀r U w,g r=some res->K r U w->Q .ret U w) (hgo:∀s U w,f s=some res->(∃x,SH E V (W s x) (C s x) U w)->Q .normal U w) (hd:Nat.blt d n=true:=by exact rfl) (hl:∀k s x,lv d A B k m (W s x++L k s x):=by exact λ_ _ _=>⟨rfl,λ_=>rfl,λ_=>rfl⟩):RC P n (cl id d A B b0 T T' ty pos af z) U w Q:=
 A0 (I:=λk s U w=>(∃x,SH E V (W s x++L k s x) (C s x) U w)) (J:=λs U w=>(∃x,SH E V (W s x) (C s x) U w)) hb h0 hd (λs U v w⟨x,h⟩=>⟨x,h.out (hl m s x).1 v⟩) (λk s U w⟨x,h⟩=>h.hd<|hl k s x) step hrt hgo
theorem BI{c:Code}(E:World)(V:List HP)(C:S->X->List HP)(W L:S->X->List (Nat×Value))(K:R->(Nat->Value)->World->Prop){body:S->Option (Fl S R)}{f:S->Option β}{g:R->Option β}{N:Nat}{s0:S}(hb:((p7 body N s0).bind λo=>o.cs f g)=some res)(h0:(∃x,SH E V (W s0 x++L s0 x) (C s0 x) U w))
  (step:∀s fl U w,(∃x,SH E V (W s x++L s x) (C s x) U w)->body s=some fl->RC P n c U w (qI (λs U w=>(∃x,SH E V (W s x++L s x) (C s x) U w)) b0 (λs U w=>(∃x,SH E V (W s x) (C s x) U w)) K fl))
  (hrt:∀r U w,g r=some res->K r U w->Q .ret U w) (hgo:∀s U w,f s=some res->(∃x,SH E V (W s x) (C s x) U w)->Q .normal U w):RC P n (.block b0<|.loop c) U w Q:=by
 obtain⟨out,hN,hb⟩:=bd hb;exact AR _ _ K hN h0 step (λr U w e=>by subst e;exact hrt r U w hb) (λs U w e=>by subst e;exact hgo s U w hb)
theorem BT{c:Code}(E:World)(V:List HP)(C:S->X->List HP)(W L:S->X->List (Nat×Value)){body:S->Option (Fl S Empty)}{f:S->Option β}{g:Empty->Option β}{N:Nat}{s0:S}(hb:((p7 body N s0).bind λo=>o.cs f g)=some res)(h0:(∃x,SH E V (W s0 x++L s0 x) (C s0 x) U w))
  (step:∀s fl U w,(∃x,SH E V (W s x++L s x) (C s x) U w)->body s=some fl->RC P n c U w (qI (λs U w=>(∃x,SH E V (W s x++L s x) (C s x) U w)) b0 (λs U w=>(∃x,SH E V (W s x) (C s x) U w)) (λr _ _=>r.elim) fl))
  (hgo:∀s U w,f s=some res->(∃x,SH E V (W s x) (C s x) U w)->Q .normal U w):RC P n (.block b0<|.loop c) U w Q:=
 BI E V C W L (λr _ _=>r.elim) hb h0 step (λr _ _ _=>r.elim) hgo
theorem BU(E:World)(V:List HP)(C:S->X->Y->List HP)(W:S->X->Y->List (Nat×Value))(L:Nat->S->X->Y->List (Nat×Value)){body:Nat->S->Option S}{f:S->Option β}{m:Nat}{s0:S}(hb:(oK m body s0).bind f=some res)(h0:(∃x y,SH E V (W s0 x y++L 0 s0 x y) (C s0 x y) U w))
  (step:m<=4611686018427387904->∀k s s' U w,k<m->(∃x y,SH E V (W s x y++L k s x y) (C s x y) U w)->body k s=some s'->RC P n z (cM U d<|.bool<|decide<|(k:Int)<(m:Int)) w (λex U w=>ex = .normal/\(∃x y,SH E V (W s' x y++L (k+1) s' x y) (C s' x y) U w)))
  (hgo:∀s U w,f s=some res->(∃x y,SH E V (W s x y) (C s x y) U w)->Q .normal U w) (hd:Nat.blt d n=true:=by exact rfl) (hl:∀k s x y,lv d A B k m (W s x y++L k s x y):=by exact λ_ _ _ _=>⟨rfl,λ_=>rfl,λ_=>rfl⟩):RC P n (cl id d A B b0 T T' ty pos af z) U w Q:=
 A1 (I:=λk s U w=>(∃x y,SH E V (W s x y++L k s x y) (C s x y) U w)) (J:=λs U w=>(∃x y,SH E V (W s x y) (C s x y) U w)) hb h0 hd (λs U v w⟨x,y,h⟩=>⟨x,y,h.out (hl m s x y).1 v⟩) (λk s U w⟨x,y,h⟩=>h.hd<|hl k s x y) step hgo
theorem BV(E:World)(V:List HP)(C:S->X->Y->List HP)(W:S->X->Y->List (Nat×Value))(L:Nat->S->X->Y->List (Nat×Value))(K:R->(Nat->Value)->World->Prop){body:Nat->S->Option (Fl S R)}{f:S->Option β}{g:R->Option β}{m:Nat}{s0:S}(hb:((iV m body s0).bind λo=>o.cs f g)=some res)(h0:(∃x y,SH E V (W s0 x y++L 0 s0 x y) (C s0 x y) U w))
  (step:m<=4611686018427387904->∀k s fl U w,k<m->(∃x y,SH E V (W s x y++L k s x y) (C s x y) U w)->body k s=some fl->RC P n z (cM U d<|.bool<|decide<|(k:Int)<(m:Int)) w (uK (λk s U w=>(∃x y,SH E V (W s x y++L k s x y) (C s x y) U w)) b0 (λs U w=>(∃x y,SH E V (W s x y) (C s x y) U w)) K k fl))
  (hrt:∀r U w,g r=some res->K r U w->Q .ret U w) (hgo:∀s U w,f s=some res->(∃x y,SH E V (W s x y) (C s x y) U w)->Q .normal U w) (hd:Nat.blt d n=true:=by exact rfl) (hl:∀k s x y,lv d A B k m (W s x y++L k s x y):=by exact λ_ _ _ _=>⟨rfl,λ_=>rfl,λ_=>rfl⟩):RC P n (cl id d A B b0 T T' ty pos af z) U w Q:=
 A0 (I:=λk s U w=>(∃x y,SH E V (W s x y++L k s x y) (C s x y) U w)) (J:=λs U w=>(∃x y,SH E V (W s x y) (C s x y) U w)) hb h0 hd (λs U v w⟨x,y,h⟩=>⟨x,y,h.out (hl m s x y).1 v⟩) (λk s U w⟨x,y,h⟩=>h.hd<|hl k s x y) step hrt hgo
theorem BJ{c:Code}(E:World)(V:List HP)(C:S->X->Y->List HP)(W L:S->X->Y->List (Nat×Value))(K:R->(Nat->Value)->World->Prop){body:S->Option (Fl S R)}{f:S->Option β}{g:R->Option β}{N:Nat}{s0:S}(hb:((p7 body N s0).bind λo=>o.cs f g)=some res)(h0:(∃x y,SH E V (W s0 x y++L s0 x y) (C s0 x y) U w))
  (step:∀s fl U w,(∃x y,SH E V (W s x y++L s x y) (C s x y) U w)->body s=some fl->RC P n c U w (qI (λs U w=>(∃x y,SH E V (W s x y++L s x y) (C s x y) U w)) b0 (λs U w=>(∃x y,SH E V (W s x y) (C s x y) U w)) K fl))
  (hrt:∀r U w,g r=some res->K r U w->Q .ret U w) (hgo:∀s U w,f s=some res->(∃x y,SH E V (W s x y) (C s x y) U w)->Q .normal U w):RC P n (.block b0<|.loop c) U w Q:=by
 obtain⟨out,hN,hb⟩:=bd hb;exact AR _ _ K hN h0 step (λr U w e=>by subst e;exact hrt r U w hb) (λs U w e=>by subst e;exact hgo s U w hb)
theorem BW{c:Code}(E:World)(V:List HP)(C:S->X->Y->List HP)(W L:S->X->Y->List (Nat×Value)){body:S->Option (Fl S Empty)}{f:S->Option β}{g:Empty->Option β}{N:Nat}{s0:S}(hb:((p7 body N s0).bind λo=>o.cs f g)=some res)(h0:(∃x y,SH E V (W s0 x y++L s0 x y) (C s0 x y) U w))
  (step:∀s fl U w,(∃x y,SH E V (W s x y++L s x y) (C s x y) U w)->body s=some fl->RC P n c U w (qI (λs U w=>(∃x y,SH E V (W s x y++L s x y) (C s x y) U w)) b0 (λs U w=>(∃x y,SH E V (W s x y) (C s x y) U w)) (λr _ _=>r.elim) fl))
  (hgo:∀s U w,f s=some res->(∃x y,SH E V (W s x y) (C s x y) U w)->Q .normal U w):RC P n (.block b0<|.loop c) U w Q:=
 BJ E V C W L (λr _ _=>r.elim) hb h0 step (λr _ _ _=>r.elim) hgo
end
end Go.Gk
