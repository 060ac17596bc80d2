/-
  Helping texts on the memory of the model. No statement of the seed is proved here.
-/
import Derived.Test.YtoklpakgcjcdoaaGreatDoorA1
import Derived.Laws.Pointers
import Derived.Shelf.SlSortCmp.NoneTotal
import Derived.Shelf.SortM.Plain
import Derived.Shelf.SortM.SortNone
set_option linter.unusedVariables false
set_option linter.unusedSimpArgs false
set_option linter.unusedSectionVars false
namespace Go.Gk
open Go IntKind
section
variable {P:Program}{n:Nat}{U:Nat->Value}{w E:World}{V:List HP}{D:Nat->Bool}{dv dv':List (Nat×Nat×Value)}{e e':Edge}{l:List Edge}{d d' j:Nat}{v v' u:Value}{ag:List (Nat×Value)}{ops:Array Oper}
theorem cB.o0(h:cB D U dv)(k:Nat)(hp:ie D (e::l))(h1:dv[k]? =some (e.on,d,v))(hb:Region.binds .any e=true):U d=v:=h.at k h1<|hp.1 hb
theorem cB.o1(h:cB D U dv)(k:Nat)(hp:ie D (e::l))(h1:dv[k]? =some (e.on,d,v):=by exact rfl)(hb:Region.binds .any e=true:=by exact rfl):∃O,U=ko [(d,v)] O:=
 agree.ko (l:=[(d,v)]) ⟨h.o0 k hp h1 hb,trivial⟩
theorem cB.o2(h:cB D U dv)(k m:Nat)(hp:ie D (e::e'::l))(h1:dv[k]? =some (e.on,d,v):=by exact rfl)(hb:Region.binds .any e=true:=by exact rfl)
  (h2:dv[m]? =some (e'.on,d',v'):=by exact rfl) (hb2:Region.binds .any e'=true:=by exact rfl):∃O,U=ko [(d,v),(d',v')] O:=
 agree.ko (l:=[(d,v),(d',v')]) ⟨h.o0 k hp h1 hb,h.o0 m hp.2 h2 hb2,trivial⟩
theorem Holds.nw{c:HP}(h:Holds E w (c::V))(k:Nat)(hk:Nat.blt k V.length=true:=by exact rfl):Holds E w (V.set k (bif true then c else Gk.aW)):=by
 have hk:k<V.length:=Nat.blt_eq.mp hk
 have h2:=h.pick (V.length+1) ((List.range V.length).map λi=>if i=k then 0 else i+1) (Γ0:=[]) (new:=V.set k c) (by simp) (by
  apply List.ext_getElem
  ·simp
  ·intro i h1 h2;simp only[List.length_map,List.length_range]at h1;simp only[List.getElem_map,List.getElem_range,List.getElem_set]
   by_cases hi:i=k
   ·subst hi;simp
   ·simp[hi,Ne.symm hi]) (by
  rw[List.nodup_iff_pairwise_ne,List.pairwise_map];exact List.nodup_range.imp λ{a b}hab=>by
   by_cases ha:a=k <;> by_cases hb:b=k <;> simp[ha,hb] <;> omega) (by
  intro i hi;rw[List.mem_map]at hi;obtain⟨a,ha,rfl⟩:=hi;rw[List.mem_range]at ha
  split <;> omega)
 rw[jT]at h2;exact h2
theorem v_{X:Type}{G:X->List HP}{f:X->List (Nat×Nat×Value)}(x:X)(k:Nat)(hv:cB D U dv)(ha:agree U ag)(hw:Holds E w (G x))(h1:dv[k]? =some (j,d,v):=by exact rfl)(h2:o7 j d k dv=true:=by exact rfl)
  (h3:f x=dv.set k (j,d,u):=by exact rfl) (h4:jV d ag=true:=by exact rfl):RL P n ops [] (cM U d u) w (λex U w=>ex = .normal/\∃x,cB (ins D j) U (f x)/\agree U ag/\ku (ins D j) U []/\Holds E w (G x)):=
 i_ ⟨rfl,x,h3▸hv.put k h1 h2,ha.up h4,trivial,hw⟩
theorem A3{X:Type}{G:X->List HP}{f:X->List (Nat×Nat×Value)}(x:X)(hv:cB D U dv)(ha:agree U ag)(hw:Holds E w (G x))(h1:(dv.all λx=> !Nat.beq x.1 j)=true:=by exact rfl)
  (h3:f x=dv:=by exact rfl):RL P n ops [] U w (λex U w=>ex = .normal/\∃x,cB (ins D j) U (f x)/\agree U ag/\ku (ins D j) U []/\Holds E w (G x)):=
 i_ ⟨rfl,x,h3▸hv.no h1,ha,trivial,hw⟩
end
section
variable {P:Program}{n:Nat}{U:Nat->Value}{w:World}{Q:dC}{d:Nat}{ops:Array Oper}{rest:List Oper}{ty:TypeId}{pos:String}{af:Array Edge}{q:Operand}
theorem bB(a:Int)(k:RL P n ops rest (cM U d<|vi a) w Q)(hd:Nat.blt d n=true:=by exact rfl)(hx:ev U q=vi a:=by exact rfl):RL P n ops (⟨some d, .move q,ty,pos,af,none⟩::rest) U w Q:=mv (hd:=hd) (hx:=hx) (vi a) k
theorem iF(a:Bool)(k:RL P n ops rest (cM U d<|vb a) w Q)(hd:Nat.blt d n=true:=by exact rfl)(hx:ev U q=vb a:=by exact rfl):RL P n ops (⟨some d, .move q,ty,pos,af,none⟩::rest) U w Q:=mv (hd:=hd) (hx:=hx) (vb a) k
theorem aG(a:Int)(k:RL P n ops rest (cM U d<|vi a) w Q)(hd:Nat.blt d n=true:=by exact rfl)(hx:ev U q=vi a:=by exact rfl):RL P n ops (⟨some d, .assign q,ty,pos,af,none⟩::rest) U w Q:=ju (hd:=hd) (hx:=hx) (vi a) k
theorem bK(a:Bool)(k:RL P n ops rest (cM U d<|vb a) w Q)(hd:Nat.blt d n=true:=by exact rfl)(hx:ev U q=vb a:=by exact rfl):RL P n ops (⟨some d, .assign q,ty,pos,af,none⟩::rest) U w Q:=ju (hd:=hd) (hx:=hx) (vb a) k
end
theorem dZ{P:Program}{n:Nat}{q:Operand}{x y:Code}{U:Nat->Value}{w:World}{Q:dC}{β:Type}{b:Bool}{A B:Option β}{r:β}(hb:(bif b then A else B)=some r)(ht:A=some r->RC P n x U w Q)(hf:B=some r->RC P n y U w Q)(hc:ev U q = .bool b:=by exact rfl):RC P n (.cond q x y) U w Q:=zy hb hc (λ_=>ht) λ_=>hf
section
variable {α:Type}[GT α]{P:Program}{n:Nat}{U:Nat->Value}{w:World}{Q:dC}{E:World}{V:List HP}{ops:Array Oper}{rest:List Oper}{d:Nat}{ty T e:TypeId}{pos:String}{af:Array Edge}{g:Option (Nat×Bool)}{v u:Value}{q r:Operand}{l:List α}{x y:α}{jj:Int}{vs:List Value}
theorem Al{f:FuncId}{args:Array Operand}{ts:Array TypeId}{R:Value->World->Prop}(hf:fK P f)(h:Calls P f vs.toArray w (fi R))(k:∀v w',R v w'->RL P n ops rest (cM U d v) w' Q)
  (hg:Wn ops U g:=by exact trivial) (hd:Nat.blt d n=true:=by exact rfl) (hv:args.toList.map (ev U)=vs:=by exact rfl):RL P n ops (⟨some d, .call ⟨.value<|.func f,args,ts⟩,ty,pos,af,g⟩::rest) U w Q:=
 Bm hg hd hf vs hv (cG h k)
theorem k_{f:FuncId}{args:Array Operand}{ts:Array TypeId}{S:World->Prop}(hf:fK P f)(h:Calls P f vs.toArray w (fi λv w=>v=u/\S w))(k:∀w',S w'->RL P n ops rest (cM U d u) w' Q)
  (hg:Wn ops U g:=by exact trivial) (hd:Nat.blt d n=true:=by exact rfl) (hv:args.toList.map (ev U)=vs:=by exact rfl):RL P n ops (⟨some d, .call ⟨.value<|.func f,args,ts⟩,ty,pos,af,g⟩::rest) U w Q:=
 Al hf h (λv w⟨e,h⟩=>e▸k w h) hg hd hv
theorem zU{b:Nat}(i:Nat)(hw:Holds E w V)(hi:V[i]? =some (bx e b x))(hT:kn P T (GT.agg α) (GT.sz α))(k:∀v,Holds E w (rd v x::V)->RL P n ops rest (cM U d v) w Q)(hg:Wn ops U g:=by exact trivial)(hd:Nat.blt d n=true:=by exact rfl)
  (hx:ev U q = .pointer (some ⟨b,0,none⟩):=by exact rfl):RL P n ops (⟨some d, .load T q,ty,pos,af,g⟩::rest) U w Q:=zL (hg:=hg) (hd:=hd) (hx:=hx) (f:=λx=>x) _ hw hi Fd.self hT k
theorem Bf(i:Nat)(hw:Holds E w V)(h:idx l jj=some x)(hT:kn P T (GT.agg α) (GT.sz α))(k:∀v,Holds E w (rd v x::V)->RL P n ops rest (cM U d v) w Q)(hg:Wn ops U g:=by exact trivial)(hd:Nat.blt d n=true:=by exact rfl)
  (hi:V[i]? =some (own e v l):=by exact rfl) (hx:ev U q=wL v jj.toNat (GT.sz α) 0:=by exact rfl):RL P n ops (⟨some d, .load T q,ty,pos,af,g⟩::rest) U w Q:=
 A_ (f:=λx=>x) hg hd hw hx (xO hw hi h 0) hi (l5 h).2.1 Fd.self hT k
theorem BK{γ:Type}[Sc γ]{l:List γ}{x:γ}(i:Nat)(hw:Holds E w V)(h:idx l jj=some x)(hT:kn P T false 1)(k:RL P n ops rest (cM U d<|Sc.toV x) w Q)(hg:Wn ops U g:=by exact trivial)(hd:Nat.blt d n=true:=by exact rfl)
  (hi:V[i]? =some (own e v l):=by exact rfl) (hx:ev U q=wL v jj.toNat (GT.sz γ) 0:=by exact rfl):RL P n ops (⟨some d, .load T q,ty,pos,af,g⟩::rest) U w Q:=
 Bq (f:=λx=>x) hg hd hw hx (xO hw hi h 0) hi (l5 h).2.1 Fd.self hT k
theorem Bg(i j:Nat)(hw:Holds E w V)(h:idx l jj=some x)(hT:kn P T (GT.agg α) (GT.sz α))(k:∀w',Holds E w' (V.set i<|own e v<|l.set jj.toNat y)->RL P n ops rest U w' Q)(hg:Wn ops U g:=by exact trivial)
  (hi:V[i]? =some (own e v l):=by exact rfl) (hx:ev U q=wL v jj.toNat (GT.sz α) 0:=by exact rfl) (hy:ev U r=u:=by exact rfl) (hj:V[j]? =some (rd u y):=by exact rfl):RL P n ops (⟨none, .store T q r,ty,pos,af,g⟩::rest) U w Q:=
 Bs (f:=λ_ y=>y) hg hw hx hy (xO hw hi h 0) hi (l5 h).2.1 hj Fs.self (by omega) hT k
end
theorem xS(U:Nat->Value):∃O,U=ko [] O:=⟨U,rfl⟩
section
variable {P:Program}{n:Nat}{U:Nat->Value}{w:World}{Q:dC}{ops:Array Oper}{rest:List Oper}{d:Nat}{ty T T':TypeId}{pos:String}{af:Array Edge}{v:Value}{x y z q:Operand}
theorem gx{C:Bool}(hq:ev U q=cv C v)(h:C=true):ev U q=v:=hq.trans<|m9 h
theorem wv{C B:Bool}(hq:ev U q=cv C v)(h:(C&&B)=true):ev U q=v:=hq.trans<|m9<|uJ h
theorem ta{C B B':Bool}(hq:ev U q=cv C v)(h:((C&&B)&&B')=true):ev U q=v:=hq.trans<|m9<|uJ<|uJ h
theorem zV{j t:Nat}{want b:Bool}{op:Op}(v:Value)(ht:(ops[j]?).bind (·.dst)=some t)(hv:U t = .bool b)
  (hrun:(true&&(b==want))=true->(execOp (ev U) ⟨some d,op,ty,pos,af,some (j,want)⟩).run P w = .ok (.value v) w)
  (k:RL P n ops rest (cM U d<|cv (true&&(b==want)) v) w Q) (hd:Nat.blt d n=true:=by exact rfl):RL P n ops (⟨some d,op,ty,pos,af,some (j,want)⟩::rest) U w Q:=
 Ab true _ _ ht hv hd hrun k
theorem Ai{j t:Nat}{c want b:Bool}{op:Op}(v:Value)(ht:(ops[j]?).bind (·.dst)=some t)(hv:U t=cv c (.bool b))
  (hrun:(c&&(b==want))=true->(execOp (ev U) ⟨some d,op,ty,pos,af,some (j,want)⟩).run P w = .ok (.value v) w)
  (k:RL P n ops rest (cM U d<|cv (c&&(b==want)) v) w Q) (hd:Nat.blt d n=true:=by exact rfl):RL P n ops (⟨some d,op,ty,pos,af,some (j,want)⟩::rest) U w Q:=
 Ab _ _ _ ht hv hd hrun k
theorem p5{C:Bool}{o:Oper}(ho:o.op = .move x:=by exact rfl)(hx:C=true->ev U x=v:=by first|exact gx rfl|exact wv rfl|exact ta rfl|exact λ_=>rfl):C=true->(execOp (ev U) o).run P w = .ok (.value v) w:=vz ho hx
theorem rv{C:Bool}{o:Oper}{K:IntKind}{a b:Int}(bop:BinOp)(ho:o.op = .binOp bop T x y T':=by exact rfl)(hx:C=true->ev U x = .int K a:=by first|exact gx rfl|exact wv rfl|exact ta rfl|exact λ_=>rfl)
  (hy:C=true->ev U y = .int K b:=by first|exact gx rfl|exact wv rfl|exact ta rfl|exact λ_=>rfl) (hc:nH bop=true:=by exact rfl):
  C=true->(execOp (ev U) o).run P w = .ok (.value<|.bool<|jl bop a b) w:=vA ho hx hy hc
theorem xT{C:Bool}{o:Oper}{a b:aQ}(bop:BinOp)(ho:o.op = .binOp bop T x y T':=by exact rfl)(hx:C=true->ev U x=str a:=by first|exact gx rfl|exact wv rfl|exact ta rfl|exact λ_=>rfl)
  (hy:C=true->ev U y=str b:=by first|exact gx rfl|exact wv rfl|exact ta rfl|exact λ_=>rfl) (hc:nH bop=true:=by exact rfl):
  C=true->(execOp (ev U) o).run P w = .ok (.value<|.bool<|iT bop a b) w:=vB ho hx hy hc
theorem zz{C a b:Bool}{o:Oper}(ho:o.op = .pick x y z:=by exact rfl)(hx:C=true->ev U x = .bool a:=by first|exact gx rfl|exact wv rfl|exact ta rfl|exact λ_=>rfl)
  (hy:ev U y=cv (C&&(a==true)) (.bool b):=by exact rfl) (hz:ev U z = .bool false:=by exact rfl):C=true->(execOp (ev U) o).run P w = .ok (.value<|.bool<|a&&b) w:=
 tq ho hx λh=>by rw[hy,hz];exact kW (h:=h) _
theorem xI{C a b:Bool}{o:Oper}(ho:o.op = .pick x y z:=by exact rfl)(hx:C=true->ev U x = .bool a:=by first|exact gx rfl|exact wv rfl|exact ta rfl|exact λ_=>rfl)
  (hy:ev U y = .bool true:=by exact rfl) (hz:ev U z=cv (C&&(a==false)) (.bool b):=by exact rfl):C=true->(execOp (ev U) o).run P w = .ok (.value<|.bool<|a||b) w:=
 tq ho hx λh=>by rw[hy,hz];exact nG (h:=h) _
end
section
variable {κ ν:Type}[DecidableEq κ][GT κ][KV κ][GT ν]{P:Program}{n:Nat}{U:Nat->Value}{w:World}{Q:dC}{E:World}{V:List HP}{i j:Nat}
variable {ops:Array Oper}{rest:List Oper}{ty:TypeId}{pos:String}{af:Array Edge}{g:Option (Nat×Bool)}{v u:Value}{q qk qv:Operand}{T kt et:TypeId}{m:List (κ×ν)}{k:κ}{x z0:ν}
end
section
variable {κ ν:Type}[GT κ][KV κ][DecidableEq κ][GT ν]
theorem qt(k:κ)(x y:ν):∀m:List (κ×ν),dU (dU m k y) k x=dU m k x
 | []=>by simp[dU]
 |p::m=>by
  by_cases h:k=p.1
  ·simp[dU,h]
  ·simp[dU,h,qt k x y m]
theorem ma(k k':κ)(z:ν):∀m:List (κ×ν),bM (dU m k<|bM m k z) k' z=bM m k' z
 | []=>by
  simp only[dU,bM,List.find?_cons,List.find?_nil]
  by_cases h:k'=k <;> simp[h]
 |p::m=>by
  have ih:=ma k k' z m
  by_cases h:k=p.1
  ·obtain⟨p1,p2⟩:=p;simp only at h;subst h;simp[dU,bM,List.find?_cons]
  ·simp only[dU,h,if_false,bM,List.find?_cons,bX h]at ih ⊢
   by_cases h':k'=p.1
   ·simp[h']
   ·simpa[h']using ih
def xU(v:Value)(m:List (κ×ν))(k:κ)(y:ν)(a:Int):HP:=
 ⟨λM h=>∃r es clock,v = .map (some r)/\(gD M (Array.toList es) (dU m k y)/\uT es.toList clock (dU m k y))/\h=Gk.one r (.map es clock)/\∃(i:Nat)(en:MapEntry),es[i]? =some en/\fx (dU m k y) k=some i/\((en.born:Nat):Int)=a/\en.key=KV.enc k,
  λkk⟨r,es,c,hv,⟨he,hst⟩,hh,hx⟩=>⟨r,es,c,hv,⟨gD.mono kk he,hst⟩,hh,hx⟩⟩
def wx(v:Value)(m:List (κ×ν))(z:ν):HP:=
 ⟨λM h=>∃m',(∀k,bM m' k z=bM m k z)/\(mp v m').ok M h,λkk⟨m',h1,h2⟩=>⟨m',h1,(mp v m').mono kk h2⟩⟩
theorem pj(k:κ)(y:ν):∀{m:List (κ×ν)},fx (dU m k y) k=some ((fx m k).getD m.length)
 | []=>by simp[fx,dU]
 |p::m=>by
  by_cases h:k=p.1
  ·simp[fx,dU,h,List.findIdx?_cons]
  ·have:=pj k y (m:=m);simp only[fx,dU,h,if_false,List.findIdx?_cons,bX h,Bool.false_eq_true]at this ⊢;rw[this]
   cases List.findIdx? (λp=>decide<|k=p.1) m <;> simp
variable {P:Program}{n:Nat}{U:Nat->Value}{w:World}{Q:dC}{E:World}{V:List HP}{i j l:Nat}
variable {ops:Array Oper}{rest:List Oper}{d:Nat}{ty T kt et:TypeId}{pos:String}{af:Array Edge}{g:Option (Nat×Bool)}{v kv u:Value}{q qk qv:Operand}{r:Nat}{m:List (κ×ν)}{k:κ}{x y z0:ν}{a:Int}
theorem Good.put{M:cE}{hs:Nat->cE}{P':HP}(gd:Good E w M hs V)(hi:i<V.length)(hp:P'.ok M (hs i)):Good E w M hs (V.set i P'):=by
 refine⟨gd.os,gd.tape,gd.out,gd.dr,gd.im,λj P h=>?_,λj b o hj=>?_,λj b o hj=>?_,λj l b o hj hl=>?_⟩
 ·rw[List.getElem?_set]at h;split at h
  ·rename_i e;subst e;injection h with h
   subst h;exact hp
  ·exact gd.sat j P h
 ·rw[fo]at hj;exact gd.le j b o hj
 ·rw[fo]at hj;exact gd.dm j b o hj
 ·rw[fo]at hj hl;exact gd.dj j l b o hj hl
theorem qu{z:ν}:∀{m:List (κ×ν)},m.find? (λp=>decide<|k=p.1)=some (k,x)->dU m k x=m
 | [],h=>by simp at h
 |p::m,h=>by
  rw[List.find?_cons]at h;unfold dU
  by_cases e:k=p.1
  ·rw[dT e]at h;simp only[Option.some.injEq]at h;rw[aO e,h]
  ·rw[bX e]at h;rw[aR e,qu (z:=x) h]
theorem qY{es:Array MapEntry}{b:Nat}{en:MapEntry}(h:es[b]? =some en){f g:MapEntry->MapEntry}(e:f en=g en):es.modify b f=es.modify b g:=by
 apply Array.ext (by simp);intro j h1 h2;simp only[Array.getElem_modify];split
 ·rename_i hj;subst hj;have:es[b]'(by simpa using h1)=en:=by
   have hb:b<es.size:=by simpa using h1
   rw[eG hb]at h;exact Option.some.inj h
  rw[this,e]
 ·rfl
theorem rV{es:Array MapEntry}{b:Nat}{en:MapEntry}(h:es[b]? =some en){f:MapEntry->MapEntry}(e:f en=en):es.modify b f=es:=by
 apply Array.ext (by simp);intro j h1 h2;simp only[Array.getElem_modify];split
 ·rename_i hj;subst hj;rw[eG h2]at h;rw[Option.some.inj h,e]
 ·rfl
theorem qZ{es:Array MapEntry}{clock b:Nat}{m':List (κ×ν)}{en:MapEntry}(hst:uT es.toList clock m')(h:es[b]? =some en):es.findIdx? (λe=>((e.born:Nat):Int)==((en.born:Nat):Int))=some b:=by
 have hb:b<es.size:=(Array.getElem?_eq_some_iff.1 h).1;rw[Array.findIdx?_eq_some_iff_getElem];rw[eG hb]at h;have he:=Option.some.inj h;refine⟨hb,by rw[he];simp,λj hj=>?_⟩;have hn:=hst.2.1;rw[List.nodup_iff_pairwise_ne,List.pairwise_iff_getElem]at hn;have:=hn j b (by simp;omega) (by simp;omega) hj;simp only[List.getElem_map,Array.getElem_toList]at this;simp only[beq_iff_eq,<-he];intro h;exact this (by omega)
theorem Holds.vP(h:Holds E w ([mp v m]++V))(z:ν):Holds E w ([wx v m z]++V):=by
 obtain⟨M,hs,gd⟩:=h;exact⟨M,hs,gd.put (i:=0) (P':=wx v m z) (Nat.zero_lt_succ _) ⟨m,λ_=>rfl,gd.sat 0 _ rfl⟩⟩
theorem Holds.w6(h:Holds E w ([xU v m k (bM m k z0) a]++V)):Holds E w ([wx v m z0]++V):=by
 obtain⟨M,hs,gd⟩:=h;obtain⟨r,es,c,hv,he,hh,_⟩:=gd.sat 0 _ rfl;exact⟨M,hs,gd.put (i:=0) (P':=wx v m z0) (Nat.zero_lt_succ _) ⟨_,λk'=>ma k k' z0 m,r,es,c,hv,he,hh⟩⟩
theorem Bh [KV ν](i:Nat)(k:κ)(hg:Wn ops U g)(hd:Nat.blt d n=true)(hw:Holds E w V)(hx:ev U q=v)(hk:ev U qk=KV.enc k)(hi:V[i]? =some (wx v m z0))(hT:oL P T kt et κ ν z0)(kk:RL P n ops rest (cM U d<|KV.enc<|bM m k z0) w Q):RL P n ops (⟨some d, .lookup T q qk false,ty,pos,af,g⟩::rest) U w Q:=by
 obtain⟨M,hs,gd⟩:=hw;obtain⟨m',hm,hp⟩:=gd.sat i _ hi;have hw':Holds E w (V.set i<|mp v m'):=⟨M,hs,gd.put (bY hi) hp⟩;refine AK i _ hg hd hw' hx hk (by rw[List.getElem?_set_self<|bY hi]) hT ?_;rw[hm];exact kk
theorem Bi(i:Nat)(k:κ)(hg:Wn ops U g)(hd:Nat.blt d n=true)(hw:Holds E w V)(hx:ev U q=v)(hk:ev U qk=KV.enc k)(hi:V[i]? =some (mp v m))(hT:oL P T kt et κ ν z0)(kk:∀y a w',Holds E w' (V.set i<|xU v m k (bM m k z0) a)->RL P n ops rest (cM U d<|.tuple #[y, .int .i64 a]) w' Q):RL P n ops (⟨some d, .mapEntry T q qk,ty,pos,af,g⟩::rest) U w Q:=by
 obtain⟨M,hs,gd⟩:=hw;obtain⟨r,es,clock,rfl,⟨he,hst⟩,hh⟩:=gd.sat i _ hi;have hb:=gd.le i r _ (bY hi) (by rw[hh];exact bJ r _);obtain⟨o,ho,hs'⟩:=run_findKey hT.key M he w (k:=k);obtain⟨inf,z,hin,hzz,hzr⟩:=hT.zero
 cases o with
 |none=>
  obtain⟨h1,h2⟩:=hs';have hg':bM m k z0=z0:=by simp[bM,h2]
  refine zJ (v:= .tuple #[z, .int .i64 clock]) (w':={w with heap:=w.heap.setIfInBounds r (.map (es.push {key:=KV.enc k,val:=z,born:=clock}) (clock+1))}) hg hd ?_ (kk _ _ _ (iW gd hi hh (es':=es.push {key:=KV.enc k,val:=z,born:=clock}) (c':=clock+1)
   ⟨r,_,_,rfl,⟨?_,by rw[Array.toList_push];exact hst.push k _ rfl⟩,rfl,es.size,_,Array.getElem?_push_size,?_,rfl,rfl⟩))
  ·simp[execOp,hx,hk,Instr.mapEntry,run_underlying hT.oZ,MapKept.run_getObj_map hb,hT.key.v8,ho,MapKept.run_setObj_map _ hb,zeroValue,typeInfo,hin,hzz,program,Sem.run,goInt,Result.andThen]
  ·rw[Array.toList_push,hg'];exact he.push h1 rfl<|hzr M
  ·rw[pj,h1];have:=he.len;simp only[Array.length_toList]at this;simp[this]
 |some ay=>
  obtain⟨b,y⟩:=ay;obtain⟨x',h1,h2,h3,en,h4,h5⟩:=hs';have h4':es[b]? =some en:=by grind
  have hg':bM m k z0=x':=by simp[bM,h2]
  have hstay:(Instr.keyThatStays (KV.enc k)<|KV.enc k).run P w = .ok (KV.enc k) w:=by simp[Instr.keyThatStays,hT.key.bits]
  have hms:es.modify b (λe=>{e with key:=KV.enc k})=es:=rV h4' (by rw[<-h5]);have hmp:dU m k x'=m:=qu (z:=x') h2
  refine zJ (v:= .tuple #[y, .int .i64 en.born]) (w':={w with heap:=w.heap.setIfInBounds r (.map es clock)}) hg hd ?_ (kk _ _ _ (iW gd hi hh (es':=es) (c':=clock)
   ⟨r,_,_,rfl,by rw[hg',hmp];exact⟨he,hst⟩,rfl,b,en,h4',by rw[hg',hmp];exact h1,rfl,h5⟩))
  simp[execOp,hx,hk,Instr.mapEntry,run_underlying hT.oZ,MapKept.run_getObj_map hb,hT.key.v8,ho,MapKept.run_setObj_map _ hb,h4',h5,hstay,hms,goInt]
theorem Bj(i j:Nat)(k:κ)(hg:Wn ops U g)(hw:Holds E w V)(hx:ev U q=v)(hk:ev U qk = .int .i64 a)(hv:ev U qv=u)(hi:V[i]? =some (xU v m k y a))(hj:V[j]? =some (rd u x))(kk:∀w',Holds E w' (V.set i<|mp v<|dU m k x)->RL P n ops rest U w' Q):RL P n ops (⟨none, .entryStore T q qk qv,ty,pos,af,g⟩::rest) U w Q:=by
 obtain⟨M,hs,gd⟩:=hw;obtain⟨r,es,clock,rfl,⟨he,hst⟩,hh,b,en,h4,h1,h6,h5⟩:=gd.sat i _ hi;have hu:=(gd.sat j _ hj).1;have hb:=gd.le i r _ (bY hi) (by rw[hh];exact bJ r _);have hf:=qZ hst h4;have hmc:es.modify b (λe=>{e with val:=u})=es.modify b (λe=>{e with key:=KV.enc k,val:=u}):=qY h4 (by rw[<-h5])
 refine Ax hg ?_ (kk _ (iW gd hi hh (es':=es.modify b λe=>{e with key:=KV.enc k,val:=u}) (c':=clock)
  ⟨r,_,_,rfl,by
   rw[Array.toList_modify,<-qt k x y m]
   exact⟨gD.modify (λ_=>rfl) (λ_=>hu) he h1,hst.modify k x (f:=λe=>{e with key:=KV.enc k,val:=u}) (λ_=>rfl) b⟩,rfl⟩))
 simp[execOp,hx,hk,hv,Instr.entryStore,MapKept.run_getObj_map hb,MapKept.run_setObj_map _ hb,<-h6,asInt,asIntOf,hf,hmc]
end
def po:List Value->List (Nat×Value)->Option (List Value)
 |z,[]=>some z
 |z,(i,v)::rest=>if Nat.blt i z.length=true then po (z.set i v) rest else none
theorem u5:∀{vs:List (Nat×Value)}{z cs:List Value},wm vs->po z vs=some cs->Instr.fill (λi=>some (i*1,1)) z.toArray vs=some cs.toArray
 | [],z,cs,_,h=>by
  unfold po at h;injection h with h;subst h;rfl
 |(i,v)::rest,z,cs,h1,h=>by
  unfold po at h;unfold Instr.fill;have hc:v.cells = #[v]:=by have:=h1.1;cases v <;> first|rfl|(cases this)
  split at h
  ·rename_i hlt;have hlt':i<z.length:=Nat.blt_eq▸hlt;have ih:=u5 h1.2 h
   simp_all
   omega
  ·cases h
section
variable {P:Program}{n:Nat}{U:Nat->Value}{w:World}{Q:dC}{ops:Array Oper}{rest:List Oper}{d:Nat}{T ty:TypeId}{pos:String}{af:Array Edge}{g:Option (Nat×Bool)}{zs cs:List Value}
theorem BL{parts:Array (Nat×Operand)}(hg:Wn ops U g)(hd:Nat.blt d n=true)(vs:List (Nat×Value))(hvs:parts.toList.map (λp=>(p.1,ev U p.2))=vs)(hT:wX P T 1 zs.toArray)(h1:wm vs)(hf:po zs vs=some cs)
  (k:RL P n ops rest (cM U d<|.agg cs.toArray) w Q):RL P n ops (⟨some d, .build T parts,ty,pos,af,g⟩::rest) U w Q:=by
 have e1:parts.map (λ(i,x)=>(i,ev U x))=vs.toArray:=by rw[<-hvs];cases parts;simp
 refine zJ (v:= .agg cs.toArray) hg hd ?_ k;simp only[execOp,aM];rw[e1,hT.run _ _ _<|u5 h1 hf];simp only[aS,aV]
end
end Go.Gk
namespace Go.Gk
open Go IntKind Go.Proofs Go.Sort
def vl(w:World):HP:=⟨λM _=>∀b,b<w.heap.size->M b=w.heap[b]?,λh hk b hb=>by
 have:=hk b hb;rw[eG hb]at this ⊢
 exact h b _ this⟩
theorem Holds.all(w:World):Holds w w [vl w]:=by
 refine⟨λb=>w.heap[b]?,λ_=>j4,⟨rfl,rfl,rfl,cI _,λ_ _ h=>h,λi P hP=>?_,λ_ _ _ _ h=>(by cases h),λ_ _ _ _ h=>(by cases h),λ_ _ _ _ _ _ _ h=>(by cases h)⟩⟩
 cases i with
 |zero=>simp at hP;subst hP;exact λ_ _=>rfl
 |succ i=>simp at hP
theorem Holds.grown{w w':World}{V:List HP}{i:Nat}(h:Holds w w' V)(hi:V[i]? =some (vl w)):∃q os,w'=grow (w.drewN q) os:=by
 obtain⟨M,hs,g⟩:=h;have hk:=g.sat i _ hi;have key:∀b,b<w.heap.size->w'.heap[b]? =w.heap[b]? :=λb hb=>by
  have:=hk b hb;rw[eG hb]at this;rw[g.im b _ this,eG hb]
 have hsz:w.heap.size<=w'.heap.size:=by
  rcases Nat.lt_or_ge w'.heap.size w.heap.size with h|h
  ·have:=key w'.heap.size h;rw[Array.getElem?_eq_none<|cI _,eG h]at this
   cases this
  ·exact h
 refine⟨w'.drawn - w.drawn,w'.heap.extract w.heap.size w'.heap.size,?_⟩;have e1:w'.heap=w.heap++w'.heap.extract w.heap.size w'.heap.size:=by
  apply Array.ext_getElem?;intro k;rw[Array.getElem?_append];split
  ·rename_i hk;exact key k hk
  ·rename_i hk;rw[Array.getElem?_extract]
   by_cases h2:k<w'.heap.size
   ·rw[aO (by omega)];congr 1;omega
   ·rw[aR (by omega),Array.getElem?_eq_none (by omega)]
 obtain⟨h1,h2,h3,h4,h5⟩:=w';obtain⟨k1,k2,k3,k4,k5⟩:=w;have a1:=g.os;have a2:=g.tape;have a3:=g.out;have a4:=g.dr;simp only at a1 a2 a3 a4 e1;subst a1;subst a2;subst a3;simp only[grow,World.drewN,World.mk.injEq,and_true,true_and];exact⟨e1,by omega⟩
section
variable {β:Type}[Inhabited β](enc:β->List Value)(k:Nat)(w:World)(g o m:Nat)(dk:Array β)(os:Array Obj)
end
section
variable (w:World)(g o m:Nat)(dk:Array Int)(os:Array Obj)
theorem vm{b:Nat}(hb:b<w.heap.size)(hg:b≠g):(grow (putRow (Value.int .i64) (Go.Sort.ahead w m) g o dk) os).heap[b]? =w.heap[b]? :=by
 simp only[grow,putRow,mapBlock,Go.Sort.ahead];rw[Array.getElem?_append_left (by simpa using hb),Array.getElem?_modify,aR<|λh=>hg h.symm]
theorem v5{cur:Array Value}{e:TypeId}{fr:Nat×Nat}(hg:w.heap[g]? =some (.cells cur e fr)):
  (grow (putRow (Value.int .i64) (Go.Sort.ahead w m) g o dk) os).heap[g]? =some (.cells (putCells (Value.int .i64) o dk cur) e fr):=by
 have hb:g<w.heap.size:=(Array.getElem?_eq_some_iff.1 hg).1;simp only[grow,putRow,mapBlock,Go.Sort.ahead];rw[Array.getElem?_append_left (by simpa using hb),Array.getElem?_modify,aO rfl,hg];rfl
end
theorem vn{P:Program}{ρ:Shelf.Ren}(L:SlLaysM.n5 P ρ){E w:World}{V:List HP}{e:TypeId}{v:Value}{l l':List Int}(hw:Holds E w (own e v l::V))(hb:qP l=some l'):
  Calls P (ρ.f 5) [v].toArray w (fi λz w'=>z = .tuple #[]/\Holds E w' (own e v l'::V)):=by
 unfold qP at hb;split at hb
 case isFalse=>cases hb
 rename_i hbig;injection hb with hb
 by_cases hn:l.length=0
 ·have hl:l= []:=List.length_eq_zero_iff.1 hn;subst hl;have e1:l'= []:=by rw[<-hb];exact List.length_eq_zero_iff.1 (by rw[List.length_mergeSort];rfl)
  subst e1;obtain⟨a,c,hv⟩:=hw.qg (i:=0) rfl;subst hv;refine Calls.mono (AnyM.slices_Sort_int_none L a c w) λex w' h=>?_;obtain⟨rfl,rfl⟩:=h;exact⟨_,rfl,rfl,hw⟩
 obtain⟨M,hs,gd⟩:=hw
 rcases gd.sat 0 _ rfl with⟨_,h2,_⟩|⟨g,o,cap,cur,xs,rfl,hcap,hmax,hh,hsz,hx,hcs⟩
 ·rw[h2]at hn;exact absurd rfl hn
 have hg:w.heap[g]? =some (.cells cur e (0,0)):=gd.le 0 g _ (by simp) (by rw[hh];exact bJ g _);have hgs:g<w.heap.size:=(Array.getElem?_eq_some_iff.1 hg).1;have hsz1:GT.sz Int=1:=rfl;rw[hsz1,Nat.mul_one]at hsz hx;subst hx;have hel:∀i(hi:i<l.length),cur.toList[o+i]? =some (.int .i64 l[i]):=λi hi=>by
  have:=hcs.2 i l[i]<|aZ hi
  rw[hsz1,Nat.mul_one,List.drop_take,List.take_take,List.drop_drop]at this;have h3:(cur.toList.drop<|o+i).take (min 1<|l.length - i)= [Sc.toV l[i]]:=this;have h4:=congrArg (λz=>z[0]?) h3;simp only[fJ,iL,Nat.add_zero]at h4;rw[aO (by omega)]at h4;exact h4
 have hH:Go.Sort.Holds (Value.int .i64) w g o l.toArray:=by
  intro j hj;have hj':j<l.length:=by simpa using hj
  have hin:o+j<cur.size:=by omega
  have h1:=hel j hj';rw[Array.getElem?_toList,eG hin]at h1;injection h1 with h1
  refine⟨?_,?_⟩
  ·rw[getElem!_pos l.toArray j hj];simp only[World.cell?,hg];simp[eG hin,h1]
  ·simp only[World.frozen?,hg];simp
 refine Calls.mono (AnyM.slices_Sort_int L g o cap l w hH hgs hbig) λex w' h=>?_;obtain⟨rfl,n,os,rfl⟩:=h;refine⟨_,rfl,rfl,?_⟩;rw[hb];have hll:l'.length=l.length:=by rw[<-hb,List.length_mergeSort]
 have hpc:(putCells (Value.int .i64) o l'.toArray cur).size=cur.size:=by simp[putCells]
 have h2:=gd.update (w':=grow (putRow (Value.int .i64) (Go.Sort.ahead w n) g o l'.toArray) os) (P':=own e (.slice (some ⟨g,o,none⟩) l.length cap) l') (i:=0) (by simp) (Gk.one g<|.cells (putCells (Value.int .i64) o l'.toArray cur) e (0,0)) ?_ rfl rfl rfl ?_ ?_ ?_<|Nat.le_add_right _ _
 ·exact⟨M,_,h2⟩
 ·refine .inr ⟨g,o,cap,_,_,by rw[hll],by rw[hll];exact hcap,hmax,rfl,by rw[hpc,hsz1,Nat.mul_one];exact hsz,rfl,?_⟩;rw[hll,hsz1,Nat.mul_one];refine⟨?_,λa x hx=>?_⟩
  ·have e1:(putCells (Value.int .i64) o l'.toArray cur).toList.length=cur.size:=by rw[Array.length_toList,hpc]
   rw[fX,jS,e1,hll,hsz1];omega
  ·have ha:a<l'.length:=(bS.1 hx).1;rw[hsz1,Nat.mul_one,List.drop_take,List.take_take,List.drop_drop];show List.take _ _= [Sc.toV x];apply List.ext_getElem?;intro t;rw[fJ,iL]
   by_cases ht:t=0
   ·subst ht;have hin:o+a+0<(putCells (Value.int .i64) o l'.toArray cur).size:=by rw[hpc];omega
    rw[aO (by omega),Array.getElem?_toList,eG hin];simp only[putCells,Array.getElem_mapIdx,Nat.add_zero,List.size_toArray];rw[aO (by omega)];have e2:o+a - o=a:=by omega
    rw[aZ ha]at hx;injection hx with hx
    rw[e2,getElem!_pos l'.toArray a (by simpa using ha)];simp[hx];rfl
   ·rw[aR (by omega),List.getElem?_eq_none (by simp;omega)]
 ·intro b o' hb;obtain⟨rfl,rfl⟩:=eC hb;exact v5 _ _ _ _ _ _ hg
 ·intro b o' hb;obtain⟨rfl,rfl⟩:=eC hb;exact .inl ⟨_,by rw[hh];exact bJ b _⟩
 ·intro b hb1 hb2;refine vm _ _ _ _ _ _ hb2 λh=>?_;subst h;rw[hh,bJ]at hb1;cases hb1
end Go.Gk
namespace Go.Gk
open Go IntKind
theorem zr{α:Type _}{a:α}:a=a:=rfl
theorem zt:True:=True.intro
theorem cg{ops:Array Oper}{U:Nat->Value}{j d:Nat}{a b:Bool}(h:a=b)(h1:(ops[j]?).bind (·.dst)=some d:=by rfl)(h2:U d = .bool a:=by rfl):Wn ops U (some (j,b)):=⟨d,h1,h2.trans<|cb h⟩
abbrev n_:Value:=.slice none 0 0
theorem q_{α β:Type}{o:Option α}{f:α->Option β}{r:β}{G:Prop}(h:o.bind f=some r)(k: ∀x,o=some x->f x=some r->G):G:=by
 cases o with
 | none=>cases h
 | some x=>exact k x rfl h
theorem z_{c:Bool}(v:Value)(h:c=true):cv c v=v:=m9 h
end Go.Gk
