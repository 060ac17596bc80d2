/-
  Helping texts on the memory of the model. No statement of the seed is proved here.
-/
import Derived.Test.YtammmhakmgielaaGreatDoorA1
import Derived.KernelRfl
import Derived.Shelf.SlSortCmp.NoneTotal
import Derived.Shelf.SortM.Plain
import Derived.Shelf.SortM.SortNone
set_option linter.unusedVariables false
set_option linter.unusedSimpArgs false
set_option linter.unusedSectionVars false
namespace Go.Gk
open Go IntKind
def w4(m:Nat):List Nat->Bool
 | []=>true
 |i::l=>Nat.blt i m&& !(l.any λj=>Nat.beq i j)&&w4 m l
theorem oX{m:Nat}:∀{l:List Nat},w4 m l=true->l.Nodup/\∀i∈l,i<m
 | [],_=>⟨List.nodup_nil,λi h=>by cases h⟩
 |a::l,h=>by
  unfold w4 at h;simp only[bS,Bool.not_eq_true']at h;obtain⟨h1,h2⟩:=oX h.2;refine⟨List.nodup_cons.2 ⟨λhm=>?_,h1⟩,λi hi=>?_⟩
  ·have:(l.any λb=>Nat.beq a b)=true:=jv.2 ⟨a,hm,Nat.beq_refl a⟩;rw[this]at h;cases h.1.2
  ·rcases gC.1 hi with e|hi
   ·rw[e];exact Nat.blt_eq▸h.1.1
   ·exact h2 i hi
section
variable {E w:World}{V Γ0 new:List HP}
theorem Holds.pk(h:Holds E w V)(m:Nat)(idx:List Nat)(e:(V.drop m,idx.map<|λi=>V[i]?,w4 m idx)=(Γ0,new.map some,true):=by exact rfl):Holds E w (new++Γ0):=by
 injection e with e1 e;injection e with e2 e3
 exact h.pick m idx e1 e2 (oX e3).1 (oX e3).2
def Bm(m:Nat)(idx:List Nat)(V:List HP):List HP:=idx.map (λi=>V.getD i iv)++V.drop m
theorem Holds.pl(h:Holds E w V)(m:Nat)(idx:List Nat)(e:(w4 m idx&&(idx.all λi=>Nat.blt i V.length))=true):Holds E w (Bm m idx V):=by
 rw[bS]at e;refine h.pick m idx rfl ?_ (oX e.1).1 (oX e.1).2
 simp_all
end
section
variable {P:Program}{n:Nat}{l:List Oper}{mk:List Nat}{Q:dL}{U:Nat->Value}{w:World}{i:Nat}{rest:List Nat}{o:Oper}{ops:Array Oper}{S:World->Prop}
theorem fO(ho:l[i]? =some o)(h:RL P n l.toArray [o] U w (λex σ' w'=>ex = .normal/\w'=w/\DP P n l mk Q S rest σ' w))(hm:mk.getD i 0=0:=by exact rfl):RL P n ops [] U w (λex σ' w'=>ex = .normal/\w'=w/\DP P n l mk Q S (i::rest) σ' w):=EF<|Eu ho hm h
theorem yg(ho:l[i]? =some o)(h:RL P n l.toArray [o] U w (λex σ' w'=>ex = .normal/\S w'/\DP P n l mk Q S rest σ' w'))(hm:mk.getD i 0=2:=by exact rfl):RL P n ops [] U w (λex σ' w'=>ex = .normal/\w'=w/\DP P n l mk Q S (i::rest) σ' w):=EF<|EU ho hm h
theorem Cp(ho:l[i]? =some o)(hm:mk.getD i 0=0)(h:RL P n l.toArray [o] U w (λex σ' w'=>ex = .normal/\w'=w/\DP P n l mk Q S rest σ' w))(hS:S w:=by exact trivial):RL P n ops [] U w (λex σ' w'=>ex = .normal/\S w'/\DP P n l mk Q S (i::rest) σ' w'):=by simp_all[EA,Eu]
theorem Cq(hS:S w)(ho:l[i]? =some o)(hm:mk.getD i 0=2)(h:RL P n l.toArray [o] U w (λex σ' w'=>ex = .normal/\S w'/\DP P n l mk Q S rest σ' w')):RL P n ops [] U w (λex σ' w'=>ex = .normal/\S w'/\DP P n l mk Q S (i::rest) σ' w'):=by simp_all[EA,EU]
end
theorem D6{P:Program}{n:Nat}{q:Operand}{x y:Code}{U:Nat->Value}{w:World}{Q:dL}{β:Type}{b:Bool}{A B:Option β}{r:β}(hb:(bif b then A else B)=some r)(hc:ev U q = .bool b)
  (ht:b=true->A=some r->RC P n x U w Q) (hf:b=false->B=some r->RC P n y U w Q):RC P n (.cond q x y) U w Q:=
 by grind [FC]
theorem jd{G:Prop}{β:Type}{b:Bool}{A B:Option β}{r:β}(hb:(bif b then A else B)=some r)(ht:b=true->A=some r->G)(hf:b=false->B=some r->G):G:=by
 grind
def Az(ad:Addr)(cs:List Value):HP:=⟨λM h=>At M ad cs/\h=kL,λk⟨a,b⟩=>⟨a.mono k,b⟩⟩
section
variable {α β:Type}[GT α][GT β]{E w:World}{V:List HP}{P:Program}{n:Nat}{l:List Oper}{mk:List Nat}{Q:dL}{U:Nat->Value}{i j0:Nat}{rest:List Nat}{S:World->Prop}
variable {d:Nat}{ty:TypeId}{pos:String}{af:Array Edge}{g:Option (Nat×Bool)}{q r:Operand}{T e:TypeId}{x:α}{p:Value}
theorem Holds.yh(h:Holds E w V)(i:Nat){A:HP}(hi:V[i]? =some A):Holds E w [A]:=by
 have hlt:=(bG.1 hi).1;have:=h.pick V.length [i] (Γ0:=[]) (new:=[A]) (by simp) (by simp[hi]) (by simp) (λk hk=>by grind)
 grind
theorem F2{v:Value}(hg:Wn l.toArray U g)(hd:Nat.blt d n=true){op:Op}{w':World}(hrun:(execOp (ev U) ⟨some d,op,ty,pos,af,g⟩).run P w' = .ok (.value v) w'):
  RL P n l.toArray [⟨some d,op,ty,pos,af,g⟩] U w' (λex σ' w''=>ex = .normal/\w''=w'/\σ'=j7 ⟨some d,op,ty,pos,af,g⟩ U v):=
 B_ hg hd hrun (w_ ⟨rfl,rfl,rfl⟩)
theorem GD{j m:Nat}{f:α->β}(i:Nat)(ho:l[j0]? =some ⟨some d, .fieldAddr T q j,ty,pos,af,g⟩)(hm:mk.getD j0 0=1)(hg:Wn l.toArray U g)(hd:Nat.blt d n=true)(hw:Holds E w V)(hx:ev U q=p)(hi:V[i]? =some (pt p x))(hf:nM P T j m)(hF:Fd m f)
  (k:∀v,Holds E w (pt v (f x)::V)->DP P n l mk Q S rest (cD U d v) w):DP P n l mk Q S (j0::rest) U w:=by
 obtain⟨M,hs,gd⟩:=hw;obtain⟨⟨ad,cs,hv,hok,ha⟩,_⟩:=gd.sat i _ hi;refine EC (hm:=hm) (.pointer<|some<|ad.add m) ho (λw'=>F2 hg hd ?_)<|k _ ⟨M,_,gd.dH ⟨⟨ad.add m,_,rfl,hF M cs x hok,ha.sub m<|GT.sz β⟩,rfl⟩⟩
 simp only[execOp,hx,hv,aK,hf.run,aN,aP]
theorem F3(i:Nat)(ho:l[j0]? =some ⟨some d, .load T q,ty,pos,af,g⟩)(hm:mk.getD j0 0=1)(hg:Wn l.toArray U g)(hd:Nat.blt d n=true)(hw:Holds E w V)(hx:ev U q=p)(hi:V[i]? =some (pt p x))(hT:je P T (GT.agg α) (GT.sz α))
  (k:∀v ad cs,Holds E w (Az ad cs::rd v x::V)->DP P n l mk Q (λw2=>S w2/\Holds E w2 [Az ad cs]) rest (cD U d v) w):DP P n l mk Q S (j0::rest) U w:=by
 have hw0:=hw;obtain⟨M,hs,gd⟩:=hw;obtain⟨⟨ad,cs,hv,hok,ha⟩,_⟩:=gd.sat i _ hi;have hw1:Holds E w (rd (mJ α cs) x::V):=⟨M,_,gd.dH ⟨⟨cs,rfl,hok⟩,rfl⟩⟩;have hw2:Holds E w (Az ad cs::rd (mJ α cs) x::V):=⟨M,_,(gd.dH (P:=rd (mJ α cs) x) ⟨⟨cs,rfl,hok⟩,rfl⟩).dH ⟨ha,rfl⟩⟩;refine GB (mJ α cs) (λw2=>S w2/\Holds E w2 [Az ad cs]) (λ_ h=>h.1) (λh=>⟨h,hw2.yh 0 rfl⟩) ho hm (λw' hS=>F2 hg hd ?_)<|k _ _ _ hw2
 obtain⟨M',hs',gd'⟩:=hS.2;obtain⟨ha',_⟩:=gd'.sat 0 _ rfl;simp only[execOp,hx,hv,Instr.loadAt,Instr.sureAddr,aK,aP,aN,gY hT hok<|λj u hu=>mI gd'.im<|ha' j u hu]
theorem GF{γ:Type}[Sc γ]{y:γ}(i:Nat)(ho:l[j0]? =some ⟨some d, .load T q,ty,pos,af,g⟩)(hm:mk.getD j0 0=1)(hg:Wn l.toArray U g)(hd:Nat.blt d n=true)(hw:Holds E w V)(hx:ev U q=p)(hi:V[i]? =some (pt p y))(hT:je P T false 1)
  (k:∀ad cs,Holds E w (Az ad cs::V)->DP P n l mk Q (λw2=>S w2/\Holds E w2 [Az ad cs]) rest (cD U d<|Sc.toV y) w):DP P n l mk Q S (j0::rest) U w:=by
 refine F3 (x:=y) i ho hm hg hd hw hx hi hT λv ad cs h=>?_;have hv:v=Sc.toV y:=h.oO (i:=1) rfl;subst hv;refine k ad cs ?_;obtain⟨M,hs,gd⟩:=hw;obtain⟨M2,hs2,gd2⟩:=h;exact Holds.pick ⟨M2,hs2,gd2⟩ 2 [0] (Γ0:=V) (new:=[Az ad cs]) rfl rfl (by simp) (λk hk=>by grind)
end
def SH(E:World)(V:List HP)(l:List (Nat×Value))(G:List HP)(U:Nat->Value)(w:World):Prop:=∃O,U=sg l O/\Holds E w (G++V)
theorem sh{U:Nat->Value}{w E:World}{l:List (Nat×Value)}{G V:List HP}(h:agree U l)(hw:Holds E w (G++V)):SH E V l G U w:=by
 obtain⟨O,e⟩:=h.sg;exact⟨O,e,hw⟩
theorem Bp{U:Nat->Value}:∀{l:List (Nat×Value)},l.map (λp=>U p.1)=l.map (λp=>p.2)->agree U l
 | [],_=>True.intro
 |(d,v)::l,h=>by
  rw[eE,eE]at h;injection h with h1 h2
  exact⟨h1,Bp h2⟩
section
variable {P:Program}{n:Nat}{U:Nat->Value}{w:World}{Q:dL}{E:World}{V Γ1 new:List HP}{ops:Array Oper}{rest:List Oper}{d t j:Nat}{ty:TypeId}{pos:String}{af:Array Edge}{g:Option (Nat×Bool)}{x y z:Operand}{op:Op}
theorem cB{a b:Bool}(h:a = !b)(k:RL P n ops rest (cD U d undef) w Q)(ht:(ops[j]?).bind (·.dst)=some t:=by exact rfl)(hv:U t = .bool a:=by exact rfl)(hd:Nat.blt d n=true:=by exact rfl):
  RL P n ops (⟨some d,op,ty,pos,af,some (j,b)⟩::rest) U w Q:=sk ht (.inl<|hv.trans<|cb h) hd k
theorem wE{b:Bool}(k:RL P n ops rest (cD U d undef) w Q)(ht:(ops[j]?).bind (·.dst)=some t:=by exact rfl)(hv:U t = .bool (!b):=by exact rfl)(hd:Nat.blt d n=true:=by exact rfl):
  RL P n ops (⟨some d,op,ty,pos,af,some (j,b)⟩::rest) U w Q:=sk ht (.inl hv) hd k
theorem jx{b c:Bool}(h:b=c)(v:Value)(k:RL P n ops rest (cD U d v) w Q)(hg:Wn ops U g:=by exact trivial)(hd:Nat.blt d n=true:=by exact rfl)(hx:ev U x = .bool b:=by exact rfl)(hv:(if c=true then ev U y else ev U z)=v:=by exact rfl):
  RL P n ops (⟨some d, .pick x y z,ty,pos,af,g⟩::rest) U w Q:=by grind [EL]
theorem Holds.sp{l:List (Nat×Value)}(h:Holds E w Γ1)(m:Nat)(idx:List Nat)(e:(Γ1.drop m,idx.map<|λi=>Γ1[i]?,w4 m idx)=(V,new.map some,true):=by exact rfl)
  (ha:l.map (λp=>U p.1)=l.map (λp=>p.2):=by exact rfl):SH E V l new U w:=sh (Bp ha)<|h.pk (e:=e) m idx
end
section
variable {S T γ:Type}[GT S][GT T][GT γ]{m:Nat}
theorem Fd.v{r:S->γ}(g:S->T){f:T->γ}(h:Fd m f)(ho:∀M cs x,GT.ok (α:=S) M cs x=GT.ok M cs (g x):=by exact λ_ _ _=>rfl)(e:∀x,f (g x)=r x:=by exact λ_=>rfl):Fd m r:=λM cs x hx=>by
 rw[<-e];exact h M cs (g x)<|ho M cs x▸hx
theorem Fs.v{r:S->γ->S}(g:S->T){f:T->γ->T}(h:Fs m γ f)(ho:∀M cs x,GT.ok (α:=S) M cs x=GT.ok M cs (g x):=by exact λ_ _ _=>rfl)(e:∀x y,f (g x) y=g (r x y):=by exact λ_ _=>rfl):Fs m γ r:=λM cs ds x y hx hy=>by
 rw[ho,<-e];exact h M cs ds (g x) y (ho M cs x▸hx) hy
end
section
variable {P:Program}{T e i k m f:Nat}{fn:Func}{ag:Bool}{zs:List Value}
theorem hZ{f:FuncId}(h:P.funcs[f]? =some fn)(h1:(fn.name== "runtime.NumGoroutine")=false:=by kernel_rfl)(h2:fn.body.isNone=false:=by exact rfl):gI P f:=⟨λ_ _=>td h h1 h2⟩
theorem pj{T:TypeId}(h:∀a w,(Instr.fieldAt T (.pointer<|some a) i).run P w = .ok (.pointer<|some<|a.add k) w:=by intro _ _;kernel_rfl):nM P T i k:=⟨h⟩
theorem re{T:TypeId}(h:∀w,(isAgg T).run P w = .ok ag w:=by intro _;kernel_rfl)(h2:∀w,(sizeOf T).run P w = .ok k w:=by intro _;kernel_rfl):je P T ag k:=⟨h,h2⟩
theorem yi{T e:TypeId}(h:P.underlying T=some (.slice e):=by kernel_rfl)(h2:∀w,(sizeOf e).run P w = .ok k w:=by intro _;kernel_rfl):te P T e k:=⟨h,h2⟩
theorem xL{e:TypeId}(z:Value)(h:∀w,(zeroValue e).run P w = .ok z w:=by intro _;kernel_rfl)(h1:z.cells.size=m:=by exact rfl)(h2:∀w,(sizeOf e).run P w = .ok m w:=by intro _;kernel_rfl):wu P e m:=⟨⟨z,h,h1⟩,h2⟩
end
section
variable {l:List Oper}{D:Nat->Bool}{U:Nat->Value}{j d n:Nat}{v v':Value}{dv:List (Nat×Nat×Value)}{ag:List (Nat×Value)}
theorem nh(hcl:l3 l D)(hD:D j=false)(K:Nat)(h:((l[K]?).any λo=>oU o j)=true:=by exact rfl):D K=false:=nf λh1=>by
 cases ho:l[K]? with
 |none=>rw[ho]at h;cases h
 |some o=>
  rw[ho]at h;have:=iL (hcl K o ho h1) h;rw[hD]at this;cases this
theorem w5(h:∀i,i<n->D i=true)(i:Nat)(hi:Nat.blt i n=true:=by exact rfl):D i=true:=h i<|Nat.blt_eq.mp hi
theorem cM.n1(h:cM D U dv)(h1:(dv.all λx=> !Nat.beq x.1 j)=true:=by exact rfl):cM (ins D j) U dv:=h.no h1
theorem agree.u(h:agree U ag)(h1:kS d ag=true:=by exact rfl):agree (cD U d v) ag:=h.up h1
end
def Bq:List (Nat×Value)->Bool
 | []=>true
 |(d,_)::l=>kS d l&&Bq l
theorem sG{d:Nat}:∀{l k:List (Nat×Value)},kS d (l++k)=true->kS d l=true/\kS d k=true
 | [],_,h=>⟨rfl,h⟩
 |(t,v)::l,k,h=>by
  have h:(!Nat.beq t d&&kS d (l++k))=true:=h;rw[bS]at h;have:=sG h.2;exact⟨by show(!Nat.beq t d&&kS d l)=true;rw[bS];exact⟨h.1,this.1⟩,this.2⟩
theorem sH{O:Nat->Value}:∀{l:List (Nat×Value)},Bq l=true->agree (sg l O) l
 | [],_=>trivial
 |(d,v)::l,h=>by
  have h:(kS d l&&Bq l)=true:=h;rw[bS]at h;refine⟨?_,(sH h.2).up h.1⟩;show(bif Nat.beq d d then v else _)=v;rw[Nat.beq_refl];rfl
theorem sI{U:Nat->Value}:∀{l k:List (Nat×Value)},agree U (l++k)->agree U l
 | [],_,_=>trivial
 |(d,v)::l,k,h=>⟨h.1,sI h.2⟩
section
variable {S R X Y β:Type}{res:β}{P:Program}{n:Nat}{U:Nat->Value}{w E:World}{Q:dL}{z:Code}{b0 id d A B:Nat}{T T' ty:TypeId}{pos:String}{af:Array Edge}{V:List HP}
theorem SH.out{W L:List (Nat×Value)}{C:List HP}{U:Nat->Value}{w:World}(h:SH E V (W++L) C U w)(hf:(kS d (W++L)&&Bq (W++L))=true)(v:Value):SH E V W C (cD U d v) w:=by
 obtain⟨O,rfl,hw⟩:=h;rw[bS]at hf;exact sh ((sI<|sH hf.2).up (sG hf.1).1) hw
theorem oY{U:Nat->Value}{v:Value}:ev (cD U d v) (.tmp d)=v:=by
 show(bif Nat.beq d d then v else U d)=v;rw[Nat.beq_refl];rfl
abbrev cl(id d A B b0:Nat)(T T' ty:TypeId)(pos:String)(af:Array Edge)(z:Code):Code:= .block b0<|.loop<|.seq (.region id [(⟨some d, .binOp .lss T (.tmp A) (.tmp B) T',ty,pos,af,none⟩:Oper)].toArray false)<|.seq (.cond (.tmp d) .skip<|.exit b0) z
def lv(d A B k m:Nat)(l:List (Nat×Value)):Prop:=(kS d l&&Bq l)=true/\(∀O,sg l O A = .int .i64 (k:Int))/\∀O,sg l O B = .int .i64 (m:Int)
theorem SH.hd{d A B k m:Nat}{l C}{U:Nat->Value}{w:World}(h:SH E V l C U w)(hl:lv d A B k m l):U A = .int .i64 (k:Int)/\U B = .int .i64 (m:Int):=by
 obtain⟨O,rfl,_⟩:=h;exact⟨hl.2.1 O,hl.2.2 O⟩
theorem FO{I:Nat->S->(Nat->Value)->World->Prop}{J:S->(Nat->Value)->World->Prop}{K:R->(Nat->Value)->World->Prop}
  {body:Nat->S->Option (Fl S R)} {f:S->Option β} {g:R->Option β} {m:Nat} {s0:S} (hb:((ly m body s0).bind λo=>o.cs f g)=some res) (h0:I 0 s0 U w) (hd:Nat.blt d n=true)
  (hJ:∀s U v w,I m s U w->J s (cD U d v) w) (hx:∀k s U w,I k s U w->U A = .int .i64 (k:Int)/\U B = .int .i64 (m:Int))
  (step:m<=4611686018427387904->∀k s fl U w,k<m->I k s U w->body k s=some fl->RC P n z (cD U d<|.bool<|decide<|(k:Int)<(m:Int)) w (xR I b0 J K k fl))
  (hrt:∀r U w,g r=some res->K r U w->Q .ret U w) (hgo:∀s U w,f s=some res->J s U w->Q .normal U w):RC P n (cl id d A B b0 T T' ty pos af z) U w Q:=by
 obtain⟨out,hN,hb⟩:=bd hb;exact FW I J K hN h0
  (λhm s U w h=>r_<|ic (hd:=hd) (hx:=(hx m s U w h).1) (hy:=(hx m s U w h).2) (K:= .i64) m m<|x_<|Fk (oY.trans B7)<|ET ⟨rfl,hJ s U _ w h⟩)
  (λhm k s fl U w hk h hb=>r_<|ic (hd:=hd) (hx:=(hx k s U w h).1) (hy:=(hx k s U w h).2) (K:= .i64) k m<|x_<|Fj (oY.trans<|B6 hk)<|EY<|step hm k s fl U w hk h hb) (λr U w e=>by subst e;exact hrt r U w hb) (λs U w e=>by subst e;exact hgo s U w hb)
theorem FP{I:Nat->S->(Nat->Value)->World->Prop}{J:S->(Nat->Value)->World->Prop}
  {body:Nat->S->Option S} {f:S->Option β} {m:Nat} {s0:S} (hb:(lz m body s0).bind f=some res) (h0:I 0 s0 U w) (hd:Nat.blt d n=true)
  (hJ:∀s U v w,I m s U w->J s (cD U d v) w) (hx:∀k s U w,I k s U w->U A = .int .i64 (k:Int)/\U B = .int .i64 (m:Int))
  (step:m<=4611686018427387904->∀k s s' U w,k<m->I k s U w->body k s=some s'->RC P n z (cD U d<|.bool<|decide<|(k:Int)<(m:Int)) w (λex U w=>ex = .normal/\I (k+1) s' U w))
  (hgo:∀s U w,f s=some res->J s U w->Q .normal U w):RC P n (cl id d A B b0 T T' ty pos af z) U w Q:=by
 obtain⟨out,hN,hb⟩:=bd hb;exact FG I J hN h0
  (λhm s U w h=>r_<|ic (hd:=hd) (hx:=(hx m s U w h).1) (hy:=(hx m s U w h).2) (K:= .i64) m m<|x_<|Fk (oY.trans B7)<|ET ⟨rfl,hJ s U _ w h⟩)
  (λhm k s fl U w hk h hb=>r_<|ic (hd:=hd) (hx:=(hx k s U w h).1) (hy:=(hx k s U w h).2) (K:= .i64) k m<|x_<|Fj (oY.trans<|B6 hk)<|EY<|step hm k s fl U w hk h hb) (λU w=>hgo out U w hb)
theorem Fu(E:World)(V:List HP)(C:S->List HP)(W:S->List (Nat×Value))(L:Nat->S->List (Nat×Value)){body:Nat->S->Option S}{f:S->Option β}{m:Nat}{s0:S}(hb:(lz m body s0).bind f=some res)(h0:SH E V (W s0++L 0 s0) (C s0) U w)
  (step:m<=4611686018427387904->∀k s s' U w,k<m->SH E V (W s++L k s) (C s) U w->body k s=some s'->RC P n z (cD U d<|.bool<|decide<|(k:Int)<(m:Int)) w (λex U w=>ex = .normal/\SH E V (W s'++L (k+1) s') (C s') U w))
  (hgo:∀s U w,f s=some res->SH E V (W s) (C s) U w->Q .normal U w) (hd:Nat.blt d n=true:=by exact rfl) (hl:∀k s,lv d A B k m (W s++L k s):=by exact λ_ _=>⟨rfl,λ_=>rfl,λ_=>rfl⟩):RC P n (cl id d A B b0 T T' ty pos af z) U w Q:=
 FP (I:=λk s U w=>SH E V (W s++L k s) (C s) U w) (J:=λs U w=>SH E V (W s) (C s) U w) hb h0 hd (λs U v w h=>h.out (hl m s).1 v) (λk s U w h=>h.hd<|hl k s) step hgo
theorem EB(E:World)(V:List HP)(C:S->List HP)(W:S->List (Nat×Value))(L:Nat->S->List (Nat×Value))(K:R->(Nat->Value)->World->Prop){body:Nat->S->Option (Fl S R)}{f:S->Option β}{g:R->Option β}{m:Nat}{s0:S}(hb:((ly m body s0).bind λo=>o.cs f g)=some res)(h0:SH E V (W s0++L 0 s0) (C s0) U w)
  (step:m<=4611686018427387904->∀k s fl U w,k<m->SH E V (W s++L k s) (C s) U w->body k s=some fl->RC P n z (cD U d<|.bool<|decide<|(k:Int)<(m:Int)) w (xR (λk s U w=>SH E V (W s++L k s) (C s) U w) b0 (λs U w=>SH E V (W s) (C s) U w) K k fl))
  (hrt:∀r U w,g r=some res->K r U w->Q .ret U w) (hgo:∀s U w,f s=some res->SH E V (W s) (C s) U w->Q .normal U w) (hd:Nat.blt d n=true:=by exact rfl) (hl:∀k s,lv d A B k m (W s++L k s):=by exact λ_ _=>⟨rfl,λ_=>rfl,λ_=>rfl⟩):RC P n (cl id d A B b0 T T' ty pos af z) U w Q:=
 FO (I:=λk s U w=>SH E V (W s++L k s) (C s) U w) (J:=λs U w=>SH E V (W s) (C s) U w) hb h0 hd (λs U v w h=>h.out (hl m s).1 v) (λk s U w h=>h.hd<|hl k s) step hrt hgo
theorem F4{c:Code}(E:World)(V:List HP)(C:S->List HP)(W L:S->List (Nat×Value))(K:R->(Nat->Value)->World->Prop){body:S->Option (Fl S R)}{f:S->Option β}{g:R->Option β}{N:Nat}{s0:S}(hb:((sb body N s0).bind λo=>o.cs f g)=some res)(h0:SH E V (W s0++L s0) (C s0) U w)
  (step:∀s fl U w,SH E V (W s++L s) (C s) U w->body s=some fl->RC P n c U w (rZ (λs U w=>SH E V (W s++L s) (C s) U w) b0 (λs U w=>SH E V (W s) (C s) U w) K fl))
  (hrt:∀r U w,g r=some res->K r U w->Q .ret U w) (hgo:∀s U w,f s=some res->SH E V (W s) (C s) U w->Q .normal U w):RC P n (.block b0<|.loop c) U w Q:=by
 obtain⟨out,hN,hb⟩:=bd hb;exact FH _ _ K hN h0 step (λr U w e=>by subst e;exact hrt r U w hb) (λs U w e=>by subst e;exact hgo s U w hb)
theorem Fv{c:Code}(E:World)(V:List HP)(C:S->List HP)(W L:S->List (Nat×Value)){body:S->Option (Fl S Empty)}{f:S->Option β}{g:Empty->Option β}{N:Nat}{s0:S}(hb:((sb body N s0).bind λo=>o.cs f g)=some res)(h0:SH E V (W s0++L s0) (C s0) U w)
  (step:∀s fl U w,SH E V (W s++L s) (C s) U w->body s=some fl->RC P n c U w (rZ (λs U w=>SH E V (W s++L s) (C s) U w) b0 (λs U w=>SH E V (W s) (C s) U w) (λr _ _=>r.elim) fl))
  (hgo:∀s U w,f s=some res->SH E V (W s) (C s) U w->Q .normal U w):RC P n (.block b0<|.loop c) U w Q:=
 F4 E V C W L (λr _ _=>r.elim) hb h0 step (λr _ _ _=>r.elim) hgo
theorem Fa(E:World)(V:List HP)(C:S->X->List HP)(W:S->X->List (Nat×Value))(L:Nat->S->X->List (Nat×Value)){body:Nat->S->Option S}{f:S->Option β}{m:Nat}{s0:S}(hb:(lz m body s0).bind f=some res)(h0:(∃x,SH E V (W s0 x++L 0 s0 x) (C s0 x) U w))
  (step:m<=4611686018427387904->∀k s s' U w,k<m->(∃x,SH E V (W s x++L k s x) (C s x) U w)->body k s=some s'->RC P n z (cD U d<|.bool<|decide<|(k:Int)<(m:Int)) w (λex U w=>ex = .normal/\(∃x,SH E V (W s' x++L (k+1) s' x) (C s' x) U w)))
  (hgo:∀s U w,f s=some res->(∃x,SH E V (W s x) (C s x) U w)->Q .normal U w) (hd:Nat.blt d n=true:=by exact rfl) (hl:∀k s x,lv d A B k m (W s x++L k s x):=by exact λ_ _ _=>⟨rfl,λ_=>rfl,λ_=>rfl⟩):RC P n (cl id d A B b0 T T' ty pos af z) U w Q:=
 FP (I:=λk s U w=>(∃x,SH E V (W s x++L k s x) (C s x) U w)) (J:=λs U w=>(∃x,SH E V (W s x) (C s x) U w)) hb h0 hd (λs U v w⟨x,h⟩=>⟨x,h.out (hl m s x).1 v⟩) (λk s U w⟨x,h⟩=>h.hd<|hl k s x) step hgo
theorem GS(E:World)(V:List HP)(C:S->X->List HP)(W:S->X->List (Nat×Value))(L:Nat->S->X->List (Nat×Value))(K:R->(Nat->Value)->World->Prop){body:Nat->S->Option (Fl S R)}{f:S->Option β}{g:R->Option β}{m:Nat}{s0:S}(hb:((ly m body s0).bind λo=>o.cs f g)=some res)(h0:(∃x,SH E V (W s0 x++L 0 s0 x) (C s0 x) U w))
  (step:m<=4611686018427387904->∀k s fl U w,k<m->(∃x,SH E V (W s x++L k s x) (C s x) U w)->body k s=some fl->RC P n z (cD U d<|.bool<|decide<|(k:Int)<(m:Int)) w (xR (λk s U w=>(∃x,SH E V (W s x++L k s x) (C s x) U w)) b0 (λs U w=>(∃x,SH E V (W s x) (C s x) U w)) K k fl))
  (hrt:∀r U w,g r=some res->K r U w->Q .ret U w) (hgo:∀s U w,f s=some res->(∃x,SH E V (W s x) (C s x) U w)->Q .normal U w) (hd:Nat.blt d n=true:=by exact rfl) (hl:∀k s x,lv d A B k m (W s x++L k s x):=by exact λ_ _ _=>⟨rfl,λ_=>rfl,λ_=>rfl⟩):RC P n (cl id d A B b0 T T' ty pos af z) U w Q:=
 FO (I:=λk s U w=>(∃x,SH E V (W s x++L k s x) (C s x) U w)) (J:=λs U w=>(∃x,SH E V (W s x) (C s x) U w)) hb h0 hd (λs U v w⟨x,h⟩=>⟨x,h.out (hl m s x).1 v⟩) (λk s U w⟨x,h⟩=>h.hd<|hl k s x) step hrt hgo
theorem GG{c:Code}(E:World)(V:List HP)(C:S->X->List HP)(W L:S->X->List (Nat×Value))(K:R->(Nat->Value)->World->Prop){body:S->Option (Fl S R)}{f:S->Option β}{g:R->Option β}{N:Nat}{s0:S}(hb:((sb body N s0).bind λo=>o.cs f g)=some res)(h0:(∃x,SH E V (W s0 x++L s0 x) (C s0 x) U w))
  (step:∀s fl U w,(∃x,SH E V (W s x++L s x) (C s x) U w)->body s=some fl->RC P n c U w (rZ (λs U w=>(∃x,SH E V (W s x++L s x) (C s x) U w)) b0 (λs U w=>(∃x,SH E V (W s x) (C s x) U w)) K fl))
  (hrt:∀r U w,g r=some res->K r U w->Q .ret U w) (hgo:∀s U w,f s=some res->(∃x,SH E V (W s x) (C s x) U w)->Q .normal U w):RC P n (.block b0<|.loop c) U w Q:=by
 obtain⟨out,hN,hb⟩:=bd hb;exact FH _ _ K hN h0 step (λr U w e=>by subst e;exact hrt r U w hb) (λs U w e=>by subst e;exact hgo s U w hb)
theorem GU{c:Code}(E:World)(V:List HP)(C:S->X->List HP)(W L:S->X->List (Nat×Value)){body:S->Option (Fl S Empty)}{f:S->Option β}{g:Empty->Option β}{N:Nat}{s0:S}(hb:((sb body N s0).bind λo=>o.cs f g)=some res)(h0:(∃x,SH E V (W s0 x++L s0 x) (C s0 x) U w))
  (step:∀s fl U w,(∃x,SH E V (W s x++L s x) (C s x) U w)->body s=some fl->RC P n c U w (rZ (λs U w=>(∃x,SH E V (W s x++L s x) (C s x) U w)) b0 (λs U w=>(∃x,SH E V (W s x) (C s x) U w)) (λr _ _=>r.elim) fl))
  (hgo:∀s U w,f s=some res->(∃x,SH E V (W s x) (C s x) U w)->Q .normal U w):RC P n (.block b0<|.loop c) U w Q:=
 GG E V C W L (λr _ _=>r.elim) hb h0 step (λr _ _ _=>r.elim) hgo
theorem GH(E:World)(V:List HP)(C:S->X->Y->List HP)(W:S->X->Y->List (Nat×Value))(L:Nat->S->X->Y->List (Nat×Value)){body:Nat->S->Option S}{f:S->Option β}{m:Nat}{s0:S}(hb:(lz m body s0).bind f=some res)(h0:(∃x y,SH E V (W s0 x y++L 0 s0 x y) (C s0 x y) U w))
  (step:m<=4611686018427387904->∀k s s' U w,k<m->(∃x y,SH E V (W s x y++L k s x y) (C s x y) U w)->body k s=some s'->RC P n z (cD U d<|.bool<|decide<|(k:Int)<(m:Int)) w (λex U w=>ex = .normal/\(∃x y,SH E V (W s' x y++L (k+1) s' x y) (C s' x y) U w)))
  (hgo:∀s U w,f s=some res->(∃x y,SH E V (W s x y) (C s x y) U w)->Q .normal U w) (hd:Nat.blt d n=true:=by exact rfl) (hl:∀k s x y,lv d A B k m (W s x y++L k s x y):=by exact λ_ _ _ _=>⟨rfl,λ_=>rfl,λ_=>rfl⟩):RC P n (cl id d A B b0 T T' ty pos af z) U w Q:=
 FP (I:=λk s U w=>(∃x y,SH E V (W s x y++L k s x y) (C s x y) U w)) (J:=λs U w=>(∃x y,SH E V (W s x y) (C s x y) U w)) hb h0 hd (λs U v w⟨x,y,h⟩=>⟨x,y,h.out (hl m s x y).1 v⟩) (λk s U w⟨x,y,h⟩=>h.hd<|hl k s x y) step hgo
theorem GV(E:World)(V:List HP)(C:S->X->Y->List HP)(W:S->X->Y->List (Nat×Value))(L:Nat->S->X->Y->List (Nat×Value))(K:R->(Nat->Value)->World->Prop){body:Nat->S->Option (Fl S R)}{f:S->Option β}{g:R->Option β}{m:Nat}{s0:S}(hb:((ly m body s0).bind λo=>o.cs f g)=some res)(h0:(∃x y,SH E V (W s0 x y++L 0 s0 x y) (C s0 x y) U w))
  (step:m<=4611686018427387904->∀k s fl U w,k<m->(∃x y,SH E V (W s x y++L k s x y) (C s x y) U w)->body k s=some fl->RC P n z (cD U d<|.bool<|decide<|(k:Int)<(m:Int)) w (xR (λk s U w=>(∃x y,SH E V (W s x y++L k s x y) (C s x y) U w)) b0 (λs U w=>(∃x y,SH E V (W s x y) (C s x y) U w)) K k fl))
  (hrt:∀r U w,g r=some res->K r U w->Q .ret U w) (hgo:∀s U w,f s=some res->(∃x y,SH E V (W s x y) (C s x y) U w)->Q .normal U w) (hd:Nat.blt d n=true:=by exact rfl) (hl:∀k s x y,lv d A B k m (W s x y++L k s x y):=by exact λ_ _ _ _=>⟨rfl,λ_=>rfl,λ_=>rfl⟩):RC P n (cl id d A B b0 T T' ty pos af z) U w Q:=
 FO (I:=λk s U w=>(∃x y,SH E V (W s x y++L k s x y) (C s x y) U w)) (J:=λs U w=>(∃x y,SH E V (W s x y) (C s x y) U w)) hb h0 hd (λs U v w⟨x,y,h⟩=>⟨x,y,h.out (hl m s x y).1 v⟩) (λk s U w⟨x,y,h⟩=>h.hd<|hl k s x y) step hrt hgo
theorem GI{c:Code}(E:World)(V:List HP)(C:S->X->Y->List HP)(W L:S->X->Y->List (Nat×Value))(K:R->(Nat->Value)->World->Prop){body:S->Option (Fl S R)}{f:S->Option β}{g:R->Option β}{N:Nat}{s0:S}(hb:((sb body N s0).bind λo=>o.cs f g)=some res)(h0:(∃x y,SH E V (W s0 x y++L s0 x y) (C s0 x y) U w))
  (step:∀s fl U w,(∃x y,SH E V (W s x y++L s x y) (C s x y) U w)->body s=some fl->RC P n c U w (rZ (λs U w=>(∃x y,SH E V (W s x y++L s x y) (C s x y) U w)) b0 (λs U w=>(∃x y,SH E V (W s x y) (C s x y) U w)) K fl))
  (hrt:∀r U w,g r=some res->K r U w->Q .ret U w) (hgo:∀s U w,f s=some res->(∃x y,SH E V (W s x y) (C s x y) U w)->Q .normal U w):RC P n (.block b0<|.loop c) U w Q:=by
 obtain⟨out,hN,hb⟩:=bd hb;exact FH _ _ K hN h0 step (λr U w e=>by subst e;exact hrt r U w hb) (λs U w e=>by subst e;exact hgo s U w hb)
theorem GW{c:Code}(E:World)(V:List HP)(C:S->X->Y->List HP)(W L:S->X->Y->List (Nat×Value)){body:S->Option (Fl S Empty)}{f:S->Option β}{g:Empty->Option β}{N:Nat}{s0:S}(hb:((sb body N s0).bind λo=>o.cs f g)=some res)(h0:(∃x y,SH E V (W s0 x y++L s0 x y) (C s0 x y) U w))
  (step:∀s fl U w,(∃x y,SH E V (W s x y++L s x y) (C s x y) U w)->body s=some fl->RC P n c U w (rZ (λs U w=>(∃x y,SH E V (W s x y++L s x y) (C s x y) U w)) b0 (λs U w=>(∃x y,SH E V (W s x y) (C s x y) U w)) (λr _ _=>r.elim) fl))
  (hgo:∀s U w,f s=some res->(∃x y,SH E V (W s x y) (C s x y) U w)->Q .normal U w):RC P n (.block b0<|.loop c) U w Q:=
 GI E V C W L (λr _ _=>r.elim) hb h0 step (λr _ _ _=>r.elim) hgo
end
section
variable {P:Program}{n:Nat}{U:Nat->Value}{w E:World}{V:List HP}{D:Nat->Bool}{dv dv':List (Nat×Nat×Value)}{e e':Edge}{l:List Edge}{d d' j:Nat}{v v' u:Value}{ag:List (Nat×Value)}{ops:Array Oper}
theorem cM.o0(h:cM D U dv)(k:Nat)(hp:iK D (e::l))(h1:dv[k]? =some (e.on,d,v))(hb:Region.binds .any e=true):U d=v:=h.at k h1<|hp.1 hb
theorem cM.o1(h:cM D U dv)(k:Nat)(hp:iK D (e::l))(h1:dv[k]? =some (e.on,d,v):=by exact rfl)(hb:Region.binds .any e=true:=by exact rfl):∃O,U=sg [(d,v)] O:=
 agree.sg (l:=[(d,v)]) ⟨h.o0 k hp h1 hb,trivial⟩
theorem cM.oa(h:cM D U dv)(k:Nat)(hp:iK D (e::l))(ha:agree U ag)(h1:dv[k]? =some (e.on,d,v):=by exact rfl)(hb:Region.binds .any e=true:=by exact rfl):∃O,U=sg ((d,v)::ag) O:=
 agree.sg (l:=(d,v)::ag) ⟨h.o0 k hp h1 hb,ha⟩
theorem cM.o2(h:cM D U dv)(k m:Nat)(hp:iK D (e::e'::l))(h1:dv[k]? =some (e.on,d,v):=by exact rfl)(hb:Region.binds .any e=true:=by exact rfl)
  (h2:dv[m]? =some (e'.on,d',v'):=by exact rfl) (hb2:Region.binds .any e'=true:=by exact rfl):∃O,U=sg [(d,v),(d',v')] O:=
 agree.sg (l:=[(d,v),(d',v')]) ⟨h.o0 k hp h1 hb,h.o0 m hp.2 h2 hb2,trivial⟩
theorem Holds.nw{c:HP}(h:Holds E w (c::V))(k:Nat)(hk:Nat.blt k V.length=true:=by exact rfl):Holds E w (V.set k (bif true then c else Gk.iv)):=by
 have hk:k<V.length:=Nat.blt_eq.mp hk
 have h2:=h.pick (V.length+1) ((List.range V.length).map λi=>if i=k then 0 else i+1) (Γ0:=[]) (new:=V.set k c) (by simp) (by
  apply List.ext_getElem
  ·simp
  ·intro i h1 h2;simp only[gp,List.length_range]at h1;simp only[List.getElem_map,List.getElem_range,List.getElem_set]
   by_cases hi:i=k
   ·subst hi;simp
   ·simp[hi,Ne.symm hi]) (by
  rw[List.nodup_iff_pairwise_ne,List.pairwise_map];exact List.nodup_range.imp λ{a b}hab=>by
   by_cases ha:a=k <;> by_cases hb:b=k <;> simp[ha,hb] <;> omega) (by
  intro i hi;rw[dK]at hi;obtain⟨a,ha,rfl⟩:=hi;rw[List.mem_range]at ha
  split <;> omega)
 rw[iQ]at h2;exact h2
theorem EP{X:Type}{G:X->List HP}{f:X->List (Nat×Nat×Value)}(x:X)(k:Nat)(hv:cM D U dv)(ha:agree U ag)(hw:Holds E w (G x))(h1:dv[k]? =some (j,d,v):=by exact rfl)(h2:sm j d k dv=true:=by exact rfl)
  (h3:f x=dv.set k (j,d,u):=by exact rfl) (h4:kS d ag=true:=by exact rfl):RL P n ops [] (cD U d u) w (λex U w=>ex = .normal/\∃x,cM (ins D j) U (f x)/\agree U ag/\lA (ins D j) U []/\Holds E w (G x)):=
 w_ ⟨rfl,x,h3▸hv.put k h1 h2,ha.up h4,trivial,hw⟩
theorem FA{X:Type}{G:X->List HP}{f:X->List (Nat×Nat×Value)}(x:X)(hv:cM D U dv)(ha:agree U ag)(hw:Holds E w (G x))(h1:(dv.all λx=> !Nat.beq x.1 j)=true:=by exact rfl)
  (h3:f x=dv:=by exact rfl):RL P n ops [] U w (λex U w=>ex = .normal/\∃x,cM (ins D j) U (f x)/\agree U ag/\lA (ins D j) U []/\Holds E w (G x)):=
 w_ ⟨rfl,x,h3▸hv.no h1,ha,trivial,hw⟩
end
section
variable {P:Program}{n:Nat}{U:Nat->Value}{w:World}{Q:dL}{d:Nat}{ops:Array Oper}{rest:List Oper}{ty:TypeId}{pos:String}{af:Array Edge}{q:Operand}
theorem bI(a:Int)(k:RL P n ops rest (cD U d<|vi a) w Q)(hd:Nat.blt d n=true:=by exact rfl)(hx:ev U q=vi a:=by exact rfl):RL P n ops (⟨some d, .move q,ty,pos,af,none⟩::rest) U w Q:=mv (hd:=hd) (hx:=hx) (vi a) k
theorem jT(a:Bool)(k:RL P n ops rest (cD U d<|vb a) w Q)(hd:Nat.blt d n=true:=by exact rfl)(hx:ev U q=vb a:=by exact rfl):RL P n ops (⟨some d, .move q,ty,pos,af,none⟩::rest) U w Q:=mv (hd:=hd) (hx:=hx) (vb a) k
theorem aJ(a:Int)(k:RL P n ops rest (cD U d<|vi a) w Q)(hd:Nat.blt d n=true:=by exact rfl)(hx:ev U q=vi a:=by exact rfl):RL P n ops (⟨some d, .assign q,ty,pos,af,none⟩::rest) U w Q:=ke (hd:=hd) (hx:=hx) (vi a) k
theorem bT(a:Bool)(k:RL P n ops rest (cD U d<|vb a) w Q)(hd:Nat.blt d n=true:=by exact rfl)(hx:ev U q=vb a:=by exact rfl):RL P n ops (⟨some d, .assign q,ty,pos,af,none⟩::rest) U w Q:=ke (hd:=hd) (hx:=hx) (vb a) k
end
theorem eT{P:Program}{n:Nat}{q:Operand}{x y:Code}{U:Nat->Value}{w:World}{Q:dL}{β:Type}{b:Bool}{A B:Option β}{r:β}(hb:(bif b then A else B)=some r)(ht:A=some r->RC P n x U w Q)(hf:B=some r->RC P n y U w Q)(hc:ev U q = .bool b:=by exact rfl):RC P n (.cond q x y) U w Q:=D6 hb hc (λ_=>ht) λ_=>hf
section
variable {α:Type}[GT α]{P:Program}{n:Nat}{U:Nat->Value}{w:World}{Q:dL}{E:World}{V:List HP}{ops:Array Oper}{rest:List Oper}{d:Nat}{ty T e:TypeId}{pos:String}{af:Array Edge}{g:Option (Nat×Bool)}{v u:Value}{q r:Operand}{l:List α}{x y:α}{jj:Int}{vs:List Value}
theorem EK{f:FuncId}{args:Array Operand}{ts:Array TypeId}{R:Value->World->Prop}(hf:gI P f)(h:Calls P f vs.toArray w (fP R))(k:∀v w',R v w'->RL P n ops rest (cD U d v) w' Q)
  (hg:Wn ops U g:=by exact trivial) (hd:Nat.blt d n=true:=by exact rfl) (hv:args.toList.map (ev U)=vs:=by exact rfl):RL P n ops (⟨some d, .call ⟨.value<|.func f,args,ts⟩,ty,pos,af,g⟩::rest) U w Q:=
 Ga hg hd hf vs hv (dU h k)
theorem y_{f:FuncId}{args:Array Operand}{ts:Array TypeId}{S:World->Prop}(hf:gI P f)(h:Calls P f vs.toArray w (fP λv w=>v=u/\S w))(k:∀w',S w'->RL P n ops rest (cD U d u) w' Q)
  (hg:Wn ops U g:=by exact trivial) (hd:Nat.blt d n=true:=by exact rfl) (hv:args.toList.map (ev U)=vs:=by exact rfl):RL P n ops (⟨some d, .call ⟨.value<|.func f,args,ts⟩,ty,pos,af,g⟩::rest) U w Q:=
 EK hf h (λv w⟨e,h⟩=>e▸k w h) hg hd hv
theorem Ew{b:Nat}(i:Nat)(hw:Holds E w V)(hi:V[i]? =some (bx e b x))(hT:je P T (GT.agg α) (GT.sz α))(k:∀v,Holds E w (rd v x::V)->RL P n ops rest (cD U d v) w Q)(hg:Wn ops U g:=by exact trivial)(hd:Nat.blt d n=true:=by exact rfl)
  (hx:ev U q = .pointer (some ⟨b,0,none⟩):=by exact rfl):RL P n ops (⟨some d, .load T q,ty,pos,af,g⟩::rest) U w Q:=Es (hg:=hg) (hd:=hd) (hx:=hx) (f:=λx=>x) _ hw hi Fd.self hT k
theorem F5(i:Nat)(hw:Holds E w V)(h:idx l jj=some x)(hT:je P T (GT.agg α) (GT.sz α))(k:∀v,Holds E w (rd v x::V)->RL P n ops rest (cD U d v) w Q)(hg:Wn ops U g:=by exact trivial)(hd:Nat.blt d n=true:=by exact rfl)
  (hi:V[i]? =some (own e v l):=by exact rfl) (hx:ev U q=AY v jj.toNat (GT.sz α) 0:=by exact rfl):RL P n ops (⟨some d, .load T q,ty,pos,af,g⟩::rest) U w Q:=
 FX (f:=λx=>x) hg hd hw hx (Cf hw hi h 0) hi (mS h).2.1 Fd.self hT k
theorem Fg{γ:Type}[Sc γ]{l:List γ}{x:γ}(i:Nat)(hw:Holds E w V)(h:idx l jj=some x)(hT:je P T false 1)(k:RL P n ops rest (cD U d<|Sc.toV x) w Q)(hg:Wn ops U g:=by exact trivial)(hd:Nat.blt d n=true:=by exact rfl)
  (hi:V[i]? =some (own e v l):=by exact rfl) (hx:ev U q=AY v jj.toNat (GT.sz γ) 0:=by exact rfl):RL P n ops (⟨some d, .load T q,ty,pos,af,g⟩::rest) U w Q:=
 Gf (f:=λx=>x) hg hd hw hx (Cf hw hi h 0) hi (mS h).2.1 Fd.self hT k
theorem Fh(i j:Nat)(hw:Holds E w V)(h:idx l jj=some x)(hT:je P T (GT.agg α) (GT.sz α))(k:∀w',Holds E w' (V.set i<|own e v<|l.set jj.toNat y)->RL P n ops rest U w' Q)(hg:Wn ops U g:=by exact trivial)
  (hi:V[i]? =some (own e v l):=by exact rfl) (hx:ev U q=AY v jj.toNat (GT.sz α) 0:=by exact rfl) (hy:ev U r=u:=by exact rfl) (hj:V[j]? =some (rd u y):=by exact rfl):RL P n ops (⟨none, .store T q r,ty,pos,af,g⟩::rest) U w Q:=
 Gg (f:=λ_ y=>y) hg hw hx hy (Cf hw hi h 0) hi (mS h).2.1 hj Fs.self (by omega) hT k
end
section
variable {P:Program}{n:Nat}{U:Nat->Value}{w:World}{Q:dL}{ops:Array Oper}{rest:List Oper}{d:Nat}{ty T T':TypeId}{pos:String}{af:Array Edge}{v:Value}{x y z q:Operand}
theorem gx{C:Bool}(hq:ev U q=cv C v)(h:C=true):ev U q=v:=hq.trans<|vw h
theorem A1{C B:Bool}(hq:ev U q=cv C v)(h:(C&&B)=true):ev U q=v:=hq.trans<|vw<|xQ h
theorem w6{C B B':Bool}(hq:ev U q=cv C v)(h:((C&&B)&&B')=true):ev U q=v:=hq.trans<|vw<|xQ<|xQ h
theorem EI{j t:Nat}{want b:Bool}{op:Op}(v:Value)(ht:(ops[j]?).bind (·.dst)=some t)(hv:U t = .bool b)
  (hrun:(true&&(b==want))=true->(execOp (ev U) ⟨some d,op,ty,pos,af,some (j,want)⟩).run P w = .ok (.value v) w)
  (k:RL P n ops rest (cD U d<|cv (true&&(b==want)) v) w Q) (hd:Nat.blt d n=true:=by exact rfl):RL P n ops (⟨some d,op,ty,pos,af,some (j,want)⟩::rest) U w Q:=
 E7 true _ _ ht hv hd hrun k
theorem FB{j t:Nat}{c want b:Bool}{op:Op}(v:Value)(ht:(ops[j]?).bind (·.dst)=some t)(hv:U t=cv c (.bool b))
  (hrun:(c&&(b==want))=true->(execOp (ev U) ⟨some d,op,ty,pos,af,some (j,want)⟩).run P w = .ok (.value v) w)
  (k:RL P n ops rest (cD U d<|cv (c&&(b==want)) v) w Q) (hd:Nat.blt d n=true:=by exact rfl):RL P n ops (⟨some d,op,ty,pos,af,some (j,want)⟩::rest) U w Q:=
 E7 _ _ _ ht hv hd hrun k
theorem y9{C:Bool}{o:Oper}(ho:o.op = .move x:=by exact rfl)(hx:C=true->ev U x=v:=by first|exact gx rfl|exact A1 rfl|exact w6 rfl|exact λ_=>rfl):C=true->(execOp (ev U) o).run P w = .ok (.value v) w:=zc ho hx
theorem Aa{C:Bool}{o:Oper}{K:IntKind}{a b:Int}(bop:BinOp)(ho:o.op = .binOp bop T x y T':=by exact rfl)(hx:C=true->ev U x = .int K a:=by first|exact gx rfl|exact A1 rfl|exact w6 rfl|exact λ_=>rfl)
  (hy:C=true->ev U y = .int K b:=by first|exact gx rfl|exact A1 rfl|exact w6 rfl|exact λ_=>rfl) (hc:og bop=true:=by exact rfl):
  C=true->(execOp (ev U) o).run P w = .ok (.value<|.bool<|j5 bop a b) w:=zd ho hx hy hc
theorem D7{C:Bool}{o:Oper}{a b:aL}(bop:BinOp)(ho:o.op = .binOp bop T x y T':=by exact rfl)(hx:C=true->ev U x=str a:=by first|exact gx rfl|exact A1 rfl|exact w6 rfl|exact λ_=>rfl)
  (hy:C=true->ev U y=str b:=by first|exact gx rfl|exact A1 rfl|exact w6 rfl|exact λ_=>rfl) (hc:og bop=true:=by exact rfl):
  C=true->(execOp (ev U) o).run P w = .ok (.value<|.bool<|lZ bop a b) w:=ze ho hx hy hc
theorem DR{C a b:Bool}{o:Oper}(ho:o.op = .pick x y z:=by exact rfl)(hx:C=true->ev U x = .bool a:=by first|exact gx rfl|exact A1 rfl|exact w6 rfl|exact λ_=>rfl)
  (hy:ev U y = .bool true:=by exact rfl) (hz:ev U z=cv (C&&(a==false)) (.bool b):=by exact rfl):C=true->(execOp (ev U) o).run P w = .ok (.value<|.bool<|a||b) w:=
 zf ho hx λh=>by rw[hy,hz];exact ue _ h
end
section
variable {κ β:Type}[GT κ][KV κ][DecidableEq κ][GT β]{E w:World}{V:List HP}{i j b g:Nat}{e e':TypeId}{v u:Value}{mr prer:List (κ×RV)}{m pre:List (κ×List β)}{ks:List κ}{nx:Option (κ×List β)}
def pC(e':TypeId)(mr:List (κ×RV))(m:List (κ×List β))(ks:List κ):HP:=
 ⟨λM h=>∃c:Nat->Nat,(∀b o,h b=some o->∃q,m[c b]? =some q/\q.1∉ks)/\
  ∀i p q,mr[i]? =some p->m[i]? =some q->q.1∉ks->qm e' M (λb=>if c b=i then h b else none) p.2.v q.2,
  λ{M M' h}hk hh=>by
  obtain⟨c,h1,h3⟩:=hh;refine⟨c,h1,λi p q hp hq hn=>?_⟩;have h4:(own e' p.2.v q.2).ok M (λb=>if c b=i then h b else none):=h3 i p q hp hq hn
  exact(own e' p.2.v q.2).mono hk h4⟩
def rf(v:Value)(g:Nat)(e':TypeId)(mr:List (κ×RV))(m pre:List (κ×List β))(nx:Option (κ×List β)):HP:=
 ⟨λM h=>(mr.map Prod.fst=m.map Prod.fst/\(m.map Prod.fst).Nodup/\Pf m (pre++nx.toList))/\∃(prer:List (κ×RV))(h1 h2:bX),h=jG h2 h1/\(∀b o,h2 b=some o->h1 b=none)/\
   prer.map Prod.fst=(pre++nx.toList).map Prod.fst/\(sB v g mr prer).ok M h1/\(pC e' mr m<|pre.map Prod.fst).ok M h2,
  λhk⟨h0,prer,h1,h2,a,b,c,d,e⟩=>⟨h0,prer,h1,h2,a,b,c,(sB v g mr prer).mono hk d,(pC e' mr m (pre.map Prod.fst)).mono hk e⟩⟩
theorem Holds.sJ(hw:Holds E w V)(hi:V[i]? =some (rf v g e' mr m pre nx)):(mr.map Prod.fst=m.map Prod.fst/\(m.map Prod.fst).Nodup/\Pf m (pre++nx.toList))/\
  ∃prer:List (κ×RV),prer.map Prod.fst=(pre++nx.toList).map Prod.fst/\Holds E w (pC e' mr m (pre.map Prod.fst)::V.set i (sB v g mr prer)):=by
 obtain⟨M,hs,gd⟩:=hw;obtain⟨h0,prer,h1,h2,hh,hd,hk,hp1,hp2⟩:=gd.sat i _ hi;refine⟨h0,prer,hk,M,_,gd.split (bE hi) (h1:=h2) (h2:=h1) (λb o hb=>?_) (λb o hb=>?_) hd hp2 hp1⟩
 ·rw[hh];exact qW hb
 ·rw[hh]
  cases e:h2 b with
  |none=>rw[oj e];exact hb
  |some o'=>rw[hd b o' e]at hb;cases hb
theorem Holds.oA(hw:Holds E w (pC e' mr m ks::V))(hi:V[i]? =some (sB v g mr prer))(h0:mr.map Prod.fst=m.map Prod.fst/\(m.map Prod.fst).Nodup/\Pf m (pre++nx.toList))(hk:prer.map Prod.fst=(pre++nx.toList).map Prod.fst)
  (hks:ks=pre.map Prod.fst):Holds E w (V.set i<|rf v g e' mr m pre nx):=by
 subst hks;obtain⟨M,hs,gd⟩:=hw;have hlt:=bE hi;refine⟨M,_,gd.join hlt ⟨h0,prer,hs<|i+1,hs 0,rfl,λb o hb=>gd.dj 0 (i+1) b o (by simp) (by simp only[gj];omega) (by omega) hb,hk,gd.sat (i+1) _ (by simpa using hi),gd.sat 0 _ rfl⟩⟩
theorem Holds.zz(hw:Holds E w V)(hi:V[i]? =some (sB v g mr []))(hb:V[b]? =some (kM (β:=β) e' mr m none))(hne:b≠i):Holds E w ((V.set b Gk.iv).set i<|rf v g e' mr m [] none):=by
 have hnd:(mr.map Prod.fst).Nodup:=by
  obtain⟨M,hs,gd⟩:=hw;obtain⟨r,es,clock,since,seen,c0,pz,rz,_,⟨_,hst⟩,_⟩:=gd.sat i _ hi;exact hst.2.2
 have ha:=(hw.qU hb).1;have hw1:=hw.pull (hi:=hb) _;have hw2:Holds E w (pC e' mr m []::V.set b Gk.iv):=by
  obtain⟨M,hs,gd⟩:=hw1;obtain⟨_,hl,hr,c,hc,hok⟩:=gd.sat 0 _ rfl
  have:=gd.update (w':=w) (P':=pC e' mr m []) (i:=0) (by simp) (hs 0) ⟨c,λq o hq=>by
   have h1:=(hc q o hq).1;rw[gp]at h1;have hlm:mr.length=m.length:=by have:=congrArg List.length ha;simpa using this
   exact⟨m[c q],aM (by omega),by simp⟩,λa p q hp hq _=>by
   have:=hok a p.2 q.2 (by simp) (by rw[jY,hp];rfl) (by rw[jY,hq];rfl)
   exact this⟩ rfl rfl rfl (λq o hq=>gd.le 0 q o (by simp) hq) (λq o hq=> .inl ⟨o,hq⟩) (λ_ _ _=>rfl)
  exact⟨M,_,this⟩
 refine hw2.oA (prer:=[]) (pre:=[]) (nx:=none) ?_ ⟨ha,by rw[<-ha];exact hnd,m,by simp⟩ rfl rfl;rw[List.getElem?_set_ne hne];exact hi
theorem Holds.w7{a:Nat}{p:κ×RV}{q:κ×List β}(hw:Holds E w (pC e' mr m ks::V))(hp:mr[a]? =some p)(hq:m[a]? =some q)(hn:q.1∉ks)(hnd:(m.map Prod.fst).Nodup):
  Holds E w (pC e' mr m (ks++[q.1])::own e' p.2.v q.2::V):=by
 obtain⟨M,hs,gd⟩:=hw;obtain⟨c,hc,hok⟩:=gd.sat 0 _ rfl;have hne:∀(a':Nat)q',m[a']? =some q'->a'≠a->q'.1≠q.1:=λa' q' h' hna e=>by
  have h1:(m.map Prod.fst)[a']? =some q.1:=by rw[jY,h',Option.map_some,e]
  have h2:(m.map Prod.fst)[a]? =some q.1:=by rw[jY,hq,Option.map_some]
  obtain⟨l1,e1⟩:=bG.1 h1;obtain⟨l2,e2⟩:=bG.1 h2;exact hna<|(List.getElem_inj hnd).1<|e1.trans e2.symm
 have:=gd.split (j:=0) (P1:=pC e' mr m<|ks++[q.1]) (P2:=own e' p.2.v q.2) (by simp) (h1:=λb=>if c b=a then none else hs 0 b) (h2:=λb=>if c b=a then hs 0 b else none) (λb o hb=>by grind) (λb o hb=>by grind) (λb o hb=>by grind)
  ⟨c,λb o hb=>by
   have hca:c b≠a:=λh=>by simp only[h,aG]at hb;cases hb
   simp only[hca,if_false]at hb;obtain⟨q',h1,h2⟩:=hc b o hb;refine⟨q',h1,λhm=>?_⟩
   rcases k8.1 hm with hm|hm
   ·exact h2 hm
   ·exact hne (c b) q' h1 hca (by simpa using hm),
   λi' p' q' hp' hq' hn'=>by
   have hia:i'≠a:=λh=>by subst h;rw[hq]at hq';injection hq' with hq';subst hq';exact hn' (by simp)
   have h1:=hok i' p' q' hp' hq'<|λh=>hn' (by simp[h])
   have e:(λb=>if c b=i' then hs 0 b else none)=(λb=>if c b=i' then(if c b=a then none else hs 0 b)else none):=by
    funext b
    by_cases hb:c b=i'
    ·rw[aG hb,aG hb,aH (by omega)]
    ·rw[aH hb,aH hb]
   rw[<-e];exact h1⟩ (hok a p q hp hq hn)
 exact⟨M,_,this⟩
end
section
variable {κ β S R T:Type}[GT κ][KV κ][DecidableEq κ][GT β]
variable {P:Program}{n:Nat}{U:Nat->Value}{w:World}{Q:dL}{E:World}{V:List HP}{i:Nat}{e':TypeId}
variable {ops:Array Oper}{rest:List Oper}{d:Nat}{ty Ty kt et:TypeId}{pos:String}{af:Array Edge}{g:Option (Nat×Bool)}{v:Value}{q:Operand}{mr:List (κ×RV)}{m pre:List (κ×List β)}{b:Nat}
theorem zA{κ ν:Type}{m:List (κ×ν)}(hnd:(m.map Prod.fst).Nodup){p q:κ×ν}(hp:p∈m)(hq:q∈m)(e:p.1=q.1):p=q:=by
 obtain⟨a,ha,rfl⟩:=List.mem_iff_getElem.1 hp;obtain⟨c,hc,rfl⟩:=List.mem_iff_getElem.1 hq;have:a=c:=(List.getElem_inj hnd (i:=a) (j:=c) (h₀:=by simpa using ha) (h₁:=by simpa using hc)).1 (by simpa using e);subst this;rfl
theorem Pf.mem{κ ν:Type}{m l:List (κ×ν)}(h:Pf m l){x:κ×ν}(hx:x∈l):x∈m:=by
 obtain⟨r,h⟩:=h;exact h.mem_iff.1 (by simp[hx])
theorem Holds.vG(hw:Holds E w V)(hi:V[i]? =some (rf v b e' mr m pre none))(ty:TypeId):
  (pre.Perm m/\(Instr.next (.pointer<|some ⟨b,0,none⟩) false ty).run P w = .ok (.tuple #[.bool false]) w)\/
  ∃(x:κ×List β)(u:Value)(w':World),Pf m (pre++[x])/\(Instr.next (.pointer<|some ⟨b,0,none⟩) false ty).run P w = .ok (.tuple #[.bool true,KV.enc x.1,u]) w'/\
   Holds E w' (V.set i<|rf v b e' mr m pre<|some x):=by
 have hlt:=bE hi;obtain⟨⟨ha,hnd,rest,hpm⟩,prer,hk,hw1⟩:=hw.sJ hi;simp only[Option.toList_none,iQ]at hk hpm;have hi1:(pC e' mr m (pre.map Prod.fst)::V.set i (sB v b mr prer))[i+1]? =some (sB v b mr prer):=by
  rw[List.getElem?_cons_succ,fT,aG rfl,aG hlt]
 have hlm:mr.length=m.length:=by have:=congrArg List.length ha;simpa using this
 have hlp:prer.length=pre.length:=by have:=congrArg List.length hk;simpa using this
 rcases hw1.yc (P:=P) hi1 ty with⟨hp,hrun⟩|⟨x,u,w',hx',hrun,hw'⟩
 ·refine .inl ⟨?_,hrun⟩;have h1:=hp.length_eq;have h2:=hpm.length_eq;rw[cT]at h2;have:rest= []:=List.length_eq_zero_iff.1 (by omega);subst this;simpa using hpm
 ·right;have hxm:x∈mr:=hx'.mem (by simp);obtain⟨a,w5,hax⟩:=List.mem_iff_getElem.1 hxm;have hq:m[a]? =some m[a]:=aM (by omega);have hqk:(m[a]'(by omega)).1=x.1:=by
   have h1:(mr.map Prod.fst)[a]? =some x.1:=by rw[jY,aM w5,hax];rfl
   rw[ha,jY,hq]at h1;simpa using h1
  have hfr:x.1∉pre.map Prod.fst:=by
   obtain⟨r2,h2⟩:=hx';have h3:((prer++[x]++r2).map Prod.fst).Nodup:=(h2.map Prod.fst).symm.nodup (by rw[ha];exact hnd);rw[<-hk];rw[eX,eX,cP,List.nodup_append]at h3;intro hm;exact h3.2.2 _ hm _ (by simp) rfl
  have hqm:m[a]'(by omega)∈m:=cO _;have hqr:m[a]'(by omega)∈rest:=by
   rcases k8.1 (hpm.mem_iff.2 hqm)with h|h
   ·exact absurd (dK.2 ⟨_,h,hqk⟩) hfr
   ·exact h
  obtain⟨r1,r2,hr⟩:=List.append_of_mem hqr
  have hPf:Pf m (pre++[m[a]'(by omega)]):=⟨r1++r2,by
   refine List.Perm.trans ?_ hpm;rw[hr,cP]
   exact List.Perm.append_left _ (List.perm_middle (a:=m[a]'(by omega)) (l₁:=r1) (l₂:=r2)).symm⟩
  refine⟨m[a]'(by omega),u,w',hPf,by rw[hqk];exact hrun,?_⟩;have hw2:=hw'.drop 1 (Γ':=pC e' mr m (pre.map Prod.fst)::(V.set i<|sB v b mr prer).set i (sB v b mr<|prer++[x])) rfl;rw[List.set_set]at hw2;have hw3:=hw2.oA (i:=i) (pre:=pre) (nx:=some<|m[a]'(by omega)) (by rw[fT,aG rfl,aG hlt]) ⟨ha,hnd,hPf⟩ (by simp[hk,hqk]) rfl;rw[List.set_set]at hw3;exact hw3
theorem GJ{x:κ×List β}(hg:Wn ops U g)(hd:Nat.blt d n=true)(hw:Holds E w V)(hx:ev U q = .pointer (some ⟨b,0,none⟩))(hi:V[i]? =some (rf v b e' mr m pre<|some x))
  (k:∀u,Holds E w (own e' u x.2::V.set i (rf v b e' mr m (pre++[x]) none))->RL P n ops rest (cD U d<|.tuple #[KV.enc x.1,u]) w Q):RL P n ops (⟨some d, .entry q,ty,pos,af,g⟩::rest) U w Q:=by
 have hlt:=bE hi;obtain⟨⟨ha,hnd,hPf⟩,prer,hk,hw1⟩:=hw.sJ hi;simp only[Option.toList_some]at hk hPf;have hne:prer≠[]:=λe=>by subst e;simp at hk
 obtain⟨pr,p,rfl⟩:∃pr p,prer=pr++[p]:=⟨prer.dropLast,prer.getLast hne,(List.dropLast_concat_getLast hne).symm⟩;rw[eX,eX]at hk;obtain⟨hk1,hk2⟩:=List.append_inj' hk rfl;simp only[eE,List.map_nil,List.cons.injEq,and_true]at hk2;have hi1:(pC e' mr m (pre.map Prod.fst)::V.set i (sB v b mr<|pr++[p]))[i+1]? =some (sB v b mr<|pr++[p]):=by
  rw[List.getElem?_cons_succ,fT,aG rfl,aG hlt]
 have hpm:p∈mr:=by
  obtain⟨M,hs,gd⟩:=hw1;obtain⟨r,es,clock,since,seen,c0,pz,rz,_,⟨he,hst⟩,_,_,_,_,_,hperm,_,hpre,_⟩:=gd.sat (i+1) _ hi1;have h1:p∈(pz++rz).map (·.2):=by rw[eX,<-hpre];simp
  have h2:=(hperm.map (·.2)).mem_iff.1 h1;rw[qE he.len]at h2;exact h2
 have hxm:x∈m:=hPf.mem (by simp);obtain⟨a,w5,hax⟩:=List.mem_iff_getElem.1 hxm;have hlm:mr.length=m.length:=by have:=congrArg List.length ha;simpa using this
 have hra:mr[a]? =some p:=by
  have h1:(m.map Prod.fst)[a]? =some x.1:=by rw[jY,aM w5,hax];rfl
  rw[<-ha,jY,aM (by omega),Option.map_some]at h1;injection h1 with h1
  rw[aM (by omega)];exact congrArg some<|zA (by rw[ha];exact hnd) (cO _) hpm<|h1.trans hk2.symm
 have hfr:x.1∉pre.map Prod.fst:=by
  obtain⟨r2,h2⟩:=hPf;have h3:((pre++[x]++r2).map Prod.fst).Nodup:=(h2.map Prod.fst).symm.nodup hnd;rw[eX,eX,cP,List.nodup_append]at h3;intro hm;exact h3.2.2 _ hm _ (by simp) rfl
 refine Gu (x:=p) hg hd hw1 hx hi1 λu hu=>?_;obtain rfl:u=p.2.v:=hu.oO (γ:=RV) (i:=0) rfl;have hw2:=hu.drop 1 (Γ':=pC e' mr m (pre.map Prod.fst)::V.set i (sB v b mr<|pr++[p])) rfl;have hw3:=hw2.w7 hra (by rw[aM w5,hax]) hfr hnd;have hw4:=hw3.oA (i:=i+1) (pre:=pre++[x]) (nx:=none) (by rw[List.getElem?_cons_succ,fT,aG rfl,aG hlt]) ⟨ha,hnd,by simpa using hPf⟩ (by simp[hk1,hk2]) (by simp);rw[List.set_cons_succ,List.set_set]at hw4;rw[hk2];exact k _ hw4
theorem GK{b0 id:Nat}{y:Code}{body:κ×List β->S->Option (Fl S R)}{s:S}{I:List (κ×List β)->S->(Nat->Value)->World->Prop}{J:S->(Nat->Value)->World->Prop}{K:R->(Nat->Value)->World->Prop}
  (hd:Nat.blt d n=true) (hw:Holds E w V) (hx:ev U q = .pointer (some ⟨b,0,none⟩)) (hi:V[i]? =some (rf v b e' mr m pre none)) (hb:∀x,Pf m (pre++[x])->∃fl,body x s=some fl)
  (h0:RL P n (⟨some d, .next q false,ty,pos,af,none⟩::rest).toArray rest (cD U d<|.tuple #[.bool false]) w (ir P n y<|zh b0 J K<|.go s))
  (h1:∀x u fl w',body x s=some fl->Holds E w' (V.set i (rf v b e' mr m pre (some x)))->
   RL P n (⟨some d, .next q false,ty,pos,af,none⟩::rest).toArray rest (cD U d (.tuple #[.bool true,KV.enc x.1,u])) w' (ir P n y (rZ (I (pre++[x])) b0 J K fl))):
  RC P n (.seq (.region id (⟨some d, .next q false,ty,pos,af,none⟩::rest).toArray false) y) U w (Cj m body I b0 J K pre s):=by
 rcases hw.vG (P:=P) hi ty with⟨hp,hrun⟩|⟨x,u,w',hx',hrun,hw'⟩
 ·refine RC.mono (r_<|B_ trivial hd ?_ h0) λex U w q=> .inl ⟨hp,q⟩;simp only[execOp,hx,hrun,aK,aP,aN]
 ·obtain⟨fl,hfl⟩:=hb x hx';refine RC.mono (r_<|B_ trivial hd ?_<|h1 x u fl w' hfl hw') λex U w q=> .inr ⟨x,fl,hx',hfl,q⟩;simp only[execOp,hx,hrun,aK,aP,aN]
end
end Go.Gk
namespace Go.Gk
open Go IntKind Go.Proofs Go.Sort
def vT(w:World):HP:=⟨λM _=>∀b,b<w.heap.size->M b=w.heap[b]?,λh hk b hb=>by
 have:=hk b hb;rw[fS hb]at this ⊢
 exact h b _ this⟩
theorem Holds.all(w:World):Holds w w [vT w]:=by
 refine⟨λb=>w.heap[b]?,λ_=>kL,⟨rfl,rfl,rfl,bP _,λ_ _ h=>h,λi P hP=>?_,λ_ _ _ _ h=>(by cases h),λ_ _ _ _ h=>(by cases h),λ_ _ _ _ _ _ _ h=>(by cases h)⟩⟩
 cases i with
 |zero=>simp at hP;subst hP;exact λ_ _=>rfl
 |succ i=>simp at hP
theorem Holds.grown{w w':World}{V:List HP}{i:Nat}(h:Holds w w' V)(hi:V[i]? =some (vT w)):∃q os,w'=grow (w.drewN q) os:=by
 obtain⟨M,hs,g⟩:=h;have hk:=g.sat i _ hi;have key:∀b,b<w.heap.size->w'.heap[b]? =w.heap[b]? :=λb hb=>by
  have:=hk b hb;rw[fS hb]at this;rw[g.im b _ this,fS hb]
 have hsz:w.heap.size<=w'.heap.size:=by
  rcases Nat.lt_or_ge w'.heap.size w.heap.size with h|h
  ·have:=key w'.heap.size h;rw[Array.getElem?_eq_none<|bP _,fS h]at this
   cases this
  ·exact h
 refine⟨w'.drawn - w.drawn,w'.heap.extract w.heap.size w'.heap.size,?_⟩;have e1:w'.heap=w.heap++w'.heap.extract w.heap.size w'.heap.size:=by
  apply Array.ext_getElem?;intro k;rw[Array.getElem?_append];split
  ·rename_i hk;exact key k hk
  ·rename_i hk;rw[Array.getElem?_extract]
   by_cases h2:k<w'.heap.size
   ·rw[aG (by omega)];congr 1;omega
   ·rw[aH (by omega),Array.getElem?_eq_none (by omega)]
 obtain⟨h1,h2,h3,h4,h5⟩:=w';obtain⟨k1,k2,k3,k4,k5⟩:=w;have a1:=g.os;have a2:=g.tape;have a3:=g.out;have a4:=g.dr;simp only at a1 a2 a3 a4 e1;subst a1;subst a2;subst a3;simp only[grow,World.drewN,World.mk.injEq,and_true,true_and];exact⟨e1,by omega⟩
section
variable {β:Type}[Inhabited β](enc:β->List Value)(k:Nat)(w:World)(g o m:Nat)(dk:Array β)(os:Array Obj)
theorem u3{b:Nat}(hb:b<w.heap.size)(hg:b≠g):(sortWorldK enc k w g o m dk os).heap[b]? =w.heap[b]? :=by
 simp only[sortWorldK,grow,putRowK,putRow,mapBlock,Go.Sort.ahead];rw[Array.getElem?_append_left (by simpa using hb),Array.getElem?_modify,aH<|λh=>hg h.symm]
theorem zR{cur:Array Value}{e:TypeId}{fr:Nat×Nat}(hg:w.heap[g]? =some (.cells cur e fr)):
  (sortWorldK enc k w g o m dk os).heap[g]? =some (.cells (putCells id o (flatK enc k dk) cur) e fr):=by
 have hb:g<w.heap.size:=(Array.getElem?_eq_some_iff.1 hg).1;simp only[sortWorldK,grow,putRowK,putRow,mapBlock,Go.Sort.ahead];rw[Array.getElem?_append_left (by simpa using hb),Array.getElem?_modify,aG rfl,hg];rfl
end
theorem vU{β:Type}[Inhabited β]{enc:β->List Value}{k:Nat}(hk:∀x,(enc x).length=k)(hk0:0<k)(d:Array β)(o:Nat)(cur:Array Value)(ho:o+d.size*k<=cur.size)(a:Nat)(ha:a<d.size):
  (((putCells id o (flatK enc k d) cur).toList.drop o).drop<|a*k).take k=enc d[a]! :=by
 apply List.ext_getElem?;intro t;rw[List.drop_drop,fR]
 by_cases ht:t<k
 ·have h1:a*k+t<d.size*k:=by
   have:=Nat.mul_le_mul_right k (show a+1<=d.size from ha);rw[Nat.add_mul,Nat.one_mul]at this;omega
  rw[aG ht,iO,Array.getElem?_toList];have hsz:o+a*k+t<(putCells id o (flatK enc k d) cur).size:=by simp only[putCells,Array.size_mapIdx];omega
  rw[fS hsz];simp only[putCells,Array.getElem_mapIdx,size_flatK];rw[aG (by omega),aM (by rw[hk];exact ht)];have e1:o+a*k+t - o=a*k+t:=by omega
  rw[e1,get_flatK _ _ _ _ h1];have e2:(a*k+t) / k=a:=by rw[Nat.mul_comm,Nat.mul_add_div hk0,Nat.div_eq_of_lt ht,Nat.add_zero]
  have e3:(a*k+t) % k=t:=by rw[Nat.mul_comm,Nat.mul_add_mod,Nat.mod_eq_of_lt ht]
  rw[e2,e3,getElem!_pos _ t (by rw[hk];exact ht)];rfl
 ·rw[aH ht,List.getElem?_eq_none (by rw[hk];omega)]
theorem tT{P:Program}{ρ:Shelf.Ren}(L:SlLaysF0.n6 P ρ)(α:Type)[GT α](hag:GT.agg α=true)(aE:∀w,(isAgg<|ρ.t 24).run P w = .ok true w)(zE:∀w,(Go.sizeOf<|ρ.t 24).run P w = .ok (GT.sz α) w){E w:World}{V:List HP}{e:TypeId}{v:Value}{l l':List α}{gf:Nat}{φ:α->α->Option Int}(hfn:gI P gf)(hcl:∀{E' w':World}{Γ':List HP}{u u':Value}{x x':α}{r:Int}{i j:Nat},Holds E' w' Γ'->Γ'[i]? =some (rd u x)->Γ'[j]? =some (rd u' x')->φ x x'=some r->Calls P gf [u,u'].toArray w' (fP λz w''=>z = .int .i64 r/\Holds E' w'' Γ'))(hw:Holds E w (own e v l::V))(hb:lB φ l=some l'):
  Calls P (ρ.f 6) [v, .func (.func gf) #[] #[]].toArray w (fP λz w'=>z = .tuple #[]/\Holds E w' (own e v l'::V)):=by
 unfold lB at hb;split at hb
 case isFalse=>cases hb
 rename_i hc;obtain⟨⟨hφ,hO⟩,hbig⟩:=hc;have hO:SWO (ltOf<|vt φ l):=hO;injection hb with hb
 by_cases hn:0<l.length
 case neg=>
  have hl:l= []:=List.length_eq_zero_iff.1 (by omega);subst hl;have e1:l'= []:=by rw[<-hb];rfl
  subst e1;obtain⟨a,c,hv⟩:=hw.nN (i:=0) rfl;subst hv;refine Calls.mono (AnyF.slices_SortFunc_none L a c _ w) λex w' h=>?_;obtain⟨rfl,rfl⟩:=h;exact⟨_,rfl,rfl,hw⟩
 letI inh:Inhabited (Fin l.length):=⟨⟨0,hn⟩⟩
 obtain⟨M,hs,gd⟩:=hw
 rcases gd.sat 0 _ rfl with⟨_,h2,_⟩|⟨g,o,cap,cur,xs,rfl,hcap,hmax,hh,hsz,hx,hcs⟩
 ·rw[h2]at hn;exact absurd hn (by simp)
 have hg:w.heap[g]? =some (.cells cur e (0,0)):=gd.le 0 g _ (by simp) (by rw[hh];exact bL g _);have hgs:g<w.heap.size:=(Array.getElem?_eq_some_iff.1 hg).1;have hMg:M g=none:=gd.dm 0 g _ (by simp) (by rw[hh];exact bL g _);generalize hK:GT.sz α=k at *;have hk0:0<k:=by rw[<-hK];exact GT.pos
 subst hx;have hlen:l.length*k<=cap*k:=Nat.mul_le_mul_right k hcap
 let enc:Fin l.length->List Value:=λi=>(((cur.toList.drop o).take<|l.length*k).drop<|i.val*k).take k
 have henc:∀i:Fin l.length,enc i=(cur.toList.drop<|o+i.val*k).take k:=λi=>by
  have:=oh (sz:=k) i.isLt;show(((cur.toList.drop o).take<|l.length*k).drop<|i.val*k).take k=_;rw[List.drop_take,List.take_take,List.drop_drop,Nat.min_eq_left (by omega)]
 have hlk:∀i,(enc i).length=k:=λi=>by
  have:=oh (sz:=k) i.isLt;rw[henc,eJ,jZ,Array.length_toList];omega
 have hel:∀i:Fin l.length,GT.ok M (enc i) l[i]:=λi=>by
  have:=hcs.2 i.val l[i]<|aM i.isLt
  rw[hK]at this;exact this
 have hone:∀x,∀v∈enc x,v.oneCell'=true:=λx v hv=>GT.one (hel x) v hv
 let d:Array (Fin l.length):=Array.ofFn λi:Fin l.length=>i
 have hds:d.size=l.length:=by simp[d]
 have hdi:∀i(hi:i<l.length),d[i]! = ⟨i,hi⟩:=λi hi=>by rw[getElem!_pos d i (by rw[hds];exact hi)];simp[d]
 have hH:HoldsK enc k w g o d:=by
  intro j hj;rw[size_flatK,hds]at hj;have hj2:j / k<l.length:=Nat.div_lt_of_lt_mul (by rw[Nat.mul_comm];exact hj);have hjm:j % k<k:=Nat.mod_lt _ hk0;have hdm:j / k*k+j % k=j:=by rw[Nat.mul_comm];exact Nat.div_add_mod j k
  have hbd:=oh (sz:=k) hj2;have hin:o+j<cur.size:=by omega
  refine⟨?_,?_⟩
  ·rw[get_flatK _ _ _ _ (by rw[hds];exact hj),hdi _ hj2];have e1:(enc ⟨j / k,hj2⟩)[j % k]! =cur[o+j]:=by
    rw[getElem!_pos _ _ (by rw[hlk];exact hjm)];apply Option.some.inj;rw[<-aM,henc,fR,aG hjm,iO,Array.getElem?_toList,<-fS];congr 1;show o+j / k*k+j % k=o+j;omega
   rw[e1];simp only[World.cell?,hg];simp[fS hin]
  ·simp only[World.frozen?,hg];simp
 have hsort:=AnyQ.slices_SortFunc_eq L k aE zE enc hlk hone (vt φ l) hO gf #[] g o cap d w hfn.run ?_ hH hgs ?_
 case refine_2=>rw[hds];exact hbig
 case refine_1=>
  intro m os dk hdk x y;have hxy:φ l[x] l[y]=some (vt φ l x y):=by obtain⟨c,hc⟩:=hφ x y;unfold vt;rw[hc];rfl
  generalize hW:sortWorldK enc k w g o m dk os=W;have hMW:hle M (λb=>W.heap[b]?):=λb o' hb=>by
   have hbw:=gd.im b o' hb;have hne:b≠g:=λh=>by rw[h,hMg]at hb;cases hb
   show W.heap[b]? =some o';rw[<-hW,u3 _ _ _ _ _ _ _ _ (Array.getElem?_eq_some_iff.1 hbw).1 hne];exact hbw
  have h0:Holds W W [rd (.agg (enc x).toArray) l[x],rd (.agg (enc y).toArray) l[y],vT W]:=by
   refine⟨λb=>W.heap[b]?,λ_=>kL,⟨rfl,rfl,rfl,bP _,λ_ _ h=>h,λi P hP=>?_,λ_ _ _ _ h=>(by cases h),λ_ _ _ _ h=>(by cases h),λ_ _ _ _ _ _ _ h=>(by cases h)⟩⟩
   match i,hP with
   | 0,hP=>simp at hP;subst hP;exact⟨⟨_,by simp[mJ,hag],GT.mono hMW (hel x)⟩,rfl⟩
   | 1,hP=>simp at hP;subst hP;exact⟨⟨_,by simp[mJ,hag],GT.mono hMW (hel y)⟩,rfl⟩
   | 2,hP=>simp at hP;subst hP;exact λ_ _=>rfl
   |i+3,hP=>simp at hP
  refine Calls.mono (hcl (i:=0) (j:=1) h0 rfl rfl hxy) λex w' h=>?_;obtain⟨z,rfl,rfl,h⟩:=h;exact⟨rfl,h.grown (i:=2) rfl⟩
 refine Calls.mono (by rw[hds]at hsort;exact hsort) λex w' h=>?_;obtain⟨rfl,n,os,rfl⟩:=h;refine⟨_,rfl,rfl,?_⟩;obtain⟨hp,_⟩:=pdq_sorts (ltOf<|vt φ l) hO d 0 l.length (Lib.bitLen l.length) true true (kR _) (by rw[hds];exact bP _)<|Or.inl rfl
 have hl':l'=(pdq (ltOf<|vt φ l) d 0 l.length (Lib.bitLen l.length) true true).toList.map λi=>l[i]:=by
  rw[<-hb];unfold wB;rw[dif_pos hn];rfl
 generalize hd':pdq (ltOf<|vt φ l) d 0 l.length (Lib.bitLen l.length) true true=d' at hp hl' ⊢;have hds':d'.size=l.length:=by rw[hp.1,hds]
 have hll:l'.length=l.length:=by rw[hl',gp,Array.length_toList,hds']
 have hpc:(putCells id o (flatK enc k d') cur).size=cur.size:=by simp[putCells]
 have h2:=gd.update (w':=sortWorldK enc k w g o n d' os) (P':=own e (.slice (some ⟨g,o,none⟩) l.length cap) l') (i:=0) (by simp) (Gk.one g<|.cells (putCells id o (flatK enc k d') cur) e (0,0)) ?_ rfl rfl rfl ?_ ?_ ?_<|Nat.le_add_right _ _
 ·exact⟨M,_,h2⟩
 ·refine .inr ⟨g,o,cap,_,_,by rw[hll],by rw[hll];exact hcap,hmax,rfl,by rw[hpc,hK];exact hsz,rfl,?_⟩;rw[hll,hK];refine⟨?_,λa x hx=>?_⟩
  ·have e1:(putCells id o (flatK enc k d') cur).toList.length=cur.size:=by rw[Array.length_toList,hpc]
   rw[eJ,jZ,e1,hll,hK];omega
  ·have ha:a<l.length:=by rw[<-hll];exact(bG.1 hx).1
   have hax:=oh (sz:=k) ha;rw[hK,List.drop_take,List.take_take,Nat.min_eq_left (by omega),vU hlk hk0 d' o cur (by rw[hds'];omega) a (by rw[hds'];exact ha)];have hda:d'.toList[a]? =some d'[a]! :=by rw[Array.getElem?_toList,fS (by rw[hds'];exact ha),getElem!_pos d' a (by rw[hds'];exact ha)]
   generalize d'[a]! =q at hda ⊢;have h3:=congrArg (λz=>z[a]?) hl';simp only[jY,hda,hx,Option.map_some]at h3;injection h3 with h3
   rw[h3];exact hel q
 ·intro b o' hb;obtain⟨rfl,rfl⟩:=eU hb;exact zR _ _ _ _ _ _ _ _ hg
 ·intro b o' hb;obtain⟨rfl,rfl⟩:=eU hb;exact .inl ⟨_,by rw[hh];exact bL b _⟩
 ·intro b hb1 hb2;refine u3 _ _ _ _ _ _ _ _ hb2 λh=>?_;subst h;rw[hh,bL]at hb1;cases hb1
section
variable (w:World)(g o m:Nat)(dk:Array Int)(os:Array Obj)
end
end Go.Gk
namespace Go.Gk
open Go IntKind
theorem zr{α:Type _}{a:α}:a=a:=rfl
theorem zt:True:=True.intro
theorem cg{ops:Array Oper}{U:Nat->Value}{j d:Nat}{a b:Bool}(h:a=b)(h1:(ops[j]?).bind (·.dst)=some d:=by rfl)(h2:U d = .bool a:=by rfl):Wn ops U (some (j,b)):=⟨d,h1,h2.trans<|cb h⟩
abbrev n_:Value:=.slice none 0 0
theorem q_{α β:Type}{o:Option α}{f:α->Option β}{r:β}{G:Prop}(h:o.bind f=some r)(k: ∀x,o=some x->f x=some r->G):G:=by
 cases o with
 | none=>cases h
 | some x=>exact k x rfl h
theorem z_{c:Bool}(v:Value)(h:c=true):cv c v=v:=vw h
end Go.Gk
