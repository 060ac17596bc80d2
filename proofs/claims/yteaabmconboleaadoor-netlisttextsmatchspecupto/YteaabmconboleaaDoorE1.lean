/-
  Helping texts: plain functions and plain laws. No statement of the seed is proved here.
-/
import Derived.Test.YteaabmconboleaaDoorA1
import Derived.ChangeShapes
import Derived.ChangeSame
import Derived.Carry
import Derived.RowKit
set_option linter.unusedVariables false
set_option linter.unusedSimpArgs false
set_option linter.unusedSectionVars false
namespace Go.Gk
open Go IntKind
structure Part where
 Name:aH
 cI:aH
 deriving DecidableEq,Inhabited
structure bM where
 Part:aH
 bM:aH
 deriving DecidableEq,Inhabited
structure Net where
 Name:aH
 bC:List bM
 du:List aH
 deriving DecidableEq,Inhabited
structure aQ where
 aO:List Part
 aM:List Net
 deriving DecidableEq,Inhabited
structure aS where
 Name:aH
 Kind:Int
 cy:Int
 deriving DecidableEq,Inhabited
structure aL where
 Name:aH
 bC:List aS
 deriving DecidableEq,Inhabited
def cX(N:Nat)(p0:aH)(p1:o9->Option Bool)(p2:Bool):Option Int:=
 (lp (λ(j:Nat)=>(bif decide (j<p0.aN.length)then((p1 (⟨(((Utf8.decode (bs p0) j).1:Nat):Int)⟩:o9)).bind λo=>bif o==p2 then some (.rt (j:Int))else some (.nx<|j+(Utf8.decode (bs p0) j).2))else(some<|.br j):Option (Fl Nat Int))) N 0).bind λaa=>aa.cs (λ(j:Nat)=>some<|-1)<|λr=>some r
def dG(N:Nat)(p0:aH)(p1:o9->Option Bool):Option Int:=
 (cX N p0 p1 true).bind λj=>some j
def cY(N:Nat)(p0:aH)(p1:o9->Option Bool):Option Bool:=
 (dG N p0 p1).bind λj=>some<|decide<|j>=0
def cx(N:Nat)(p0:Int):Option Bool:=
 some ((decide (p0<33)||decide (p0>126))||(p0==46))
def aZ(N:Nat)(p0:aH):Option Bool:=
 (bif(!p0.fi (⟨[]⟩))then((cY N p0<|λy0=>cx N y0.n).bind λj=>some<|!j)else some false).bind λo=>some o
def eI(N:Nat)(p0:aQ):Option (aH×Int):=
 (fU p0.aO.length (λ(af:Nat)(ad:List UInt8)=>((idx p0.aO (af:Int)).bind λj=>((aZ N j.Name).bind λag=>bif(!ag)then some true else((aZ N j.cI).bind λah=>some<|!ah)).bind λai=>bif ai then some (.rt (⟨[]⟩,3))else((cS (⟨[112,97,114,116,32]⟩) j.Name).bind λaj=>(cS aj<|⟨[32]⟩).bind λak=>(cS ak j.cI).bind λal=>(cS al<|⟨[10]⟩).bind λan=>(app 1 ad (an:aH).aN).bind λao=>some<|.nx ao):Option (Fl (List UInt8)<|aH×Int))) ([]:List UInt8)).bind λaq=>aq.cs (λ(ad:List UInt8)=>(fU p0.aM.length (λ(ar:Nat)(o:List UInt8)=>((idx p0.aM (ar:Int)).bind λaa=>(aZ N aa.Name).bind λau=>bif(!au)then some (.rt (⟨[]⟩,3))else((cS (⟨[110,101,116,32]⟩) aa.Name).bind λav=>(app 1 o (av:aH).aN).bind λaw=>(fU aa.bC.length (λ(ax:Nat)(ae:List UInt8)=>((idx aa.bC (ax:Int)).bind λab=>((aZ N ab.Part).bind λay=>bif(!ay)then some true else((aZ N ab.bM).bind λaz=>some<|!az)).bind λa0=>bif a0 then some (.rt (⟨[]⟩,3))else((cS (⟨[32]⟩) ab.Part).bind λa1=>(cS a1<|⟨[46]⟩).bind λa2=>(cS a2 ab.bM).bind λa3=>(app 1 ae (a3:aH).aN).bind λa4=>some<|.nx a4):Option (Fl (List UInt8)<|aH×Int))) aw).bind λa5=>a5.cs (λ(ae:List UInt8)=>(app 1 ae (⟨[10]⟩:aH).aN).bind λa6=>some<|.nx a6)<|λr=>some<|.rt r):Option (Fl (List UInt8)<|aH×Int))) ad).bind λa7=>a7.cs (λ(o:List UInt8)=>bif decide ((o.length:Int)>2000000)then some (⟨[]⟩,2)else some ((⟨o⟩:aH),0))<|λr=>some r)<|λr=>some r
def aU(N:Nat)(p0:aH):Option Bool:=
 (fU p0.aN.length (λ(j:Nat)(o:Unit)=>(((lZ p0 (j:Int)).bind λaa=>bif decide ((aa.toNat:Int)<33)then some true else((lZ p0 (j:Int)).bind λab=>bif decide ((ab.toNat:Int)>126)then some true else((lZ p0 (j:Int)).bind λad=>some<|(ad.toNat:Int)==46))).bind λae=>bif ae then some (.rt false)else(some<|.nx ()):Option (Fl Unit Bool))) ()).bind λaf=>af.cs (λ(o:Unit)=>some<|!p0.fi (⟨[]⟩))<|λr=>some r
def cN(N:Nat)(p0:aQ):Option (aH×Int):=
 (fU p0.aO.length (λ(af:Nat)(ad:aH)=>((idx p0.aO (af:Int)).bind λj=>((aU N j.Name).bind λag=>bif(!ag)then some true else((aU N j.cI).bind λah=>some<|!ah)).bind λai=>bif ai then some (.rt (⟨[]⟩,3))else((cS (⟨[112,97,114,116,32]⟩) j.Name).bind λaj=>(cS aj<|⟨[32]⟩).bind λak=>(cS ak j.cI).bind λal=>(cS al<|⟨[10]⟩).bind λan=>(cS ad an).bind λao=>some<|.nx ao):Option (Fl aH<|aH×Int)))<|⟨[]⟩).bind λaq=>aq.cs (λ(ad:aH)=>(fU p0.aM.length (λ(ar:Nat)(o:aH)=>((idx p0.aM (ar:Int)).bind λaa=>(aU N aa.Name).bind λau=>bif(!au)then some (.rt (⟨[]⟩,3))else((cS (⟨[110,101,116,32]⟩) aa.Name).bind λav=>(cS o av).bind λaw=>(fU aa.bC.length (λ(ax:Nat)(ae:aH)=>((idx aa.bC (ax:Int)).bind λab=>((aU N ab.Part).bind λay=>bif(!ay)then some true else((aU N ab.bM).bind λaz=>some<|!az)).bind λa0=>bif a0 then some (.rt (⟨[]⟩,3))else((cS (⟨[32]⟩) ab.Part).bind λa1=>(cS a1<|⟨[46]⟩).bind λa2=>(cS a2 ab.bM).bind λa3=>(cS ae a3).bind λa4=>some<|.nx a4):Option (Fl aH<|aH×Int))) aw).bind λa5=>a5.cs (λ(ae:aH)=>(cS ae<|⟨[10]⟩).bind λa6=>some<|.nx a6)<|λr=>some<|.rt r):Option (Fl aH<|aH×Int))) ad).bind λa7=>a7.cs (λ(o:aH)=>bif decide ((o.aN.length:Int)>2000000)then some (⟨[]⟩,2)else some (o,0))<|λr=>some r)<|λr=>some r
def cD(N:Nat)(p0:aH)(p1:Int):Option Int:=
 some (Lib.indexByte p0.aN (Int.toNat p1).toUInt8)
def cZ(N:Nat)(p0:aH)(p1:Int):Option Int:=
 (cD N p0 p1).bind λj=>some j
def dM(N:Nat)(p0:aH):Option Bool:=
 (fU p0.aN.length (λ(o:Nat)(aa:Unit)=>((lZ p0 (o:Int)).bind λj=>(bif((decide ((j.toNat:Int)<65)||decide ((j.toNat:Int)>90))&&(decide ((j.toNat:Int)<97)||decide ((j.toNat:Int)>122)))&&(decide ((j.toNat:Int)<48)||decide ((j.toNat:Int)>57))then((cZ N (⟨[95,43,45,35]⟩) (j.toNat:Int)).bind λab=>some<|decide<|ab<0)else some false).bind λad=>bif ad then some (.rt false)else(some<|.nx ()):Option (Fl Unit Bool))) ()).bind λae=>ae.cs (λ(aa:Unit)=>some<|decide ((p0.aN.length:Int)>=1)&&decide ((p0.aN.length:Int)<=40))<|λr=>some r
def dN(N:Nat)(p0 p1:aS):Option Bool:=
 (bif decide (p1.cy>0)then(bif p0.cy==p1.cy then some (p0.Kind != p1.Kind)else some false)else some false).bind λj=>some j
def c7(N:Nat)(p0:List aS)(p1:aS->Option Bool):Option Int:=
 (fU p0.length (λ(j:Nat)(o:Unit)=>((idx p0 (j:Int)).bind λaa=>(p1 aa).bind λab=>bif ab then some (.rt (j:Int))else(some<|.nx ()):Option (Fl Unit Int))) ()).bind λad=>ad.cs (λ(o:Unit)=>some<|-1)<|λr=>some r
def cL(N:Nat)(p0:List aS)(p1:aS->Option Bool):Option Bool:=
 (c7 N p0 p1).bind λj=>some<|decide<|j>=0
def eJ(N:Nat)(p0:List aS):Option Int:=
 bif(p0.length:Int)==0 then some 9 else(bif decide ((p0.length:Int)>200)then some 2 else((fU p0.length (λ(o:Nat)(ad:Unit)=>((idx p0 (o:Int)).bind λj=>(dM N j.Name).bind λae=>bif(!ae)then some (.rt 5)else(bif decide (j.Kind<1)||decide (j.Kind>7)then some (.rt 4)else(bif decide (j.cy<0)||decide (j.cy>200)then some (.rt 1)else((bif decide ((o:Int)>0)then((idx p0<|wrap .i64<|(o:Int) - 1).bind λaa=>some<|j.Name.lD aa.Name||j.Name.fi aa.Name)else some false).bind λaf=>bif af then some (.rt 8)else some (.nx ())))):Option (Fl Unit Int))) ()).bind λag=>ag.cs (λ(ad:Unit)=>(fU p0.length (λ(ab:Nat)(ah:Unit)=>((idx p0 (ab:Int)).bind λai=>(nz p0 0 (ab:Int)).bind λaj=>(cL N aj<|λy0=>dN N y0 ai).bind λak=>bif ak then some (.rt 12)else(some<|.nx ()):Option (Fl Unit Int))) ()).bind λal=>al.cs (λ(ah:Unit)=>some 0)<|λr=>some r)<|λr=>some r))
def ep(N:Nat)(p0:List aL):Option Int:=
 bif decide ((p0.length:Int)>200)then some 2 else((fU p0.length (λ(o:Nat)(ad:Unit)=>((idx p0 (o:Int)).bind λj=>(dM N j.Name).bind λae=>bif(!ae)then some (.rt 5)else((eJ N j.bC).bind λaa=>bif aa != 0 then some (.rt aa)else((bif decide ((o:Int)>0)then((idx p0<|wrap .i64<|(o:Int) - 1).bind λab=>some<|j.Name.lD ab.Name||j.Name.fi ab.Name)else some false).bind λaf=>bif af then some (.rt 8)else some (.nx ()))):Option (Fl Unit Int))) ()).bind λag=>ag.cs (λ(ad:Unit)=>some 0)<|λr=>some r)
def bU(N:Nat)(p0:List aL)(p1:aH)(p2:aL->aH->Option Int):Option (Int×Bool):=
 (lp (λ(j:Int×Int)=>(bif decide (j.1<j.2)then((idx p0<|wrap .i64<|Int.fdiv (wrap .u64<|wrap .i64<|j.1+j.2) 2).bind λaa=>(p2 aa p1).bind λab=>(bif decide (ab<0)then some (wrap .i64<|wrap .i64 (Int.fdiv (wrap .u64<|wrap .i64<|j.1+j.2) 2)+1,j.2)else some (j.1,wrap .i64<|Int.fdiv (wrap .u64<|wrap .i64<|j.1+j.2) 2)).bind λo=>some<|.nx (o.1,o.2))else(some<|.br (j.1,j.2)):Option (Fl (Int×Int) Empty))) N (0,(p0.length:Int))).bind λad=>ad.cs (λ(j:Int×Int)=>(bif decide (j.1<(p0.length:Int))then((idx p0 j.1).bind λae=>(p2 ae p1).bind λaf=>some<|af==0)else some false).bind λag=>some (j.1,ag))<|λr=>r.elim
def dA(N:Nat)(p0 p1:aH):Option Int:=
 some (Lib.compareBytes p0.aN p1.aN)
def cJ(N:Nat)(p0 p1:aH):Option Int:=
 (dA N p0 p1).bind λj=>some j
def eK(N:Nat)(p0:aL)(p1:aH):Option Int:=
 (cJ N p0.Name p1).bind λj=>some j
def dO(N:Nat)(p0:List aL)(p1:aH):Option Int:=
 (bU N p0 p1<|eK N).bind λj=>bif(!j.2)then some (-1)else some j.1
def er(N:Nat)(p0:List aL)(p1:List Part)(p2:aH->Option Bool):Option Int:=
 bif decide ((p1.length:Int)>1000)then some 2 else((fU p1.length (λ(o:Nat)(ab:Unit)=>((idx p1 (o:Int)).bind λj=>(p2 j.Name).bind λad=>bif(!ad)then some (.rt 5)else((dO N p0 j.cI).bind λae=>bif decide (ae<0)then some (.rt 9)else((bif decide ((o:Int)>0)then((idx p1<|wrap .i64<|(o:Int) - 1).bind λaa=>some<|j.Name.lD aa.Name||j.Name.fi aa.Name)else some false).bind λaf=>bif af then some (.rt 8)else some (.nx ()))):Option (Fl Unit Int))) ()).bind λag=>ag.cs (λ(ab:Unit)=>some 0)<|λr=>some r)
def ct(N:Nat)(p0 p1:aH):Option Int:=
 bif((p1.aN.length:Int)==0)||p1.fi p0 then some 0 else(bif(p1.aN.length:Int)==1 then((lZ p1 0).bind λj=>(cD N p0 (j.toNat:Int)).bind λo=>some o)else(bif decide ((p1.aN.length:Int)>=(p0.aN.length:Int))then some (-1)else none))
def c8(N:Nat)(p0 p1:aH):Option Int:=
 (ct N p0 p1).bind λj=>some j
def ee(N:Nat)(p0 p1:aH):Option Int:=
 bif(p1.aN.length:Int)==0 then none else(bif(p1.aN.length:Int)==1 then((lZ p1 0).bind λaa=>some ((Lib.countByte p0.aN (Int.toNat (aa.toNat:Int)).toUInt8:Nat):Int))else((lp (λ(j:aH×Int)=>((c8 N j.1 p1).bind λo=>bif o==(-1)then some (.rt j.2)else((g6 j.1 (wrap .i64<|o+(p1.aN.length:Int)) (j.1.aN.length:Int)).bind λab=>some<|.nx (ab,wrap .i64<|j.2+1)):Option (Fl (aH×Int) Int))) N (p0,0)).bind λad=>ad.cs (λ(j:aH×Int)=>some 0)<|λr=>some r))
def dX(N:Nat)(p0 p1:aH)(p2 p3:Int):Option (List aH):=
 bif p3==0 then some ([]:List aH)else(bif p1.fi (⟨[]⟩)then none else((bif decide (p3<0)then((ee N p0 p1).bind λab=>some<|wrap .i64<|ab+1)else some p3).bind λo=>(mk 16 (⟨[]⟩:aH) (if wrap .i64 ((p0.aN.length:Int)+1)<o then wrap .i64 ((p0.aN.length:Int)+1)else o)).bind λad=>(lp (λ(j:aH×List aH×Int)=>(bif decide (j.2.2< wrap .i64 ((if wrap .i64 ((p0.aN.length:Int)+1)<o then wrap .i64 ((p0.aN.length:Int)+1)else o) - 1))then((c8 N j.1 p1).bind λaa=>bif decide (aa<0)then some (.br (j.1,j.2.1,j.2.2))else((g6 j.1 0<|wrap .i64<|aa+p2).bind λae=>(idx j.2.1 j.2.2).bind λai=>(g6 j.1 (wrap .i64<|aa+(p1.aN.length:Int)) (j.1.aN.length:Int)).bind λaf=>some<|.nx (af,j.2.1.set (Int.toNat j.2.2) ae,wrap .i64<|j.2.2+1)))else(some<|.br (j.1,j.2.1,j.2.2)):Option (Fl (aH×List aH×Int) Empty))) N (p0,ad,0)).bind λag=>ag.cs (λ(j:aH×List aH×Int)=>(idx j.2.1 j.2.2).bind λaj=>(nz (j.2.1.set (Int.toNat j.2.2) j.1) 0<|wrap .i64<|j.2.2+1).bind λah=>some ah)<|λr=>r.elim))
def dy(N:Nat)(p0 p1:aH):Option (List aH):=
 (dX N p0 p1 0<|-1).bind λj=>some j
def dd(N:Nat)(p0:List aH)(p1:aH->Option Bool):Option Int:=
 (fU p0.length (λ(j:Nat)(o:Unit)=>((idx p0 (j:Int)).bind λaa=>(p1 aa).bind λab=>bif ab then some (.rt (j:Int))else(some<|.nx ()):Option (Fl Unit Int))) ()).bind λad=>ad.cs (λ(o:Unit)=>some<|-1)<|λr=>some r
def cO(N:Nat)(p0:List aH)(p1:aH->Option Bool):Option Bool:=
 (dd N p0 p1).bind λj=>some<|decide<|j>=0
def eL(N:Nat)(p0:aH):Option Bool:=
 (dM N p0).bind λj=>some<|!j
def eM(N:Nat)(p0:aH):Option Bool:=
 (bif decide ((p0.aN.length:Int)<=200)then((dy N p0<|⟨[47]⟩).bind λj=>(cO N j<|eL N).bind λo=>some<|!o)else some false).bind λaa=>some aa
def cu(N:Nat)(p0:List Part)(p1:aH)(p2:Part->aH->Option Int):Option (Int×Bool):=
 (lp (λ(j:Int×Int)=>(bif decide (j.1<j.2)then((idx p0<|wrap .i64<|Int.fdiv (wrap .u64<|wrap .i64<|j.1+j.2) 2).bind λaa=>(p2 aa p1).bind λab=>(bif decide (ab<0)then some (wrap .i64<|wrap .i64 (Int.fdiv (wrap .u64<|wrap .i64<|j.1+j.2) 2)+1,j.2)else some (j.1,wrap .i64<|Int.fdiv (wrap .u64<|wrap .i64<|j.1+j.2) 2)).bind λo=>some<|.nx (o.1,o.2))else(some<|.br (j.1,j.2)):Option (Fl (Int×Int) Empty))) N (0,(p0.length:Int))).bind λad=>ad.cs (λ(j:Int×Int)=>(bif decide (j.1<(p0.length:Int))then((idx p0 j.1).bind λae=>(p2 ae p1).bind λaf=>some<|af==0)else some false).bind λag=>some (j.1,ag))<|λr=>r.elim
def eN(N:Nat)(p0:Part)(p1:aH):Option Int:=
 (cJ N p0.Name p1).bind λj=>some j
def fX(N:Nat)(p0:List Part)(p1:aH):Option Int:=
 (cu N p0 p1<|eN N).bind λj=>bif(!j.2)then some (-1)else some j.1
def bX(N:Nat)(p0:List aS)(p1:aH)(p2:aS->aH->Option Int):Option (Int×Bool):=
 (lp (λ(j:Int×Int)=>(bif decide (j.1<j.2)then((idx p0<|wrap .i64<|Int.fdiv (wrap .u64<|wrap .i64<|j.1+j.2) 2).bind λaa=>(p2 aa p1).bind λab=>(bif decide (ab<0)then some (wrap .i64<|wrap .i64 (Int.fdiv (wrap .u64<|wrap .i64<|j.1+j.2) 2)+1,j.2)else some (j.1,wrap .i64<|Int.fdiv (wrap .u64<|wrap .i64<|j.1+j.2) 2)).bind λo=>some<|.nx (o.1,o.2))else(some<|.br (j.1,j.2)):Option (Fl (Int×Int) Empty))) N (0,(p0.length:Int))).bind λad=>ad.cs (λ(j:Int×Int)=>(bif decide (j.1<(p0.length:Int))then((idx p0 j.1).bind λae=>(p2 ae p1).bind λaf=>some<|af==0)else some false).bind λag=>some (j.1,ag))<|λr=>r.elim
def fm(N:Nat)(p0:aS)(p1:aH):Option Int:=
 (cJ N p0.Name p1).bind λj=>some j
def gE(N:Nat)(p0:aL)(p1:aH):Option Int:=
 (bX N p0.bC p1<|fm N).bind λj=>bif(!j.2)then some (-1)else some j.1
def fY(N:Nat)(p0:List aL)(p1:List Part)(p2:bM):Option Bool:=
 (fX N p1 p2.Part).bind λj=>(bif decide (j>=0)then((idx p1 j).bind λo=>(dO N p0 o.cI).bind λaa=>(idx p0 aa).bind λab=>(gE N ab p2.bM).bind λad=>some<|decide<|ad>=0)else some false).bind λae=>some ae
def dP(N:Nat)(p0:bM)(p1:List aL)(p2:aQ):Option Bool:=
 (fY N p1 p2.aO p0).bind λj=>some j
def d8(N:Nat)(p0 p1:bM):Option Int:=
 (cJ N p0.Part p1.Part).bind λj=>bif j != 0 then some j else((cJ N p0.bM p1.bM).bind λo=>some o)
def dQ(N:Nat)(p0:List bM)(p1:bM->Option Bool)(p2:List (bM×Bool)):Option (Int×List (bM×Bool)):=
 bif decide ((p0.length:Int)>500)then some (2,p2)else((fU p0.length (λ(j:Nat)(ab:Unit)=>((idx p0 (j:Int)).bind λo=>(p1 o).bind λrk=>bif(!rk)then some (.rt (9,p2))else((bif decide ((j:Int)>0)then((idx p0<|wrap .i64<|(j:Int) - 1).bind λad=>(d8 N o ad).bind λae=>some<|decide<|ae<=0)else some false).bind λaf=>bif af then some (.rt (8,p2))else(bif kS p2 o (false:Bool)then some (.rt (7,p2))else some (.nx ()))):Option (Fl Unit<|Int×List (bM×Bool)))) ()).bind λag=>ag.cs (λ(ab:Unit)=>(mK p0.length (λ(ah:Nat)(aa:List (bM×Bool))=>((idx p0 (ah:Int)).bind λai=>some (jF aa ai true):Option (List<|bM×Bool))) p2).bind λaa=>some (0,aa))<|λr=>some r)
def eO(N:Nat)(p0:List aL)(p1:aQ):Option Int:=
 (ep N p0).bind λab=>bif ab != 0 then some ab else((er N p0 p1.aO<|eM N).bind λad=>bif ad != 0 then some ad else(bif decide ((p1.aM.length:Int)>1000)then some 2 else((fU p1.aM.length (λ(o:Nat)(ae:List (bM×Bool))=>((idx p1.aM (o:Int)).bind λj=>(eM N j.Name).bind λag=>bif(!ag)then some (.rt 5)else(bif(j.bC.length:Int)==0 then some (.rt 9)else((dQ N j.bC (λy0=>dP N y0 p0 p1) ae).bind λaa=>bif aa.1 != 0 then some (.rt aa.1)else(bif decide ((j.du.length:Int)>0)then some (.rt 3)else((bif decide ((o:Int)>0)then((idx p1.aM<|wrap .i64<|(o:Int) - 1).bind λaf=>some<|j.Name.lD af.Name||j.Name.fi af.Name)else some false).bind λah=>bif ah then some (.rt 8)else some (.nx aa.2))))):Option (Fl (List<|bM×Bool) Int))) ([]:List (bM×Bool))).bind λai=>ai.cs (λ(ae:List (bM×Bool))=>some 0)<|λr=>some r)))
def g7(N:Nat)(p0:aQ):Option (List<|bM×Int):=
 (mK p0.aM.length (λ(aa:Nat)(j:List (bM×Int))=>((idx p0.aM (aa:Int)).bind λab=>(mK ab.bC.length (λ(ad:Nat)(o:List (bM×Int))=>((idx ab.bC (ad:Int)).bind λae=>some (jF o ae (aa:Int)):Option (List<|bM×Int))) j).bind λo=>some o:Option (List<|bM×Int))) ([]:List (bM×Int))).bind λj=>some j
def fZ(N:Nat)(p0:List aL)(p1:Part):Option (List bM):=
 (dO N p0 p1.cI).bind λaa=>(idx p0 aa).bind λo=>(mK o.bC.length (λ(ab:Nat)(j:List bM)=>((idx o.bC (ab:Int)).bind λad=>(app 32 j ([(⟨p1.Name,ad.Name⟩:bM)]:List bM)).bind λr4=>some r4:Option (List bM))) ([]:List bM)).bind λj=>some j
def fE(N:Nat)(p0:List aL)(p1:aQ):Option (List bM):=
 (g7 N p1).bind λad=>(mK p1.aO.length (λ(ae:Nat)(o:List bM)=>((idx p1.aO (ae:Int)).bind λaf=>(fZ N p0 af).bind λaa=>(mK aa.length (λ(ag:Nat)(j:List bM)=>((idx aa (ag:Int)).bind λab=>(bif(!(kT ad ab))then((app 32 j ([ab]:List bM)).bind λah=>some ah)else some j).bind λai=>some ai:Option (List bM))) o).bind λj=>some j:Option (List bM))) ([]:List bM)).bind λo=>some o
def gF(N:Nat)(p0:List aL)(p1:aQ):Option (List bM×Int):=
 (eO N p0 p1).bind λj=>bif j != 0 then some (([]:List bM),j)else((fE N p0 p1).bind λo=>some (o,0))
def da(N:Nat):Option Bool:=
 (gF N ([(⟨⟨[114]⟩,([(⟨⟨[49]⟩,6,0⟩:aS)]:List aS)⟩:aL)]:List aL) (⟨([(⟨⟨[97]⟩,⟨[114]⟩⟩:Part)]:List Part),[]⟩:aQ)).bind λj=>(bif j.2==0 then(bif(j.1.length:Int)==1 then((idx j.1 0).bind λo=>some<|decide<|o=(⟨⟨[97]⟩,⟨[49]⟩⟩:bM))else some false)else some false).bind λaa=>some aa
def eo(N:Nat)(p0 p1:aH):Option (aH×aH×Bool):=
 (ct N p0 p1).bind λj=>bif decide (j>=0)then((g6 p0 0 j).bind λo=>(g6 p0 (wrap .i64<|j+(p1.aN.length:Int)) (p0.aN.length:Int)).bind λaa=>some (o,aa,true))else some (p0,⟨[]⟩,false)
def dR(N:Nat)(p0 p1:aH):Option (aH×aH×Bool):=
 (eo N p0 p1).bind λj=>some (j.1,j.2.1,j.2.2)
def de(N:Nat)(p0_0:List Part)(p0_1:List Net)(p1:aH):Option (Bool×List Part×List Net):=
 (dy N p1<|⟨[32]⟩).bind λj=>((idx j 0).bind λab=>bif ab.fi (⟨[112,97,114,116]⟩)then(bif(j.length:Int)==3 then some ((p0_1.length:Int)==0)else some false)else some false).bind λad=>bif ad then((idx j 1).bind λae=>(idx j 2).bind λaf=>(app 32 p0_0 ([(⟨ae,af⟩:Part)]:List Part)).bind λag=>((idx j 1).bind λah=>(aZ N ah).bind λai=>bif ai then((idx j 2).bind λaj=>(aZ N aj).bind λak=>some ak)else some false).bind λal=>some (al,ag,p0_1))else(((idx j 0).bind λan=>bif an.fi (⟨[110,101,116]⟩)then some (decide<|(j.length:Int)>=2)else some false).bind λao=>bif ao then((idx j 1).bind λaq=>(nz j 2 (j.length:Int)).bind λa3=>(fU (j.length - Int.toNat 2) (λ(ar:Nat)(aa:List bM)=>((pc j 2 (ar:Int)).bind λau=>(dR N au<|⟨[46]⟩).bind λo=>(bif(!o.2.2)then some true else((aZ N o.1).bind λav=>bif(!av)then some true else((aZ N o.2.1).bind λaw=>some<|!aw))).bind λax=>bif ax then some (.rt (false,p0_0,p0_1))else((app 32 aa ([(⟨o.1,o.2.1⟩:bM)]:List bM)).bind λay=>some<|.nx ay):Option (Fl (List bM)<|Bool×List Part×List Net))) ([]:List bM)).bind λaz=>az.cs (λ(aa:List bM)=>(app 64 p0_1 ([(⟨aq,aa,([]:List aH)⟩:Net)]:List Net)).bind λa0=>(idx j 1).bind λa1=>(aZ N a1).bind λa2=>some (a2,p0_0,a0))<|λr=>some r)else some (false,p0_0,p0_1))
def eP(N:Nat)(p0:aH):Option (aQ×Int×Int):=
 bif decide ((p0.aN.length:Int)>2000000)then some ((⟨([]:List Part),([]:List Net)⟩:aQ),0,2)else((lp (λ(j:aH×List Part×List Net×Int)=>(bif(!j.1.fi (⟨[]⟩))then((dR N j.1<|⟨[10]⟩).bind λkX=>(bif(!kX.2.2)then some (j.2.1,j.2.2.1,true)else((de N j.2.1 j.2.2.1 kX.1).bind λo=>some (o.2.1,o.2.2,(!o.1)))).bind λaa=>bif aa.2.2 then some (.rt ((⟨([]:List Part),([]:List Net)⟩:aQ),j.2.2.2,10))else some (.nx (kX.2.1,aa.1,aa.2.1,wrap .i64<|j.2.2.2+1)))else(some<|.br (j.1,j.2.1,j.2.2.1,j.2.2.2)):Option (Fl (aH×List Part×List Net×Int)<|aQ×Int×Int))) N (p0,([]:List Part),([]:List Net),1)).bind λab=>ab.cs (λ(j:aH×List Part×List Net×Int)=>some ((⟨j.2.1,j.2.2.1⟩:aQ),0,0))<|λr=>some r)
def dH(N:Nat)(p0:List Part)(p1:List Part):Option Bool:=
 bif(p0.length:Int) != (p1.length:Int)then some false else((fU p0.length (λ(j:Nat)(o:Unit)=>((idx p0 (j:Int)).bind λaa=>(idx p1 (j:Int)).bind λab=>bif(!(decide<|aa=ab))then some (.rt false)else(some<|.nx ()):Option (Fl Unit Bool))) ()).bind λad=>ad.cs (λ(o:Unit)=>some true)<|λr=>some r)
def dY(N:Nat)(p0:List bM)(p1:List bM):Option Bool:=
 bif(p0.length:Int) != (p1.length:Int)then some false else((fU p0.length (λ(j:Nat)(o:Unit)=>((idx p0 (j:Int)).bind λaa=>(idx p1 (j:Int)).bind λab=>bif(!(decide<|aa=ab))then some (.rt false)else(some<|.nx ()):Option (Fl Unit Bool))) ()).bind λad=>ad.cs (λ(o:Unit)=>some true)<|λr=>some r)
def cK(N:Nat)(p0:List aH)(p1:List aH):Option Bool:=
 bif(p0.length:Int) != (p1.length:Int)then some false else((fU p0.length (λ(j:Nat)(o:Unit)=>((idx p0 (j:Int)).bind λaa=>(idx p1 (j:Int)).bind λab=>bif(!aa.fi ab)then some (.rt false)else(some<|.nx ()):Option (Fl Unit Bool))) ()).bind λad=>ad.cs (λ(o:Unit)=>some true)<|λr=>some r)
def cE(N:Nat)(p0 p1:aQ):Option Bool:=
 ((dH N p0.aO p1.aO).bind λaa=>bif(!aa)then some true else some ((p0.aM.length:Int) != (p1.aM.length:Int))).bind λab=>bif ab then some false else((fU p0.aM.length (λ(j:Nat)(ad:Unit)=>((idx p0.aM (j:Int)).bind λo=>((idx p1.aM (j:Int)).bind λae=>bif(!o.Name.fi ae.Name)then some true else((idx p1.aM (j:Int)).bind λaf=>(dY N o.bC af.bC).bind λag=>bif(!ag)then some true else((idx p1.aM (j:Int)).bind λah=>(cK N o.du ah.du).bind λai=>some<|!ai))).bind λaj=>bif aj then some (.rt false)else(some<|.nx ()):Option (Fl Unit Bool))) ()).bind λak=>ak.cs (λ(ad:Unit)=>some true)<|λr=>some r)
def bO(N:Nat)(p0:aQ):Option Bool:=
 (eI N p0).bind λj=>(cN N p0).bind λaa=>(bif(j.2 != aa.2)||(!j.1.fi aa.1)then some true else((da N).bind λab=>some<|!ab)).bind λad=>bif ad then some false else(bif j.2 != 0 then some true else((fU p0.aM.length (λ(ae:Nat)(af:Unit)=>((idx p0.aM (ae:Int)).bind λag=>bif decide ((ag.du.length:Int)>0)then some (.rt true)else(some<|.nx ()):Option (Fl Unit Bool))) ()).bind λah=>ah.cs (λ(af:Unit)=>(eP N j.1).bind λo=>(bif(o.2.2==0)&&(o.2.1==0)then((cE N p0 o.1).bind λai=>some ai)else some false).bind λaj=>some aj)<|λr=>some r))
def j5{R:Type}(m:Nat)(e:Nat->Option R):Option R:=(List.range m).findSome? e
theorem fp{R:Type}{m:Nat}{e:Nat->Option R}:j5 m e=none↔∀k,k<m->e k=none:=by
 simp[j5]
theorem iU{R:Type}{m:Nat}{e:Nat->Option R}{r:R}:j5 m e=some r↔∃k,k<m/\e k=some r/\∀j,j<k->e j=none:=by
 constructor
 ·intro h;obtain⟨l1,a,l2,hl,ha,hn⟩:=List.findSome?_eq_some_iff.1 h;have hlen:l1.length<m:=by have:=congrArg List.length hl;simp at this;omega
  have hget:∀i,i<l1.length->l1[i]? =some i:=λi hi=>by
   have:=congrArg (·[i]?) hl;simp only[fw hi,List.getElem?_range (show i<m by omega)]at this;exact this.symm
  have hat:a=l1.length:=by
   have:=congrArg (·[l1.length]?) hl;simp[List.getElem?_range hlen]at this;exact this.symm
  refine⟨a,by omega,ha,λj hj=>hn j ?_⟩;exact List.mem_of_getElem?<|hget j (by omega)
 ·rintro⟨k,hk,he,hn⟩;refine List.findSome?_eq_some_iff.2 ⟨List.range k,k,(List.range<|m - k - 1).map (· +(k+1)),?_,he,λx hx=>hn x<|List.mem_range.1 hx⟩;refine List.ext_getElem? λi=>?_
  by_cases h1:i<k
  ·rw[fw (by simpa using h1),List.getElem?_range (by omega),List.getElem?_range h1]
  ·rw[g4 (by simpa using h1),List.length_range]
   by_cases h2:i=k
   ·subst h2;simp[List.getElem?_range hk]
   ·obtain⟨d,rfl⟩:∃d,i=k+1+d:=⟨i -(k+1),by omega⟩;rw[show k+1+d - k=d+1 by omega,List.getElem?_cons_succ,List.getElem?_map]
    by_cases h3:k+1+d<m
    ·rw[List.getElem?_range h3,List.getElem?_range (by omega)];simp;omega
    ·rw[List.getElem?_eq_none (by simp;omega),List.getElem?_eq_none (by simp;omega)];rfl
section
variable {S R:Type}
def pD(o:Option R)(s:S):Fl S R:=match o with|some r=> .rt r|none=> .nx s
def pE(o:Option R)(s:S):Fo S R:=match o with|some r=> .rt r|none=> .go s
theorem m9{body:Nat->S->Option (Fl S R)}(F:Nat->S)(e:Nat->Option R)(m:Nat):∀(n k:Nat),k+n=m->
  (∀j,k<=j->j<m->(∀i,k<=i->i<j->e i=none)->body j (F j)=some (pD (e j)<|F<|j+1))->
  ∃o,lY body n k (F k)=some o/\((∀j,k<=j->j<m->e j=none)/\o = .go (F m)\/∃j r,k<=j/\j<m/\e j=some r/\(∀i,k<=i->i<j->e i=none)/\o = .rt r)
 | 0,k,hk,_=>⟨_,rfl, .inl ⟨λj h1 h2=>by omega,by rw[show k=m by omega]⟩⟩
 |n+1,k,hk,h=>by
  have hb:=h k (cz _) (by omega) (λi h1 h2=>by omega);unfold lY;rw[hb]
  cases hx:e k with
  |some r=>exact⟨_,rfl, .inr ⟨k,r,cz _,by omega,hx,λi h1 h2=>by omega,rfl⟩⟩
  |none=>
   obtain⟨o,ho,hc⟩:=m9 F e m n (k+1) (by omega) (λj h1 h2 h3=>h j (by omega) h2 λi h4 h5=>by
    by_cases h6:i=k
    ·subst h6;exact hx
    ·exact h3 i (by omega) h5)
   refine⟨o,ho,?_⟩
   rcases hc with⟨h1,h2⟩|⟨j,r,h1,h2,h3,h4,h5⟩
   ·refine .inl ⟨λj h3 h4=>?_,h2⟩
    by_cases h6:j=k
    ·subst h6;exact hx
    ·exact h1 j (by omega) h4
   ·refine .inr ⟨j,r,by omega,h2,h3,λi h6 h7=>?_,h5⟩
    by_cases h8:i=k
    ·subst h8;exact hx
    ·exact h4 i (by omega) h7
theorem oj{body:Nat->S->Option (Fl S R)}{m:Nat}{s:S}(F:Nat->S)(e:Nat->Option R)(hm:m<=4611686018427387904)(hs:F 0=s)
  (h:∀k,k<m->(∀i,i<k->e i=none)->body k (F k)=some (pD (e k)<|F<|k+1)):fU m body s=some (pE (j5 m e)<|F m):=by
 subst hs;unfold fU;rw[aK hm];obtain⟨o,ho,hc⟩:=m9 F e m m 0 (by omega)<|λj _ h2 h3=>h j h2 λi hi=>h3 i (Nat.zero_le _) hi
 rw[ho]
 rcases hc with⟨h1,h2⟩|⟨j,r,_,h2,h3,h4,h5⟩
 ·rw[fp.2 λk hk=>h1 k (Nat.zero_le _) hk,h2];rfl
 ·rw[iU.2 ⟨j,h2,h3,λi hi=>h4 i (Nat.zero_le _) hi⟩,h5];rfl
theorem lb{body:Nat->Unit->Option (Fl Unit R)}{m:Nat}(e:Nat->Option R)(hm:m<=4611686018427387904)
  (h:∀k,k<m->(∀i,i<k->e i=none)->body k ()=some (pD (e k) ())):fU m body ()=some (pE (j5 m e) ()):=
 oj (λ_=>()) e hm rfl h
theorem kG{body:S->Option (Fl S R)}(Inv:S->Prop)(μ:S->Nat)(Go:S->Prop)(Rt:R->Prop)
  (h:∀s,Inv s->∃fl,body s=some fl/\match fl with| .nx s'=>Inv s'/\μ s'<μ s| .br s'=>Go s'| .rt r=>Rt r):
  ∀(N:Nat)(s:S),Inv s->μ s<N->∃o,lp body N s=some o/\match o with| .go s'=>Go s'| .rt r=>Rt r
 | 0,s,_,hn=>by omega
 |N+1,s,hi,hn=>by
  obtain⟨fl,hb,hf⟩:=h s hi;unfold lp;rw[hb]
  cases fl with
  |nx s'=>exact kG Inv μ Go Rt h N s' hf.1 (by have:=hf.2;omega)
  |br s'=>exact⟨_,rfl,hf⟩
  |rt r=>exact⟨_,rfl,hf⟩
theorem na{body:Nat->S->Option (Fl S R)}(Inv:Nat->S->Prop)(Go:S->Prop)(Rt:R->Prop)(m:Nat)
  (h:∀k s,k<m->Inv k s->∃fl,body k s=some fl/\match fl with| .nx s'=>Inv (k+1) s'| .br s'=>Go s'| .rt r=>Rt r) (hg:∀s,Inv m s->Go s):
  ∀(n k:Nat)(s:S),k+n=m->Inv k s->∃o,lY body n k s=some o/\match o with| .go s'=>Go s'| .rt r=>Rt r
 | 0,k,s,hk,hi=>⟨_,rfl,hg s (by rw[<-hk];exact hi)⟩
 |n+1,k,s,hk,hi=>by
  obtain⟨fl,hb,hf⟩:=h k s (by omega) hi;unfold lY;rw[hb]
  cases fl with
  |nx s'=>exact na Inv Go Rt m h hg n (k+1) s' (by omega) hf
  |br s'=>exact⟨_,rfl,hf⟩
  |rt r=>exact⟨_,rfl,hf⟩
theorem qo{body:Nat->S->Option (Fl S R)}{m:Nat}{s:S}(Inv:Nat->S->Prop)(Go:S->Prop)(Rt:R->Prop)(hm:m<=4611686018427387904)(h0:Inv 0 s)
  (h:∀k s,k<m->Inv k s->∃fl,body k s=some fl/\match fl with| .nx s'=>Inv (k+1) s'| .br s'=>Go s'| .rt r=>Rt r) (hg:∀s,Inv m s->Go s):
  ∃o,fU m body s=some o/\match o with| .go s'=>Go s'| .rt r=>Rt r:=by
 unfold fU;rw[aK hm];exact na Inv Go Rt m h hg m 0 s (by omega) h0
theorem nb{body:Nat->S->Option S}(Inv:Nat->S->Prop)(m:Nat)(h:∀k s,k<m->Inv k s->∃s',body k s=some s'/\Inv (k+1) s'):
  ∀(n k:Nat)(s:S),k+n=m->Inv k s->∃s',oW body n k s=some s'/\Inv m s'
 | 0,k,s,hk,hi=>⟨_,rfl,by rw[<-hk];exact hi⟩
 |n+1,k,s,hk,hi=>by
  obtain⟨s',hb,hf⟩:=h k s (by omega) hi;unfold oW;rw[hb];exact nb Inv m h n (k+1) s' (by omega) hf
theorem qp{body:Nat->S->Option S}{m:Nat}{s:S}(Inv:Nat->S->Prop)(hm:m<=4611686018427387904)(h0:Inv 0 s)
  (h:∀k s,k<m->Inv k s->∃s',body k s=some s'/\Inv (k+1) s'):∃s',mK m body s=some s'/\Inv m s':=by
 unfold mK;rw[aK hm];exact nb Inv m h m 0 s (by omega) h0
end
section
variable {α β:Type}
theorem aJ(x:α)(f:α->Option β):(some x).bind f=f x:=rfl
theorem iV(l:List α)(k:Nat)(h:k<l.length):idx l ((k:Nat):Int)=some l[k]:=by
 unfold idx;rw[aK (by omega),eA,bD h]
theorem nW{l:List α}{k:Nat}{x:α}(h:l[k]? =some x):idx l ((k:Nat):Int)=some x:=by
 unfold idx;rw[aK (by omega),eA,h]
theorem pF(s:aH)(k:Nat)(h:k<s.aN.length):lZ s ((k:Nat):Int)=some s.aN[k]:=by
 unfold lZ;rw[aK (by omega),eA,bD h]
theorem pG(l:List α)(k:Nat)(h:k<=l.length):nz l 0 ((k:Nat):Int)=some (l.take k):=by
 unfold nz;rw[aK ⟨by omega,by omega,by omega⟩];simp only[Int.toNat_zero,List.drop_zero,Int.sub_zero,eA]
theorem pH(l:List α)(k:Nat)(h:k<=l.length):nz l ((k:Nat):Int) ((l.length:Nat):Int)=some (l.drop k):=by
 unfold nz;rw[aK ⟨by omega,by omega,by omega⟩];simp only[eA,Option.some.injEq];rw[eB];rw[ek];omega
theorem jM{b:Nat}{l ys:List α}(h:(l.length+ys.length)*b<=140737488355328):app b l ys=some (l++ys):=by unfold app;rw[aK h]
theorem qq{b:Nat}(z:α){n:Nat}(h:n*b<=140737488355328):mk b z ((n:Nat):Int)=some (List.replicate n z):=by
 unfold mk;have e:((n:Nat):Int)*((b:Nat):Int)=((n*b:Nat):Int):=(Int.natCast_mul n b).symm;rw[e];generalize n*b=q at h ⊢;rw[aK ⟨by omega,by omega⟩,eA]
end
theorem aH.ext'{a b:aH}(h:a.aN=b.aN):a=b:=by cases a;cases b;simp at h;rw[h]
theorem mw{a b:aH}:a.fi b=true↔a=b:=by
 unfold aH.fi;rw[beq_iff_eq];exact⟨aH.ext',λh=>by rw[h]⟩
theorem jN(a b:aH):a.fi b=decide (a=b):=by rw[Bool.eq_iff_iff,mw];simp
theorem pI(a:aH):a.fi a=true:=mw.2 rfl
theorem kj:∀(a:List UInt8),Op.bytesLess a a=false
 | []=>rfl
 |a::l=>by
  unfold Op.bytesLess;rw[kj l];simp
def aH.lt(a b:aH):Prop:=a.lD b=true
theorem aH.lt_irrefl(a:aH):¬aH.lt a a:=by unfold aH.lt aH.lD;rw[kj];decide
theorem aH.qI{a b:aH}(h:aH.lt a b):a≠b:=λe=>by subst e;exact aH.lt_irrefl a h
class Bk (α:Type)where
 bk:α->Nat
 pos:∀x,1<=bk x
def bk{α:Type}[Bk α](x:α):Nat:=Bk.bk x
theorem nX{α:Type}[Bk α](x:α):1<=bk x:=Bk.pos x
instance:Bk aH:=⟨λs=>s.aN.length+1,λ_=>by omega⟩
instance:Bk Int:=⟨λ_=>1,λ_=>by omega⟩
instance:Bk Bool:=⟨λ_=>1,λ_=>by omega⟩
instance {α:Type} [Bk α]:Bk (List α):=⟨λl=>(l.map bk).sum+1,λ_=>by omega⟩
theorem nY{α:Type}[Bk α]:bk ([]:List α)=1:=rfl
theorem gx{α:Type}[Bk α](x:α)(l:List α):bk (x::l)=bk x+bk l:=by
 show(List.map bk<|x::l).sum+1=bk x+((List.map bk l).sum+1);simp;omega
theorem mx{α:Type}[Bk α]:∀{l:List α}{x:α},x∈l->bk x+1<=bk l
 |y::l,x,h=>by
  rw[gx]
  rcases ej.1 h with h|h
  ·subst h;have:=nX l;omega
  ·have:=mx h;omega
theorem gi{α:Type}[Bk α]:∀(l:List α),l.length+1<=bk l
 | []=>by rw[nY];simp
 |x::l=>by rw[gx,bL];have:=gi l;have:=nX x;omega
theorem gJ(s:aH):bk s=s.aN.length+1:=rfl
theorem jO{α:Type}[Bk α]:∀(l:List α)(k:Nat),bk (l.take k)<=bk l
 | [],k=>by simp
 |x::l,0=>by rw[List.take_zero,nY];exact nX _
 |x::l,k+1=>by rw[List.take_succ_cons,gx,gx];have:=jO l k;omega
section
variable {α R:Type}
theorem oF{l:List α}{e:Nat->Option R}(f:α->Option R)(h:∀k x,l[k]? =some x->e k=f x):j5 l.length e=l.findSome? f:=by
 cases hx:j5 l.length e with
 |none=>
  refine(List.findSome?_eq_none_iff.2 λx hm=>?_).symm;obtain⟨k,hk⟩:=List.getElem?_of_mem hm;rw[<-h k x hk];exact fp.1 hx k (cA.1 hk).1
 |some r=>
  obtain⟨k,hk,he,hn⟩:=iU.1 hx;refine(List.findSome?_eq_some_iff.2 ⟨l.take k,l[k],l.drop<|k+1,?_,?_,λy hy=>?_⟩).symm
  ·rw[<-iQ hk,List.take_append_drop]
  ·rw[<-h k l[k] (bD hk)];exact he
  ·obtain⟨j,hj⟩:=List.getElem?_of_mem hy;have hjk:j<k:=by have:=(cA.1 hj).1;rw[c9]at this;omega
   rw[List.getElem?_take_of_lt hjk]at hj;rw[<-h j y hj];exact hn j hjk
theorem my(l:List α)(p:α->Bool)(r:R):l.findSome? (λx=>if p x=true then some r else none)=if l.any p=true then some r else none:=by
 induction l with
 |nil=>simp
 |cons x l ih=>
  rw[List.findSome?_cons,List.any_cons]
  cases h:p x <;> simp[ih]
theorem pJ{l:List α}{body:Nat->Unit->Option (Fl Unit R)}(f:α->Option R)(hl:l.length<=4611686018427387904)
  (h:∀k x,l[k]? =some x->body k ()=some (pD (f x) ())):fU l.length body ()=some (pE (l.findSome? f) ()):=by
 have h2:=lb (body:=body) (m:=l.length) (λk=>(l[k]?).bind f) hl (λk hk _=>by
  rw[h k l[k] (bD hk),bD hk];rfl)
 rw[h2,oF f (λk x hx=>by rw[hx];rfl)]
theorem qs{l:List α}{body:Nat->Unit->Option (Fl Unit R)}(p:α->Bool)(r:R)(hl:l.length<=4611686018427387904)
  (h:∀k x,l[k]? =some x->body k ()=some (if p x=true then .rt r else .nx ())):fU l.length body ()=some (if l.any p=true then .rt r else .go ()):=by
 rw[pJ (λx=>if p x=true then some r else none) hl (λk x hx=>by rw[h k x hx];cases p x <;> rfl),my]
 cases l.any p <;> rfl
end
section
variable {α β:Type}
def t4(l:List α)(p:α->Bool):Int:=match l.findIdx? p with|some k=>((k:Nat):Int)|none=> -1
def nZ [DecidableEq α](p0 p1:List α):Option Bool:=
 bif((p0.length:Nat):Int) != ((p1.length:Nat):Int)then some false else((fU p0.length (λ(k1:Nat)(_:Unit)=>((idx p0 ((k1:Nat):Int)).bind λx13=>(idx p1 ((k1:Nat):Int)).bind λx16=>bif(!(decide<|x13=x16))then some (.rt false)else(some<|.nx ()):Option (Fl Unit Bool))) ()).bind λo23=>o23.cs (λ(_:Unit)=>some true)<|λr=>some r)
theorem j6 [DecidableEq α]{l m:List α}(hl:l.length<=4611686018427387904):nZ l m=some (decide<|l=m):=by
 unfold nZ
 by_cases h:l.length=m.length
 ·have e:(((l.length:Nat):Int) != ((m.length:Nat):Int))=false:=by rw[h];simp
  rw[e,cw]
  rw[lb (λk=>if l[k]? =m[k]? then none else some false) hl (λk hk _=>by
   rw[iV l k hk,aJ,iV m k (by omega),aJ,bD hk,bD (by omega:k<m.length)]
   by_cases hx:l[k]=m[k] <;> simp[pD,hx]),aJ]
  by_cases hx:l=m
  ·subst hx;rw[fp.2<|λk _=>aK rfl];simp[pE,Fo.cs]
  ·have:∃r,j5 l.length (λk=>if l[k]? =m[k]? then none else some false)=some r:=by
    cases hf:j5 l.length (λk=>if l[k]? =m[k]? then none else some false)with
    |some r=>exact⟨r,rfl⟩
    |none=>
     exfalso;refine hx<|List.ext_getElem? λi=>?_
     by_cases hi:i<l.length
     ·have:=fp.1 hf i hi
      by_cases h6:l[i]? =m[i]?
      ·exact h6
      ·rw[aP h6]at this;cases this
     ·rw[List.getElem?_eq_none (by omega),List.getElem?_eq_none (by omega)]
   obtain⟨r,hr⟩:=this;have hr2:r=false:=by
    obtain⟨k,_,hk,_⟩:=iU.1 hr;split at hk
    ·cases hk
    ·injection hk with hk;exact hk.symm
   rw[hr,hr2];simp[pE,Fo.cs,hx]
 ·have e:(((l.length:Nat):Int) != ((m.length:Nat):Int))=true:=by simp;omega
  rw[e,ei,cH<|λh'=>h (by rw[h'])]
def j7(key:α->aH)(l:List α):Prop:=∀(i j:Nat)(x y:α),i<j->l[i]? =some x->l[j]? =some y->aH.lt (key x) (key y)
theorem j7.inj{key:α->aH}{l:List α}(h:j7 key l){i j:Nat}{x y:α}(hx:l[i]? =some x)(hy:l[j]? =some y)(e:key x=key y):i=j:=by
 rcases Nat.lt_trichotomy i j with h1|h1|h1
 ·exact absurd e<|aH.qI<|h i j x y h1 hx hy
 ·exact h1
 ·exact absurd e.symm<|aH.qI<|h j i y x h1 hy hx
def nat?(key:α->aH)(l:List α)(s:aH):Int:=t4 l<|λx=>(key x).fi s
def pK(key:α->aH)(l:List α)(k:Nat):Bool:=match l[k]?,l[k - 1]? with|some x,some y=>decide (0<k)&&((key x).lD (key y)||(key x).fi (key y))|_,_=>false
end
end Go.Gk
namespace Go.Gk
open Go IntKind Go.ChangeShapes Go.WideShapes Go.RowKit
structure UB (ub:(H:Type)->DataW H->Nat) (ua:(H:Type)->List (DataW H)->Nat):Prop where
 str:∀(H:Type)(b:List UInt8),ub H (.lit<|.string b)=b.length+1
 pos:∀(H:Type)(d:DataW H),1<=ub H d
 sl:∀(H:Type)(e s:List (DataW H)),ub H (.slice e s)=ua H e+ua H s+1
 ag:∀(H:Type)(l:List (DataW H)),ub H (.agg l)=ua H l+1
 nil:∀(H:Type),ua H []=0
 cons:∀(H:Type)(x:DataW H)(l:List (DataW H)),ua H (x::l)=ub H x+ua H l
def Hw(w:World):bK:=λb=>w.heap[b]?
structure eY (ub:(H:Type)->DataW H->Nat) (P:Program) (T:TypeId) (α:Type) [GT α] [Bk α]:Prop where
 trod:∀{H:Type}{enc:TypeId×Value->H}{w:World}{base:Nat}{spare:Nat->Bool}{held:Bool}{fuel:Nat}{cs:List Value}{d:DataW H×List MemPlace},
  DataW.trod enc P w base spare held fuel T cs=some d->∃x:α,GT.ok (Hw w) cs x/\bk x<=ub H d.1
 tp:∀{w:World}{r:Reach}{base:Nat}{v:Value},Value.okWide P w r base T v->v=ll α v.cells.toList
section
variable {ub:(H:Type)->DataW H->Nat}{ua:(H:Type)->List (DataW H)->Nat}{P:Program}{T e:TypeId}
theorem oG(u:UB ub ua)(ht:P.underlying T=some .string):eY ub P T aH where
 trod:=λh=>by
  obtain⟨s,rfl,rfl,_⟩:=DataW.trod_string ht h;refine⟨⟨s.data.toList⟩,?_,?_⟩
  ·show [Value.string s]= [Gk.str ⟨s.data.toList⟩]
   cases s;rfl
  ·rw[u.str];exact cz _
 tp:=λh=>by obtain⟨n,rfl⟩:=okWide_string ht h;rfl
theorem kl{α:Type}{R:Nat->α->Prop}:∀(n:Nat),(∀i,i<n->∃x,R i x)->∃l:List α,l.length=n/\∀i x,l[i]? =some x->R i x
 | 0,_=>⟨[],rfl,λi x h=>by simp at h⟩
 |n+1,h=>by
  obtain⟨l,h1,h2⟩:=kl n<|λi hi=>h i (by omega)
  obtain⟨x,hx⟩:=h n (by omega);refine⟨l++[x],by simp[h1],λi y hy=>?_⟩
  by_cases hi:i<n
  ·rw[fw (by omega)]at hy;exact h2 i y hy
  ·have:=(cA.1 hy).1;rw[bG]at this;have:i=n:=by simp at this;omega
   subst this;rw[g4 (by omega),h1]at hy;simp at hy;subst hy;exact hx
theorem lQ{H α:Type}[Bk α](u:UB ub ua):∀{l:List α}{es:List (DataW H×List MemPlace)},l.length=es.length->
  (∀(i:Nat)(x:α)(y:DataW H×List MemPlace),l[i]? =some x->es[i]? =some y->bk x<=ub H y.1)->bk l<=ua H (es.map (·.1))+1
 | [],[],_,_=>by rw[nY];omega
 |x::l,y::es,hl,h=>by
  have h1:=h 0 x y rfl rfl;have h2:=lQ (H:=H) u (l:=l) (es:=es) (by simpa using hl)<|λi x y hx hy=>h (i+1) x y (by simpa using hx) (by simpa using hy)
  rw[gx,List.map_cons,u.cons];omega
theorem nc{w:World}{base:Nat}{a:Addr}{n:Nat}{cs:List Value}(h:w.cells? base a n=some cs):At (Hw w) a cs:=by
 intro j v hv;obtain⟨_,hlen,hc⟩:=World.cells?_some h;have hj:=(cA.1 hv).1;have h2:=hc j (by omega);rw[hv]at h2;unfold jC Hw;unfold World.cell? at h2;exact h2
theorem hQ{α:Type}[GT α][Bk α](u:UB ub ua)(he:eY ub P e α)(ht:P.underlying T=some (.slice e):=by kernel_rfl)(hc:P.cellsOf e=GT.sz α:=by kernel_rfl):eY ub P T (List α)where
 trod:=λ{H enc w base spare held fuel cs d}h=>by
  rcases DataW.trod_slice ht h with⟨rfl,rfl⟩|⟨a,len,cap,elems,rest,n,_,rfl,rfl,_,hlc,hcm,hlen,hel,_⟩
  ·exact⟨[],⟨_,rfl,none,0,0,rfl,rfl,cz _,by simp[maxLen],λi x hx=>by simp at hx⟩,u.pos _ _⟩
  ·have each:∀i,i<len->∃x:α,(∃c y,GT.ok (Hw w) c x/\At (Hw w) (a.add<|i*GT.sz α) c/\elems[i]? =some y/\bk x<=ub H y.1):=by
    intro i hi;have h1:=hel i hi;rw[bD (by omega:i<elems.length),Option.bind_eq_some_iff]at h1;obtain⟨c,h2,h3⟩:=h1;obtain⟨x,h4,h5⟩:=he.trod h3;refine⟨x,c,_,h4,?_,bD (by omega),h5⟩;rw[hc]at h2;exact nc h2
   obtain⟨l,hl,hr⟩:=kl len each;refine⟨l,⟨_,rfl,some a,len,cap,rfl,hl.symm,hlc,hcm,λi x hx=>?_⟩,?_⟩
   ·obtain⟨c,y,h1,h2,_⟩:=hr i x hx;exact⟨a,c,rfl,h1,h2⟩
   ·have:=lQ (H:=H) u (l:=l) (es:=elems) (by omega) (λi x y hx hy=>by
     obtain⟨c,y',_,_,h3,h4⟩:=hr i x hx
     rw[hy]at h3;injection h3 with h3;subst h3;exact h4)
    rw[u.sl];omega
 tp:=λh=>by obtain⟨a,n,c,rfl⟩:=okWide_slice ht h;rfl
def om(ub:(H:Type)->DataW H->Nat)(ua:(H:Type)->List (DataW H)->Nat)(P:Program)(off:Nat)(fs:List Field)(β:Type)[GT β](m:β->Nat):Prop:=
 ∀{H:Type}{enc:TypeId×Value->H}{w:World}{base:Nat}{spare:Nat->Bool}{held:Bool}{n:Nat}{cs:List Value}{ys:List (DataW H×List MemPlace)},
  (∀(i:Nat)(f:Field),fs[i]? =some f->DataW.trod enc P w base spare held n f.type ((cs.drop f.offset).take<|P.cellsOf f.type)=ys[i]?)->ys.length=fs.length->
  cs.length=off+GT.sz β->∃x:β,GT.ok (Hw w) (cs.drop off) x/\m x<=ua H (ys.map (·.1))
theorem iW{β:Type}[GT β][Bk β]{off:Nat}{f:Field}(u:UB ub ua)(h:eY ub P f.type β)(ho:f.offset=off)(hc:P.cellsOf f.type=GT.sz β:=by kernel_rfl):om ub ua P off [f] β bk:=by
 intro H enc w base spare held n cs ys hf hl hcs
 match ys,hl with
 | [y],_=>
  have h1:=hf 0 f rfl;rw[ho,hc,eB (by rw[ek];omega)]at h1;obtain⟨x,h2,h3⟩:=h.trod (d:=y) h1;exact⟨x,h2,by rw[List.map_cons,u.cons];omega⟩
theorem gj{α β:Type}[GT α][GT β][Bk α]{off off':Nat}{f:Field}{fs:List Field}{m:β->Nat}(u:UB ub ua)(h:eY ub P f.type α)(ho:f.offset=off)(hoff:off'=off+GT.sz α)(hr:om ub ua P off' fs β m)(hc:P.cellsOf f.type=GT.sz α:=by kernel_rfl):om ub ua P off (f::fs) (α×β) (λx=>bk x.1+m x.2):=by
 intro H enc w base spare held n cs ys hf hl hcs;have hsz:GT.sz (α×β)=GT.sz α+GT.sz β:=rfl
 match ys,hl with
 |y::ys,hl=>
  have h1:=hf 0 f rfl;rw[ho,hc]at h1;obtain⟨x,h2,h3⟩:=h.trod (d:=y) h1;obtain⟨x',h4,h5⟩:=hr (n:=n) (cs:=cs) (ys:=ys) (λi g hg=>hf (i+1) g hg) (by simpa using hl) (by omega);refine⟨(x,x'),⟨_,_,?_,h2,h4⟩,?_⟩
  ·rw[hoff,<-List.drop_drop,List.take_append_drop]
  ·rw[List.map_cons,u.cons];show bk x+m x'<=_;omega
theorem fQ{γ β:Type}[GT β][Bk γ]{fs:Array Field}{m:β->Nat}(u:UB ub ua)(f:γ->β)(g:β->γ)(hfg:∀b,f (g b)=b)(ht:P.underlying T=some (.struct fs))(h:om ub ua P 0 fs.toList β m)(hm:∀b,bk (g b)<=m b+1)(hc:P.cellsOf T=GT.sz β:=by kernel_rfl): @eY ub P T γ (GT.via f) _:=
 @eY.mk ub P T γ (GT.via f) _
  (λ{H enc w base spare held fuel cs d}hd=>by
   obtain⟨xs,n,_,rfl,hl,hlen,hf⟩:=DataW.trod_struct ht hd;obtain⟨b,h1,h2⟩:=h (n:=n) (cs:=cs) (ys:=xs) (λi g hg=>hf i g (by rw[<-Array.getElem?_toList];exact hg)) (by rw[hlen];simp) (by omega);refine⟨g b,?_,?_⟩
   ·show GT.ok (Hw w) cs (f<|g b);rw[hfg];exact h1
   ·rw[u.ag];have:=hm b;omega)
  (λhv=>by
   obtain⟨cs,rfl,_⟩:=okWide_struct ht hv
   cases cs;rfl)
theorem eY.arg{H:Type}{enc:TypeId×Value->H}{w:World}{base:Nat}{spare:Nat->Bool}{held:Bool}{r:Reach}{b0:Nat}{v:Value}{d:DataW H}{ps:List MemPlace}{α:Type}[GT α][Bk α](o:eY ub P T α)
  (hv:Value.okWide P w r b0 T v) (hd:DataW.Trod enc P w base spare held T v d ps):∃x:α,jl (Hw w) v x/\bk x<=ub H d:=by
 obtain⟨fuel,hf⟩:=hd;obtain⟨x,h1,h2⟩:=o.trod hf;exact⟨x,⟨_,o.tp hv,h1⟩,h2⟩
end
theorem Calls.fin{P:Program}{f:FuncId}{args:Array Value}{w:World}{R Q:Value->World->Prop}(h:Calls P f args w (dK R))(k:∀v w',R v w'->Q v w'):
  Calls P f args w (λe W'=>∃v,e = .returned v/\Q v W'):=Calls.mono h λ_ w'⟨v,e,hr⟩=>⟨v,e,k v w' hr⟩
def oH(W:World):HP:=⟨λM h=>hle (Hw W) M/\h=gM,λk⟨a,b⟩=>⟨oq a k,b⟩⟩
theorem Holds.begin(W:World):Holds W W [oH W]:=by
 refine⟨Hw W,λ_=>gM,⟨rfl,rfl,rfl,cz _,λb o h=>h,λi Pr hq=>?_,λ_ _ _ _ h=>(by cases h),λ_ _ _ _ h=>(by cases h),λ_ _ _ _ _ _ _ h=>(by cases h)⟩⟩
 match i,hq with
 | 0,hq=>simp at hq;subst hq;exact⟨oU _,rfl⟩
theorem Holds.rW{α:Type}[GT α]{W:World}{V:List HP}{v:Value}{x:α}(h:Holds W W (V++[oH W]))(hv:Gk.jl (Hw W) v x):Holds W W (rd v x::(V++[oH W])):=
 h.lV λM hs g=>by
  have h1:=(g.sat V.length (oH W) (by simp)).1;exact⟨hv.mono h1,rfl⟩
theorem Holds.kept{E W w:World}{V:List HP}(h:Holds E w (V++[oH W]))(he:E=W):Below W.heap.size W w:=by
 subst he;obtain⟨M,hs,g⟩:=h;have h1:=(g.sat V.length (oH E) (by simp)).1;have h2:∀k o,E.heap[k]? =some o->w.heap[k]? =some o:=λk o ho=>g.im k o<|h1 k o ho
 refine⟨g.os,g.tape,g.out,?_,λk hk=>?_⟩
 ·by_cases h0:E.heap.size=0
  ·omega
  ·have h3:=h2 (E.heap.size - 1) _<|fG (by omega)
   have:=(Array.getElem?_eq_some_iff.1 h3).1;omega
 ·rw[fG hk];exact h2 k _<|fG hk
section
variable {H:Type}{enc:TypeId×Value->H}{P:Program}
theorem oI{f:Func}{s:ChangeSpec}{apart fresh handsOn again:Bool}{W W':World}{args:Array Value}{v:Value}{ds gs:List (DataW H)}{before pa pv:List MemPlace}
  (hW:DataW.Whole enc P f.params.toList s.vars apart W args.toList ds gs before)
  (hres:∀(b:Nat)(sp:Nat->Bool)(hd:Bool),DataW.TrodAll enc P W' b sp hd f.resultTypes.toList (v.resultList f.resultTypes.size) (s.fn H<|ds++gs).results [])
  (hargs:∀sp:Nat->Bool,(∀p∈before,sp p.block=true)->DataW.TrodAll enc P W' 0 sp true f.params.toList args.toList (s.fn H<|ds++gs).args pa)
  (hvars:∀sp:Nat->Bool,(∀p∈before,sp p.block=true)->DataW.TrodVars enc P W' sp s.vars (s.fn H<|ds++gs).vars pv)
  (hps:before=pa++pv) (hb:Below W.heap.size W W')
  (hok:∀(j:Nat)(t:TypeId)(r:Value),f.resultTypes[j]? =some t->(v.resultList f.resultTypes.size)[j]? =some r->Value.okWide P W' .any 0 t r):
  s.post enc P f apart fresh handsOn again W args v W':=by
 have hlt:∀p∈before,p.block<W.heap.size:=λp hp=>hW.lt p hp;have hold:∀p∈before,(λb=>decide<|b<W.heap.size) p.block=true:=λp hp=>by simpa using hlt p hp
 refine⟨ds,gs,before,[],pa,pv,hW,hres _ _ _,hargs _ hold,hvars _ hold,World.keptBut_mono (λp hp=>⟨hp,?_⟩)<|hb.frame (· ∈before),λ_=>?_⟩
 ·rw[hps,gC]at hp;exact Or.inr hp
 ·obtain⟨_,_,_,_,_,hz,hn⟩:=hW;refine⟨hok,_,_,([]++pa)++pv,⟨[]++pa,pv,trodAll_append (hargs _<|λ_ _=>rfl)<|hres _ _ _,hvars _<|λ_ _=>rfl,rfl,?_,?_⟩,?_⟩
  ·intro b off hp;have hin:MemPlace.cell b off∈before:=by rw[hps];simpa using hp
   rw[hb.frozen<|hlt _ hin];exact hz b off hin
  ·intro ha;have:=hn ha;rw[hps]at this;simpa using this
  ·intro p hp _;rw[hps];simpa using hp
theorem jk{W W':World}(hl:laidOutB P=true)(hb:Below W.heap.size W W'){sp:Nat->Bool}:∀{ts:List TypeId}{vs:List Value}{ds:List (DataW H)}{ps:List MemPlace},
  (∀t∈ts,P.readableRec t=true/\t<P.types.size)->DataW.TrodAll enc P W 0 (λ_=>true) true ts vs ds ps->(∀p∈ps,p.block<W.heap.size)->(∀p∈ps,sp p.block=true)->DataW.TrodAll enc P W' 0 sp true ts vs ds ps
 | [],_,_,_,_,h,_,_=>by
  obtain⟨rfl,rfl,rfl⟩:=trodAll_nil h;rfl
 |t::ts,_,_,_,ht,h,hlt,hsp=>by
  obtain⟨v,vs,d,ds,p,q,rfl,rfl,rfl,h1,h2⟩:=trodAll_cons h;refine⟨p,q,?_,jk hl hb (λt h=>ht t (by simp[h])) h2 (λx hx=>hlt x (by simp[hx]))<|λx hx=>hsp x (by simp[hx]),rfl⟩;exact WideElems.Trod_stays hl (ht t (by simp)).1 (ht t (by simp)).2 h1 (λx hx=>hb.same<|hlt x (by simp[hx]))<|λx hx=>hsp x (by simp[hx])
end
end Go.Gk
namespace Go.Gk
open Go IntKind
instance:Bk Part:=⟨λx=>bk x.Name+bk x.cI+1,λ_=>by omega⟩
theorem mz(x:Part):bk x=bk x.Name+bk x.cI+1:=rfl
instance:Bk bM:=⟨λx=>bk x.Part+bk x.bM+1,λ_=>by omega⟩
theorem n0(x:bM):bk x=bk x.Part+bk x.bM+1:=rfl
instance:Bk Net:=⟨λx=>bk x.Name+bk x.bC+bk x.du+1,λ_=>by omega⟩
theorem n1(x:Net):bk x=bk x.Name+bk x.bC+bk x.du+1:=rfl
instance:Bk aQ:=⟨λx=>bk x.aO+bk x.aM+1,λ_=>by omega⟩
theorem eu(x:aQ):bk x=bk x.aO+bk x.aM+1:=rfl
instance:Bk aS:=⟨λx=>bk x.Name+bk x.Kind+bk x.cy+1,λ_=>by omega⟩
instance:Bk aL:=⟨λx=>bk x.Name+bk x.bC+1,λ_=>by omega⟩
section
variable {N:Nat}
def tA(c:UInt8):Bool:=
 (((decide (((c.toNat:Nat):Int)<65)||decide (((c.toNat:Nat):Int)>90))&&(decide (((c.toNat:Nat):Int)<97)||decide (((c.toNat:Nat):Int)>122)))&&(decide (((c.toNat:Nat):Int)<48)||decide (((c.toNat:Nat):Int)>57)))&&decide (Lib.indexByte [95,43,45,35] c<0)
def isWord(s:aH):Bool:= !s.aN.any tA&&(decide (1<=s.aN.length)&&decide (s.aN.length<=40))
theorem mA(s:aH)(c:UInt8):cZ N s ((c.toNat:Nat):Int)=some (Lib.indexByte s.aN c):=by
 show some (Lib.indexByte s.aN (Int.toNat ((c.toNat:Nat):Int)).toUInt8)=_;simp
def cutAt(c:UInt8):List UInt8->List (List UInt8)
 | []=>[[]]
 |b::l=>if b==c then []::cutAt c l else match cutAt c l with|h::t=>(b::h)::t| []=>[[b]]
theorem pL(c:UInt8):∀l,cutAt c l≠[]
 | []=>by simp[cutAt]
 |b::l=>by unfold cutAt;split <;> simp;split <;> simp
theorem ia{c:UInt8}:∀{l:List UInt8},c∉l->cutAt c l= [l]
 | [],_=>rfl
 |b::l,h=>by
  unfold cutAt;have hb:(b==c)=false:=by rw[beq_eq_false_iff_ne];rintro rfl;exact h (by simp)
  rw[hb,ia<|λh'=>h (by simp[h'])];rfl
theorem g0{c:UInt8}:∀{a b:List UInt8},c∉a->cutAt c (a++c::b)=a::cutAt c b
 | [],b,_=>by rw[List.nil_append];show(if(c==c)=true then _ else _)=_;simp
 |x::a,b,h=>by
  have hb:(x==c)=false:=by rw[beq_eq_false_iff_ne];rintro rfl;exact h (by simp)
  have ih:=g0 (c:=c) (a:=a) (b:=b)<|λh'=>h (by simp[h'])
  show(if(x==c)=true then []::cutAt c (a++c::b)else match cutAt c (a++c::b)with|h::t=>(x::h)::t| []=>[[x]])=_;rw[hb,ih];rfl
theorem fc:∀(l:List UInt8)(c:UInt8),(Lib.indexByte l c = -1/\c∉l)\/∃a b,l=a++c::b/\c∉a/\Lib.indexByte l c=((a.length:Nat):Int)
 | [],c=> .inl ⟨rfl,by simp⟩
 |x::l,c=>by
  unfold Lib.indexByte
  by_cases hx:x=c
  ·subst hx;exact .inr ⟨[],l,rfl,by simp,by simp⟩
  ·have hb:(x==c)=false:=by rw[beq_eq_false_iff_ne];exact hx
   rcases fc l c with⟨h1,h2⟩|⟨a,b,h1,h2,h3⟩
   ·left;rw[hb,h1];refine⟨by simp,?_⟩;simp[h2];exact λh=>hx h.symm
   ·right;refine⟨x::a,b,by rw[h1];rfl,by grind,?_⟩;rw[hb,h3];have:(((a.length:Nat):Int)== -1)=false:=by rw[beq_eq_false_iff_ne];omega
    rw[this];simp
theorem nd(s:aH)(c:UInt8):c8 N s ⟨[c]⟩=some (Lib.indexByte s.aN c):=by
 show(ct N s ⟨[c]⟩).bind _=_;unfold ct
 by_cases h:aH.fi ⟨[c]⟩ s=true
 ·grind [mw,Lib.indexByte]
 ·rw[Bool.not_eq_true]at h;rw[h];show((cD N s ((c.toNat:Nat):Int)).bind _).bind _=_;have:=mA (N:=N) s c
  grind [cZ]
theorem pM(s:aH)(c:UInt8):ee N s ⟨[c]⟩=some ((s.aN.count c:Nat):Int):=by
 unfold ee;show(some _:Option Int)=_;simp[Lib.countByte]
theorem lR{s:aH}{k:Nat}(h:k<=s.aN.length):g6 s 0 ((k:Nat):Int)=some ⟨s.aN.take k⟩:=by
 unfold g6;grind
theorem lS{s:aH}{k:Nat}(h:k<=s.aN.length):g6 s ((k:Nat):Int) ((s.aN.length:Nat):Int)=some ⟨s.aN.drop k⟩:=by
 grind [g6,eA,eB,ek]
def ew(s:aH)(c:UInt8):List aH:=(cutAt c s.aN).map aH.mk
theorem pN{s:aH}(c:UInt8)(h:s.aN.length<=2097152)(hN:4194304<=N):dy N s ⟨[c]⟩=some (ew s c):=by
 have hc:s.aN.count c<=s.aN.length:=List.count_le_length;unfold dy dX;rw[show((-1:Int)==0)=false by decide,cw,show aH.fi ⟨[c]⟩ ⟨[]⟩=false by simp[aH.fi],cw,pM,aJ];rw[eH (x:=((s.aN.count c:Nat):Int)+1) (by omega) (by omega),show decide ((-1:Int)<0)=true by decide,ei,aJ];rw[eH (x:=((s.aN.length:Nat):Int)+1) (by omega) (by omega)];have e1:(if((s.aN.length:Nat):Int)+1<((s.aN.count c:Nat):Int)+1 then((s.aN.length:Nat):Int)+1 else((s.aN.count c:Nat):Int)+1)=((s.aN.count c+1:Nat):Int):=by
  omega
 rw[e1,qq _ (by omega),aJ];rw[eH (x:=((s.aN.count c+1:Nat):Int) - 1) (by omega) (by omega)];have key:=kG (S:=aH×List aH×Int) (R:=Empty) (body:=(λ(s7:aH×List aH×Int)=>(bif decide (s7.2.2<((s.aN.count c+1:Nat):Int) - 1)then((c8 N s7.1 ⟨[c]⟩).bind λx23=>bif decide (x23<0)then some (.br (s7.1,s7.2.1,s7.2.2))else((g6 s7.1 0<|wrap .i64<|x23+0).bind λx24=>(idx s7.2.1 s7.2.2).bind λx25=>(g6 s7.1 (wrap .i64<|x23+(((⟨[c]⟩:aH).aN.length:Nat):Int)) ((s7.1.aN.length:Nat):Int)).bind λx27=>some<|.nx (x27,s7.2.1.set (Int.toNat s7.2.2) x24,wrap .i64<|s7.2.2+1)))else(some<|.br (s7.1,s7.2.1,s7.2.2)):Option (Fl (aH×List aH×Int) Empty))))
  (λst=>∃ws:List (List UInt8),st.2.2=((ws.length:Nat):Int)/\cutAt c s.aN=ws++cutAt c st.1.aN/\ws.length+st.1.aN.count c=s.aN.count c/\st.1.aN.length<=s.aN.length/\st.2.1=ws.map aH.mk++List.replicate (s.aN.count c+1 - ws.length) ⟨[]⟩)
  (λst=>s.aN.count c+1 - st.2.2.toNat)
  (λst=>∃ws:List (List UInt8),st.2.2=((ws.length:Nat):Int)/\cutAt c s.aN=ws++[st.1.aN]/\ws.length=s.aN.count c/\st.2.1=ws.map aH.mk++[⟨[]⟩])
  (λ_=>True) (by
   rintro⟨r,arr,i⟩⟨ws,h1,h2,h3,h4,h5⟩;simp only at h1 h2 h3 h4 h5;subst h1 h5
   by_cases hlt:ws.length<s.aN.count c
   ·have hd:decide (((ws.length:Nat):Int)<((s.aN.count c+1:Nat):Int) - 1)=true:=by grind
    simp only[hd,ei,nd,aJ]
    rcases fc r.aN c with⟨_,hn⟩|⟨a,b,hr,ha,hi⟩
    ·grind
    ·have hrl:r.aN.length=a.length+(b.length+1):=by rw[hr];simp
     rw[hi,cH (by omega),cw];rw[show((a.length:Nat):Int)+0=((a.length:Nat):Int)by omega,eH (x:=((a.length:Nat):Int)) (by omega) (by omega),lR (by omega),aJ];rw[iV _ _ (by simp;omega),aJ];rw[show((a.length:Nat):Int)+(((⟨[c]⟩:aH).aN.length:Nat):Int)=((a.length+1:Nat):Int)by simp,eH (x:=((a.length+1:Nat):Int)) (by omega) (by omega),lS (by omega),aJ];refine⟨_,rfl,⟨ws++[a],?_,?_,?_,?_,?_⟩,?_⟩
     ·grind [eH]
     ·simp_all[g0]
     ·simp only;rw[hr]at h3 ⊢;simp[List.count_eq_zero_of_not_mem ha]at h3 ⊢;omega
     ·simp;omega
     ·simp only[eA];rw[List.set_append_right _ _ (by simp)];simp only[List.length_map,Nat.sub_self];obtain⟨d,hd'⟩:∃d,s.aN.count c+1 - ws.length=d+1:=⟨s.aN.count c - ws.length,by omega⟩;rw[hd',List.replicate_succ,List.set_cons_zero,show s.aN.count c+1 -(ws++[a]).length=d by simp;omega];simp[hr]
     ·simp only;rw[eH (by omega) (by omega)];omega
   ·have hd:decide (((ws.length:Nat):Int)<((s.aN.count c+1:Nat):Int) - 1)=false:=by rw[decide_eq_false_iff_not];omega
    simp only[hd,cw];refine⟨_,rfl,ws,rfl,?_,by omega,?_⟩
    ·have h0:r.aN.count c=0:=by omega
     rw[h2,ia<|List.count_eq_zero.1 h0]
    ·rw[show s.aN.count c+1 - ws.length=1 by omega];rfl)
  N (s,List.replicate (s.aN.count c+1) ⟨[]⟩,0) ⟨[],rfl,rfl,by simp,cz _,by simp⟩ (by simp only;omega)
 obtain⟨o,ho,hgo⟩:=key;rw[ho,aJ]
 cases o with
 |rt r=>exact r.elim
 |go st=>
  obtain⟨r,arr,i⟩:=st;obtain⟨ws,h1,h2,h3,h4⟩:=hgo;simp only at h1 h2 h3 h4;subst h1 h4;simp only[Fo.cs];rw[iV _ _ (by simp),aJ,eH (by omega) (by omega)];rw[show((ws.length:Nat):Int)+1=((ws.length+1:Nat):Int)by omega,pG _ _ (by simp),aJ,aJ];unfold ew;rw[h2];rw[eA,List.set_append_right _ _ (by simp),eB (by simp)];simp
def n2(s:aH):Bool:=decide (s.aN.length<=200)&&(ew s 47).all isWord
theorem iX{c:UInt8}:∀{l x:List UInt8},x∈cutAt c l->x.length<=l.length
 | [],x,h=>by simp[cutAt]at h;subst h;simp
 |b::l,x,h=>by
  unfold cutAt at h;split at h
  ·rcases ej.1 h with h|h
   ·subst h;simp
   ·have:=iX h;simp;omega
  ·split at h
   ·rename_i t e
    rcases ej.1 h with h|h
    ·subst h;have:=iX (c:=c) (l:=l) (by rw[e];exact List.mem_cons_self);simp;omega
    ·have:=iX (c:=c) (l:=l) (by rw[e];exact List.mem_cons_of_mem _ h);simp;omega
   ·simp at h;subst h;simp
theorem lT(c:UInt8):∀(l:List UInt8),(cutAt c l).length<=l.length+1
 | []=>by simp[cutAt]
 |b::l=>by
  have:=lT c l;unfold cutAt;split
  ·simp;omega
  ·split
   ·rename_i e;rw[e]at this;simp at this ⊢;omega
   ·simp
theorem oJ{s x:aH}{c:UInt8}(h:x∈ew s c):x.aN.length<=s.aN.length:=by
 obtain⟨y,hy,rfl⟩:=List.mem_map.1 h;exact iX hy
theorem oK(s:aH)(c:UInt8):(ew s c).length<=s.aN.length+1:=by simp[ew,List.length_map,lT]
end
def Ok{β:Type}(o:Option β)(P:β->Prop):Prop:=∃r,o=some r/\P r
section
variable {α β S R:Type}{P:α->Prop}{Q:β->Prop}
theorem uS{x:β}(h:Q x):Ok (some x) Q:=⟨x,rfl,h⟩
theorem w7{o:Option β}{x:β}(h:o=some x)(hq:Q x):Ok o Q:=⟨x,h,hq⟩
theorem Ok.mono{o:Option α}{P':α->Prop}(h:Ok o P)(k:∀x,P x->P' x):Ok o P':=by obtain⟨x,h1,h2⟩:=h;exact⟨x,h1,k x h2⟩
theorem va{o:Option α}{f:α->Option β}(h:Ok o P)(k:∀x,P x->Ok (f x) Q):Ok (o.bind f) Q:=by
 obtain⟨x,h1,h2⟩:=h;grind
theorem uw{o:Option α}{f:α->Option β}{x:α}(h:o=some x)(k:Ok (f x) Q):Ok (o.bind f) Q:=by grind
theorem u3{b:Bool}{x y:Option β}(ht:b=true->Ok x Q)(hf:b=false->Ok y Q):Ok (bif b then x else y) Q:=by
 grind
theorem vB{o:Option β}{x:β}(h:Ok o (λr=>r=x)):o=some x:=by obtain⟨r,h1,h2⟩:=h;rw[h1,h2]
def tB(Go:S->Prop)(Rt:R->Prop):Fo S R->Prop| .go s=>Go s| .rt r=>Rt r
def rY(Nx Br:S->Prop)(Rt:R->Prop):Fl S R->Prop| .nx s=>Nx s| .br s=>Br s| .rt r=>Rt r
theorem vc{Nx Br:S->Prop}{Rt:R->Prop}{s:S}(h:Nx s):Ok (some<|Fl.nx s) (rY Nx Br Rt):=⟨_,rfl,h⟩
theorem wU{Nx Br:S->Prop}{Rt:R->Prop}{s:S}(h:Br s):Ok (some<|Fl.br s) (rY Nx Br Rt):=⟨_,rfl,h⟩
theorem u4{Nx Br:S->Prop}{Rt:R->Prop}{r:R}(h:Rt r):Ok (some (Fl.rt r:Fl S R)) (rY Nx Br Rt):=⟨_,rfl,h⟩
theorem vd{Go:S->Prop}{Rt:R->Prop}{o:Fo S R}{f:S->Option β}{g:R->Option β}(h:tB Go Rt o)(hf:∀s,Go s->Ok (f s) Q)(hg:∀r,Rt r->Ok (g r) Q):Ok (o.cs f g) Q:=by
 cases o with
 |go s=>exact hf s h
 |rt r=>exact hg r h
theorem w8{body:Nat->S->Option S}{m:Nat}{s:S}(Inv:Nat->S->Prop)(hm:m<=4611686018427387904)(h0:Inv 0 s)(h:∀k s,k<m->Inv k s->Ok (body k s) (Inv<|k+1)):Ok (mK m body s) (Inv m):=
 qp Inv hm h0 h
theorem vf{body:Nat->S->Option (Fl S R)}{m:Nat}{s:S}(Inv:Nat->S->Prop){Go:S->Prop}{Rt:R->Prop}(hm:m<=4611686018427387904)(h0:Inv 0 s)
  (h:∀k s,k<m->Inv k s->Ok (body k s) (rY (Inv<|k+1) Go Rt)) (hg:∀s,Inv m s->Go s):Ok (fU m body s) (tB Go Rt):=by
 obtain⟨o,h1,h2⟩:=qo (R:=R) Inv Go Rt hm h0 (λk s hk hi=>by
  obtain⟨fl,a1,a2⟩:=h k s hk hi
  exact⟨fl,a1,by cases fl <;> exact a2⟩) hg
 exact⟨o,h1,by cases o <;> exact h2⟩
theorem wV{body:S->Option (Fl S R)}{N:Nat}{s:S}(Inv:S->Prop)(μ:S->Nat){Go:S->Prop}{Rt:R->Prop}
  (h:∀s,Inv s->Ok (body s) (rY (λs'=>Inv s'/\μ s'<μ s) Go Rt)) (hi:Inv s) (hn:μ s<N):Ok (lp body N s) (tB Go Rt):=by
 obtain⟨o,h1,h2⟩:=kG (R:=R) Inv μ Go Rt (λs hi=>by
  obtain⟨fl,a1,a2⟩:=h s hi
  exact⟨fl,a1,by cases fl <;> exact a2⟩) N s hi hn
 exact⟨o,h1,by cases o <;> exact h2⟩
theorem vC{b:Nat}{l ys:List α}{f:List α->Option β}(h:(l.length+ys.length)*b<=140737488355328)(k:Ok (f<|l++ys) Q):Ok ((Go.Gk.app b l ys).bind f) Q:=by grind [jM]
theorem w9{l:List α}{i:Nat}{f:α->Option β}(h:i<l.length)(k:Ok (f l[i]) Q):Ok ((Go.Gk.idx l ((i:Nat):Int)).bind f) Q:=by grind [iV]
theorem vg{l:List α}{i:Nat}{x:α}{f:α->Option β}(h:l[i]? =some x)(k:Ok (f x) Q):Ok ((Go.Gk.idx l ((i:Nat):Int)).bind f) Q:=by grind [nW]
end
theorem ng{n:Nat}(h:n+1<=4611686018427387904):wrap .i64 (((n:Nat):Int)+1)=((n+1:Nat):Int):=by grind [eH]
section
variable {α:Type}{N:Nat}
end
section
variable {κ ν:Type}[DecidableEq κ]
end
section
variable {N:Nat}
def q9(l:List aS)(k:Nat):Option Int:=
 match l[k]? with
 |none=>none
 |some p=>if isWord p.Name=false then some 5 else if(decide (p.Kind<1)||decide (p.Kind>7))=true then some 4 else if(decide (p.cy<0)||decide (p.cy>200))=true then some 1 else if pK aS.Name l k=true then some 8 else none
def ra(p q:aS):Bool:=decide (p.cy>0)&&(q.cy==p.cy)&&(q.Kind != p.Kind)
def re(l:List aS)(k:Nat):Option Int:=
 match l[k]? with
 |none=>none
 |some p=>if(l.take k).any (ra p)=true then some 12 else none
def rq(l:List aS):Int:=if l.length=0 then 9 else if 200<l.length then 2 else((j5 l.length<|q9 l).or<|j5 l.length<|re l).getD 0
structure qt (t:List aL):Prop where
 sorted:j7 aL.Name t
 pins:∀x∈t,j7 aS.Name x.bC
end
section
variable {N:Nat}
def qu(t:List aL)(l:List Part)(k:Nat):Option Int:=
 match l[k]? with
 |none=>none
 |some p=>if n2 p.Name=false then some 5 else if nat? aL.Name t p.cI<0 then some 9 else if pK Part.Name l k=true then some 8 else none
def rf(t:List aL)(l:List Part):Int:=if 1000<l.length then 2 else(j5 l.length<|qu t l).getD 0
def rh(t:List aL)(l:List Part)(p:bM):Bool:=
 match l.find? (λx=>x.Name.fi p.Part)with
 |none=>false
 |some x=>match t.find? (λy=>y.Name.fi x.cI)with
  |none=>false
  |some y=>y.bC.any (λq=>q.Name.fi p.bM)
def Typed(t:List aL)(l:List Part):Prop:=∀x∈l,0<=nat? aL.Name t x.cI
def rZ(a b:bM):Bool:=a.Part.lD b.Part||(a.Part.fi b.Part&&a.bM.lD b.bM)
structure qw (t:List aL) (l:List Part):Prop where
 sorted:j7 Part.Name l
 typed:Typed t l
structure t7 (x:aQ):Prop where
 pl:x.aO.length<=1048576
 pn:∀p∈x.aO,p.Name.aN.length<=2097152
 nl:x.aM.length<=1048576
 nn:∀n∈x.aM,n.Name.aN.length<=2097152
 np:∀n∈x.aM,n.bC.length<=1048576
end
section
variable {N:Nat}
structure tC (t:List aL) (x:aQ):Prop where
 types:qt t
 parts:qw t x.aO
 t8:x.aO.length<=1000
 r5:x.aM.length<=1000
 r6:∀n∈x.aM,0<n.bC.length/\n.bC.length<=500
 r7:∀n∈x.aM,n.du= []
 t5:j7 Net.Name x.aM
 path:∀n∈x.aM,n2 n.Name=true
 tN:∀p∈x.aO,n2 p.Name=true
 t9:∀n∈x.aM,∀p∈n.bC,rh t x.aO p=true
 tD:∀n∈x.aM,∀(i j:Nat)(p q:bM),i<j->n.bC[i]? =some p->n.bC[j]? =some q->rZ p q=true
 once:∀(i j:Nat)(n m:Net)(p:bM),x.aM[i]? =some n->x.aM[j]? =some m->p∈n.bC->p∈m.bC->i=j
def qx(t:List aL)(p:Part):aL:=(t.find?<|λy=>y.Name.fi p.cI).getD default
def tE(t:List aL)(p:Part):List bM:=(qx t p).bC.map<|λy=>⟨p.Name,y.Name⟩
theorem pO(hN:4194304<=N):da N=some true:=by
 obtain⟨M,rfl⟩:∃M,N=M+64:=⟨N - 64,by omega⟩;rfl
end
section
variable {N:Nat}
def g1(s:aH)(c:UInt8):aH×aH×Bool:=if c∈s.aN then(⟨s.aN.take (Lib.indexByte s.aN c).toNat⟩,⟨s.aN.drop<|(Lib.indexByte s.aN c).toNat+1⟩,true)else(s,⟨[]⟩,false)
theorem oL(s:aH)(c:UInt8):ct N s ⟨[c]⟩=some (Lib.indexByte s.aN c):=by
 have:=nd (N:=N) s c;unfold c8 at this
 cases h:ct N s ⟨[c]⟩with
 |none=>rw[h]at this;cases this
 |some x=>rw[h]at this;exact this
theorem pP{s:aH}(c:UInt8)(h:s.aN.length<=2097152):dR N s ⟨[c]⟩=some (g1 s c):=by
 unfold dR eo g1;rw[oL,aJ]
 rcases fc s.aN c with⟨h1,h2⟩|⟨a,b,h1,h2,h3⟩
 ·rw[h1,aP h2];rfl
 ·have hl:s.aN.length=a.length+(b.length+1):=by rw[h1];simp
  have hm:c∈s.aN:=by rw[h1];simp
  rw[aK hm,h3,fL (by omega),ei,lR (by omega),aJ];rw[show((a.length:Nat):Int)+(((⟨[c]⟩:aH).aN.length:Nat):Int)=((a.length+1:Nat):Int)by simp,eH (x:=((a.length+1:Nat):Int)) (by omega) (by omega),lS (by omega),aJ,aJ];rfl
theorem nh(s:aH)(c:UInt8):(g1 s c).1.aN.length<=s.aN.length/\(g1 s c).2.1.aN.length<=s.aN.length:=by
 unfold g1;split
 ·simp only[c9,ek];omega
 ·simp
def kc(c:UInt8):Bool:=decide (((c.toNat:Nat):Int)<33)||(decide (((c.toNat:Nat):Int)>126)||((c.toNat:Nat):Int)==46)
def bY(s:aH):Bool:= !s.fi ⟨[]⟩&& !s.aN.any kc
theorem eg{s:aH}(h:s.aN.length<=2097152):aU N s=some (bY s):=by
 unfold aU
 rw[qs kc false (by omega) (λk x hx=>by
  have hk:=(cA.1 hx).1;have e:lZ s ((k:Nat):Int)=some x:=by rw[pF s k hk,<-bD hk,hx]
  simp only[e,aJ];unfold kc
  cases decide (((x.toNat:Nat):Int)<33)
  ·cases decide (((x.toNat:Nat):Int)>126)
   ·cases((x.toNat:Nat):Int)==46 <;> rfl
   ·rfl
  ·rfl),aJ]
 unfold bY
 cases s.aN.any kc
 ·simp[Fo.cs]
 ·simp[Fo.cs]
theorem pQ{s:aH}{i:Nat}(h:i<s.aN.length):(bs s).get! i=s.aN[i]:=by
 unfold bs ByteArray.get!;simp[h]
theorem mB{s:aH}{i:Nat}(h:i<s.aN.length)(hb:s.aN[i].toNat<128):Utf8.decode (bs s) i=(s.aN[i].toNat,1):=by
 unfold Utf8.decode;simp only[Nat.add_zero,pQ h];rw[aK (by omega)]
theorem mC{s:aH}{i:Nat}(h:i<s.aN.length)(hb:128<=s.aN[i].toNat):128<=(Utf8.decode (bs s) i).1:=by
 unfold Utf8.decode;simp only[Nat.add_zero,pQ h];rw[aP (by omega)];unfold Utf8.runeError
 repeat' split
 all_goals first|(simp only;omega)|(simp_all;omega)
theorem n3{c:UInt8}(h:128<=c.toNat):kc c=true:=by
 unfold kc;have:decide (((c.toNat:Nat):Int)>126)=true:=by rw[decide_eq_true_eq];omega
 rw[this];simp
theorem lA(n:Int):cx N n=some (decide (n<33)||(decide (n>126)||n==46)):=by
 unfold cx;rw[Bool.or_assoc]
theorem mD{s:aH}(h:s.aN.length<=2097152)(hN:4194304<=N):∃r,cX N s (λy0=>cx N y0.n) true=some r/\decide (r>=0)=s.aN.any kc:=by
 unfold cX;have key:=kG (S:=Nat) (R:=Int) (body:=(λ(s3:Nat)=>(bif decide (s3<s.aN.length)then((cx N (⟨(((Utf8.decode (bs s) s3).1:Nat):Int)⟩:o9).n).bind λx9=>bif x9==true then some (.rt ((s3:Nat):Int))else some (.nx<|s3+(Utf8.decode (bs s) s3).2))else(some<|.br s3):Option (Fl Nat Int))))
  (λk=>k<=s.aN.length/\∀j x,j<k->s.aN[j]? =some x->kc x=false) (λk=>s.aN.length - k) (λ_=>s.aN.any kc=false) (λr=>0<=r/\s.aN.any kc=true) (by
   rintro k⟨hk,hb⟩
   by_cases hlt:k<s.aN.length
   ·have hg:s.aN[k]? =some s.aN[k]:=bD hlt;simp only[hlt,decide_true,ei,lA,aJ]
    by_cases hs:s.aN[k].toNat<128
    ·rw[mB hlt hs];have e:(decide (((s.aN[k].toNat:Nat):Int)<33)||(decide (((s.aN[k].toNat:Nat):Int)>126)||((s.aN[k].toNat:Nat):Int)==46))=kc s.aN[k]:=rfl;simp only[e]
     cases hp:kc s.aN[k]
     ·refine⟨_,rfl,⟨by omega,λj x hj hx=>?_⟩,by omega⟩
      by_cases hjk:j=k
      ·subst hjk;rw[hg]at hx;injection hx with hx;subst hx;exact hp
      ·exact hb j x (by omega) hx
     ·exact⟨_,rfl,by omega,eC.2 ⟨_,d7 hlt,hp⟩⟩
    ·have hd:=mC hlt (by omega);have e:decide ((((Utf8.decode (bs s) k).1:Nat):Int)>126)=true:=by rw[decide_eq_true_eq];omega
     simp only[e,Bool.true_or,Bool.or_true];exact⟨_,rfl,by omega,eC.2 ⟨_,d7 hlt,n3 (by omega)⟩⟩
   ·simp only[hlt,decide_false,cw];refine⟨_,rfl,?_⟩;rw[List.any_eq_false];intro x hx;obtain⟨j,hj⟩:=List.getElem?_of_mem hx;have:=(cA.1 hj).1
    rw[hb j x (by omega) hj];decide)
  N 0 ⟨Nat.zero_le _,λj x hj=>by omega⟩ (by omega)
 obtain⟨o,ho,hc⟩:=key;rw[ho,aJ]
 cases o with
 |go k=>exact⟨_,rfl,by rw[hc];decide⟩
 |rt r=>exact⟨_,rfl,by rw[hc.2];simp[hc.1]⟩
theorem dp{s:aH}(h:s.aN.length<=2097152)(hN:4194304<=N):aZ N s=some (bY s):=by
 unfold aZ bY cY dG;obtain⟨r,h1,h2⟩:=mD (N:=N) h hN;rw[h1];simp only[aJ,h2]
 cases s.fi ⟨[]⟩ <;> rfl
def ft(s:aH):Bool:= !((g1 s 46).2.2&&bY (g1 s 46).1&&bY (g1 s 46).2.1)
def mE(s:aH):bM:=⟨(g1 s 46).1,(g1 s 46).2.1⟩
def lg(ps:List Part)(ns:List Net)(line:aH):Option (List Part×List Net):=
 let w:=ew line 32
 if w.headD ⟨[]⟩= ⟨[112,97,114,116]⟩/\w.length=3/\ns= []then
  if bY (w.getD 1 ⟨[]⟩)=true/\bY (w.getD 2 ⟨[]⟩)=true then some (ps++[⟨w.getD 1 ⟨[]⟩,w.getD 2 ⟨[]⟩⟩],ns)else none
 else if w.headD ⟨[]⟩= ⟨[110,101,116]⟩/\2<=w.length then
  if(w.drop 2).any ft=false/\bY (w.getD 1 ⟨[]⟩)=true then some (ps,ns++[⟨w.getD 1 ⟨[]⟩,(w.drop 2).map mE,[]⟩])else none
 else none
theorem oM{f:aH->Option Bool}{s:aH}(hf:∀t:aH,t.aN.length<=2097152->f t=some (bY t))(h:s.aN.length<=2097152):
  (bif(!(g1 s 46).2.2)then some true else((f (g1 s 46).1).bind λx358=>bif(!x358)then some true else((f (g1 s 46).2.1).bind λx360=>some<|!x360)))=some (ft s):=by
 have hc:=nh s 46;rw[hf _ (by omega),aJ,hf _ (by omega),aJ];unfold ft
 cases(g1 s 46).2.2
 ·rfl
 ·cases bY (g1 s 46).1
  ·rfl
  ·cases bY (g1 s 46).2.1 <;> rfl
theorem oN{R:Type}{f:aH->Option Bool}{l:List aH}{r:List bM->R}(hf:∀t:aH,t.aN.length<=2097152->f t=some (bY t))(hl:l.length<=2097153)(hs:∀x∈l,x.aN.length<=2097152):
  ∃o,fU l.length (λ(k304:Nat)(s305:List bM)=>((idx l ((k304:Nat):Int)).bind λx347=>(dR N x347<|⟨[46]⟩).bind λx349=>(bif(!x349.2.2)then some true else((f x349.1).bind λx358=>bif(!x358)then some true else((f x349.2.1).bind λx360=>some<|!x360))).bind λs356=>bif s356 then some (.rt<|r s305)else((app 32 s305 ([(⟨x349.1,x349.2.1⟩:bM)]:List bM)).bind λx363=>some<|.nx x363):Option (Fl (List bM) R))) ([]:List bM)=some o/\
   if l.any ft=true then ∃q,o = .rt (r q)else o = .go (l.map mE):=by
 rw[oj (s:=([]:List bM)) (λk=>(l.take k).map mE) (λk=>(l[k]?).bind λx=>if ft x=true then some (r ((l.take k).map mE))else none) (by omega) rfl (λk hk _=>by
  have hx:l[k]? =some l[k]:=bD hk;have hxs:=hs _<|d7 hk
  rw[nW hx,aJ,pP 46 hxs,aJ];rw[oM hf hxs,aJ,hx];simp only[Option.bind_some]
  cases ft l[k]
  ·rw[cw,jM (by simp only[List.length_map,c9,bL,List.length_nil];omega),aJ,gB hk,List.map_append];rfl
  ·rfl)]
 refine⟨_,rfl,?_⟩
 by_cases h:l.any ft=true
 ·rw[aK h]
  cases hf2:j5 l.length (λk=>(l[k]?).bind λx=>if ft x=true then some (r<|(l.take k).map mE)else none)with
  |some q=>
   obtain⟨k,hk,he,_⟩:=iU.1 hf2;rw[bD hk,Option.bind_some]at he;split at he
   ·injection he with he;exact⟨_,by rw[<-he];rfl⟩
   ·cases he
  |none=>
   exfalso;obtain⟨x,hx,hp⟩:=eC.1 h;obtain⟨k,hk⟩:=List.getElem?_of_mem hx;have:=fp.1 hf2 k (cA.1 hk).1;rw[hk,Option.bind_some,aK hp]at this;cases this
 ·rw[aP h,fp.2 (λk hk=>by
   rw[bD hk,Option.bind_some,aP]
   intro hp;exact h (eC.2 ⟨_,d7 hk,hp⟩)),fI];rfl
theorem oO(s:aH)(c:UInt8):ew s c≠[]:=by
 unfold ew;intro h;exact pL c s.aN<|List.map_eq_nil_iff.1 h
theorem kH{α:Type}{l:List α}{k:Nat}{d:α}(h:k<l.length):idx l ((k:Nat):Int)=some (l.getD k d):=by
 rw[iV l k h,List.getD_eq_getElem?_getD,bD h];rfl
theorem ni{ps:List Part}{ns:List Net}{line:aH}(hl:line.aN.length<=2097152)(hp:ps.length<=1048576)(hn:ns.length<=1048576)(hN:4194304<=N):
  ∃r,de N ps ns line=some r/\match lg ps ns line with|some q=>r=(true,q.1,q.2)|none=>r.1=false:=by
 have hw1:=oK line 32;have hne:=oO line 32;have hsl:∀x∈ew line 32,x.aN.length<=2097152:=λx hx=>by have:=oJ hx;omega
 unfold de lg;rw[pN 32 hl hN,aJ];simp only;generalize ew line 32=w at *;have h0:0<w.length:=List.length_pos_iff.2 hne;have e0:idx w 0=some (w.headD ⟨[]⟩):=by
  have:=kH (l:=w) (k:=0) (d:=(⟨[]⟩:aH)) h0;rw[List.headD_eq_head?_getD,List.head?_eq_getElem?];rw[List.getD_eq_getElem?_getD]at this;exact this
 rw[e0,aJ,aJ];have hdl:∀k,k<w.length->(w.getD k ⟨[]⟩).aN.length<=2097152:=λk hk=>by
  rw[List.getD_eq_getElem?_getD,bD hk];exact hsl _<|d7 hk
 have ec:(bif(w.headD ⟨[]⟩).fi ⟨[112,97,114,116]⟩then(bif((w.length:Nat):Int)==3 then some (((ns.length:Nat):Int)==0)else some false)else some false)=some (decide<|w.headD ⟨[]⟩= ⟨[112,97,114,116]⟩/\w.length=3/\ns= []):=by
  rw[jN]
  by_cases h1:w.headD ⟨[]⟩= ⟨[112,97,114,116]⟩
  ·rw[fL h1,ei]
   by_cases h2:w.length=3
   ·have:(((w.length:Nat):Int)==3)=true:=by rw[beq_iff_eq];omega
    rw[this,ei];congr 1;rw[Bool.eq_iff_iff,beq_iff_eq,decide_eq_true_eq];constructor
    ·intro h;exact⟨h1,h2,List.length_eq_zero_iff.1 (by omega)⟩
    ·intro h;rw[h.2.2];rfl
   ·have:(((w.length:Nat):Int)==3)=false:=by rw[beq_eq_false_iff_ne];omega
    rw[this,cw,cH<|λh=>h2 h.2.1]
  ·rw[cH h1,cw,cH<|λh=>h1 h.1]
 rw[ec,aJ]
 by_cases hA:w.headD ⟨[]⟩= ⟨[112,97,114,116]⟩/\w.length=3/\ns= []
 ·rw[fL hA,ei,aK hA];have i1:idx w 1=some (w.getD 1 ⟨[]⟩):=kH (k:=1) (by omega);have i2:idx w 2=some (w.getD 2 ⟨[]⟩):=kH (k:=2) (by omega);rw[i1,aJ,i2,aJ,jM (by simp;omega),aJ,aJ,dp (hdl 1 (by omega)) hN,aJ,aJ,dp (hdl 2 (by omega)) hN,aJ]
  cases bY (w.getD 1 ⟨[]⟩)
  ·exact⟨_,rfl,by simp⟩
  ·cases bY (w.getD 2 ⟨[]⟩)
   ·exact⟨_,rfl,by simp⟩
   ·exact⟨_,rfl,by simp⟩
 ·rw[cH hA,cw,aP hA];have ed:(bif(w.headD ⟨[]⟩).fi ⟨[110,101,116]⟩then some (decide<|((w.length:Nat):Int)>=2)else some false)=some (decide<|w.headD ⟨[]⟩= ⟨[110,101,116]⟩/\2<=w.length):=by
   rw[jN]
   by_cases h1:w.headD ⟨[]⟩= ⟨[110,101,116]⟩
   ·rw[fL h1,ei];congr 1;rw[decide_eq_decide];constructor
    ·intro h;exact⟨h1,by omega⟩
    ·intro h;have:=h.2;omega
   ·rw[cH h1,cw,cH<|λh=>h1 h.1]
  rw[ed,aJ]
  by_cases hB:w.headD ⟨[]⟩= ⟨[110,101,116]⟩/\2<=w.length
  ·rw[fL hB,ei,aK hB];have hB2:=hB.2;have i1:idx w 1=some (w.getD 1 ⟨[]⟩):=kH (k:=1) (by omega);have hs:nz w 2 ((w.length:Nat):Int)=some (w.drop 2):=pH w 2 hB.2;have hv:∀k:Nat,pc w 2 ((k:Nat):Int)=idx (w.drop 2) ((k:Nat):Int):=λk=>by
    unfold pc idx;rw[aK (by omega),show((2:Int)+((k:Nat):Int)).toNat=2+k by omega];simp[fu]
    try omega
   have hl2:w.length - Int.toNat 2=(w.drop 2).length:=by rw[ek];rfl
   rw[i1,aJ,hs,aJ];simp only[hv,hl2];obtain⟨o,ho,hc⟩:=oN (N:=N) (R:=Bool×List Part×List Net) (f:=aZ N) (l:=w.drop 2) (r:=λ_=>(false,ps,ns)) (λt ht=>dp ht hN) (by rw[ek];omega)<|λx hx=>hsl x<|List.mem_of_mem_drop hx
   rw[ho,aJ]
   by_cases hb:(w.drop 2).any ft=true
   ·rw[aK hb]at hc;obtain⟨q,rfl⟩:=hc;rw[aP (λh=>by rw[hb]at h;cases h.1)];exact⟨_,rfl,rfl⟩
   ·rw[aP hb]at hc;rw[hc];simp only[Fo.cs];rw[jM (by simp;omega),aJ,aJ,dp (hdl 1 (by omega)) hN];simp only[aJ];refine⟨_,rfl,?_⟩;rw[Bool.not_eq_true]at hb
    cases bY (w.getD 1 ⟨[]⟩)
    ·simp
    ·simp[hb]
  ·rw[cH hB,cw,aP hB];exact⟨_,rfl,rfl⟩
theorem oP{x:aQ}(h1:x.aO.length<=1048576)(h2:x.aM.length<=1048576)(h3:∀n∈x.aM,n.bC.length<=1048576/\n.du.length<=1048576):cE N x x=some true:=by
 unfold cE;have e1:dH N x.aO x.aO=some true:=by
  have:=j6 (l:=x.aO) (m:=x.aO) (by omega);rw[fL rfl]at this;exact this
 rw[e1,aJ];simp only[g5,cw,bne_self_eq_false,aJ]
 rw[lb (λ_=>none) (by omega) (λk hk _=>by
  have hx:x.aM[k]? =some x.aM[k]:=bD hk;obtain⟨h4,h5⟩:=h3 _<|d7 hk
  have e2:dY N x.aM[k].bC x.aM[k].bC=some true:=by
   have:=j6 (l:=x.aM[k].bC) (m:=x.aM[k].bC) (by omega);rw[fL rfl]at this;exact this
  have e3:cK N x.aM[k].du x.aM[k].du=some true:=by
   have:=j6 (l:=x.aM[k].du) (m:=x.aM[k].du) (by omega);rw[fL rfl]at this;refine Eq.trans ?_ this;unfold cK nZ;simp only[jN]
  simp only[nW hx,aJ,pI,e2,e3,g5,cw]
  rfl),aJ,fp.2 (λ_ _=>rfl)]
 rfl
end
def g3(p:Part):List UInt8:=[112,97,114,116,32]++p.Name.aN++[32]++p.cI.aN
def kd(p:bM):List UInt8:=32::(p.Part.aN++46::p.bM.aN)
def jA(n:Net):List UInt8:=[110,101,116,32]++n.Name.aN++n.bC.flatMap kd
def dC(p:Part):Bool:=bY p.Name&&bY p.cI
def gz(p:bM):Bool:=bY p.Part&&bY p.bM
def d6(n:Net):Bool:=bY n.Name&&n.bC.all gz
def cM(x:aQ):List (List UInt8):=x.aO.map g3++x.aM.map jA
def jB(l:List (List UInt8)):List UInt8:=l.flatMap (· ++[10])
def lh(n:Net):Net:=⟨n.Name,n.bC,[]⟩
theorem dW{s:aH}(h:bY s=true){c:UInt8}(hc:kc c=true):c∉s.aN:=by
 unfold bY at h;rw[bA]at h;intro hm;have:=eC.2 ⟨c,hm,hc⟩;rw[this]at h;exact absurd h.2 (by decide)
theorem pR{a b:List UInt8}{c:UInt8}(h:c∉a):g1 ⟨a++c::b⟩ c=(⟨a⟩,⟨b⟩,true):=by
 unfold g1
 rcases fc (a++c::b) c with⟨_,h2⟩|⟨a',b',h1,h2,h3⟩
 ·exact absurd (by simp) h2
 ·have htk:∀(l m:List UInt8),c∉l->(l++c::m).takeWhile (λz=>z != c)=l:=λl m hl=>by
   rw[List.takeWhile_append_of_pos (λz hz=>by
    have:z≠c:=λe=>hl (by rw[<-e];exact hz)
    simp[this]),List.takeWhile_cons_of_neg (by simp),fK]
  have ea:a=a':=by rw[<-htk a b h,h1,htk a' b' h2]
  have hm:c∈(⟨a++c::b⟩:aH).aN:=by simp
  rw[aK hm];show((⟨(a++c::b).take (Lib.indexByte (a++c::b) c).toNat⟩:aH),(⟨(a++c::b).drop<|(Lib.indexByte (a++c::b) c).toNat+1⟩:aH),true)=_;rw[h3,<-ea,eA,List.take_left,List.drop_append,List.drop_of_length_le (by omega),show a.length+1 - a.length=1 by omega];rfl
theorem n4{p:Part}(h:dC p=true):ew ⟨g3 p⟩ 32= [⟨[112,97,114,116]⟩,p.Name,p.cI]:=by
 unfold dC at h;rw[bA]at h;unfold ew;have e:(⟨g3 p⟩:aH).aN= [112,97,114,116]++32::(p.Name.aN++32::p.cI.aN):=by simp[g3]
 rw[e,g0 (by decide),g0<|dW h.1 (by decide),ia<|dW h.2 (by decide)];rfl
def jS(p:bM):List UInt8:=p.Part.aN++46::p.bM.aN
theorem nj:∀(ps:List bM)(a:List UInt8),(32:UInt8)∉a->ps.all gz=true->cutAt 32 (a++ps.flatMap kd)=a::ps.map jS
 | [],a,h,_=>by rw[List.flatMap_nil,fK,ia h];rfl
 |p::ps,a,h,hp=>by
  rw[List.all_cons,bA]at hp;have hk:=hp.1;unfold gz at hk;rw[bA]at hk;have e:a++(p::ps).flatMap kd=a++32::(jS p++ps.flatMap kd):=by simp[kd,jS]
  have hw:(32:UInt8)∉jS p:=λhm=>by
   unfold jS at hm
   rcases gC.1 hm with hm|hm
   ·exact dW hk.1 (by decide) hm
   ·rcases ej.1 hm with hm|hm
    ·exact absurd hm (by decide)
    ·exact dW hk.2 (by decide) hm
  rw[e,g0 h,nj ps (jS p) hw hp.2];rfl
theorem oQ{n:Net}(h:d6 n=true):ew ⟨jA n⟩ 32= ⟨[110,101,116]⟩::n.Name::n.bC.map (λp=>(⟨jS p⟩:aH)):=by
 unfold d6 at h;rw[bA]at h;unfold ew;have e:(⟨jA n⟩:aH).aN= [110,101,116]++32::(n.Name.aN++n.bC.flatMap kd):=by simp[jA]
 rw[e,g0 (by decide),nj _ _ (dW h.1 (by decide)) h.2];simp[Function.comp_def]
theorem pS{p:bM}(h:gz p=true):mE ⟨jS p⟩=p/\ft ⟨jS p⟩=false:=by
 unfold gz at h;rw[bA]at h;have hc:g1 ⟨jS p⟩ 46=(p.Part,p.bM,true):=pR<|dW h.1 (by decide)
 unfold mE ft;rw[hc];exact⟨rfl,by simp[h.1,h.2]⟩
theorem n5{ps:List Part}{p:Part}(h:dC p=true):lg ps [] ⟨g3 p⟩=some (ps++[p],[]):=by
 have hs:=n4 h;unfold dC at h;rw[bA]at h;unfold lg;simp only[hs];rw[aK ⟨rfl,rfl,trivial⟩];show(if bY p.Name=true/\bY p.cI=true then _ else _)=_;rw[aK h];rfl
theorem oR{ps:List Part}{ns:List Net}{n:Net}(h:d6 n=true):lg ps ns ⟨jA n⟩=some (ps,ns++[lh n]):=by
 have hs:=oQ h;unfold d6 at h;rw[bA]at h;unfold lg;simp only[hs];rw[aP<|λh=>absurd h.1 (by intro e;injection e with e;exact absurd e (by decide))];rw[aK ⟨rfl,by simp⟩];have hb:(n.bC.map<|λp=>(⟨jS p⟩:aH)).any ft=false:=by
  rw[List.any_eq_false];intro s hs;obtain⟨p,hp,rfl⟩:=List.mem_map.1 hs;rw[(pS<|dh.1 h.2 p hp).2];decide
 have hm:(n.bC.map<|λp=>(⟨jS p⟩:aH)).map mE=n.bC:=by
  rw[List.map_map];refine(List.map_congr_left λp hp=>?_).trans<|List.map_id _
  exact(pS<|dh.1 h.2 p hp).1
 show(if(n.bC.map<|λp=>(⟨jS p⟩:aH)).any ft=false/\bY n.Name=true then some (ps,ns++[(⟨n.Name,(n.bC.map<|λp=>(⟨jS p⟩:aH)).map mE,[]⟩:Net)])else none)=_;rw[aK ⟨hb,h.1⟩,hm];rfl
def qJ(x:aQ)(k:Nat):List Part:=x.aO.take k
def qK(x:aQ)(k:Nat):List Net:=(x.aM.take<|k - x.aO.length).map lh
theorem pU{x:aQ}(hp:x.aO.all dC=true)(hn:x.aM.all d6=true){k:Nat}(hk:k<(cM x).length):lg (qJ x k) (qK x k) ⟨(cM x)[k]⟩=some (qJ x<|k+1,qK x<|k+1):=by
 have hl:(cM x).length=x.aO.length+x.aM.length:=by simp[cM]
 unfold qJ qK
 by_cases h:k<x.aO.length
 ·have e:(cM x)[k]=g3 x.aO[k]:=by
   simp only[cM];rw[List.getElem_append_left (by simpa using h),List.getElem_map]
  rw[e,show k - x.aO.length=0 by omega,show k+1 - x.aO.length=0 by omega,List.take_zero,List.map_nil,n5<|dh.1 hp _<|d7 h,gB h]
 ·have hj:k - x.aO.length<x.aM.length:=by omega
  have e:(cM x)[k]=jA x.aM[k - x.aO.length]:=by
   simp only[cM];rw[List.getElem_append_right (by simpa using h),List.getElem_map];simp
  rw[e,oR (dh.1 hn _ (d7 hj)),eB (show x.aO.length<=k by omega),eB (show x.aO.length<=k+1 by omega),
   show k+1 - x.aO.length=k - x.aO.length+1 by omega,gB hj,List.map_append]
  rfl
theorem qy{x:aQ}(hp:x.aO.all dC=true)(hn:x.aM.all d6=true):∀l∈cM x,(10:UInt8)∉l:=by
 intro l hl hm;unfold cM at hl
 rcases gC.1 hl with hl|hl
 ·obtain⟨p,hp',rfl⟩:=List.mem_map.1 hl;have h:=dh.1 hp p hp';unfold dC at h;rw[bA]at h;unfold g3 at hm;simp only[gC]at hm
  rcases hm with((hm|hm)|hm)|hm
  ·exact absurd hm (by decide)
  ·exact dW h.1 (by decide) hm
  ·exact absurd hm (by decide)
  ·exact dW h.2 (by decide) hm
 ·obtain⟨n,hn',rfl⟩:=List.mem_map.1 hl;have h:=dh.1 hn n hn';unfold d6 at h;rw[bA]at h;unfold jA at hm;simp only[gC]at hm
  rcases hm with(hm|hm)|hm
  ·exact absurd hm (by decide)
  ·exact dW h.1 (by decide) hm
  ·obtain⟨p,hp1,hp2⟩:=List.mem_flatMap.1 hm;have hk:=dh.1 h.2 p hp1;unfold gz at hk;rw[bA]at hk;unfold kd at hp2
   rcases ej.1 hp2 with h1|h1
   ·exact absurd h1 (by decide)
   ·rcases gC.1 h1 with h1|h1
    ·exact dW hk.1 (by decide) h1
    ·rcases ej.1 h1 with h1|h1
     ·exact absurd h1 (by decide)
     ·exact dW hk.2 (by decide) h1
theorem pV{l:List (List UInt8)}{k:Nat}(hk:k<l.length)(h:∀a∈l,(10:UInt8)∉a):g1 ⟨jB<|l.drop k⟩ 10=(⟨l[k]⟩,⟨jB<|l.drop<|k+1⟩,true)/\jB (l.drop k)≠[]:=by
 have e:jB (l.drop k)=l[k]++10::jB (l.drop<|k+1):=by
  unfold jB;rw[iQ hk,List.flatMap_cons,fH];rfl
 rw[e];exact⟨pR<|h _<|d7 hk,by simp⟩
theorem pW(l:List (List UInt8))(k:Nat):(jB<|l.drop k).length<=(jB l).length:=by
 have:jB l=jB (l.take k)++jB (l.drop k):=by
  unfold jB;rw[<-List.flatMap_append,List.take_append_drop]
 rw[this,bG];omega
theorem bV{a b:aH}(h:a.aN.length+b.aN.length<=9223372036854775807):cS a b=some ⟨a.aN++b.aN⟩:=by unfold cS;rw[aK h]
def lj(l:List Part):List UInt8:=jB<|l.map g3
def lB(l:List Net):List UInt8:=jB<|l.map jA
theorem nk(l:List (List UInt8))(a:List UInt8):jB (l++[a])=jB l++(a++[10]):=by simp[jB]
theorem nm{l:List Part}{k:Nat}(hk:k<l.length):lj (l.take<|k+1)=lj (l.take k)++(g3 l[k]++[10]):=by
 unfold lj;rw[gB hk,List.map_append];exact nk _ _
theorem nr{l:List Net}{k:Nat}(hk:k<l.length):lB (l.take<|k+1)=lB (l.take k)++(jA l[k]++[10]):=by
 unfold lB;rw[gB hk,List.map_append];exact nk _ _
theorem kI:∀(l:List Part),(lj l).length<=5*bk l
 | []=>by simp[lj,jB]
 |p::l=>by
  have ih:=kI l;have e:lj (p::l)=(g3 p++[10])++lj l:=by simp[lj,jB]
  rw[e,gx,mz,gJ,gJ];simp only[g3,bG,bL,List.length_nil];omega
theorem iY:∀(l:List bM),(l.flatMap kd).length<=5*bk l
 | []=>by simp
 |p::l=>by
  have ih:=iY l;rw[List.flatMap_cons,gx,n0,gJ,gJ];simp only[kd,bG,bL];omega
theorem oo:∀(l:List Net),(lB l).length<=5*bk l
 | []=>by simp[lB,jB]
 |n::l=>by
  have ih:=oo l;have h:=iY n.bC;have e:lB (n::l)=(jA n++[10])++lB l:=by simp[lB,jB]
  rw[e,gx,n1,gJ];simp only[jA,bG,bL,List.length_nil];omega
theorem nu(l:List Part)(k:Nat):(lj<|l.take k).length<=5*bk l:=fJ (kI _)<|Nat.mul_le_mul_left _<|jO l k
theorem nv(l:List Net)(k:Nat):(lB<|l.take k).length<=5*bk l:=fJ (oo _)<|Nat.mul_le_mul_left _<|jO l k
theorem jT{α γ:Type}{l:List α}{k:Nat}(hk:k<l.length){f:α->List γ}:(l.take<|k+1).flatMap f=(l.take k).flatMap f++f l[k]:=by
 rw[gB hk,List.flatMap_append];simp
def gq(x:aQ):List UInt8:=lj x.aO++lB x.aM
theorem n6(x:aQ):gq x=jB (cM x):=by simp[gq,lj,lB,jB,cM]
def ib(x:aQ):Bool:=x.aO.all dC&&x.aM.all d6
def jU(x:aQ):aH×Int:=if ib x=false then(⟨[]⟩,3)else if 2000000<(gq x).length then(⟨[]⟩,2)else(⟨gq x⟩,0)
theorem dz{α:Type}{l:List α}{q:α->Bool}{k:Nat}(hk:k<l.length)(h:(l.take k).all q=true)(hq:q l[k]=true):(l.take<|k+1).all q=true:=by
 rw[gB hk,List.all_append,h];simp[hq]
theorem gA{α:Type}{l:List α}{q:α->Bool}{k:Nat}(hk:k<l.length)(hq:q l[k]=false):l.all q=false:=by
 rw[List.all_eq_false];exact⟨_,d7 hk,by rw[hq];exact lU⟩
theorem iZ{f:aH->Option Bool}{a b:aH}(ha:f a=some (bY a))(hb:f b=some (bY b)):
  ((f a).bind λx=>bif(!x)then some true else((f b).bind λy=>some<|!y))=some (!(bY a&&bY b)):=by
 rw[ha,hb,aJ]
 cases bY a <;> rfl
section
variable {N:Nat}{x:aQ}
theorem lk(hx:bk x<=1048576){p:Part}(hp:p∈x.aO):p.Name.aN.length<=1048576/\p.cI.aN.length<=1048576:=by
 rw[eu]at hx;have h:=mx hp;rw[mz,gJ,gJ]at h;omega
theorem ke(hx:bk x<=1048576){n:Net}(hn:n∈x.aM):n.Name.aN.length<=1048576/\n.bC.length<=1048576/\n.du.length<=1048576/\bk n.bC<=1048576/\∀p∈n.bC,p.Part.aN.length<=1048576/\p.bM.aN.length<=1048576:=by
 rw[eu]at hx;have h:=mx hn;rw[n1,gJ]at h;have h1:=gi n.bC;have h2:=gi n.du;refine⟨by omega,by omega,by omega,by omega,λp hp=>?_⟩;have h3:=mx hp;rw[n0,gJ,gJ]at h3;omega
theorem qz(hx:bk x<=1048576)(hN:4398046511104<=N):eI N x=some (jU x):=by
 have hxb:=eu x;have hpl:=gi x.aO;have hnl:=gi x.aM;refine vB ?_;unfold eI;refine va (vf (Go:=λs=>s=lj x.aO/\x.aO.all dC=true) (Rt:=λr=>r=((⟨[]⟩:aH),(3:Int))/\x.aO.all dC=false) (λk s=>s=lj (x.aO.take k)/\(x.aO.take k).all dC=true) (by omega) ⟨rfl,rfl⟩ (λk s hk hI=>?_) (λs hI=>by rw[fI]at hI;exact hI)) ?_
 ·obtain⟨rfl,hall⟩:=hI;have hp:x.aO[k]? =some x.aO[k]:=bD hk;obtain⟨h1,h2⟩:=lk hx<|d7 hk
  have hl:=nu x.aO k;refine vg hp<|uw (iZ (dp (by omega) (by omega))<|dp (by omega) (by omega))<|u3 (λh=>u4 ⟨rfl,gA hk (by rw[Bool.not_eq_true']at h;exact h)⟩)<|λh=>?_
  refine uw (bV (by simp only[bL,List.length_nil];omega))<|uw (bV (by simp only[bG,bL,List.length_nil];omega))<|uw (bV (by simp only[bG,bL,List.length_nil];omega))<|uw (bV (by simp only[bG,bL,List.length_nil];omega))<|vC (by simp only[bG,bL,List.length_nil];omega)<|vc ⟨?_,dz hk hall (by simpa[dC]using h)⟩
  rw[nm hk];simp[g3]
 intro o ho;refine vd ho ?_<|λr hr=>uS ?_
 rotate_left
 ·obtain⟨rfl,hr⟩:=hr;unfold jU ib;rw[hr,aK (by simp)]
 rintro s⟨rfl,hps⟩;have hl0:=kI x.aO;refine va (vf (Go:=λs=>s=lj x.aO++lB x.aM/\x.aM.all d6=true) (Rt:=λr=>r=((⟨[]⟩:aH),(3:Int))/\x.aM.all d6=false) (λk s=>s=lj x.aO++lB (x.aM.take k)/\(x.aM.take k).all d6=true) (by omega) ⟨by simp[lB,jB],rfl⟩ (λk s hk hI=>?_) (λs hI=>by rw[fI]at hI;exact hI)) ?_
 ·obtain⟨rfl,hall⟩:=hI;have hn:x.aM[k]? =some x.aM[k]:=bD hk;obtain⟨h1,h2,_,h3,h4⟩:=ke hx<|d7 hk
  have hl:=nv x.aM k;refine vg hn<|uw (dp (by omega) (by omega))<|u3 (λh=>u4 ⟨rfl,gA hk (by unfold d6;simp only[Bool.not_eq_true']at h;rw[h];rfl)⟩)<|λh=>?_
  have hnm:bY x.aM[k].Name=true:=by simpa using h
  refine uw (bV (by simp only[bL,List.length_nil];omega))<|vC (by simp only[bG,bL,List.length_nil];omega) ?_
  refine va (vf (Go:=λs=>s=(lj x.aO++lB (x.aM.take k))++jA x.aM[k]/\x.aM[k].bC.all gz=true) (Rt:=λr=>r=((⟨[]⟩:aH),(3:Int))/\x.aM[k].bC.all gz=false)
   (λj s=>s=(lj x.aO++lB (x.aM.take k))++([110,101,116,32]++x.aM[k].Name.aN++(x.aM[k].bC.take j).flatMap kd)/\(x.aM[k].bC.take j).all gz=true) (by omega) ⟨by simp,rfl⟩ (λj s hj hI=>?_) (λs hI=>by rw[fI]at hI;exact hI)) ?_
  ·obtain⟨rfl,hall2⟩:=hI;have hq:x.aM[k].bC[j]? =some x.aM[k].bC[j]:=bD hj;obtain⟨h5,h6⟩:=h4 _<|d7 hj
   have hl2:=fJ (iY<|x.aM[k].bC.take j)<|Nat.mul_le_mul_left 5<|jO x.aM[k].bC j
   refine vg hq<|uw (iZ (dp (by omega) (by omega))<|dp (by omega) (by omega))<|u3 (λh=>u4 ⟨rfl,gA hj (by rw[Bool.not_eq_true']at h;exact h)⟩)<|λh=>?_
   refine uw (bV (by simp only[bL,List.length_nil];omega))<|uw (bV (by simp only[bG,bL,List.length_nil];omega))<|uw (bV (by simp only[bG,bL,List.length_nil];omega))<|vC (by simp only[bG,bL,List.length_nil];omega)<|vc ⟨?_,dz hj hall2 (by simpa[gz]using h)⟩
   rw[jT hj];simp[kd]
  ·intro o ho;refine vd ho ?_<|λr hr=>u4 ⟨hr.1,gA hk (by unfold d6;rw[hr.2,Bool.and_false])⟩
   rintro s⟨rfl,hpk⟩;have hl3:=iY x.aM[k].bC;refine vC (by simp only[jA,bG,bL,List.length_nil];omega)<|vc ⟨?_,dz hk hall (by unfold d6;rw[hnm,hpk];rfl)⟩
   rw[nr hk];simp
 intro o ho;refine vd ho ?_<|λr hr=>uS ?_
 rotate_left
 ·obtain⟨rfl,hr⟩:=hr;unfold jU ib;rw[hr,Bool.and_false,aK rfl]
 rintro s⟨rfl,hns⟩;unfold jU ib;rw[hps,hns,aP (by simp)];refine u3 (λh=>uS ?_)<|λh=>uS ?_
 ·have:2000000<(gq x).length:=by have:=of_decide_eq_true h;unfold gq;omega
  rw[aK this]
 ·have:¬2000000<(gq x).length:=by have:=of_decide_eq_false h;unfold gq;omega
  rw[aP this];rfl
theorem pX(hx:bk x<=1048576)(hN:4398046511104<=N):cN N x=some (jU x):=by
 have hxb:=eu x;have hpl:=gi x.aO;have hnl:=gi x.aM;refine vB ?_;unfold cN;refine va (vf (Go:=λs=>s=(⟨lj x.aO⟩:aH)/\x.aO.all dC=true) (Rt:=λr=>r=((⟨[]⟩:aH),(3:Int))/\x.aO.all dC=false) (λk s=>s=(⟨lj<|x.aO.take k⟩:aH)/\(x.aO.take k).all dC=true) (by omega) ⟨rfl,rfl⟩ (λk s hk hI=>?_) (λs hI=>by rw[fI]at hI;exact hI)) ?_
 ·obtain⟨rfl,hall⟩:=hI;have hp:x.aO[k]? =some x.aO[k]:=bD hk;obtain⟨h1,h2⟩:=lk hx<|d7 hk
  have hl:=nu x.aO k;refine vg hp<|uw (iZ (eg (by omega))<|eg (by omega))<|u3 (λh=>u4 ⟨rfl,gA hk (by rw[Bool.not_eq_true']at h;exact h)⟩)<|λh=>?_
  refine uw (bV (by simp only[bL,List.length_nil];omega))<|uw (bV (by simp only[bG,bL,List.length_nil];omega))<|uw (bV (by simp only[bG,bL,List.length_nil];omega))<|uw (bV (by simp only[bG,bL,List.length_nil];omega))<|uw (bV (by simp only[bG,bL,List.length_nil];omega))<|vc ⟨?_,dz hk hall (by simpa[dC]using h)⟩
  rw[nm hk];simp[g3]
 intro o ho;refine vd ho ?_<|λr hr=>uS ?_
 rotate_left
 ·obtain⟨rfl,hr⟩:=hr;unfold jU ib;rw[hr,aK (by simp)]
 rintro s⟨rfl,hps⟩;have hl0:=kI x.aO;refine va (vf (Go:=λs=>s=(⟨lj x.aO++lB x.aM⟩:aH)/\x.aM.all d6=true) (Rt:=λr=>r=((⟨[]⟩:aH),(3:Int))/\x.aM.all d6=false) (λk s=>s=(⟨lj x.aO++lB (x.aM.take k)⟩:aH)/\(x.aM.take k).all d6=true) (by omega) ⟨by simp[lB,jB],rfl⟩ (λk s hk hI=>?_) (λs hI=>by rw[fI]at hI;exact hI)) ?_
 ·obtain⟨rfl,hall⟩:=hI;have hn:x.aM[k]? =some x.aM[k]:=bD hk;obtain⟨h1,h2,_,h3,h4⟩:=ke hx<|d7 hk
  have hl:=nv x.aM k;refine vg hn<|uw (eg (by omega))<|u3 (λh=>u4 ⟨rfl,gA hk (by unfold d6;simp only[Bool.not_eq_true']at h;rw[h];rfl)⟩)<|λh=>?_
  have hnm:bY x.aM[k].Name=true:=by simpa using h
  refine uw (bV (by simp only[bL,List.length_nil];omega))<|uw (bV (by simp only[bG,bL,List.length_nil];omega)) ?_
  refine va (vf (Go:=λs=>s=(⟨(lj x.aO++lB (x.aM.take k))++jA x.aM[k]⟩:aH)/\x.aM[k].bC.all gz=true) (Rt:=λr=>r=((⟨[]⟩:aH),(3:Int))/\x.aM[k].bC.all gz=false)
   (λj s=>s=(⟨(lj x.aO++lB (x.aM.take k))++([110,101,116,32]++x.aM[k].Name.aN++(x.aM[k].bC.take j).flatMap kd)⟩:aH)/\(x.aM[k].bC.take j).all gz=true) (by omega) ⟨by simp,rfl⟩ (λj s hj hI=>?_) (λs hI=>by rw[fI]at hI;exact hI)) ?_
  ·obtain⟨rfl,hall2⟩:=hI;have hq:x.aM[k].bC[j]? =some x.aM[k].bC[j]:=bD hj;obtain⟨h5,h6⟩:=h4 _<|d7 hj
   have hl2:=fJ (iY<|x.aM[k].bC.take j)<|Nat.mul_le_mul_left 5<|jO x.aM[k].bC j
   refine vg hq<|uw (iZ (eg (by omega))<|eg (by omega))<|u3 (λh=>u4 ⟨rfl,gA hj (by rw[Bool.not_eq_true']at h;exact h)⟩)<|λh=>?_
   refine uw (bV (by simp only[bL,List.length_nil];omega))<|uw (bV (by simp only[bG,bL,List.length_nil];omega))<|uw (bV (by simp only[bG,bL,List.length_nil];omega))<|uw (bV (by simp only[bG,bL,List.length_nil];omega))<|vc ⟨?_,dz hj hall2 (by simpa[gz]using h)⟩
   rw[jT hj];simp[kd]
  ·intro o ho;refine vd ho ?_<|λr hr=>u4 ⟨hr.1,gA hk (by unfold d6;rw[hr.2,Bool.and_false])⟩
   rintro s⟨rfl,hpk⟩;have hl3:=iY x.aM[k].bC;refine uw (bV (by simp only[jA,bG,bL,List.length_nil];omega))<|vc ⟨?_,dz hk hall (by unfold d6;rw[hnm,hpk];rfl)⟩
   rw[nr hk];simp
 intro o ho;refine vd ho ?_<|λr hr=>uS ?_
 rotate_left
 ·obtain⟨rfl,hr⟩:=hr;unfold jU ib;rw[hr,Bool.and_false,aK rfl]
 rintro s⟨rfl,hns⟩;unfold jU ib;rw[hps,hns,aP (by simp)];refine u3 (λh=>uS ?_)<|λh=>uS ?_
 ·have:2000000<(gq x).length:=by have:=of_decide_eq_true h;unfold gq;simp only at this;omega
  rw[aK this]
 ·have:¬2000000<(gq x).length:=by have:=of_decide_eq_false h;unfold gq;simp only at this;omega
  rw[aP this];rfl
theorem oS(hx:bk x<=1048576)(hp:x.aO.all dC=true)(hn:x.aM.all d6=true)(hl:(gq x).length<=2000000)(hN:4398046511104<=N):eP N ⟨gq x⟩=some (⟨x.aO,x.aM.map lh⟩,0,0):=by
 have hxb:=eu x;have hpl:=gi x.aO;have hnl:=gi x.aM;have hll:(cM x).length=x.aO.length+x.aM.length:=by simp[cM]
 rw[n6]at hl ⊢;refine vB ?_;unfold eP;rw[cH (show ¬(((⟨jB<|cM x⟩:aH).aN.length:Nat):Int)>2000000 by simp only;omega),cw]
 refine va (wV (Go:=λs:aH×(List Part)×(List Net)×Int=>s.2.1=x.aO/\s.2.2.1=x.aM.map lh) (Rt:=λ_=>False)
  (λs=>∃k:Nat,k<=(cM x).length/\s=(⟨jB ((cM x).drop k)⟩,qJ x k,qK x k,((k+1:Nat):Int))) (λs=>(cM x).length+1 - s.2.2.2.toNat) (λs hs=>?_) ⟨0,Nat.zero_le _,?_⟩ (by simp only;omega)) ?_
 ·obtain⟨k,hk,rfl⟩:=hs;dsimp only
  by_cases hlt:k<(cM x).length
  ·obtain⟨h1,h2⟩:=pV hlt<|qy hp hn
   have he:(⟨jB<|(cM x).drop k⟩:aH).fi ⟨[]⟩=false:=by
    rw[jN,decide_eq_false_iff_not];intro e;injection e with e;exact h2 e
   have hjl:=pW (cM x) k;have hcl:=nh ⟨jB<|(cM x).drop k⟩ 10;rw[h1]at hcl;rw[he,Bool.not_false,ei];refine uw (pP 10 (by simp only;omega)) ?_;rw[h1];obtain⟨r,h3,h4⟩:=ni (N:=N) (ps:=qJ x k) (ns:=qK x k) (line:=⟨(cM x)[k]⟩) (by simp only at hcl ⊢;omega) (by unfold qJ;rw[c9];omega) (by unfold qK;rw[List.length_map,c9];omega) (by omega);rw[pU hp hn hlt]at h4;simp only at h4;dsimp only;rw[g5,cw,h3,h4];simp only[aJ,g5,cw];refine vc ⟨⟨k+1,hlt,?_⟩,?_⟩
   ·rw[ng (by omega)]
   ·rw[ng (by omega),eA,eA];omega
  ·have:k=(cM x).length:=by omega
   subst this;rw[List.drop_length];have he:(⟨jB []⟩:aH).fi ⟨[]⟩=true:=rfl;rw[he,g5,cw];refine wU ⟨?_,?_⟩
   ·unfold qJ;exact eB (by omega)
   ·unfold qK;rw[eB (by omega)]
 ·unfold qJ qK;simp
 ·intro o ho;refine vd ho ?_<|λr h=>h.elim
  rintro⟨s1,s2,s3,s4⟩⟨h1,h2⟩;dsimp only at h1 h2 ⊢;subst h1;subst h2;exact uS rfl
theorem gL(hx:bk x<=1048576)(hN:4398046511104<=N):bO N x=some true:=by
 have hxb:=eu x;have hpl:=gi x.aO;have hnl:=gi x.aM;refine vB ?_;unfold bO;rw[qz hx hN,pX hx hN,aJ,aJ,bne_self_eq_false,Bool.false_or,jN,fL rfl,g5,cw,pO (by omega),aJ,g5,aJ,cw];unfold jU
 by_cases h1:ib x=false
 ·rw[aK h1];exact uS rfl
 rw[aP h1]
 by_cases h2:2000000<(gq x).length
 ·rw[aK h2];exact uS rfl
 rw[aP h2];have hok:x.aO.all dC=true/\x.aM.all d6=true:=by
  rw[Bool.not_eq_false]at h1;unfold ib at h1;rwa[bA]at h1
 dsimp only;rw[bne_self_eq_false,cw];refine va (vf (Go:=λ_=>∀n∈x.aM,n.du= []) (Rt:=λr=>r=true) (λk _=>∀n∈x.aM.take k,n.du= []) (by omega) (λn hn=>by simp at hn) (λk s hk hI=>?_) (λs hI=>by rw[fI]at hI;exact hI)) ?_
 ·have hn:x.aM[k]? =some x.aM[k]:=bD hk;refine vg hn<|u3 (λ_=>u4 rfl)<|λh=>vc λn hn=>?_
  rw[gB hk]at hn
  rcases gC.1 hn with hn|hn
  ·exact hI n hn
  ·rw[List.mem_singleton]at hn;subst hn;have:=of_decide_eq_false h;exact List.length_eq_zero_iff.1 (by omega)
 ·intro o ho;refine vd ho ?_<|λr hr=>uS hr
  intro s hs;have e:x.aM.map lh=x.aM:=by
   refine(List.map_congr_left λn hn=>?_).trans<|List.map_id _
   have:=hs n hn
   cases n
   simp only at this;subst this;rfl
  refine uw (oS hx hok.1 hok.2 (by omega) hN) ?_;rw[e];have hS:cE N x x=some true:=oP (by omega) (by omega) λn hn=>by
   obtain⟨_,h4,h5,_⟩:=ke hx hn;exact⟨h4,h5⟩
  dsimp only;rw[show(⟨x.aO,x.aM⟩:aQ)=x from rfl,hS];exact uS rfl
end
end Go.Gk
