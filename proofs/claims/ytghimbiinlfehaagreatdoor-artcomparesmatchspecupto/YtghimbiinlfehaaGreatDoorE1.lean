/-
  Helping texts: plain functions and plain laws. No statement of the seed is proved here.
-/
import Derived.Test.YtghimbiinlfehaaGreatDoorA1
import Derived.ChangeShapes
import Derived.ChangeSame
import Derived.Carry
import Derived.RowKit
import Derived.Test.YtghimbiinlfehaaGreatDoorA2
set_option linter.defProp false
set_option linter.unusedVariables false
set_option linter.unusedSimpArgs false
set_option linter.unusedSectionVars false
namespace Go.Gk
open Go IntKind
noncomputable section
structure dM where
 Name:cD
 Kind:Int
 bG:Int
 deriving DecidableEq,Inhabited
structure aS where
 Name:cD
 aT:Z dM
 deriving DecidableEq,Inhabited
structure Part where
 Name:cD
 jR:cD
 deriving DecidableEq,Inhabited
structure bC where
 Part:cD
 bC:cD
 deriving DecidableEq,Inhabited
structure Net where
 Name:cD
 aT:Z bC
 uj:Z cD
 deriving DecidableEq,Inhabited
structure cA where
 cR:Z Part
 bT:Z Net
 deriving DecidableEq,Inhabited
structure aJ where
 X0:Int
 Y0:Int
 X1:Int
 Y1:Int
 deriving DecidableEq,Inhabited
structure kF where
 X:Int
 Y:Int
 deriving DecidableEq,Inhabited
structure cL where
 At:kF
 eC:Int
 dS:Int
 To:Int
 il:Bool
 deriving DecidableEq,Inhabited
structure eQ where
 Part:cD
 bC:cD
 dW:Int
 At:kF
 deriving DecidableEq,Inhabited
structure lj where
 aP:Z (Z aJ)
 dF:Z aJ
 aZ:Z cL
 bW:Z eQ
 deriving DecidableEq,Inhabited
structure aB where
 Y0:Int
 Y1:Int
 Xs:Z Int
 deriving DecidableEq,Inhabited
structure aL where
 dW:Int
 Set:Z aB
 jw:Z aJ
 deriving DecidableEq,Inhabited
structure bG where
 jQ:Z Int
 aZ:Z Int
 aT:Z bC
 deriving DecidableEq,Inhabited
structure ld where
 cL:Bool
 Number:Int
 deriving DecidableEq,Inhabited
structure cI where
 Kind:Int
 bT:Z cD
 aT:Z bC
 deriving DecidableEq,Inhabited
structure aF where
 from_:Int
 to:Int
 deriving DecidableEq,Inhabited
structure aQ where
 from_:Int
 to:Int
 kG:Z aF
 deriving DecidableEq,Inhabited
def kl(N:Nat)(p0:cD)(p1:Int):aV Int:=
 some (Lib.indexByte p0.cY (Int.toNat p1).toUInt8)
def g9(N:Nat)(p0:cD)(p1:Int):aV Int:=
 (kl N p0 p1).bind λj=>some j
def i7(N:Nat)(p0:cD):aV Bool:=
 (qT p0.cY.length (λ(o:Nat)(aa:Unit)=>((Jl p0 (o:Int)).bind λj=>(bif((decide ((j.toNat:Int)<65)||decide ((j.toNat:Int)>90))&&(decide ((j.toNat:Int)<97)||decide ((j.toNat:Int)>122)))&&(decide ((j.toNat:Int)<48)||decide ((j.toNat:Int)>57))then((g9 N (⟨[95,43,45,35]⟩) (j.toNat:Int)).bind λab=>some<|decide<|ab<0)else some false).bind λad=>bif ad then some (.rt false)else(some<|.nx ()):aV (Fl Unit Bool))) ()).bind λae=>ae.cs (λ(aa:Unit)=>some<|decide ((p0.cY.length:Int)>=1)&&decide ((p0.cY.length:Int)<=40))<|λr=>some r
def iA(N:Nat)(p0 p1:dM):aV Bool:=
 (bif decide (p1.bG>0)then(bif p0.bG==p1.bG then some (p0.Kind != p1.Kind)else some false)else some false).bind λj=>some j
def nu(N:Nat)(p0:Z dM)(p1:dM->aV Bool):aV Int:=
 (qT p0.length (λ(j:Nat)(o:Unit)=>((idx p0 (j:Int)).bind λaa=>(p1 aa).bind λab=>bif ab then some (.rt (j:Int))else(some<|.nx ()):aV (Fl Unit Int))) ()).bind λad=>ad.cs (λ(o:Unit)=>some<|-1)<|λr=>some r
def jP(N:Nat)(p0:Z dM)(p1:dM->aV Bool):aV Bool:=
 (nu N p0 p1).bind λj=>some<|decide<|j>=0
def mW(N:Nat)(p0:Z dM):aV Int:=
 bif(p0.length:Int)==0 then some 9 else(bif decide ((p0.length:Int)>200)then some 2 else((qT p0.length (λ(o:Nat)(ad:Unit)=>((idx p0 (o:Int)).bind λj=>(i7 N j.Name).bind λae=>bif(!ae)then some (.rt 5)else(bif decide (j.Kind<1)||decide (j.Kind>7)then some (.rt 4)else(bif decide (j.bG<0)||decide (j.bG>200)then some (.rt 1)else((bif decide ((o:Int)>0)then((idx p0<|wrap .i64<|(o:Int) - 1).bind λaa=>some<|j.Name.mH aa.Name||j.Name.kj aa.Name)else some false).bind λaf=>bif af then some (.rt 8)else some (.nx ())))):aV (Fl Unit Int))) ()).bind λag=>ag.cs (λ(ad:Unit)=>(qT p0.length (λ(ab:Nat)(ah:Unit)=>((idx p0 (ab:Int)).bind λai=>(ui p0 0 (ab:Int)).bind λaj=>(jP N aj<|λy0=>iA N y0 ai).bind λak=>bif ak then some (.rt 12)else(some<|.nx ()):aV (Fl Unit Int))) ()).bind λal=>al.cs (λ(ah:Unit)=>some 0)<|λr=>some r)<|λr=>some r))
def me(N:Nat)(p0:Z aS):aV Int:=
 bif decide ((p0.length:Int)>200)then some 2 else((qT p0.length (λ(o:Nat)(ad:Unit)=>((idx p0 (o:Int)).bind λj=>(i7 N j.Name).bind λae=>bif(!ae)then some (.rt 5)else((mW N j.aT).bind λaa=>bif aa != 0 then some (.rt aa)else((bif decide ((o:Int)>0)then((idx p0<|wrap .i64<|(o:Int) - 1).bind λab=>some<|j.Name.mH ab.Name||j.Name.kj ab.Name)else some false).bind λaf=>bif af then some (.rt 8)else some (.nx ()))):aV (Fl Unit Int))) ()).bind λag=>ag.cs (λ(ad:Unit)=>some 0)<|λr=>some r)
def fJ(N:Nat)(p0:Z aS)(p1:cD)(p2:aS->cD->aV Int):aV (Int×Bool):=
 (iL (λ(j:Int×Int)=>(bif decide (j.1<j.2)then((idx p0<|wrap .i64<|Int.fdiv (wrap .u64<|wrap .i64<|j.1+j.2) 2).bind λaa=>(p2 aa p1).bind λab=>(bif decide (ab<0)then some (wrap .i64<|wrap .i64 (Int.fdiv (wrap .u64<|wrap .i64<|j.1+j.2) 2)+1,j.2)else some (j.1,wrap .i64<|Int.fdiv (wrap .u64<|wrap .i64<|j.1+j.2) 2)).bind λo=>some<|.nx (o.1,o.2))else(some<|.br (j.1,j.2)):aV (Fl (Int×Int) Empty))) N (0,(p0.length:Int))).bind λad=>ad.cs (λ(j:Int×Int)=>(bif decide (j.1<(p0.length:Int))then((idx p0 j.1).bind λae=>(p2 ae p1).bind λaf=>some<|af==0)else some false).bind λag=>some (j.1,ag))<|λr=>r.elim
def o6(N:Nat)(p0 p1:cD):aV Int:=
 some (Lib.compareBytes p0.cY p1.cY)
def lE(N:Nat)(p0 p1:cD):aV Int:=
 (o6 N p0 p1).bind λj=>some j
def lk(N:Nat)(p0:aS)(p1:cD):aV Int:=
 (lE N p0.Name p1).bind λj=>some j
def mf(N:Nat)(p0:Z aS)(p1:cD):aV Int:=
 (fJ N p0 p1<|lk N).bind λj=>bif(!j.2)then some (-1)else some j.1
def mg(N:Nat)(p0:Z aS)(p1:Z Part)(p2:cD->aV Bool):aV Int:=
 bif decide ((p1.length:Int)>1000)then some 2 else((qT p1.length (λ(o:Nat)(ab:Unit)=>((idx p1 (o:Int)).bind λj=>(p2 j.Name).bind λad=>bif(!ad)then some (.rt 5)else((mf N p0 j.jR).bind λae=>bif decide (ae<0)then some (.rt 9)else((bif decide ((o:Int)>0)then((idx p1<|wrap .i64<|(o:Int) - 1).bind λaa=>some<|j.Name.mH aa.Name||j.Name.kj aa.Name)else some false).bind λaf=>bif af then some (.rt 8)else some (.nx ()))):aV (Fl Unit Int))) ()).bind λag=>ag.cs (λ(ab:Unit)=>some 0)<|λr=>some r)
def mX(N:Nat)(p0 p1:cD):aV Int:=
 bif((p1.cY.length:Int)==0)||p1.kj p0 then some 0 else(bif(p1.cY.length:Int)==1 then((Jl p1 0).bind λj=>(kl N p0 (j.toNat:Int)).bind λo=>some o)else(bif decide ((p1.cY.length:Int)>=(p0.cY.length:Int))then some (-1)else none))
def oS(N:Nat)(p0 p1:cD):aV Int:=
 (mX N p0 p1).bind λj=>some j
def qU(N:Nat)(p0 p1:cD):aV Int:=
 bif(p1.cY.length:Int)==0 then none else(bif(p1.cY.length:Int)==1 then((Jl p1 0).bind λaa=>some ((Lib.countByte p0.cY (Int.toNat (aa.toNat:Int)).toUInt8:Nat):Int))else((iL (λ(j:cD×Int)=>((oS N j.1 p1).bind λo=>bif o==(-1)then some (.rt j.2)else((Cr j.1 (wrap .i64<|o+(p1.cY.length:Int)) (j.1.cY.length:Int)).bind λab=>some<|.nx (ab,wrap .i64<|j.2+1)):aV (Fl (cD×Int) Int))) N (p0,0)).bind λad=>ad.cs (λ(j:cD×Int)=>some 0)<|λr=>some r))
def qt(N:Nat)(p0 p1:cD)(p2 p3:Int):aV (Z cD):=
 bif p3==0 then some ([]:Z cD)else(bif p1.kj (⟨[]⟩)then none else((bif decide (p3<0)then((qU N p0 p1).bind λab=>some<|wrap .i64<|ab+1)else some p3).bind λo=>(mk 16 (⟨[]⟩:cD) (if wrap .i64 ((p0.cY.length:Int)+1)<o then wrap .i64 ((p0.cY.length:Int)+1)else o)).bind λad=>(iL (λ(j:cD×Z cD×Int)=>(bif decide (j.2.2< wrap .i64 ((if wrap .i64 ((p0.cY.length:Int)+1)<o then wrap .i64 ((p0.cY.length:Int)+1)else o) - 1))then((oS N j.1 p1).bind λaa=>bif decide (aa<0)then some (.br (j.1,j.2.1,j.2.2))else((Cr j.1 0<|wrap .i64<|aa+p2).bind λae=>(idx j.2.1 j.2.2).bind λai=>(Cr j.1 (wrap .i64<|aa+(p1.cY.length:Int)) (j.1.cY.length:Int)).bind λaf=>some<|.nx (af,j.2.1.set (Int.toNat j.2.2) ae,wrap .i64<|j.2.2+1)))else(some<|.br (j.1,j.2.1,j.2.2)):aV (Fl (cD×Z cD×Int) Empty))) N (p0,ad,0)).bind λag=>ag.cs (λ(j:cD×Z cD×Int)=>(idx j.2.1 j.2.2).bind λaj=>(ui (j.2.1.set (Int.toNat j.2.2) j.1) 0<|wrap .i64<|j.2.2+1).bind λah=>some ah)<|λr=>r.elim))
def nv(N:Nat)(p0 p1:cD):aV (Z cD):=
 (qt N p0 p1 0<|-1).bind λj=>some j
def nJ(N:Nat)(p0:Z cD)(p1:cD->aV Bool):aV Int:=
 (qT p0.length (λ(j:Nat)(o:Unit)=>((idx p0 (j:Int)).bind λaa=>(p1 aa).bind λab=>bif ab then some (.rt (j:Int))else(some<|.nx ()):aV (Fl Unit Int))) ()).bind λad=>ad.cs (λ(o:Unit)=>some<|-1)<|λr=>some r
def jZ(N:Nat)(p0:Z cD)(p1:cD->aV Bool):aV Bool:=
 (nJ N p0 p1).bind λj=>some<|decide<|j>=0
def j3(N:Nat)(p0:cD):aV Bool:=
 (i7 N p0).bind λj=>some<|!j
def kR(N:Nat)(p0:cD):aV Bool:=
 (bif decide ((p0.cY.length:Int)<=200)then((nv N p0<|⟨[47]⟩).bind λj=>(jZ N j<|j3 N).bind λo=>some<|!o)else some false).bind λaa=>some aa
def gD(N:Nat)(p0:Z Part)(p1:cD)(p2:Part->cD->aV Int):aV (Int×Bool):=
 (iL (λ(j:Int×Int)=>(bif decide (j.1<j.2)then((idx p0<|wrap .i64<|Int.fdiv (wrap .u64<|wrap .i64<|j.1+j.2) 2).bind λaa=>(p2 aa p1).bind λab=>(bif decide (ab<0)then some (wrap .i64<|wrap .i64 (Int.fdiv (wrap .u64<|wrap .i64<|j.1+j.2) 2)+1,j.2)else some (j.1,wrap .i64<|Int.fdiv (wrap .u64<|wrap .i64<|j.1+j.2) 2)).bind λo=>some<|.nx (o.1,o.2))else(some<|.br (j.1,j.2)):aV (Fl (Int×Int) Empty))) N (0,(p0.length:Int))).bind λad=>ad.cs (λ(j:Int×Int)=>(bif decide (j.1<(p0.length:Int))then((idx p0 j.1).bind λae=>(p2 ae p1).bind λaf=>some<|af==0)else some false).bind λag=>some (j.1,ag))<|λr=>r.elim
def ll(N:Nat)(p0:Part)(p1:cD):aV Int:=
 (lE N p0.Name p1).bind λj=>some j
def pN(N:Nat)(p0:Z Part)(p1:cD):aV Int:=
 (gD N p0 p1<|ll N).bind λj=>bif(!j.2)then some (-1)else some j.1
def fM(N:Nat)(p0:Z dM)(p1:cD)(p2:dM->cD->aV Int):aV (Int×Bool):=
 (iL (λ(j:Int×Int)=>(bif decide (j.1<j.2)then((idx p0<|wrap .i64<|Int.fdiv (wrap .u64<|wrap .i64<|j.1+j.2) 2).bind λaa=>(p2 aa p1).bind λab=>(bif decide (ab<0)then some (wrap .i64<|wrap .i64 (Int.fdiv (wrap .u64<|wrap .i64<|j.1+j.2) 2)+1,j.2)else some (j.1,wrap .i64<|Int.fdiv (wrap .u64<|wrap .i64<|j.1+j.2) 2)).bind λo=>some<|.nx (o.1,o.2))else(some<|.br (j.1,j.2)):aV (Fl (Int×Int) Empty))) N (0,(p0.length:Int))).bind λad=>ad.cs (λ(j:Int×Int)=>(bif decide (j.1<(p0.length:Int))then((idx p0 j.1).bind λae=>(p2 ae p1).bind λaf=>some<|af==0)else some false).bind λag=>some (j.1,ag))<|λr=>r.elim
def l7(N:Nat)(p0:dM)(p1:cD):aV Int:=
 (lE N p0.Name p1).bind λj=>some j
def qV(N:Nat)(p0:aS)(p1:cD):aV Int:=
 (fM N p0.aT p1<|l7 N).bind λj=>bif(!j.2)then some (-1)else some j.1
def r8(N:Nat)(p0:Z aS)(p1:Z Part)(p2:bC):aV Bool:=
 (pN N p1 p2.Part).bind λj=>(bif decide (j>=0)then((idx p1 j).bind λo=>(mf N p0 o.jR).bind λaa=>(idx p0 aa).bind λab=>(qV N ab p2.bC).bind λad=>some<|decide<|ad>=0)else some false).bind λae=>some ae
def mY(N:Nat)(p0:bC)(p1:Z aS)(p2:cA):aV Bool:=
 (r8 N p1 p2.cR p0).bind λj=>some j
def eM(N:Nat)(p0 p1:bC):aV Int:=
 (lE N p0.Part p1.Part).bind λj=>bif j != 0 then some j else((lE N p0.bC p1.bC).bind λo=>some o)
def kS(N:Nat)(p0:Z bC)(p1:bC->aV Bool)(p2:Z (bC×Bool)):aV (Int×Z (bC×Bool)):=
 bif decide ((p0.length:Int)>500)then some (2,p2)else((qT p0.length (λ(j:Nat)(ab:Unit)=>((idx p0 (j:Int)).bind λo=>(p1 o).bind λad=>bif(!ad)then some (.rt (9,p2))else((bif decide ((j:Int)>0)then((idx p0<|wrap .i64<|(j:Int) - 1).bind λae=>(eM N o ae).bind λaf=>some<|decide<|af<=0)else some false).bind λag=>bif ag then some (.rt (8,p2))else(bif fP p2 o (false:Bool)then some (.rt (7,p2))else some (.nx ()))):aV (Fl Unit<|Int×Z (bC×Bool)))) ()).bind λah=>ah.cs (λ(ab:Unit)=>(mc p0.length (λ(ai:Nat)(aa:Z (bC×Bool))=>((idx p0 (ai:Int)).bind λaj=>some (pM aa aj true):aV (Z<|bC×Bool))) p2).bind λaa=>some (0,aa))<|λr=>some r)
def ln(N:Nat)(p0:Z aS)(p1:cA):aV Int:=
 (me N p0).bind λab=>bif ab != 0 then some ab else((mg N p0 p1.cR<|kR N).bind λad=>bif ad != 0 then some ad else(bif decide ((p1.bT.length:Int)>1000)then some 2 else((qT p1.bT.length (λ(o:Nat)(ae:Z (bC×Bool))=>((idx p1.bT (o:Int)).bind λj=>(kR N j.Name).bind λag=>bif(!ag)then some (.rt 5)else(bif(j.aT.length:Int)==0 then some (.rt 9)else((kS N j.aT (λy0=>mY N y0 p0 p1) ae).bind λaa=>bif aa.1 != 0 then some (.rt aa.1)else(bif decide ((j.uj.length:Int)>0)then some (.rt 3)else((bif decide ((o:Int)>0)then((idx p1.bT<|wrap .i64<|(o:Int) - 1).bind λaf=>some<|j.Name.mH af.Name||j.Name.kj af.Name)else some false).bind λah=>bif ah then some (.rt 8)else some (.nx aa.2))))):aV (Fl (Z<|bC×Bool) Int))) ([]:Z (bC×Bool))).bind λai=>ai.cs (λ(ae:Z (bC×Bool))=>some 0)<|λr=>some r)))
def ye(N:Nat)(p0 p1 p2:Int):aV Bool:=
 some (decide (p0>=p1)&&decide (p0<=p2))
def oj(N:Nat)(p0:Int):aV Bool:=
 (ye N p0 (-1000000) 1000000).bind λj=>some j
def qu(N:Nat)(p0:aJ):aV Bool:=
 ((oj N p0.X0).bind λj=>bif j then((oj N p0.Y0).bind λo=>bif o then((oj N p0.X1).bind λaa=>bif aa then((oj N p0.Y1).bind λab=>some ab)else some false)else some false)else some false).bind λad=>some ad
def nK(N:Nat)(p0:Z aJ):aV Int:=
 bif decide ((p0.length:Int)>2000)then some 2 else((qT p0.length (λ(o:Nat)(aa:Unit)=>((idx p0 (o:Int)).bind λj=>(qu N j).bind λab=>bif(!ab)then some (.rt 1)else(bif decide (j.X1<=j.X0)||decide (j.Y1<=j.Y0)then some (.rt 13)else some (.nx ())):aV (Fl Unit Int))) ()).bind λad=>ad.cs (λ(aa:Unit)=>some 0)<|λr=>some r)
def lq(N:Nat)(p0:Z aJ):aV (Z aJ):=
 (app 32 ([]:Z aJ) p0).bind λj=>some j
def mh(N:Nat)(p0 p1:aJ):aV Int:=
 some (wrap .i64<|p0.Y0 - p1.Y0)
def jl(N:Nat)(p0:Z Int):aV (Z Int):=
 bif decide ((p0.length:Int)<2)then some p0 else((iL (λ(o:Int)=>(bif decide (o<(p0.length:Int))then((idx p0 o).bind λab=>(idx p0<|wrap .i64<|o - 1).bind λad=>bif ab==ad then((ui p0 o (p0.length:Int)).bind λak=>(iL (λ(j:Z Int×Int×Int)=>(bif decide (j.2.2<(((j.1.length - Int.toNat o):Nat):Int))then((Ml j.1 o j.2.2).bind λae=>(Ml j.1 o<|wrap .i64<|j.2.2 - 1).bind λaf=>(bif ae != af then((Ml j.1 o j.2.2).bind λag=>(idx j.1 j.2.1).bind λal=>some (j.1.set (Int.toNat j.2.1) ag,wrap .i64<|j.2.1+1))else some (j.1,j.2.1)).bind λaa=>some<|.nx (aa.1,aa.2,wrap .i64<|j.2.2+1))else(some<|.br (j.1,j.2.1,j.2.2)):aV (Fl (Z Int×Int×Int) Empty))) N (p0,o,1)).bind λah=>ah.cs (λ(j:Z Int×Int×Int)=>(ui j.1 j.2.1 (j.1.length:Int)).bind λan=>(ui (j.1.take (Int.toNat j.2.1)++List.replicate (j.1.length - Int.toNat j.2.1) (0:Int)) 0 j.2.1).bind λai=>some<|.rt ai)<|λr=>r.elim)else some (.nx<|wrap .i64<|o+1))else(some<|.br o):aV (Fl Int<|Z Int))) N 1).bind λaj=>aj.cs (λ(o:Int)=>some p0)<|λr=>some r)
def r9(N:Nat)(p0:aJ)(p1:Z Int)(p2:Int):aV Bool:=
 (idx p1 p2).bind λj=>some<|decide<|p0.Y1<=j
def o7(N:Nat)(p0:Z aJ)(p1:aJ->aV Bool):aV Int:=
 (qT p0.length (λ(j:Nat)(o:Unit)=>((idx p0 (j:Int)).bind λaa=>(p1 aa).bind λab=>bif ab then some (.rt (j:Int))else(some<|.nx ()):aV (Fl Unit Int))) ()).bind λad=>ad.cs (λ(o:Unit)=>some<|-1)<|λr=>some r
def ny(N:Nat)(p0:Z aJ)(p1:aJ->aV Bool):aV Int:=
 (qT p0.length (λ(j:Nat)(o:Unit)=>((idx p0 (j:Int)).bind λaa=>(p1 aa).bind λab=>bif ab then some (.rt (j:Int))else(some<|.nx ()):aV (Fl Unit Int))) ()).bind λad=>ad.cs (λ(o:Unit)=>some<|-1)<|λr=>some r
def j4(N:Nat)(p0:Z aJ)(p1:aJ->aV Bool):aV (Z aJ):=
 (ny N p0 p1).bind λo=>bif o==(-1)then some p0 else((iL (λ(j:Z aJ×Int×Int)=>(bif decide (j.2.2<(j.1.length:Int))then((idx j.1 j.2.2).bind λaa=>(p1 aa).bind λad=>(bif(!ad)then((idx j.1 j.2.1).bind λag=>some (j.1.set (Int.toNat j.2.1) aa,wrap .i64<|j.2.1+1))else some (j.1,j.2.1)).bind λab=>some<|.nx (ab.1,ab.2,wrap .i64<|j.2.2+1))else(some<|.br (j.1,j.2.1,j.2.2)):aV (Fl (Z aJ×Int×Int) Empty))) N (p0,o,wrap .i64<|o+1)).bind λae=>ae.cs (λ(j:Z aJ×Int×Int)=>(ui j.1 j.2.1 (j.1.length:Int)).bind λah=>(ui (j.1.take (Int.toNat j.2.1)++List.replicate (j.1.length - Int.toNat j.2.1) (⟨0,0,0,0⟩:aJ)) 0 j.2.1).bind λaf=>some af)<|λr=>r.elim)
def jm(N:Nat)(p0 p1:aJ):aV Int:=
 some (wrap .i64<|p0.X0 - p1.X0)
def lF(N:Nat)(p0:Z aJ):aV (Z Int×Z aJ):=
 (z8 (jm N) p0).bind λaa=>(mc aa.length (λ(ad:Nat)(j:Z Int)=>((idx aa (ad:Int)).bind λo=>(bif decide (wrap .i64 ((j.length:Int) - 1)>=0)then((idx j<|wrap .i64<|(j.length:Int) - 1).bind λae=>some<|decide<|o.X0<=ae)else some false).bind λaf=>(bif af then((idx j<|wrap .i64<|(j.length:Int) - 1).bind λab=>(idx j<|wrap .i64<|(j.length:Int) - 1).bind λai=>some<|j.set (Int.toNat<|wrap .i64<|(j.length:Int) - 1) (if ab<o.X1 then o.X1 else ab))else((app 8 j ([o.X0,o.X1]:Z Int)).bind λag=>some ag)).bind λah=>some ah:aV (Z Int))) ([]:Z Int)).bind λj=>some (j,aa)
def qw(N:Nat)(p0:Z Int)(p1:Z Int):aV Bool:=
 bif(p0.length:Int) != (p1.length:Int)then some false else((qT p0.length (λ(j:Nat)(o:Unit)=>((idx p0 (j:Int)).bind λaa=>(idx p1 (j:Int)).bind λab=>bif aa != ab then some (.rt false)else(some<|.nx ()):aV (Fl Unit Bool))) ()).bind λad=>ad.cs (λ(o:Unit)=>some true)<|λr=>some r)
def kT(N:Nat)(p0:Z aB)(p1:aB):aV (Z aB):=
 bif((p1.Xs.length:Int)==0)||decide (p1.Y1<=p1.Y0)then some p0 else((bif decide (wrap .i64 ((p0.length:Int) - 1)>=0)then((idx p0<|wrap .i64<|(p0.length:Int) - 1).bind λj=>bif j.Y1==p1.Y0 then((idx p0<|wrap .i64<|(p0.length:Int) - 1).bind λo=>(qw N o.Xs p1.Xs).bind λaa=>some aa)else some false)else some false).bind λab=>bif ab then((idx p0<|wrap .i64<|(p0.length:Int) - 1).bind λad=>some<|p0.set (Int.toNat<|wrap .i64<|(p0.length:Int) - 1)<|{ad with Y1:=p1.Y1})else((app 40 p0 ([p1]:Z aB)).bind λae=>some ae))
def jy(N:Nat)(p0:Z aJ):aV (Z aB):=
 (lq N p0).bind λag=>(z8 (mh N) ag).bind λaa=>(mc aa.length (λ(ah:Nat)(ad:Z Int)=>((idx aa (ah:Int)).bind λae=>(app 8 ad ([ae.Y0,ae.Y1]:Z Int)).bind λai=>some ai:aV (Z Int))) ([]:Z Int)).bind λad=>(z7 ad).bind λaj=>(jl N aj).bind λab=>(iL (λ(j:Z aB×Z aJ×Int×Int)=>(bif decide (wrap .i64 (j.2.2.2+1)<(ab.length:Int))then((j4 N j.2.1<|λy0=>r9 N y0 ab j.2.2.2).bind λFP=>(iL (λ(o:Z aJ×Int)=>((bif decide (o.2<(aa.length:Int))then((idx aa o.2).bind λak=>(idx ab j.2.2.2).bind λal=>some<|decide<|ak.Y0<=al)else some false).bind λan=>bif an then((idx aa o.2).bind λao=>(app 32 o.1 ([ao]:Z aJ)).bind λaq=>some<|.nx (aq,wrap .i64<|o.2+1))else(some<|.br (o.1,o.2)):aV (Fl (Z aJ×Int) Empty))) N (FP,j.2.2.1)).bind λar=>ar.cs (λ(o:Z aJ×Int)=>(idx ab j.2.2.2).bind λau=>(idx ab<|wrap .i64<|j.2.2.2+1).bind λav=>(lF N o.1).bind λaf=>(kT N j.1 (⟨au,av,af.1⟩:aB)).bind λaw=>some<|.nx (aw,af.2,o.2,wrap .i64<|j.2.2.2+1))<|λr=>r.elim)else(some<|.br (j.1,j.2.1,j.2.2.1,j.2.2.2)):aV (Fl (Z aB×Z aJ×Int×Int) Empty))) N (([]:Z aB),([]:Z aJ),0,0)).bind λax=>ax.cs (λ(j:Z aB×Z aJ×Int×Int)=>some j.1)<|λr=>r.elim
def lG(N:Nat)(p0:Z aB):aV (Z aJ):=
 (mc p0.length (λ(ab:Nat)(aa:Z aJ)=>((idx p0 (ab:Int)).bind λo=>(iL (λ(j:Z aJ×Int)=>(bif decide (j.2<(o.Xs.length:Int))then((idx o.Xs j.2).bind λad=>(idx o.Xs<|wrap .i64<|j.2+1).bind λae=>(app 32 j.1 ([(⟨ad,o.Y0,ae,o.Y1⟩:aJ)]:Z aJ)).bind λaf=>some<|.nx (af,wrap .i64<|j.2+2))else(some<|.br (j.1,j.2)):aV (Fl (Z aJ×Int) Empty))) N (aa,0)).bind λag=>ag.cs (λ(j:Z aJ×Int)=>some j.1) (λr=>r.elim):aV (Z aJ))) ([]:Z aJ)).bind λaa=>some aa
def mZ(N:Nat)(p0:Z aJ)(p1:Z aJ):aV Bool:=
 bif(p0.length:Int) != (p1.length:Int)then some false else((qT p0.length (λ(j:Nat)(o:Unit)=>((idx p0 (j:Int)).bind λaa=>(idx p1 (j:Int)).bind λab=>bif(!(decide<|aa=ab))then some (.rt false)else(some<|.nx ()):aV (Fl Unit Bool))) ()).bind λad=>ad.cs (λ(o:Unit)=>some true)<|λr=>some r)
def lr(N:Nat)(p0:Z aJ):aV Int:=
 (nK N p0).bind λab=>bif ab != 0 then some ab else((iL (λ(j:Int)=>(bif decide (j<(p0.length:Int))then((idx p0<|wrap .i64<|j - 1).bind λo=>(idx p0 j).bind λaa=>bif decide (aa.Y0<o.Y0)||((aa.Y0==o.Y0)&&decide (aa.X0<=o.X0))then some (.rt 8)else some (.nx<|wrap .i64<|j+1))else(some<|.br j):aV (Fl Int Int))) N 1).bind λad=>ad.cs (λ(j:Int)=>(jy N p0).bind λae=>(lG N ae).bind λaf=>(mZ N af p0).bind λag=>bif(!ag)then some 3 else some 0)<|λr=>some r)
def jU(N:Nat)(p0 p1 p2:Int):aV Bool:=
 some (decide (p0>=p1)&&decide (p0<=p2))
def lZ(N:Nat)(p0:kF):aV Bool:=
 ((oj N p0.X).bind λj=>bif j then((oj N p0.Y).bind λo=>some o)else some false).bind λaa=>some aa
def iJ(N:Nat)(p0:cL):aV aJ:=
 some (⟨wrap .i64<|p0.At.X -(wrap .i64<|Int.tdiv p0.eC 2),wrap .i64<|p0.At.Y -(wrap .i64<|Int.tdiv p0.eC 2),wrap .i64<|wrap .i64 (p0.At.X -(wrap .i64<|Int.tdiv p0.eC 2))+p0.eC,wrap .i64<|wrap .i64 (p0.At.Y -(wrap .i64<|Int.tdiv p0.eC 2))+p0.eC⟩:aJ)
def qx(N:Nat)(p0:Z aB):aV aJ:=
 (idx p0 0).bind λad=>(idx ad.Xs 0).bind λae=>(idx p0 0).bind λaf=>(idx p0 0).bind λag=>(idx ag.Xs 1).bind λah=>(idx p0<|wrap .i64<|(p0.length:Int) - 1).bind λai=>(mc p0.length (λ(aj:Nat)(j:aJ)=>((idx p0 (aj:Int)).bind λo=>(idx o.Xs 0).bind λaa=>(idx o.Xs<|wrap .i64<|(o.Xs.length:Int) - 1).bind λab=>some ({{j with X0:=(if aa<j.X0 then aa else j.X0)}with X1:=(if j.X1<ab then ab else j.X1)}):aV aJ)) (⟨ae,af.Y0,ah,ai.Y1⟩:aJ)).bind λj=>some j
def pO(N:Nat)(p0:Z aB):aV Bool:=
 (bif(p0.length:Int)==0 then some true else((qx N p0).bind λj=>(qu N j).bind λo=>some o)).bind λaa=>some aa
def nz(N:Nat)(p0:cL):aV (aJ×Int):=
 ((jU N p0.eC 1 10000).bind λo=>bif(!o)then some true else((lZ N p0.At).bind λaa=>some<|!aa)).bind λab=>bif ab then some ((⟨0,0,0,0⟩:aJ),1)else((iJ N p0).bind λj=>(jy N ([j]:Z aJ)).bind λad=>(pO N ad).bind λae=>bif(!ae)then some ((⟨0,0,0,0⟩:aJ),1)else some (j,0))
def m0(N:Nat)(p0:lj):aV Int:=
 bif decide ((p0.aZ.length:Int)>500)then some 2 else((qT p0.aZ.length (λ(aa:Nat)(ab:Unit)=>((idx p0.aZ (aa:Int)).bind λj=>(nz N j).bind λo=>bif o.2 != 0 then some (.rt o.2)else(((jU N j.dS 0<|wrap .i64<|(p0.aP.length:Int) - 1).bind λad=>bif(!ad)then some true else((jU N j.To j.dS<|wrap .i64<|(p0.aP.length:Int) - 1).bind λae=>some<|!ae)).bind λaf=>bif af then some (.rt 1)else some (.nx ())):aV (Fl Unit Int))) ()).bind λag=>ag.cs (λ(ab:Unit)=>some 0)<|λr=>some r)
def lU(N:Nat)(p0:eQ):aV bC:=
 some (⟨p0.Part,p0.bC⟩:bC)
def m6(N:Nat)(p0:lj):aV Int:=
 bif decide ((p0.bW.length:Int)>1000)then some 2 else((qT p0.bW.length (λ(o:Nat)(aa:Unit)=>((idx p0.bW (o:Int)).bind λj=>((kR N j.Part).bind λab=>bif(!ab)then some true else((i7 N j.bC).bind λad=>some<|!ad)).bind λae=>bif ae then some (.rt 5)else(((jU N j.dW 0<|wrap .i64<|(p0.aP.length:Int) - 1).bind λaf=>bif(!af)then some true else((lZ N j.At).bind λag=>some<|!ag)).bind λah=>bif ah then some (.rt 1)else((bif decide ((o:Int)>0)then((idx p0.bW<|wrap .i64<|(o:Int) - 1).bind λai=>(lU N j).bind λaj=>(lU N ai).bind λak=>(eM N aj ak).bind λal=>some<|decide<|al<=0)else some false).bind λan=>bif an then some (.rt 8)else some (.nx ()))):aV (Fl Unit Int))) ()).bind λao=>ao.cs (λ(aa:Unit)=>some 0)<|λr=>some r)
def oT(N:Nat)(p0 p1:Int)(p2 p3:Int):aV Int:=
 some (if(if 0<(wrap .i64<|wrap .i64 (p2 - p1)+1)then wrap .i64 (wrap .i64 (p2 - p1)+1)else 0)<(wrap .i64<|wrap .i64 (p0 - p3)+1)then wrap .i64 (wrap .i64 (p0 - p3)+1)else(if 0<(wrap .i64<|wrap .i64 (p2 - p1)+1)then wrap .i64 (wrap .i64 (p2 - p1)+1)else 0))
def xf(N:Nat)(p0 p1:aJ):aV Int:=
 (oT N p0.X0 p0.X1 p1.X0 p1.X1).bind λj=>(oT N p0.Y0 p0.Y1 p1.Y0 p1.Y1).bind λo=>some (if j<o then o else j)
def nL(N:Nat)(p0:cL)(p1:Int):aV Bool:=
 some (decide (p0.dS<=p1)&&decide (p1<=p0.To))
def qy(N:Nat)(p0:Z aB)(p1 p2:Int):aV (Z Int×Int):=
 bif(p0.length:Int)==0 then some (([]:Z Int),p2)else((idx p0 0).bind λaa=>bif decide (p1<aa.Y0)then((idx p0 0).bind λj=>some (([]:Z Int),(if j.Y0<p2 then j.Y0 else p2)))else((idx p0 0).bind λab=>(idx p0 0).bind λo=>some (ab.Xs,(if o.Y1<p2 then o.Y1 else p2))))
def vf(N:Nat)(p0:Z Int)(p1:Z Int)(p2:Bool->Bool->aV Bool):aV (Z Int):=
 (iL (λ(j:Z Int×Z Int×Z Int×Bool×Bool×Bool)=>((bif decide ((j.1.length:Int)>0)then some true else some (decide<|(j.2.1.length:Int)>0)).bind λaf=>bif af then((bif(j.2.1.length:Int)==0 then some true else(bif decide ((j.1.length:Int)>0)then((idx j.1 0).bind λag=>(idx j.2.1 0).bind λah=>some<|decide<|ag<=ah)else some false)).bind λai=>(bif ai then((idx j.1 0).bind λaj=>some aj)else((idx j.2.1 0).bind λak=>some ak)).bind λo=>(bif decide ((j.1.length:Int)>0)then((idx j.1 0).bind λal=>some<|al==o)else some false).bind λan=>(bif an then((ui j.1 1 (j.1.length:Int)).bind λao=>some (ao,(!j.2.2.2.1)))else some (j.1,j.2.2.2.1)).bind λaa=>(bif decide ((j.2.1.length:Int)>0)then((idx j.2.1 0).bind λaq=>some<|aq==o)else some false).bind λar=>(bif ar then((ui j.2.1 1 (j.2.1.length:Int)).bind λau=>some (au,(!j.2.2.2.2.1)))else some (j.2.1,j.2.2.2.2.1)).bind λab=>(p2 aa.2 ab.2).bind λad=>(bif ad != j.2.2.2.2.2 then((app 8 j.2.2.1 ([o]:Z Int)).bind λav=>some (av,ad))else some (j.2.2.1,j.2.2.2.2.2)).bind λae=>some<|.nx (aa.1,ab.1,ae.1,aa.2,ab.2,ae.2))else(some<|.br (j.1,j.2.1,j.2.2.1,j.2.2.2.1,j.2.2.2.2.1,j.2.2.2.2.2)):aV (Fl (Z Int×Z Int×Z Int×Bool×Bool×Bool) Empty))) N (p0,p1,([]:Z Int),false,false,false)).bind λaw=>aw.cs (λ(j:Z Int×Z Int×Z Int×Bool×Bool×Bool)=>some j.2.2.1)<|λr=>r.elim
def tH(N:Nat)(p0:Z aB)(p1:Z aB)(p2:Bool->Bool->aV Bool):aV (Z aB):=
 bif wrap .i64 ((p0.length:Int)+(p1.length:Int))==0 then some ([]:Z aB)else((mc (([p0,p1]:Z (Z aB)).length) (λ(ah:Nat)(o:Int×Int)=>((idx ([p0,p1]:Z (Z aB)) (ah:Int)).bind λad=>(bif decide ((ad.length:Int)>0)then((bif(ah:Int)==0 then some true else some ((p0.length:Int)==0)).bind λal=>(bif al then((idx ad 0).bind λan=>(idx ad<|wrap .i64<|(ad.length:Int) - 1).bind λao=>some (an.Y0,ao.Y1))else some (o.1,o.2)).bind λag=>(idx ad 0).bind λai=>(idx ad<|wrap .i64<|(ad.length:Int) - 1).bind λaj=>some ((if ai.Y0<ag.1 then ai.Y0 else ag.1),(if ag.2<aj.Y1 then aj.Y1 else ag.2)))else some (o.1,o.2)).bind λak=>some (ak.1,ak.2):aV (Int×Int))) (0,0)).bind λo=>(iL (λ(j:Z aB×Z aB×Z aB×Int)=>(bif decide (j.2.2.2<o.2)then((iL (λ(aa:Z aB)=>((bif decide ((aa.length:Int)>0)then((idx aa 0).bind λaq=>some<|decide<|aq.Y1<=j.2.2.2)else some false).bind λar=>bif ar then((ui aa 1 (aa.length:Int)).bind λau=>some<|.nx au)else(some<|.br aa):aV (Fl (Z aB) Empty))) N j.1).bind λav=>av.cs (λ(aa:Z aB)=>(iL (λ(ab:Z aB)=>((bif decide ((ab.length:Int)>0)then((idx ab 0).bind λaw=>some<|decide<|aw.Y1<=j.2.2.2)else some false).bind λax=>bif ax then((ui ab 1 (ab.length:Int)).bind λay=>some<|.nx ay)else(some<|.br ab):aV (Fl (Z aB) Empty))) N j.2.1).bind λaz=>az.cs (λ(ab:Z aB)=>(qy N aa j.2.2.2 o.2).bind λae=>(qy N ab j.2.2.2 o.2).bind λaf=>(vf N ae.1 af.1 p2).bind λa0=>(kT N j.2.2.1 (⟨j.2.2.2,(if af.2<ae.2 then af.2 else ae.2),a0⟩:aB)).bind λa1=>some<|.nx (aa,ab,a1,(if af.2<ae.2 then af.2 else ae.2)))<|λr=>r.elim)<|λr=>r.elim)else(some<|.br (j.1,j.2.1,j.2.2.1,j.2.2.2)):aV (Fl (Z aB×Z aB×Z aB×Int) Empty))) N (p0,p1,([]:Z aB),o.1)).bind λa2=>a2.cs (λ(j:Z aB×Z aB×Z aB×Int)=>some j.2.2.1)<|λr=>r.elim)
def sd(N:Nat)(p0 p1:Bool):aV Bool:=
 some (p0&&(!p1))
def nM(N:Nat)(p0:Z aB)(p1:Z aB):aV (Z aB):=
 (tH N p0 p1<|sd N).bind λj=>some j
def pP(N:Nat)(p0:Z aB):aV Int:=
 (mc p0.length (λ(o:Nat)(j:Int)=>((idx p0 (o:Int)).bind λaa=>some (wrap .i64<|j+ wrap .i64 (Int.tdiv (aa.Xs.length:Int) 2)):aV Int)) 0).bind λj=>some j
def gL(N:Nat)(p0:Int)(p1_0:Z Int):aV (Int×Z Int):=
 (iL (λ(j:Int×Z Int)=>((idx j.2 j.1).bind λaa=>bif aa != j.1 then((idx j.2 j.1).bind λab=>(idx j.2 ab).bind λo=>(idx j.2 j.1).bind λaf=>(idx (j.2.set (Int.toNat j.1) o) j.1).bind λad=>some<|.nx (ad,j.2.set (Int.toNat j.1) o))else(some<|.br (j.1,j.2)):aV (Fl (Int×Z Int) Empty))) N (p0,p1_0)).bind λae=>ae.cs (λ(j:Int×Z Int)=>some (j.1,j.2))<|λr=>r.elim
def oF(N:Nat)(p0:Z aB):aV (Z<|Z aB):=
 (lG N p0).bind λab=>(mk 8 (0:Int) (ab.length:Int)).bind λan=>(mc an.length (λ(ai:Nat)(ag:Z Int)=>((idx ag (ai:Int)).bind λbd=>some (ag.set (Int.toNat (ai:Int)) (ai:Int)):aV (Z Int))) an).bind λag=>(mc p0.length (λ(aj:Nat)(aa:Z Int×Int×Int)=>((idx p0 (aj:Int)).bind λak=>(bif decide ((aj:Int)>0)then((idx p0<|wrap .i64<|(aj:Int) - 1).bind λar=>some<|ar.Y1==ak.Y0)else some false).bind λau=>(bif au then((iL (λ(j:Z Int×Int×Int)=>(bif decide (j.2.1<aa.2.1)&&decide (j.2.2< wrap .i64 (aa.2.1+ wrap .i64 (Int.tdiv (ak.Xs.length:Int) 2)))then(((idx ab j.2.1).bind λav=>(idx ab j.2.2).bind λaw=>bif decide (av.X0<aw.X1)then((idx ab j.2.2).bind λax=>(idx ab j.2.1).bind λay=>some<|decide<|ax.X0<ay.X1)else some false).bind λaz=>(bif az then((gL N j.2.1 j.1).bind λae=>(gL N j.2.2 ae.2).bind λad=>(idx ad.2 (if ae.1<ad.1 then ad.1 else ae.1)).bind λbf=>some<|ad.2.set (Int.toNat (if ae.1<ad.1 then ad.1 else ae.1)) (if ad.1<ae.1 then ad.1 else ae.1))else some j.1).bind λa0=>(idx ab j.2.1).bind λa1=>(idx ab j.2.2).bind λa2=>(bif decide (a1.X1<a2.X1)then some (wrap .i64<|j.2.1+1,j.2.2)else some (j.2.1,wrap .i64<|j.2.2+1)).bind λao=>some<|.nx (a0,ao.1,ao.2))else(some<|.br (j.1,j.2.1,j.2.2)):aV (Fl (Z Int×Int×Int) Empty))) N (aa.1,aa.2.2,aa.2.1)).bind λa3=>a3.cs (λ(j:Z Int×Int×Int)=>some j.1)<|λr=>r.elim)else some aa.1).bind λa4=>some (a4,wrap .i64<|aa.2.1+ wrap .i64 (Int.tdiv (ak.Xs.length:Int) 2),aa.2.1):aV (Z Int×Int×Int))) (ag,0,0)).bind λaa=>(mc ab.length (λ(aq:Nat)(o:Z Int×Z (Int×Int)×Z (Z aJ))=>((idx ab (aq:Int)).bind λa5=>(gL N (aq:Int) o.1).bind λah=>(bif(!(k9 o.2.1 ah.1))then((app 24 o.2.2 [([]:Z aJ)]).bind λa6=>some (pM o.2.1 ah.1 (o.2.2.length:Int),a6,(o.2.2.length:Int)))else some (o.2.1,o.2.2,fP o.2.1 ah.1 (0:Int))).bind λaf=>(idx af.2.1 af.2.2).bind λa7=>(app 32 a7 ([a5]:Z aJ)).bind λa8=>(idx af.2.1 af.2.2).bind λbg=>some (ah.2,af.1,af.2.1.set (Int.toNat af.2.2) a8):aV (Z Int×Z (Int×Int)×Z (Z aJ)))) (aa.1,([]:Z (Int×Int)),([]:Z (Z aJ)))).bind λo=>(mc o.2.2.length (λ(a9:Nat)(al:Z (Z aB))=>((idx o.2.2 (a9:Int)).bind λba=>(jy N ba).bind λbb=>(app 24 al ([bb]:Z (Z aB))).bind λbc=>some bc:aV (Z<|Z aB))) ([]:Z (Z aB))).bind λal=>some al
def mi(N:Nat)(p0_0:Z (Z aJ))(p0_2:Z cL)(p0_4:Z (Z aB))(p0_5:Z aL):aV (Bool×Z (Z aB)×Z aL):=
 (mc p0_0.length (λ(aa:Nat)(j:Z (Z aB)×Z aL×Bool)=>((idx p0_0 (aa:Int)).bind λai=>(mc p0_2.length (λ(aj:Nat)(o:Z aJ)=>((idx p0_2 (aj:Int)).bind λaf=>(nL N af (aa:Int)).bind λak=>(bif ak then((iJ N af).bind λal=>(app 32 o ([al]:Z aJ)).bind λan=>some an)else some o).bind λao=>some ao:aV (Z aJ))) ([]:Z aJ)).bind λo=>(jy N ai).bind λaq=>(jy N o).bind λar=>(nM N aq ar).bind λab=>(bif j.2.2 then((pP N ab).bind λau=>some (decide<|au<=2000,ab))else some (false,ab)).bind λad=>(app 24 j.1 ([ad.2]:Z (Z aB))).bind λav=>(oF N ad.2).bind λag=>(mc ag.length (λ(aw:Nat)(ae:Z aL)=>((idx ag (aw:Int)).bind λah=>(lG N ah).bind λax=>(app 56 ae ([(⟨(aa:Int),ah,ax⟩:aL)]:Z aL)).bind λay=>some ay:aV (Z aL))) j.2.1).bind λae=>some (av,ae,ad.1):aV (Z (Z aB)×Z aL×Bool))) (p0_4,p0_5,true)).bind λj=>(bif j.2.2 then some (decide<|(j.2.1.length:Int)<=2000)else some false).bind λaz=>some (az,j.1,j.2.1)
def wJ(N:Nat)(p0 p1:aJ):aV Bool:=
 some (((decide (p0.X0<p1.X1)&&decide (p1.X0<p0.X1))&&((p0.Y1==p1.Y0)||(p1.Y1==p0.Y0)))||((decide (p0.Y0<p1.Y1)&&decide (p1.Y0<p0.Y1))&&((p0.X1==p1.X0)||(p1.X1==p0.X0))))
def mD(N:Nat)(p0:aJ)(p1:cL):aV Bool:=
 (iJ N p1).bind λj=>(wJ N p0 j).bind λo=>some o
def i9(N:Nat)(p0:Z aJ)(p1:aJ->aV Bool):aV Bool:=
 (o7 N p0 p1).bind λj=>some<|decide<|j>=0
def mj(N:Nat)(p0_2:Z cL)(p0_5:Z aL)(p0_6:Z (Z Int)):aV (Z<|Z Int):=
 (mc p0_2.length (λ(ae:Nat)(o:Z (Z Int))=>((idx p0_2 (ae:Int)).bind λaa=>(mc p0_5.length (λ(ab:Nat)(j:Z Int)=>((idx p0_5 (ab:Int)).bind λad=>(bif aa.il then((nL N aa ad.dW).bind λaf=>bif af then((i9 N ad.jw<|λy0=>mD N y0 aa).bind λag=>some ag)else some false)else some false).bind λah=>(bif ah then((app 8 j ([(ab:Int)]:Z Int)).bind λai=>some ai)else some j).bind λaj=>some aj:aV (Z Int))) ([]:Z Int)).bind λj=>(app 24 o ([j]:Z (Z Int))).bind λak=>some ak:aV (Z<|Z Int))) p0_6).bind λo=>some o
def nN(N:Nat)(p0:Int):aV (Z Int):=
 (mk 8 (0:Int) p0).bind λaa=>(mc aa.length (λ(o:Nat)(j:Z Int)=>((idx j (o:Int)).bind λab=>some (j.set (Int.toNat (o:Int)) (o:Int)):aV (Z Int))) aa).bind λj=>some j
def iX(N:Nat)(p0_0:Z Int)(p1:Int):aV (Int×Z Int):=
 (iL (λ(j:Z Int×Int)=>((idx j.1 j.2).bind λaa=>bif aa != j.2 then((idx j.1 j.2).bind λab=>(idx j.1 ab).bind λo=>(idx j.1 j.2).bind λaf=>(idx (j.1.set (Int.toNat j.2) o) j.2).bind λad=>some<|.nx (j.1.set (Int.toNat j.2) o,ad))else(some<|.br (j.1,j.2)):aV (Fl (Z Int×Int) Empty))) N (p0_0,p1)).bind λae=>ae.cs (λ(j:Z Int×Int)=>some (j.2,j.1))<|λr=>r.elim
def jo(N:Nat)(p0_0:Z Int)(p1 p2:Int):aV (Z Int):=
 (iX N p0_0 p1).bind λo=>(iX N o.2 p2).bind λj=>(idx j.2 (if o.1<j.1 then j.1 else o.1)).bind λaa=>some<|j.2.set (Int.toNat (if o.1<j.1 then j.1 else o.1)) (if j.1<o.1 then j.1 else o.1)
def ml(N:Nat)(p0_0:Z Int):aV (Z (Z Int)×Z Int):=
 (mc p0_0.length (λ(ab:Nat)(j:Z Int×Z (Z Int)×Z (Int×Int))=>((iX N j.1 (ab:Int)).bind λaa=>(bif aa.1==(ab:Int)then((app 24 j.2.1 [([]:Z Int)]).bind λad=>some (ad,pM j.2.2 (ab:Int) (j.2.1.length:Int)))else some (j.2.1,j.2.2)).bind λo=>(idx o.1<|fP o.2 aa.1 (0:Int)).bind λae=>(app 8 ae ([(ab:Int)]:Z Int)).bind λaf=>(idx o.1<|fP o.2 aa.1 (0:Int)).bind λag=>some (aa.2,o.1.set (Int.toNat<|fP o.2 aa.1 (0:Int)) af,o.2):aV (Z Int×Z (Z Int)×Z (Int×Int)))) (p0_0,([]:Z (Z Int)),([]:Z (Int×Int)))).bind λj=>some (j.2.1,j.1)
def om(N:Nat)(p0:aJ)(p1:kF):aV Bool:=
 (bif decide (p1.X>=p0.X0)then(bif decide (p1.X<p0.X1)then(bif decide (p1.Y>=p0.Y0)then some (decide<|p1.Y<p0.Y1)else some false)else some false)else some false).bind λj=>some j
def mQ(N:Nat)(p0:Z aJ)(p1:kF):aV Bool:=
 (i9 N p0<|λy0=>om N y0 p1).bind λj=>some j
def mm(N:Nat)(p0_2:Z cL)(p0_5:Z aL)(p1:eQ):aV (ld×Bool):=
 (qT p0_2.length (λ(o:Nat)(ad:Unit)=>((idx p0_2 (o:Int)).bind λj=>(bif j.il then((nL N j p1.dW).bind λae=>bif ae then((iJ N j).bind λaf=>(mQ N ([af]:Z aJ) p1.At).bind λag=>some ag)else some false)else some false).bind λah=>bif ah then some (.rt ((⟨true,(o:Int)⟩:ld),true))else(some<|.nx ()):aV (Fl Unit<|ld×Bool))) ()).bind λai=>ai.cs (λ(ad:Unit)=>(qT p0_5.length (λ(aa:Nat)(aj:Unit)=>((idx p0_5 (aa:Int)).bind λab=>(bif ab.dW==p1.dW then((mQ N ab.jw p1.At).bind λak=>some ak)else some false).bind λal=>bif al then some (.rt ((⟨false,(aa:Int)⟩:ld),true))else(some<|.nx ()):aV (Fl Unit<|ld×Bool))) ()).bind λan=>an.cs (λ(aj:Unit)=>some ((⟨false,0⟩:ld),false))<|λr=>some r)<|λr=>some r
def jz(N:Nat)(p0_8:Z Int)(p0_9:Z Int)(p1:ld):aV Int:=
 bif p1.cL then((idx p0_9 p1.Number).bind λj=>some j)else((idx p0_8 p1.Number).bind λo=>some o)
def iB(N:Nat)(p0_2:Z cL)(p0_3:Z eQ)(p0_5:Z aL)(p0_6:Z (Z Int))(p0_8:Z Int)(p0_9:Z Int)(p0_10:Z Int)(p0_11:Z ld):aV (Z bG×Z Int×Z Int×Z Int×Z ld):=
 (nN N<|wrap .i64<|(p0_5.length:Int)+(p0_2.length:Int)).bind λar=>(mc p0_6.length (λ(ai:Nat)(af:Z Int)=>((idx p0_6 (ai:Int)).bind λaj=>(mc aj.length (λ(au:Nat)(ag:Z Int)=>((idx aj (au:Int)).bind λav=>(jo N ag av<|wrap .i64<|(p0_5.length:Int)+(ai:Int)).bind λaw=>some aw:aV (Z Int))) af).bind λag=>some ag:aV (Z Int))) ar).bind λaf=>(mk 8 (0:Int) (p0_5.length:Int)).bind λax=>(mk 8 (0:Int) (p0_2.length:Int)).bind λay=>(ml N af).bind λak=>(mc ak.1.length (λ(az:Nat)(aa:Z bG×Z Int×Z Int)=>((idx ak.1 (az:Int)).bind λal=>(mc al.length (λ(a0:Nat)(j:Z Int×Z Int×Z Int×Z Int)=>((idx al (a0:Int)).bind λab=>(bif decide (ab<(p0_5.length:Int))then((idx j.1 ab).bind λbd=>(app 8 j.2.2.1 ([ab]:Z Int)).bind λa1=>some (j.1.set (Int.toNat ab) (aa.1.length:Int),j.2.1,a1,j.2.2.2))else((idx p0_2<|wrap .i64<|ab -(p0_5.length:Int)).bind λa2=>(bif a2.il then((idx j.2.1<|wrap .i64<|ab -(p0_5.length:Int)).bind λbf=>(app 8 j.2.2.2 ([wrap .i64<|ab -(p0_5.length:Int)]:Z Int)).bind λa3=>some (j.2.1.set (Int.toNat<|wrap .i64<|ab -(p0_5.length:Int)) (aa.1.length:Int),a3))else((idx j.2.1<|wrap .i64<|ab -(p0_5.length:Int)).bind λbg=>some (j.2.1.set (Int.toNat<|wrap .i64<|ab -(p0_5.length:Int))<|-1,j.2.2.2))).bind λan=>some (j.1,an.1,j.2.2.1,an.2))).bind λad=>some (ad.1,ad.2.1,ad.2.2.1,ad.2.2.2):aV (Z Int×Z Int×Z Int×Z Int))) (aa.2.1,aa.2.2,([]:Z Int),([]:Z Int))).bind λj=>(bif decide (wrap .i64 ((j.2.2.1.length:Int)+(j.2.2.2.length:Int))>0)then((app 72 aa.1 [(⟨j.2.2.1,j.2.2.2,([]:Z bC)⟩:bG)]).bind λa4=>some a4)else some aa.1).bind λa5=>some (a5,j.1,j.2.1):aV (Z bG×Z Int×Z Int))) (([]:Z bG),ax,ay)).bind λaa=>(mc p0_3.length (λ(a6:Nat)(o:Z bG×Z Int×Z Int×Z Int×Z ld)=>((idx p0_3 (a6:Int)).bind λao=>(mm N p0_2 p0_5 ao).bind λah=>(bif ah.2 then((jz N o.2.1 o.2.2.1 ah.1).bind λae=>(idx o.1 ae).bind λa7=>(lU N ao).bind λa8=>(app 32 a7.aT ([a8]:Z bC)).bind λa9=>(idx o.1 ae).bind λba=>some (o.1.set (Int.toNat ae) {ba with aT:=a9},ae))else some (o.1,(-1))).bind λaq=>(app 8 o.2.2.2.1 ([aq.2]:Z Int)).bind λbb=>(app 16 o.2.2.2.2 ([ah.1]:Z ld)).bind λbc=>some (aq.1,o.2.1,o.2.2.1,bb,bc):aV (Z bG×Z Int×Z Int×Z Int×Z ld))) (aa.1,aa.2.1,aa.2.2,p0_10,p0_11)).bind λo=>some (o.1,o.2.1,o.2.2.1,o.2.2.2.1,o.2.2.2.2)
def kb(N:Nat)(p0:lj):aV (aV (Z (Z aJ)×Z aJ×Z cL×Z eQ×Z (Z aB)×Z aL×Z (Z Int)×Z bG×Z Int×Z Int×Z Int×Z ld)×Int):=
 bif(p0.aP.length:Int)==0 then some (none,9)else(bif decide ((p0.aP.length:Int)>16)then some (none,2)else((qT p0.aP.length (λ(an:Nat)(aa:Int)=>((idx p0.aP (an:Int)).bind λae=>(lr N ae).bind λaf=>bif af != 0 then some (.rt (none,af))else(some<|.nx<|wrap .i64<|aa+(ae.length:Int)):aV (Fl Int<|aV (Z (Z aJ)×Z aJ×Z cL×Z eQ×Z (Z aB)×Z aL×Z (Z Int)×Z bG×Z Int×Z Int×Z Int×Z ld)×Int))) (p0.dF.length:Int)).bind λao=>ao.cs (λ(aa:Int)=>(lr N p0.dF).bind λag=>bif ag != 0 then some (none,ag)else(bif decide (aa>2000)then some (none,2)else((m0 N p0).bind λah=>bif ah != 0 then some (none,ah)else((m6 N p0).bind λai=>bif ai != 0 then some (none,ai)else((qT p0.aZ.length (λ(aj:Nat)(aq:Unit)=>((idx p0.aZ (aj:Int)).bind λab=>(ui p0.aZ 0 (aj:Int)).bind λak=>(qT ak.length (λ(ar:Nat)(au:Unit)=>((idx ak (ar:Int)).bind λad=>(bif decide (ab.dS<=ad.To)&&decide (ad.dS<=ab.To)then((iJ N ab).bind λav=>(iJ N ad).bind λaw=>(xf N av aw).bind λax=>some<|ax==0)else some false).bind λay=>bif ay then some (.rt (none,12))else(some<|.nx ()):aV (Fl Unit<|aV (Z (Z aJ)×Z aJ×Z cL×Z eQ×Z (Z aB)×Z aL×Z (Z Int)×Z bG×Z Int×Z Int×Z Int×Z ld)×Int))) ()).bind λaz=>az.cs (λ(au:Unit)=>some<|.nx ()) (λr=>some<|.rt r):aV (Fl Unit<|aV (Z (Z aJ)×Z aJ×Z cL×Z eQ×Z (Z aB)×Z aL×Z (Z Int)×Z bG×Z Int×Z Int×Z Int×Z ld)×Int))) ()).bind λa0=>a0.cs (λ(aq:Unit)=>(mi N p0.aP p0.aZ ([]:Z (Z aB)) ([]:Z aL)).bind λj=>bif(!j.1)then some (none,2)else((mj N p0.aZ j.2.2 ([]:Z (Z Int))).bind λal=>(iB N p0.aZ p0.bW j.2.2 al ([]:Z Int) ([]:Z Int) ([]:Z Int) ([]:Z ld)).bind λo=>some (some (p0.aP,p0.dF,p0.aZ,p0.bW,j.2.1,j.2.2,al,o.1,o.2.1,o.2.2.1,o.2.2.2.1,o.2.2.2.2),0)))<|λr=>some r)))))<|λr=>some r))
def kc(N:Nat)(p0:Z aS)(p1:cA)(p2:lj):aV (aV (Z (Z aJ)×Z aJ×Z cL×Z eQ×Z (Z aB)×Z aL×Z (Z Int)×Z bG×Z Int×Z Int×Z Int×Z ld)×Int):=
 (ln N p0 p1).bind λaa=>bif aa != 0 then some (none,aa)else((kb N p2).bind λo=>O8 o.1 (some (none,o.2))<|λ(j:(Z (Z aJ)×Z aJ×Z cL×Z eQ×Z (Z aB)×Z aL×Z (Z Int)×Z bG×Z Int×Z Int×Z Int×Z ld))=>some (some (j.1,j.2.1,j.2.2.1,j.2.2.2.1,j.2.2.2.2.1,j.2.2.2.2.2.1,j.2.2.2.2.2.2.1,j.2.2.2.2.2.2.2.1,j.2.2.2.2.2.2.2.2.1,j.2.2.2.2.2.2.2.2.2.1,j.2.2.2.2.2.2.2.2.2.2.1,j.2.2.2.2.2.2.2.2.2.2.2),o.2))
def qz(N:Nat)(p0:cA):aV (Z<|bC×Int):=
 (mc p0.bT.length (λ(aa:Nat)(j:Z (bC×Int))=>((idx p0.bT (aa:Int)).bind λab=>(mc ab.aT.length (λ(ad:Nat)(o:Z (bC×Int))=>((idx ab.aT (ad:Int)).bind λae=>some (pM o ae (aa:Int)):aV (Z<|bC×Int))) j).bind λo=>some o:aV (Z<|bC×Int))) ([]:Z (bC×Int))).bind λj=>some j
def pQ(N:Nat)(p0:Z aS)(p1:Part):aV (Z bC):=
 (mf N p0 p1.jR).bind λaa=>(idx p0 aa).bind λo=>(mc o.aT.length (λ(ab:Nat)(j:Z bC)=>((idx o.aT (ab:Int)).bind λad=>(app 32 j ([(⟨p1.Name,ad.Name⟩:bC)]:Z bC)).bind λae=>some ae:aV (Z bC))) ([]:Z bC)).bind λj=>some j
def oG(N:Nat)(p0:Z aS)(p1:cA):aV (Z bC):=
 (qz N p1).bind λad=>(mc p1.cR.length (λ(ae:Nat)(o:Z bC)=>((idx p1.cR (ae:Int)).bind λaf=>(pQ N p0 af).bind λaa=>(mc aa.length (λ(ag:Nat)(j:Z bC)=>((idx aa (ag:Int)).bind λab=>(bif(!(k9 ad ab))then((app 32 j ([ab]:Z bC)).bind λah=>some ah)else some j).bind λai=>some ai:aV (Z bC))) o).bind λj=>some j:aV (Z bC))) ([]:Z bC)).bind λo=>some o
def hZ(N:Nat)(p0:Z eQ)(p1:bC)(p2:eQ->bC->aV Int):aV (Int×Bool):=
 (iL (λ(j:Int×Int)=>(bif decide (j.1<j.2)then((idx p0<|wrap .i64<|Int.fdiv (wrap .u64<|wrap .i64<|j.1+j.2) 2).bind λaa=>(p2 aa p1).bind λab=>(bif decide (ab<0)then some (wrap .i64<|wrap .i64 (Int.fdiv (wrap .u64<|wrap .i64<|j.1+j.2) 2)+1,j.2)else some (j.1,wrap .i64<|Int.fdiv (wrap .u64<|wrap .i64<|j.1+j.2) 2)).bind λo=>some<|.nx (o.1,o.2))else(some<|.br (j.1,j.2)):aV (Fl (Int×Int) Empty))) N (0,(p0.length:Int))).bind λad=>ad.cs (λ(j:Int×Int)=>(bif decide (j.1<(p0.length:Int))then((idx p0 j.1).bind λae=>(p2 ae p1).bind λaf=>some<|af==0)else some false).bind λag=>some (j.1,ag))<|λr=>r.elim
def kq(N:Nat)(p0:eQ)(p1:bC):aV Int:=
 (lU N p0).bind λj=>(eM N j p1).bind λo=>some o
def oU(N:Nat)(p0:lj)(p1:bC):aV Int:=
 (hZ N p0.bW p1<|kq N).bind λj=>bif(!j.2)then some (-1)else some j.1
def lK(N:Nat)(p1:Int):aV (Z bC):=
 bif decide (p1<0)then none else((bif decide (wrap .i64 (p1 -(wrap .i64<|((0:Nat):Int) -((0:Nat):Int)))>0)then((Po 32 (⟨⟨[]⟩,⟨[]⟩⟩:bC)<|wrap .i64<|p1 -(wrap .i64<|((0:Nat):Int) -((0:Nat):Int))).bind λj=>(ui j 0 ((0:Nat):Int)).bind λo=>some o)else some ([]:Z bC)).bind λaa=>some aa)
def m7(N:Nat)(p0:Z (Z bC)):aV (Z bC):=
 (mc p0.length (λ(ab:Nat)(j:Int)=>((idx p0 (ab:Int)).bind λaa=>bif decide (wrap .i64 (j+(aa.length:Int))<0)then none else(some<|wrap .i64<|j+(aa.length:Int)):aV Int)) 0).bind λj=>(lK N j).bind λad=>(mc p0.length (λ(ae:Nat)(o:Z bC)=>((idx p0 (ae:Int)).bind λaf=>(app 32 o af).bind λag=>some ag:aV (Z bC))) ad).bind λo=>some o
def m8(N:Nat)(p0_0:Z (Z aJ))(p0_1:Z aJ)(p0_2:Z cL)(p0_3:Z eQ)(p0_10:Z Int)(p1:Net):aV (Z bC):=
 (mc p1.aT.length (λ(ae:Nat)(j:Z (Z bC)×Z (Int×Int))=>((idx p1.aT (ae:Int)).bind λab=>(oU N (⟨p0_0,p0_1,p0_2,p0_3⟩:lj) ab).bind λad=>bif decide (ad<0)then some (j.1,j.2)else((idx p0_10 ad).bind λaa=>(bif(!(k9 j.2 aa))||decide (aa<0)then((app 24 j.1 [([]:Z bC)]).bind λaf=>some (af,pM j.2 aa (j.1.length:Int),(j.1.length:Int)))else some (j.1,j.2,fP j.2 aa (0:Int))).bind λo=>(idx o.1 o.2.2).bind λag=>(app 32 ag ([ab]:Z bC)).bind λah=>(idx o.1 o.2.2).bind λaj=>some (o.1.set (Int.toNat o.2.2) ah,o.2.1)):aV (Z (Z bC)×Z (Int×Int)))) (([]:Z (Z bC)),([]:Z (Int×Int)))).bind λj=>bif decide ((j.1.length:Int)<2)then some ([]:Z bC)else((m7 N j.1).bind λai=>some ai)
def lL(N:Nat)(p0_0:Z Part)(p0_1:Z Net)(p0_2:Z (bC×Int))(p0_3:Z (bC×Bool))(p1:bG):aV (Z cD×Z bC×Bool):=
 (mc p1.aT.length (λ(aa:Nat)(j:Z (cD×Bool)×Z bC×Int)=>((idx p1.aT (aa:Int)).bind λo=>bif k9 p0_2 o then((idx p0_1<|fP p0_2 o (0:Int)).bind λab=>(app 32 j.2.1 ([o]:Z bC)).bind λad=>some (pM j.1 ab.Name true,ad,j.2.2))else(bif fP p0_3 o (false:Bool)then((app 32 j.2.1 ([o]:Z bC)).bind λae=>some (j.1,ae,wrap .i64<|j.2.2+1))else some (j.1,j.2.1,j.2.2)):aV (Z (cD×Bool)×Z bC×Int))) (([]:Z (cD×Bool)),([]:Z bC),0)).bind λj=>(Iz j.1).bind λaf=>some (af,j.2.1,decide<|wrap .i64 ((j.1.length:Int)+j.2.2)>1)
def mn(N:Nat)(p0_0:Z Part)(p0_1:Z Net)(p0_2:Z (bC×Int))(p0_3:Z (bC×Bool))(p1:bC):aV Bool:=
 (bif k9 p0_2 p1 then some true else some (fP p0_3 p1 (false:Bool))).bind λj=>some j
def fZ(N:Nat)(p0:Z aS)(p1:cA)(p2:lj):aV (Z cI×Int):=
 (kc N p0 p1 p2).bind λaa=>O8 aa.1 (bif aa.2 != 0 then some (([]:Z cI),aa.2)else none) (λ(j:(Z (Z aJ)×Z aJ×Z cL×Z eQ×Z (Z aB)×Z aL×Z (Z Int)×Z bG×Z Int×Z Int×Z Int×Z ld))=>bif aa.2 != 0 then some (([]:Z cI),aa.2)else((qz N p1).bind λai=>(oG N p0 p1).bind λaj=>(mc aj.length (λ(au:Nat)(ae:Z (bC×Bool))=>((idx aj (au:Int)).bind λav=>some (pM ae av true):aV (Z<|bC×Bool))) ([]:Z (bC×Bool))).bind λae=>(mc p1.bT.length (λ(aw:Nat)(ag:Z bC)=>((idx p1.bT (aw:Int)).bind λak=>(mc ak.aT.length (λ(ax:Nat)(af:Z bC)=>((idx ak.aT (ax:Int)).bind λal=>(oU N p2 al).bind λay=>(bif decide (ay<0)then((app 32 af ([al]:Z bC)).bind λaz=>some az)else some af).bind λa0=>some a0:aV (Z bC))) ag).bind λaf=>some af:aV (Z bC))) ([]:Z bC)).bind λag=>(z8 (eM N) ag).bind λan=>(bif decide ((an.length:Int)>0)then((app 56 ([]:Z cI) ([(⟨1,[],an⟩:cI)]:Z cI)).bind λa1=>some a1)else some ([]:Z cI)).bind λa2=>(mc p1.bT.length (λ(a3:Nat)(o:Z Int×Z cI)=>((idx p1.bT (a3:Int)).bind λao=>(m8 N j.1 j.2.1 j.2.2.1 j.2.2.2.1 o.1 ao).bind λaq=>(bif decide ((aq.length:Int)>0)then((app 56 o.2 ([(⟨2,([ao.Name]:Z cD),aq⟩:cI)]:Z cI)).bind λa4=>some a4)else some o.2).bind λa5=>some (o.1,a5):aV (Z Int×Z cI))) (j.2.2.2.2.2.2.2.2.2.2.1,a2)).bind λo=>(mc j.2.2.2.2.2.2.2.1.length (λ(a6:Nat)(ab:Z cI)=>((idx j.2.2.2.2.2.2.2.1 (a6:Int)).bind λa7=>(lL N p1.cR p1.bT ai ae a7).bind λah=>(bif ah.2.2 then((app 56 ab ([(⟨3,ah.1,ah.2.1⟩:cI)]:Z cI)).bind λa8=>some a8)else some ab).bind λa9=>some a9:aV (Z cI))) o.2).bind λab=>(mc p2.bW.length (λ(ba:Nat)(ad:Z bC)=>((idx p2.bW (ba:Int)).bind λar=>(lU N ar).bind λbb=>(mn N p1.cR p1.bT ai ae bb).bind λbc=>(bif(!bc)then((lU N ar).bind λbd=>(app 32 ad ([bd]:Z bC)).bind λbf=>some bf)else some ad).bind λbg=>some bg:aV (Z bC))) ([]:Z bC)).bind λad=>(bif decide ((ad.length:Int)>0)then((app 56 ab ([(⟨4,[],ad⟩:cI)]:Z cI)).bind λbh=>some bh)else some ab).bind λbj=>some (bj,0)))
def gG(N:Nat)(p0 p1 p2:Int):aV Bool:=
 some (decide (p1<=p0)&&decide (p0<=p2))
def iC(N:Nat)(p0:cD):aV Bool:=
 (qT p0.cY.length (λ(o:Nat)(aa:Unit)=>((Jl p0 (o:Int)).bind λj=>(bif((decide ((j.toNat:Int)<97)||decide ((j.toNat:Int)>122))&&(decide ((j.toNat:Int)<65)||decide ((j.toNat:Int)>90)))&&(decide ((j.toNat:Int)<48)||decide ((j.toNat:Int)>57))then((g9 N (⟨[95,43,45,35]⟩) (j.toNat:Int)).bind λab=>some<|decide<|ab<0)else some false).bind λad=>bif ad then some (.rt false)else(some<|.nx ()):aV (Fl Unit Bool))) ()).bind λae=>ae.cs (λ(aa:Unit)=>(gG N (p0.cY.length:Int) 1 40).bind λaf=>some af)<|λr=>some r
def jA(N:Nat)(p0:aS):aV Int:=
 (iC N p0.Name).bind λag=>bif(!ag)then some 5 else(bif(p0.aT.length:Int)==0 then some 9 else(bif decide ((p0.aT.length:Int)>200)then some 2 else((qT p0.aT.length (λ(o:Nat)(ah:Unit)=>((idx p0.aT (o:Int)).bind λj=>(iC N j.Name).bind λai=>bif(!ai)then some (.rt 5)else((gG N j.Kind 1 7).bind λaj=>bif(!aj)then some (.rt 4)else((gG N j.bG 0 200).bind λak=>bif(!ak)then some (.rt 1)else((bif decide ((o:Int)>0)then((idx p0.aT<|wrap .i64<|(o:Int) - 1).bind λab=>some<|j.Name.mH ab.Name||j.Name.kj ab.Name)else some false).bind λal=>bif al then some (.rt 8)else some (.nx ())))):aV (Fl Unit Int))) ()).bind λan=>an.cs (λ(ah:Unit)=>(qT p0.aT.length (λ(ad:Nat)(ao:Unit)=>((idx p0.aT (ad:Int)).bind λaa=>(ui p0.aT 0 (ad:Int)).bind λae=>(qT ae.length (λ(aq:Nat)(ar:Unit)=>((idx ae (aq:Int)).bind λaf=>bif(decide (aa.bG>0)&&(aa.bG==af.bG))&&(aa.Kind != af.Kind)then some (.rt 12)else(some<|.nx ()):aV (Fl Unit Int))) ()).bind λau=>au.cs (λ(ar:Unit)=>some<|.nx ()) (λr=>some<|.rt r):aV (Fl Unit Int))) ()).bind λav=>av.cs (λ(ao:Unit)=>some 0)<|λr=>some r)<|λr=>some r)))
def ja(N:Nat)(p0:Z aS):aV Int:=
 bif decide ((p0.length:Int)>200)then some 2 else((qT p0.length (λ(j:Nat)(ad:Unit)=>((idx p0 (j:Int)).bind λo=>(jA N o).bind λaa=>bif aa != 0 then some (.rt aa)else((bif decide ((j:Int)>0)then((idx p0<|wrap .i64<|(j:Int) - 1).bind λab=>some<|o.Name.mH ab.Name||o.Name.kj ab.Name)else some false).bind λae=>bif ae then some (.rt 8)else some (.nx ())):aV (Fl Unit Int))) ()).bind λaf=>af.cs (λ(ad:Unit)=>some 0)<|λr=>some r)
def jB(N:Nat)(p0:cD):aV Bool:=
 (nv N p0<|⟨[47]⟩).bind λj=>(qT j.length (λ(o:Nat)(aa:Unit)=>((idx j (o:Int)).bind λab=>(iC N ab).bind λad=>bif(!ad)then some (.rt false)else(some<|.nx ()):aV (Fl Unit Bool))) ()).bind λae=>ae.cs (λ(aa:Unit)=>some<|decide<|(p0.cY.length:Int)<=200)<|λr=>some r
def kU(N:Nat)(p0:Z aS)(p1:cD):aV Int:=
 (qT p0.length (λ(j:Nat)(o:Unit)=>((idx p0 (j:Int)).bind λaa=>bif aa.Name.kj p1 then some (.rt (j:Int))else(some<|.nx ()):aV (Fl Unit Int))) ()).bind λab=>ab.cs (λ(o:Unit)=>some<|-1)<|λr=>some r
def m9(N:Nat)(p0:Z Part)(p1:cD):aV Int:=
 (qT p0.length (λ(j:Nat)(o:Unit)=>((idx p0 (j:Int)).bind λaa=>bif aa.Name.kj p1 then some (.rt (j:Int))else(some<|.nx ()):aV (Fl Unit Int))) ()).bind λab=>ab.cs (λ(o:Unit)=>some<|-1)<|λr=>some r
def nE(N:Nat)(p0:aS)(p1:cD):aV Int:=
 (qT p0.aT.length (λ(j:Nat)(o:Unit)=>((idx p0.aT (j:Int)).bind λaa=>bif aa.Name.kj p1 then some (.rt (j:Int))else(some<|.nx ()):aV (Fl Unit Int))) ()).bind λab=>ab.cs (λ(o:Unit)=>some<|-1)<|λr=>some r
def na(N:Nat)(p0:Z aS)(p1:cA)(p2:bC):aV Bool:=
 (m9 N p1.cR p2.Part).bind λj=>(bif decide (j>=0)then((idx p1.cR j).bind λo=>(kU N p0 o.jR).bind λaa=>(idx p0 aa).bind λab=>(nE N ab p2.bC).bind λad=>some<|decide<|ad>=0)else some false).bind λae=>some ae
def nb(N:Nat)(p0 p1:bC):aV Bool:=
 some (p0.Part.mH p1.Part||(p0.Part.kj p1.Part&&p0.bC.mH p1.bC))
def te(N:Nat)(p0:Z bC)(p1:bC):aV Int:=
 (qT p0.length (λ(j:Nat)(o:Unit)=>((idx p0 (j:Int)).bind λaa=>bif decide (p1=aa)then some (.rt (j:Int))else(some<|.nx ()):aV (Fl Unit Int))) ()).bind λab=>ab.cs (λ(o:Unit)=>some<|-1)<|λr=>some r
def nF(N:Nat)(p0:Z bC)(p1:bC):aV Bool:=
 (te N p0 p1).bind λj=>some<|decide<|j>=0
def kV(N:Nat)(p0:Z Net)(p1:bC):aV Bool:=
 (qT p0.length (λ(j:Nat)(o:Unit)=>((idx p0 (j:Int)).bind λaa=>(nF N aa.aT p1).bind λab=>bif ab then some (.rt true)else(some<|.nx ()):aV (Fl Unit Bool))) ()).bind λad=>ad.cs (λ(o:Unit)=>some false)<|λr=>some r
def jC(N:Nat)(p0:Z aS)(p1:cA):aV Int:=
 bif decide ((p1.cR.length:Int)>1000)then some 2 else((qT p1.cR.length (λ(ab:Nat)(ah:Unit)=>((idx p1.cR (ab:Int)).bind λo=>(jB N o.Name).bind λai=>bif(!ai)then some (.rt 5)else((kU N p0 o.jR).bind λaj=>bif decide (aj<0)then some (.rt 9)else((bif decide ((ab:Int)>0)then((idx p1.cR<|wrap .i64<|(ab:Int) - 1).bind λaf=>some<|o.Name.mH af.Name||o.Name.kj af.Name)else some false).bind λak=>bif ak then some (.rt 8)else some (.nx ()))):aV (Fl Unit Int))) ()).bind λal=>al.cs (λ(ah:Unit)=>bif decide ((p1.bT.length:Int)>1000)then some 2 else((qT p1.bT.length (λ(aa:Nat)(an:Unit)=>((idx p1.bT (aa:Int)).bind λj=>(jB N j.Name).bind λao=>bif(!ao)then some (.rt 5)else(bif(j.aT.length:Int)==0 then some (.rt 9)else(bif decide ((j.aT.length:Int)>500)then some (.rt 2)else((qT j.aT.length (λ(ad:Nat)(aq:Unit)=>((idx j.aT (ad:Int)).bind λae=>(na N p0 p1 ae).bind λar=>bif(!ar)then some (.rt 9)else((bif decide ((ad:Int)>0)then((idx j.aT<|wrap .i64<|(ad:Int) - 1).bind λau=>(nb N au ae).bind λav=>some<|!av)else some false).bind λaw=>bif aw then some (.rt 8)else((ui p1.bT 0 (aa:Int)).bind λax=>(kV N ax ae).bind λay=>bif ay then some (.rt 7)else some (.nx ()))):aV (Fl Unit Int))) ()).bind λaz=>az.cs (λ(aq:Unit)=>bif decide ((j.uj.length:Int)>0)then some (.rt 3)else((bif decide ((aa:Int)>0)then((idx p1.bT<|wrap .i64<|(aa:Int) - 1).bind λag=>some<|j.Name.mH ag.Name||j.Name.kj ag.Name)else some false).bind λa0=>bif a0 then some (.rt 8)else some (.nx ())))<|λr=>some<|.rt r))):aV (Fl Unit Int))) ()).bind λa1=>a1.cs (λ(an:Unit)=>some 0)<|λr=>some r))<|λr=>some r)
def jD(N:Nat)(p0:Z aS)(p1:cA):aV Int:=
 (ja N p0).bind λj=>bif j != 0 then some j else((jC N p0 p1).bind λo=>some o)
def pR(N:Nat)(p0 p1 p2:Int):aV Bool:=
 some (decide (p0>=p1)&&decide (p0<=p2))
def dI(N:Nat)(p0:Int):aV Bool:=
 (pR N p0 (-1000000) 1000000).bind λj=>some j
def jc(N:Nat)(p0:Z aJ):aV Int:=
 bif decide ((p0.length:Int)>2000)then some 2 else((iL (λ(o:Int)=>(bif decide (o<(p0.length:Int))then((idx p0 o).bind λj=>((dI N j.X0).bind λaa=>bif(!aa)then some true else((dI N j.Y0).bind λab=>bif(!ab)then some true else((dI N j.X1).bind λad=>bif(!ad)then some true else((dI N j.Y1).bind λae=>some<|!ae)))).bind λaf=>bif af then some (.rt 1)else(bif decide (j.X1<=j.X0)||decide (j.Y1<=j.Y0)then some (.rt 13)else some (.nx<|wrap .i64<|o+1)))else(some<|.br o):aV (Fl Int Int))) N 0).bind λag=>ag.cs (λ(o:Int)=>some 0)<|λr=>some r)
def jE(N:Nat)(p0 p1:aJ):aV Bool:=
 some (decide (p0.Y0<p1.Y0)||((p0.Y0==p1.Y0)&&decide (p0.X0<p1.X0)))
def gE(N:Nat)(p0:Z Int)(p1:Int):aV (Z Int):=
 (iL (λ(j:Int×Int)=>(bif decide (j.1<j.2)then((idx p0<|wrap .i64<|Int.tdiv (wrap .i64<|j.1+j.2) 2).bind λaa=>(bif decide (aa<p1)then some (wrap .i64<|wrap .i64 (Int.tdiv (wrap .i64<|j.1+j.2) 2)+1,j.2)else some (j.1,wrap .i64<|Int.tdiv (wrap .i64<|j.1+j.2) 2)).bind λo=>some<|.nx (o.1,o.2))else(some<|.br (j.1,j.2)):aV (Fl (Int×Int) Empty))) N (0,(p0.length:Int))).bind λab=>ab.cs (λ(j:Int×Int)=>(bif decide (j.1<(p0.length:Int))then((idx p0 j.1).bind λad=>some<|ad==p1)else some false).bind λae=>bif ae then some p0 else((ui p0 0 j.1).bind λaf=>(app 8 ([]:Z Int) af).bind λag=>(app 8 ag ([p1]:Z Int)).bind λah=>(ui p0 j.1 (p0.length:Int)).bind λai=>(app 8 ah ai).bind λaj=>some aj))<|λr=>r.elim
def i6(N:Nat)(p0:Z aJ):aV (Z Int):=
 (iL (λ(j:Z Int×Int)=>(bif decide (j.2<(p0.length:Int))then((idx p0 j.2).bind λo=>(idx p0 j.2).bind λaa=>(gE N j.1 o.Y0).bind λab=>(gE N ab aa.Y1).bind λad=>some<|.nx (ad,wrap .i64<|j.2+1))else(some<|.br (j.1,j.2)):aV (Fl (Z Int×Int) Empty))) N (([]:Z Int),0)).bind λae=>ae.cs (λ(j:Z Int×Int)=>some j.1)<|λr=>r.elim
def jF(N:Nat)(p0:Z aF)(p1:aF):aV (Z aF):=
 (iL (λ(o:Z aF×Int)=>((bif decide (o.2<(p0.length:Int))then((idx p0 o.2).bind λad=>some<|decide<|ad.to<p1.from_)else some false).bind λae=>bif ae then((idx p0 o.2).bind λaf=>(app 16 o.1 ([af]:Z aF)).bind λag=>some<|.nx (ag,wrap .i64<|o.2+1))else(some<|.br (o.1,o.2)):aV (Fl (Z aF×Int) Empty))) N (([]:Z aF),0)).bind λah=>ah.cs (λ(o:Z aF×Int)=>(iL (λ(j:aF×Int)=>((bif decide (j.2<(p0.length:Int))then((idx p0 j.2).bind λai=>some<|decide<|ai.from_<=j.1.to)else some false).bind λaj=>bif aj then((idx p0 j.2).bind λaa=>(idx p0 j.2).bind λab=>some<|.nx ({{j.1 with from_:=(if aa.from_<j.1.from_ then aa.from_ else j.1.from_)}with to:=(if j.1.to<ab.to then ab.to else j.1.to)},wrap .i64<|j.2+1))else(some<|.br (j.1,j.2)):aV (Fl (aF×Int) Empty))) N (p1,o.2)).bind λak=>ak.cs (λ(j:aF×Int)=>(app 16 o.1 ([j.1]:Z aF)).bind λal=>(ui p0 j.2 (p0.length:Int)).bind λan=>(app 16 al an).bind λao=>some ao)<|λr=>r.elim)<|λr=>r.elim
def iY(N:Nat)(p0:Z aJ)(p1:Int):aV (Z aF):=
 (iL (λ(j:Z aF×Int)=>(bif decide (j.2<(p0.length:Int))then(((idx p0 j.2).bind λo=>bif decide (o.Y0<=p1)then((idx p0 j.2).bind λaa=>some<|decide<|p1<aa.Y1)else some false).bind λab=>(bif ab then((idx p0 j.2).bind λad=>(idx p0 j.2).bind λae=>(jF N j.1 (⟨ad.X0,ae.X1⟩:aF)).bind λaf=>some af)else some j.1).bind λag=>some<|.nx (ag,wrap .i64<|j.2+1))else(some<|.br (j.1,j.2)):aV (Fl (Z aF×Int) Empty))) N (([]:Z aF),0)).bind λah=>ah.cs (λ(j:Z aF×Int)=>some j.1)<|λr=>r.elim
def lu(N:Nat)(p0:Z aF)(p1:Z aF):aV Bool:=
 bif(p0.length:Int) != (p1.length:Int)then some false else((iL (λ(j:Int)=>(bif decide (j<(p0.length:Int))then((idx p0 j).bind λo=>(idx p1 j).bind λaa=>bif(!(decide<|o=aa))then some (.rt false)else some (.nx<|wrap .i64<|j+1))else(some<|.br j):aV (Fl Int Bool))) N 0).bind λab=>ab.cs (λ(j:Int)=>some true)<|λr=>some r)
def gW(N:Nat)(p0:Z aQ)(p1:aQ):aV (Z aQ):=
 bif(p1.kG.length:Int)==0 then some p0 else((bif decide ((p0.length:Int)>0)then((idx p0<|wrap .i64<|(p0.length:Int) - 1).bind λj=>bif j.to==p1.from_ then((idx p0<|wrap .i64<|(p0.length:Int) - 1).bind λo=>(lu N o.kG p1.kG).bind λaa=>some aa)else some false)else some false).bind λab=>bif ab then((idx p0<|wrap .i64<|(p0.length:Int) - 1).bind λad=>some<|p0.set (Int.toNat<|wrap .i64<|(p0.length:Int) - 1)<|{ad with to:=p1.to})else((app 40 p0 ([p1]:Z aQ)).bind λae=>some ae))
def kr(N:Nat)(p0:Z aQ):aV (Z aJ):=
 (iL (λ(j:Z aJ×Int)=>(bif decide (j.2<(p0.length:Int))then((iL (λ(o:Z aJ×Int)=>((idx p0 j.2).bind λaa=>bif decide (o.2<(aa.kG.length:Int))then((idx p0 j.2).bind λab=>(idx ab.kG o.2).bind λad=>(idx p0 j.2).bind λae=>(idx p0 j.2).bind λaf=>(idx af.kG o.2).bind λag=>(idx p0 j.2).bind λah=>(app 32 o.1 ([(⟨ad.from_,ae.from_,ag.to,ah.to⟩:aJ)]:Z aJ)).bind λai=>some<|.nx (ai,wrap .i64<|o.2+1))else(some<|.br (o.1,o.2)):aV (Fl (Z aJ×Int) Empty))) N (j.1,0)).bind λaj=>aj.cs (λ(o:Z aJ×Int)=>some<|.nx (o.1,wrap .i64<|j.2+1))<|λr=>r.elim)else(some<|.br (j.1,j.2)):aV (Fl (Z aJ×Int) Empty))) N (([]:Z aJ),0)).bind λak=>ak.cs (λ(j:Z aJ×Int)=>some j.1)<|λr=>r.elim
def gA(N:Nat)(p0:Z aJ):aV (Z aJ):=
 (i6 N p0).bind λo=>(iL (λ(j:Z aQ×Int)=>(bif decide (j.2<(o.length:Int))then((idx o<|wrap .i64<|j.2 - 1).bind λaa=>(idx o j.2).bind λab=>(idx o<|wrap .i64<|j.2 - 1).bind λad=>(iY N p0 ad).bind λae=>(gW N j.1 (⟨aa,ab,ae⟩:aQ)).bind λaf=>some<|.nx (af,wrap .i64<|j.2+1))else(some<|.br (j.1,j.2)):aV (Fl (Z aQ×Int) Empty))) N (([]:Z aQ),1)).bind λag=>ag.cs (λ(j:Z aQ×Int)=>(kr N j.1).bind λah=>some ah)<|λr=>r.elim
def lx(N:Nat)(p0:Z aJ)(p1:Z aJ):aV Bool:=
 bif(p0.length:Int) != (p1.length:Int)then some false else((iL (λ(j:Int)=>(bif decide (j<(p0.length:Int))then((idx p0 j).bind λo=>(idx p1 j).bind λaa=>bif(!(decide<|o=aa))then some (.rt false)else some (.nx<|wrap .i64<|j+1))else(some<|.br j):aV (Fl Int Bool))) N 0).bind λab=>ab.cs (λ(j:Int)=>some true)<|λr=>some r)
def gH(N:Nat)(p0:Z aJ):aV Int:=
 (jc N p0).bind λo=>bif o != 0 then some o else((iL (λ(j:Int)=>(bif decide (j<(p0.length:Int))then((idx p0<|wrap .i64<|j - 1).bind λaa=>(idx p0 j).bind λab=>(jE N aa ab).bind λad=>bif(!ad)then some (.rt 8)else some (.nx<|wrap .i64<|j+1))else(some<|.br j):aV (Fl Int Int))) N 1).bind λae=>ae.cs (λ(j:Int)=>(gA N p0).bind λaf=>(lx N p0 af).bind λag=>bif(!ag)then some 3 else some 0)<|λr=>some r)
def eP(N:Nat)(p0 p1 p2:Int):aV Bool:=
 some (decide (p0>=p1)&&decide (p0<=p2))
def gX(N:Nat)(p0:kF):aV Bool:=
 ((dI N p0.X).bind λj=>bif j then((dI N p0.Y).bind λo=>some o)else some false).bind λaa=>some aa
def cX(N:Nat)(p0:cL):aV aJ:=
 some (⟨wrap .i64<|p0.At.X -(wrap .i64<|Int.tdiv p0.eC 2),wrap .i64<|p0.At.Y -(wrap .i64<|Int.tdiv p0.eC 2),wrap .i64<|wrap .i64 (p0.At.X -(wrap .i64<|Int.tdiv p0.eC 2))+p0.eC,wrap .i64<|wrap .i64 (p0.At.Y -(wrap .i64<|Int.tdiv p0.eC 2))+p0.eC⟩:aJ)
def iR(N:Nat)(p0:cL):aV Int:=
 ((eP N p0.eC 1 10000).bind λo=>bif(!o)then some true else((gX N p0.At).bind λaa=>some<|!aa)).bind λab=>bif ab then some 1 else((cX N p0).bind λj=>((dI N j.X0).bind λad=>bif(!ad)then some true else((dI N j.Y0).bind λae=>bif(!ae)then some true else((dI N j.X1).bind λaf=>bif(!af)then some true else((dI N j.Y1).bind λag=>some<|!ag)))).bind λah=>bif ah then some 1 else some 0)
def iD(N:Nat)(p0:cD):aV Bool:=
 (iL (λ(o:Int)=>(bif decide (o<(p0.cY.length:Int))then((Jl p0 o).bind λj=>(bif(!(((decide ((j.toNat:Int)>=97)&&decide ((j.toNat:Int)<=122))||(decide ((j.toNat:Int)>=65)&&decide ((j.toNat:Int)<=90)))||(decide ((j.toNat:Int)>=48)&&decide ((j.toNat:Int)<=57))))then((g9 N (⟨[95,43,45,35]⟩) (j.toNat:Int)).bind λaa=>some<|decide<|aa<0)else some false).bind λab=>bif ab then some (.rt false)else some (.nx<|wrap .i64<|o+1))else(some<|.br o):aV (Fl Int Bool))) N 0).bind λad=>ad.cs (λ(o:Int)=>(eP N (p0.cY.length:Int) 1 40).bind λae=>some ae)<|λr=>some r
def kW(N:Nat)(p0:cD):aV Bool:=
 (nv N p0<|⟨[47]⟩).bind λo=>(iL (λ(j:Int)=>(bif decide (j<(o.length:Int))then((idx o j).bind λaa=>(iD N aa).bind λab=>bif(!ab)then some (.rt false)else some (.nx<|wrap .i64<|j+1))else(some<|.br j):aV (Fl Int Bool))) N 0).bind λad=>ad.cs (λ(j:Int)=>some<|decide<|(p0.cY.length:Int)<=200)<|λr=>some r
def jG(N:Nat)(p0:lj)(p1:Int):aV Int:=
 (idx p0.bW p1).bind λj=>((kW N j.Part).bind λaa=>bif(!aa)then some true else((iD N j.bC).bind λab=>some<|!ab)).bind λad=>bif ad then some 5 else(((eP N j.dW 0<|wrap .i64<|(p0.aP.length:Int) - 1).bind λae=>bif(!ae)then some true else((gX N j.At).bind λaf=>some<|!af)).bind λag=>bif ag then some 1 else(bif decide (p1>0)then((idx p0.bW<|wrap .i64<|p1 - 1).bind λo=>bif j.Part.mH o.Part||(j.Part.kj o.Part&&(j.bC.mH o.bC||j.bC.kj o.bC))then some 8 else some 0)else some 0))
def jd(N:Nat)(p0:lj):aV Int:=
 bif(p0.aP.length:Int)==0 then some 9 else(bif decide ((p0.aP.length:Int)>16)then some 2 else((iL (λ(j:Int×Int)=>(bif decide (j.2<(p0.aP.length:Int))then((idx p0.aP j.2).bind λah=>(gH N ah).bind λad=>bif ad != 0 then some (.rt ad)else((idx p0.aP j.2).bind λai=>some<|.nx (wrap .i64<|j.1+(ai.length:Int),wrap .i64<|j.2+1)))else(some<|.br (j.1,j.2)):aV (Fl (Int×Int) Int))) N ((p0.dF.length:Int),0)).bind λaj=>aj.cs (λ(j:Int×Int)=>(gH N p0.dF).bind λae=>bif ae != 0 then some ae else((bif decide (j.1>2000)then some true else some (decide<|(p0.aZ.length:Int)>500)).bind λak=>bif ak then some 2 else((iL (λ(o:Int)=>(bif decide (o<(p0.aZ.length:Int))then((idx p0.aZ o).bind λab=>(iR N ab).bind λaf=>bif af != 0 then some (.rt af)else(((eP N ab.dS 0<|wrap .i64<|(p0.aP.length:Int) - 1).bind λal=>bif(!al)then some true else((eP N ab.To ab.dS<|wrap .i64<|(p0.aP.length:Int) - 1).bind λan=>some<|!an)).bind λao=>bif ao then some (.rt 1)else some (.nx<|wrap .i64<|o+1)))else(some<|.br o):aV (Fl Int Int))) N 0).bind λaq=>aq.cs (λ(o:Int)=>bif decide ((p0.bW.length:Int)>1000)then some 2 else((iL (λ(aa:Int)=>(bif decide (aa<(p0.bW.length:Int))then((jG N p0 aa).bind λag=>bif ag != 0 then some (.rt ag)else some (.nx<|wrap .i64<|aa+1))else(some<|.br aa):aV (Fl Int Int))) N 0).bind λar=>ar.cs (λ(aa:Int)=>some 0)<|λr=>some r))<|λr=>some r)))<|λr=>some r))
def jH(N:Nat)(p0 p1:cL):aV Bool:=
 some (decide (p0.dS<=p1.To)&&decide (p1.dS<=p0.To))
def gY(N:Nat)(p0 p1:aJ):aV Bool:=
 (bif decide ((if p1.X1<p0.X1 then p1.X1 else p0.X1)>(if p0.X0<p1.X0 then p1.X0 else p0.X0))then some (decide<|(if p1.Y1<p0.Y1 then p1.Y1 else p0.Y1)>(if p0.Y0<p1.Y0 then p1.Y0 else p0.Y0))else some false).bind λj=>some j
def fV(N:Nat)(p0:cL)(p1:Int):aV Bool:=
 some (decide (p0.dS<=p1)&&decide (p1<=p0.To))
def iE(N:Nat)(p0:Z aF)(p1:Int):aV Bool:=
 (iL (λ(j:Int)=>(bif decide (j<(p0.length:Int))then(((idx p0 j).bind λo=>bif decide (o.from_<=p1)then((idx p0 j).bind λaa=>some<|decide<|p1<aa.to)else some false).bind λab=>bif ab then some (.rt true)else some (.nx<|wrap .i64<|j+1))else(some<|.br j):aV (Fl Int Bool))) N 0).bind λad=>ad.cs (λ(j:Int)=>some false)<|λr=>some r
def lM(N:Nat)(p0:Z aF)(p1:Z aF)(p2:Int):aV (Z aF):=
 (iL (λ(aa:Z Int×Int)=>(bif decide (aa.2<(p0.length:Int))then((idx p0 aa.2).bind λae=>(idx p0 aa.2).bind λaf=>(gE N aa.1 ae.from_).bind λag=>(gE N ag af.to).bind λah=>some<|.nx (ah,wrap .i64<|aa.2+1))else(some<|.br (aa.1,aa.2)):aV (Fl (Z Int×Int) Empty))) N (([]:Z Int),0)).bind λai=>ai.cs (λ(aa:Z Int×Int)=>(iL (λ(j:Z Int×Int)=>(bif decide (j.2<(p1.length:Int))then((idx p1 j.2).bind λaj=>(idx p1 j.2).bind λak=>(gE N j.1 aj.from_).bind λal=>(gE N al ak.to).bind λan=>some<|.nx (an,wrap .i64<|j.2+1))else(some<|.br (j.1,j.2)):aV (Fl (Z Int×Int) Empty))) N (aa.1,0)).bind λao=>ao.cs (λ(j:Z Int×Int)=>(iL (λ(o:Z aF×Int)=>(bif decide (o.2<(j.1.length:Int))then((idx j.1<|wrap .i64<|o.2 - 1).bind λaq=>(idx j.1<|wrap .i64<|o.2 - 1).bind λar=>(iE N p0 aq).bind λab=>(iE N p1 ar).bind λad=>(bif(((p2==1)&&(ab||ad))||(((p2==2)&&ab)&&ad))||(((p2==3)&&ab)&&(!ad))then((idx j.1<|wrap .i64<|o.2 - 1).bind λau=>(idx j.1 o.2).bind λav=>(jF N o.1 (⟨au,av⟩:aF)).bind λaw=>some aw)else some o.1).bind λax=>some<|.nx (ax,wrap .i64<|o.2+1))else(some<|.br (o.1,o.2)):aV (Fl (Z aF×Int) Empty))) N (([]:Z aF),1)).bind λay=>ay.cs (λ(o:Z aF×Int)=>some o.1)<|λr=>r.elim)<|λr=>r.elim)<|λr=>r.elim
def iP(N:Nat)(p0:Z aJ)(p1:Z aJ)(p2:Int):aV (Z aJ):=
 (app 32 ([]:Z aJ) p0).bind λaa=>(app 32 aa p1).bind λab=>(i6 N ab).bind λo=>(iL (λ(j:Z aQ×Int)=>(bif decide (j.2<(o.length:Int))then((idx o<|wrap .i64<|j.2 - 1).bind λad=>(idx o j.2).bind λae=>(idx o<|wrap .i64<|j.2 - 1).bind λaf=>(idx o<|wrap .i64<|j.2 - 1).bind λag=>(iY N p0 af).bind λah=>(iY N p1 ag).bind λai=>(lM N ah ai p2).bind λaj=>(gW N j.1 (⟨ad,ae,aj⟩:aQ)).bind λak=>some<|.nx (ak,wrap .i64<|j.2+1))else(some<|.br (j.1,j.2)):aV (Fl (Z aQ×Int) Empty))) N (([]:Z aQ),1)).bind λal=>al.cs (λ(j:Z aQ×Int)=>(kr N j.1).bind λan=>some an)<|λr=>r.elim
def mE(N:Nat)(p0:Z aJ)(p1:Z aJ):aV (Z aJ):=
 (iP N p0 p1 3).bind λj=>some j
def iq(N:Nat)(p0:lj)(p1:Int):aV (Z aJ):=
 (iL (λ(j:Z aJ×Int)=>(bif decide (j.2<(p0.aZ.length:Int))then((idx p0.aZ j.2).bind λo=>(fV N o p1).bind λaa=>(bif aa then((idx p0.aZ j.2).bind λab=>(cX N ab).bind λad=>(app 32 j.1 ([ad]:Z aJ)).bind λae=>some ae)else some j.1).bind λaf=>some<|.nx (af,wrap .i64<|j.2+1))else(some<|.br (j.1,j.2)):aV (Fl (Z aJ×Int) Empty))) N (([]:Z aJ),0)).bind λag=>ag.cs (λ(j:Z aJ×Int)=>(idx p0.aP p1).bind λah=>(gA N j.1).bind λai=>(mE N ah ai).bind λaj=>some aj)<|λr=>r.elim
def j9(N:Nat)(p0 p1:aJ):aV Bool:=
 some ((decide (wrap .i64 ((if p1.X1<p0.X1 then p1.X1 else p0.X1) -(if p0.X0<p1.X0 then p1.X0 else p0.X0))>0)&&decide (wrap .i64 ((if p1.Y1<p0.Y1 then p1.Y1 else p0.Y1) -(if p0.Y0<p1.Y0 then p1.Y0 else p0.Y0))>=0))||(decide (wrap .i64 ((if p1.X1<p0.X1 then p1.X1 else p0.X1) -(if p0.X0<p1.X0 then p1.X0 else p0.X0))>=0)&&decide (wrap .i64 ((if p1.Y1<p0.Y1 then p1.Y1 else p0.Y1) -(if p0.Y0<p1.Y0 then p1.Y0 else p0.Y0))>0)))
def kX(N:Nat)(p0:Z (Z aJ))(p1:Z aJ):aV (Z<|Z aJ):=
 (iL (λ(j:Int)=>((bif decide (j>0)then((idx p1 0).bind λo=>(idx p0<|wrap .i64<|j - 1).bind λaa=>(idx aa 0).bind λab=>(jE N o ab).bind λad=>some ad)else some false).bind λae=>bif ae then some (.nx<|wrap .i64<|j - 1)else(some<|.br j):aV (Fl Int Empty))) N (p0.length:Int)).bind λaf=>af.cs (λ(j:Int)=>(ui p0 0 j).bind λag=>(app 24 ([]:Z (Z aJ)) ag).bind λah=>(app 24 ah ([p1]:Z (Z aJ))).bind λai=>(ui p0 j (p0.length:Int)).bind λaj=>(app 24 ai aj).bind λak=>some ak)<|λr=>r.elim
def gM(N:Nat)(p0:Z aJ):aV (Z<|Z aJ):=
 (mk 1 (false:Bool) (p0.length:Int)).bind λad=>(iL (λ(o:Z Bool×Z (Z aJ)×Int)=>(bif decide (o.2.2<(p0.length:Int))then((idx o.1 o.2.2).bind λae=>bif ae then some (.nx (o.1,o.2.1,wrap .i64<|o.2.2+1))else((idx o.1 o.2.2).bind λaw=>(idx p0 o.2.2).bind λaf=>(iL (λ(aa:Z Bool×Z aJ×Int)=>(bif decide (aa.2.2<(aa.2.1.length:Int))then((iL (λ(j:Z Bool×Z aJ×Int)=>(bif decide (j.2.2<(p0.length:Int))then(((idx j.1 j.2.2).bind λag=>bif(!ag)then((idx j.2.1 aa.2.2).bind λah=>(idx p0 j.2.2).bind λai=>(j9 N ah ai).bind λaj=>some aj)else some false).bind λak=>(bif ak then((idx j.1 j.2.2).bind λax=>(idx p0 j.2.2).bind λal=>(app 32 j.2.1 ([al]:Z aJ)).bind λan=>some (j.1.set (Int.toNat j.2.2) true,an))else some (j.1,j.2.1)).bind λab=>some<|.nx (ab.1,ab.2,wrap .i64<|j.2.2+1))else(some<|.br (j.1,j.2.1,j.2.2)):aV (Fl (Z Bool×Z aJ×Int) Empty))) N (aa.1,aa.2.1,0)).bind λao=>ao.cs (λ(j:Z Bool×Z aJ×Int)=>some<|.nx (j.1,j.2.1,wrap .i64<|aa.2.2+1))<|λr=>r.elim)else(some<|.br (aa.1,aa.2.1,aa.2.2)):aV (Fl (Z Bool×Z aJ×Int) Empty))) N (o.1.set (Int.toNat o.2.2) true,([af]:Z aJ),0)).bind λaq=>aq.cs (λ(aa:Z Bool×Z aJ×Int)=>(gA N aa.2.1).bind λar=>(kX N o.2.1 ar).bind λau=>some<|.nx (aa.1,au,wrap .i64<|o.2.2+1))<|λr=>r.elim))else(some<|.br (o.1,o.2.1,o.2.2)):aV (Fl (Z Bool×Z (Z aJ)×Int) Empty))) N (ad,([]:Z (Z aJ)),0)).bind λav=>av.cs (λ(o:Z Bool×Z (Z aJ)×Int)=>some o.2.1)<|λr=>r.elim
def eO(N:Nat)(p0:lj):aV Int:=
 (jd N p0).bind λab=>bif ab != 0 then some ab else((iL (λ(o:Int)=>(bif decide (o<(p0.aZ.length:Int))then((iL (λ(aa:Int)=>(bif decide (aa<o)then(((idx p0.aZ o).bind λae=>(idx p0.aZ aa).bind λaf=>(jH N ae af).bind λag=>bif ag then((idx p0.aZ o).bind λah=>(idx p0.aZ aa).bind λai=>(cX N ah).bind λaj=>(cX N ai).bind λak=>(gY N aj ak).bind λal=>some al)else some false).bind λan=>bif an then some (.rt 12)else some (.nx<|wrap .i64<|aa+1))else(some<|.br aa):aV (Fl Int Int))) N 0).bind λao=>ao.cs (λ(aa:Int)=>some<|.nx<|wrap .i64<|o+1)<|λr=>some<|.rt r)else(some<|.br o):aV (Fl Int Int))) N 0).bind λaq=>aq.cs (λ(o:Int)=>(iL (λ(j:Int×Int)=>(bif decide (j.2<(p0.aP.length:Int))then((iq N p0 j.2).bind λad=>bif decide ((ad.length:Int)>2000)then some (.rt 2)else((gM N ad).bind λar=>some<|.nx (wrap .i64<|j.1+(ar.length:Int),wrap .i64<|j.2+1)))else(some<|.br (j.1,j.2)):aV (Fl (Int×Int) Int))) N (0,0)).bind λau=>au.cs (λ(j:Int×Int)=>bif decide (j.1>2000)then some 2 else some 0)<|λr=>some r)<|λr=>some r)
def ku(N:Nat)(p0:Z aJ)(p1:aJ):aV Bool:=
 (iL (λ(j:Int)=>(bif decide (j<(p0.length:Int))then((idx p0 j).bind λo=>(idx p0 j).bind λaa=>(idx p0 j).bind λab=>(idx p0 j).bind λad=>bif(decide (wrap .i64 ((if p1.X1<o.X1 then p1.X1 else o.X1) -(if aa.X0<p1.X0 then p1.X0 else aa.X0))>0)&&(wrap .i64 ((if p1.Y1<ab.Y1 then p1.Y1 else ab.Y1) -(if ad.Y0<p1.Y0 then p1.Y0 else ad.Y0))==0))||((wrap .i64 ((if p1.X1<o.X1 then p1.X1 else o.X1) -(if aa.X0<p1.X0 then p1.X0 else aa.X0))==0)&&decide (wrap .i64 ((if p1.Y1<ab.Y1 then p1.Y1 else ab.Y1) -(if ad.Y0<p1.Y0 then p1.Y0 else ad.Y0))>0))then some (.rt true)else some (.nx<|wrap .i64<|j+1))else(some<|.br j):aV (Fl Int Bool))) N 0).bind λae=>ae.cs (λ(j:Int)=>some false)<|λr=>some r
def cQ(N:Nat)(p0:Z Int)(p1:Int):aV Bool:=
 (iL (λ(j:Int)=>(bif decide (j<(p0.length:Int))then((idx p0 j).bind λo=>bif o==p1 then some (.rt true)else some (.nx<|wrap .i64<|j+1))else(some<|.br j):aV (Fl Int Bool))) N 0).bind λaa=>aa.cs (λ(j:Int)=>some false)<|λr=>some r
def jI(N:Nat)(p0:Z Int)(p1:Int):aV (Z Int):=
 (iL (λ(j:Int)=>((bif decide (j>0)then((idx p0<|wrap .i64<|j - 1).bind λo=>some<|decide<|o>p1)else some false).bind λaa=>bif aa then some (.nx<|wrap .i64<|j - 1)else(some<|.br j):aV (Fl Int Empty))) N (p0.length:Int)).bind λab=>ab.cs (λ(j:Int)=>(bif decide (j>0)then((idx p0<|wrap .i64<|j - 1).bind λad=>some<|ad==p1)else some false).bind λae=>bif ae then some p0 else((ui p0 0 j).bind λaf=>(app 8 ([]:Z Int) af).bind λag=>(app 8 ag ([p1]:Z Int)).bind λah=>(ui p0 j (p0.length:Int)).bind λai=>(app 8 ah ai).bind λaj=>some aj))<|λr=>r.elim
def iF(N:Nat)(p0_7:Z (Z Int))(p1:Int)(p2:Z Bool):aV ((Z Int×Z Int×Z bC)×Z Bool):=
 (idx p2 p1).bind λax=>(mk 1 (false:Bool) (p0_7.length:Int)).bind λae=>(iL (λ(o:Z Bool×Z Int×Z Int×Z Bool×Z Int×Int)=>(bif decide (o.2.2.2.2.2<(o.2.2.2.2.1.length:Int))then((iL (λ(j:Z Bool×Z Int×Z Int×Z Bool×Z Int×Int)=>(bif decide (j.2.2.2.2.2<(p0_7.length:Int))then(((idx j.2.2.2.1 j.2.2.2.2.2).bind λaf=>bif af then some true else((idx p0_7 j.2.2.2.2.2).bind λag=>(idx j.2.2.2.2.1 o.2.2.2.2.2).bind λah=>(cQ N ag ah).bind λai=>some<|!ai)).bind λaj=>bif aj then some (.nx (j.1,j.2.1,j.2.2.1,j.2.2.2.1,j.2.2.2.2.1,wrap .i64<|j.2.2.2.2.2+1))else((idx j.2.2.2.1 j.2.2.2.2.2).bind λay=>(jI N j.2.2.1 j.2.2.2.2.2).bind λak=>(iL (λ(aa:Z Bool×Z Int×Z Int×Int)=>((idx p0_7 j.2.2.2.2.2).bind λal=>bif decide (aa.2.2.2<(al.length:Int))then((idx p0_7 j.2.2.2.2.2).bind λan=>(idx an aa.2.2.2).bind λab=>(idx aa.1 ab).bind λao=>(bif(!ao)then((idx aa.1 ab).bind λaz=>(jI N aa.2.1 ab).bind λaq=>(app 8 aa.2.2.1 ([ab]:Z Int)).bind λar=>some (aa.1.set (Int.toNat ab) true,aq,ar))else some (aa.1,aa.2.1,aa.2.2.1)).bind λad=>some<|.nx (ad.1,ad.2.1,ad.2.2,wrap .i64<|aa.2.2.2+1))else(some<|.br (aa.1,aa.2.1,aa.2.2.1,aa.2.2.2)):aV (Fl (Z Bool×Z Int×Z Int×Int) Empty))) N (j.1,j.2.1,j.2.2.2.2.1,0)).bind λau=>au.cs (λ(aa:Z Bool×Z Int×Z Int×Int)=>some<|.nx (aa.1,aa.2.1,ak,j.2.2.2.1.set (Int.toNat j.2.2.2.2.2) true,aa.2.2.1,wrap .i64<|j.2.2.2.2.2+1))<|λr=>r.elim))else(some<|.br (j.1,j.2.1,j.2.2.1,j.2.2.2.1,j.2.2.2.2.1,j.2.2.2.2.2)):aV (Fl (Z Bool×Z Int×Z Int×Z Bool×Z Int×Int) Empty))) N (o.1,o.2.1,o.2.2.1,o.2.2.2.1,o.2.2.2.2.1,0)).bind λav=>av.cs (λ(j:Z Bool×Z Int×Z Int×Z Bool×Z Int×Int)=>some<|.nx (j.1,j.2.1,j.2.2.1,j.2.2.2.1,j.2.2.2.2.1,wrap .i64<|o.2.2.2.2.2+1))<|λr=>r.elim)else(some<|.br (o.1,o.2.1,o.2.2.1,o.2.2.2.1,o.2.2.2.2.1,o.2.2.2.2.2)):aV (Fl (Z Bool×Z Int×Z Int×Z Bool×Z Int×Int) Empty))) N (p2.set (Int.toNat p1) true,([p1]:Z Int),([]:Z Int),ae,([p1]:Z Int),0)).bind λaw=>aw.cs (λ(o:Z Bool×Z Int×Z Int×Z Bool×Z Int×Int)=>some ((o.2.1,o.2.2.1,([]:Z bC)),o.1))<|λr=>r.elim
def fN(N:Nat)(p0:Z aJ)(p1:kF):aV Bool:=
 (iY N p0 p1.Y).bind λj=>(iE N j p1.X).bind λo=>some o
def gI(N:Nat)(p0_2:Z cL)(p0_4:Z Int)(p0_5:Z (Z aJ))(p1:eQ):aV (ld×Bool):=
 (iL (λ(o:Int)=>(bif decide (o<(p0_5.length:Int))then(((idx p0_4 o).bind λaa=>bif aa==p1.dW then((idx p0_5 o).bind λab=>(fN N ab p1.At).bind λad=>some ad)else some false).bind λae=>bif ae then some (.rt ((⟨false,o⟩:ld),true))else some (.nx<|wrap .i64<|o+1))else(some<|.br o):aV (Fl Int<|ld×Bool))) N 0).bind λaf=>af.cs (λ(o:Int)=>(iL (λ(j:Int)=>(bif decide (j<(p0_2.length:Int))then(((idx p0_2 j).bind λag=>bif ag.il then((idx p0_2 j).bind λah=>(fV N ah p1.dW).bind λai=>bif ai then((idx p0_2 j).bind λaj=>(cX N aj).bind λak=>(fN N ([ak]:Z aJ) p1.At).bind λal=>some al)else some false)else some false).bind λan=>bif an then some (.rt ((⟨true,j⟩:ld),true))else some (.nx<|wrap .i64<|j+1))else(some<|.br j):aV (Fl Int<|ld×Bool))) N 0).bind λao=>ao.cs (λ(j:Int)=>some ((⟨false,0⟩:ld),false))<|λr=>some r)<|λr=>some r
def eN(N:Nat)(p0_6:Z bG)(p1:ld):aV Int:=
 (iL (λ(j:Int)=>(bif decide (j<(p0_6.length:Int))then((bif p1.cL then((idx p0_6 j).bind λo=>(cQ N o.aZ p1.Number).bind λaa=>bif aa then some true else(bif(!p1.cL)then((idx p0_6 j).bind λab=>(cQ N ab.jQ p1.Number).bind λad=>some ad)else some false))else(bif(!p1.cL)then((idx p0_6 j).bind λae=>(cQ N ae.jQ p1.Number).bind λaf=>some af)else some false)).bind λag=>bif ag then some (.rt j)else some (.nx<|wrap .i64<|j+1))else(some<|.br j):aV (Fl Int Int))) N 0).bind λah=>ah.cs (λ(j:Int)=>some<|-1)<|λr=>some r
def eF(N:Nat)(p0_2:Z cL)(p0_4:Z Int)(p0_5:Z (Z aJ))(p0_6:Z bG)(p1:eQ):aV Int:=
 (gI N p0_2 p0_4 p0_5 p1).bind λj=>bif(!j.2)then some (-1)else((eN N p0_6 j.1).bind λo=>some o)
def fR(N:Nat)(p0_2:Z cL)(p0_3:Z eQ)(p0_4:Z Int)(p0_5:Z (Z aJ))(p0_7:Z (Z Int)):aV (Z bG):=
 (mk 1 (false:Bool) (p0_5.length:Int)).bind λag=>(iL (λ(j:Z bG×Z Bool×Int)=>(bif decide (j.2.2<(p0_5.length:Int))then((idx j.2.1 j.2.2).bind λah=>(bif(!ah)then((iF N p0_7 j.2.2 j.2.1).bind λab=>(app 72 j.1 [(⟨ab.1.1,ab.1.2.1,ab.1.2.2⟩:bG)]).bind λai=>some (ai,ab.2))else some (j.1,j.2.1)).bind λaf=>some<|.nx (af.1,af.2,wrap .i64<|j.2.2+1))else(some<|.br (j.1,j.2.1,j.2.2)):aV (Fl (Z bG×Z Bool×Int) Empty))) N (([]:Z bG),ag,0)).bind λaj=>aj.cs (λ(j:Z bG×Z Bool×Int)=>(iL (λ(aa:Z bG×Int)=>(bif decide (aa.2<(p0_7.length:Int))then(((idx p0_2 aa.2).bind λak=>bif ak.il then((idx p0_7 aa.2).bind λal=>some<|(al.length:Int)==0)else some false).bind λan=>(bif an then((app 72 aa.1 [(⟨([]:Z Int),([aa.2]:Z Int),([]:Z bC)⟩:bG)]).bind λao=>some ao)else some aa.1).bind λaq=>some<|.nx (aq,wrap .i64<|aa.2+1))else(some<|.br (aa.1,aa.2)):aV (Fl (Z bG×Int) Empty))) N (j.1,0)).bind λar=>ar.cs (λ(aa:Z bG×Int)=>(iL (λ(o:Z bG×Int)=>(bif decide (o.2<(p0_3.length:Int))then((idx p0_3 o.2).bind λae=>(eF N p0_2 p0_4 p0_5 o.1 ae).bind λad=>(bif decide (ad>=0)then((idx o.1 ad).bind λau=>(app 32 au.aT ([(⟨ae.Part,ae.bC⟩:bC)]:Z bC)).bind λav=>(idx o.1 ad).bind λaw=>some<|o.1.set (Int.toNat ad) {aw with aT:=av})else some o.1).bind λax=>some<|.nx (ax,wrap .i64<|o.2+1))else(some<|.br (o.1,o.2)):aV (Fl (Z bG×Int) Empty))) N (aa.1,0)).bind λay=>ay.cs (λ(o:Z bG×Int)=>some o.1)<|λr=>r.elim)<|λr=>r.elim)<|λr=>r.elim
def km(N:Nat)(p0:lj):aV (Z (Z aJ)×Z aJ×Z cL×Z eQ×Z Int×Z (Z aJ)×Z bG×Z (Z Int)):=
 (iL (λ(j:Z Int×Z (Z aJ)×Int)=>(bif decide (j.2.2<(p0.aP.length:Int))then((iq N p0 j.2.2).bind λae=>(gM N ae).bind λad=>(iL (λ(o:Z Int×Z (Z aJ)×Int)=>(bif decide (o.2.2<(ad.length:Int))then((app 8 o.1 ([j.2.2]:Z Int)).bind λaf=>(idx ad o.2.2).bind λag=>(app 24 o.2.1 ([ag]:Z (Z aJ))).bind λah=>some<|.nx (af,ah,wrap .i64<|o.2.2+1))else(some<|.br (o.1,o.2.1,o.2.2)):aV (Fl (Z Int×Z (Z aJ)×Int) Empty))) N (j.1,j.2.1,0)).bind λai=>ai.cs (λ(o:Z Int×Z (Z aJ)×Int)=>some<|.nx (o.1,o.2.1,wrap .i64<|j.2.2+1))<|λr=>r.elim)else(some<|.br (j.1,j.2.1,j.2.2)):aV (Fl (Z Int×Z (Z aJ)×Int) Empty))) N (([]:Z Int),([]:Z (Z aJ)),0)).bind λaj=>aj.cs (λ(j:Z Int×Z (Z aJ)×Int)=>(iL (λ(aa:Z (Z Int)×Int)=>(bif decide (aa.2<(p0.aZ.length:Int))then((iL (λ(ab:Z Int×Int)=>((bif decide (ab.2<(j.2.1.length:Int))then((idx p0.aZ aa.2).bind λak=>some ak.il)else some false).bind λal=>bif al then(((idx p0.aZ aa.2).bind λan=>(idx j.1 ab.2).bind λao=>(fV N an ao).bind λaq=>bif aq then((idx j.2.1 ab.2).bind λar=>(idx p0.aZ aa.2).bind λau=>(cX N au).bind λav=>(ku N ar av).bind λaw=>some aw)else some false).bind λax=>(bif ax then((app 8 ab.1 ([ab.2]:Z Int)).bind λay=>some ay)else some ab.1).bind λaz=>some<|.nx (az,wrap .i64<|ab.2+1))else(some<|.br (ab.1,ab.2)):aV (Fl (Z Int×Int) Empty))) N (([]:Z Int),0)).bind λa0=>a0.cs (λ(ab:Z Int×Int)=>(app 24 aa.1 ([ab.1]:Z (Z Int))).bind λa1=>some<|.nx (a1,wrap .i64<|aa.2+1))<|λr=>r.elim)else(some<|.br (aa.1,aa.2)):aV (Fl (Z (Z Int)×Int) Empty))) N (([]:Z (Z Int)),0)).bind λa2=>a2.cs (λ(aa:Z (Z Int)×Int)=>(fR N p0.aZ p0.bW j.1 j.2.1 aa.1).bind λa3=>some (p0.aP,p0.dF,p0.aZ,p0.bW,j.1,j.2.1,a3,aa.1))<|λr=>r.elim)<|λr=>r.elim
def kx(N:Nat)(p0:lj)(p1:bC):aV Int:=
 (iL (λ(j:Int)=>(bif decide (j<(p0.bW.length:Int))then(((idx p0.bW j).bind λo=>bif o.Part.kj p1.Part then((idx p0.bW j).bind λaa=>some<|aa.bC.kj p1.bC)else some false).bind λab=>bif ab then some (.rt j)else some (.nx<|wrap .i64<|j+1))else(some<|.br j):aV (Fl Int Int))) N 0).bind λad=>ad.cs (λ(j:Int)=>some<|-1)<|λr=>some r
def o8(N:Nat)(p0 p1:bC):aV Bool:=
 some (p0.Part.mH p1.Part||(p0.Part.kj p1.Part&&p0.bC.mH p1.bC))
def jJ(N:Nat)(p0:Z bC)(p1:bC):aV (Z bC):=
 (iL (λ(j:Int)=>((bif decide (j>0)then((idx p0<|wrap .i64<|j - 1).bind λo=>(o8 N p1 o).bind λaa=>some aa)else some false).bind λab=>bif ab then some (.nx<|wrap .i64<|j - 1)else(some<|.br j):aV (Fl Int Empty))) N (p0.length:Int)).bind λad=>ad.cs (λ(j:Int)=>(ui p0 0 j).bind λae=>(app 32 ([]:Z bC) ae).bind λaf=>(app 32 af ([p1]:Z bC)).bind λag=>(ui p0 j (p0.length:Int)).bind λah=>(app 32 ag ah).bind λai=>some ai)<|λr=>r.elim
def ky(N:Nat)(p0_6:Z bG)(p1:ld):aV Int:=
 (iL (λ(j:Int)=>(bif decide (j<(p0_6.length:Int))then((bif p1.cL then((idx p0_6 j).bind λo=>(cQ N o.aZ p1.Number).bind λaa=>bif aa then some true else(bif(!p1.cL)then((idx p0_6 j).bind λab=>(cQ N ab.jQ p1.Number).bind λad=>some ad)else some false))else(bif(!p1.cL)then((idx p0_6 j).bind λae=>(cQ N ae.jQ p1.Number).bind λaf=>some af)else some false)).bind λag=>bif ag then some (.rt j)else some (.nx<|wrap .i64<|j+1))else(some<|.br j):aV (Fl Int Int))) N 0).bind λah=>ah.cs (λ(j:Int)=>some<|-1)<|λr=>some r
def ig(N:Nat)(p0_2:Z cL)(p0_4:Z Int)(p0_5:Z (Z aJ))(p0_6:Z bG)(p1:eQ):aV Int:=
 (gI N p0_2 p0_4 p0_5 p1).bind λj=>bif(!j.2)then some (-1)else((ky N p0_6 j.1).bind λo=>some o)
def iG(N:Nat)(p0_0:Z (Z aJ))(p0_1:Z aJ)(p0_2:Z cL)(p0_3:Z eQ)(p0_4:Z Int)(p0_5:Z (Z aJ))(p0_6:Z bG)(p1:Z bC):aV (Z bC×Bool):=
 (iL (λ(j:Z (Z bC)×Z Int×Int)=>(bif decide (j.2.2<(p1.length:Int))then((idx p1 j.2.2).bind λPv=>(kx N (⟨p0_0,p0_1,p0_2,p0_3⟩:lj) Pv).bind λFP=>bif decide (FP<0)then some (.nx (j.1,j.2.1,wrap .i64<|j.2.2+1))else((idx p0_3 FP).bind λae=>(ig N p0_2 p0_4 p0_5 p0_6 ae).bind λab=>(iL (λ(o:Int×Int)=>(bif decide (o.2<(j.2.1.length:Int))&&decide (ab>=0)then((idx j.2.1 o.2).bind λaf=>(bif af==ab then some o.2 else some o.1).bind λag=>some<|.nx (ag,wrap .i64<|o.2+1))else(some<|.br (o.1,o.2)):aV (Fl (Int×Int) Empty))) N ((-1),0)).bind λah=>ah.cs (λ(o:Int×Int)=>(bif decide (o.1<0)then((idx p1 j.2.2).bind λai=>(app 24 j.1 [([ai]:Z bC)]).bind λaj=>(app 8 j.2.1 ([ab]:Z Int)).bind λak=>some (aj,ak))else((idx j.1 o.1).bind λal=>(idx p1 j.2.2).bind λan=>(app 32 al ([an]:Z bC)).bind λao=>(idx j.1 o.1).bind λaw=>some (j.1.set (Int.toNat o.1) ao,j.2.1))).bind λad=>some<|.nx (ad.1,ad.2,wrap .i64<|j.2.2+1))<|λr=>r.elim))else(some<|.br (j.1,j.2.1,j.2.2)):aV (Fl (Z (Z bC)×Z Int×Int) Empty))) N (([]:Z (Z bC)),([]:Z Int),0)).bind λaq=>aq.cs (λ(j:Z (Z bC)×Z Int×Int)=>(iL (λ(aa:Z bC×Int)=>(bif decide (aa.2<(j.1.length:Int))then((idx j.1 aa.2).bind λar=>(app 32 aa.1 ar).bind λau=>some<|.nx (au,wrap .i64<|aa.2+1))else(some<|.br (aa.1,aa.2)):aV (Fl (Z bC×Int) Empty))) N (([]:Z bC),0)).bind λav=>av.cs (λ(aa:Z bC×Int)=>some (aa.1,decide<|(j.1.length:Int)>1))<|λr=>r.elim)<|λr=>r.elim
def iT(N:Nat)(p0:Z aS)(p1:cA)(p2:bC):aV Bool:=
 (iL (λ(o:Int)=>(bif decide (o<(p1.cR.length:Int))then((iL (λ(j:Int)=>((bif decide (j<(p0.length:Int))then((idx p1.cR o).bind λab=>some<|ab.Name.kj p2.Part)else some false).bind λad=>bif ad then((iL (λ(aa:Int)=>(((idx p0 j).bind λae=>bif decide (aa<(ae.aT.length:Int))then((idx p0 j).bind λaf=>(idx p1.cR o).bind λag=>some<|af.Name.kj ag.jR)else some false).bind λah=>bif ah then((idx p0 j).bind λai=>(idx ai.aT aa).bind λaj=>bif aj.Name.kj p2.bC then some (.rt true)else some (.nx<|wrap .i64<|aa+1))else(some<|.br aa):aV (Fl Int Bool))) N 0).bind λak=>ak.cs (λ(aa:Int)=>some<|.nx<|wrap .i64<|j+1)<|λr=>some<|.rt r)else(some<|.br j):aV (Fl Int Bool))) N 0).bind λal=>al.cs (λ(j:Int)=>some<|.nx<|wrap .i64<|o+1)<|λr=>some<|.rt r)else(some<|.br o):aV (Fl Int Bool))) N 0).bind λan=>an.cs (λ(o:Int)=>some false)<|λr=>some r
def lN(N:Nat)(p0:cA)(p1:bC):aV cD:=
 (iL (λ(j:Int)=>(bif decide (j<(p0.bT.length:Int))then((iL (λ(o:Int)=>((idx p0.bT j).bind λaa=>bif decide (o<(aa.aT.length:Int))then((idx p0.bT j).bind λab=>(idx ab.aT o).bind λad=>bif decide (ad=p1)then((idx p0.bT j).bind λae=>some<|.rt ae.Name)else some (.nx<|wrap .i64<|o+1))else(some<|.br o):aV (Fl Int cD))) N 0).bind λaf=>af.cs (λ(o:Int)=>some<|.nx<|wrap .i64<|j+1)<|λr=>some<|.rt r)else(some<|.br j):aV (Fl Int cD))) N 0).bind λag=>ag.cs (λ(j:Int)=>some<|⟨[]⟩)<|λr=>some r
def ka(N:Nat)(p0:Z cD)(p1:cD):aV (Z cD):=
 (iL (λ(j:Int)=>((bif decide (j>0)then((idx p0<|wrap .i64<|j - 1).bind λo=>some<|!(o.mH p1||o.kj p1))else some false).bind λaa=>bif aa then some (.nx<|wrap .i64<|j - 1)else(some<|.br j):aV (Fl Int Empty))) N (p0.length:Int)).bind λab=>ab.cs (λ(j:Int)=>(bif decide (j>0)then((idx p0<|wrap .i64<|j - 1).bind λad=>some<|ad.kj p1)else some false).bind λae=>bif ae then some p0 else((ui p0 0 j).bind λaf=>(app 16 ([]:Z cD) af).bind λag=>(app 16 ag ([p1]:Z cD)).bind λah=>(ui p0 j (p0.length:Int)).bind λai=>(app 16 ah ai).bind λaj=>some aj))<|λr=>r.elim
def fW(N:Nat)(p0:Z aS)(p1:cA)(p2:lj):aV (Z cI×Int):=
 (jD N p0 p1).bind λah=>bif ah != 0 then some (([]:Z cI),ah)else((eO N p2).bind λai=>bif ai != 0 then some (([]:Z cI),ai)else((km N p2).bind λaf=>(iL (λ(aa:Z bC×Int)=>(bif decide (aa.2<(p1.bT.length:Int))then((iL (λ(ae:Z bC×Int)=>((idx p1.bT aa.2).bind λaq=>bif decide (ae.2<(aq.aT.length:Int))then((idx p1.bT aa.2).bind λar=>(idx ar.aT ae.2).bind λau=>(kx N p2 au).bind λav=>(bif decide (av<0)then((idx p1.bT aa.2).bind λaw=>(idx aw.aT ae.2).bind λax=>(jJ N ae.1 ax).bind λay=>some ay)else some ae.1).bind λaz=>some<|.nx (az,wrap .i64<|ae.2+1))else(some<|.br (ae.1,ae.2)):aV (Fl (Z bC×Int) Empty))) N (aa.1,0)).bind λa0=>a0.cs (λ(ae:Z bC×Int)=>some<|.nx (ae.1,wrap .i64<|aa.2+1))<|λr=>r.elim)else(some<|.br (aa.1,aa.2)):aV (Fl (Z bC×Int) Empty))) N (([]:Z bC),0)).bind λa1=>a1.cs (λ(aa:Z bC×Int)=>(bif decide ((aa.1.length:Int)>0)then((app 56 ([]:Z cI) ([(⟨1,[],aa.1⟩:cI)]:Z cI)).bind λa2=>some a2)else some ([]:Z cI)).bind λa3=>(iL (λ(o:Z bG×Z cI×Int)=>(bif decide (o.2.2<(p1.bT.length:Int))then((idx p1.bT o.2.2).bind λa4=>(iG N af.1 af.2.1 af.2.2.1 af.2.2.2.1 af.2.2.2.2.1 af.2.2.2.2.2.1 o.1 a4.aT).bind λaj=>(bif aj.2 then((idx p1.bT o.2.2).bind λa5=>(app 56 o.2.1 ([(⟨2,([a5.Name]:Z cD),aj.1⟩:cI)]:Z cI)).bind λa6=>some a6)else some o.2.1).bind λa7=>some<|.nx (o.1,a7,wrap .i64<|o.2.2+1))else(some<|.br (o.1,o.2.1,o.2.2)):aV (Fl (Z bG×Z cI×Int) Empty))) N (af.2.2.2.2.2.2.1,a3,0)).bind λa8=>a8.cs (λ(o:Z bG×Z cI×Int)=>(iL (λ(ab:Z cI×Int)=>(bif decide (ab.2<(o.1.length:Int))then((iL (λ(j:Z cD×Z bC×Int×Int)=>((idx o.1 ab.2).bind λa9=>bif decide (j.2.2.2<(a9.aT.length:Int))then((idx o.1 ab.2).bind λba=>(idx ba.aT j.2.2.2).bind λag=>(iT N p0 p1 ag).bind λbb=>bif(!bb)then some (.nx (j.1,j.2.1,j.2.2.1,wrap .i64<|j.2.2.2+1))else((app 32 j.2.1 ([ag]:Z bC)).bind λbc=>(lN N p1 ag).bind λak=>(bif(!ak.kj (⟨[]⟩))then((ka N j.1 ak).bind λbd=>some (bd,j.2.2.1))else some (j.1,wrap .i64<|j.2.2.1+1)).bind λal=>some<|.nx (al.1,bc,al.2,wrap .i64<|j.2.2.2+1)))else(some<|.br (j.1,j.2.1,j.2.2.1,j.2.2.2)):aV (Fl (Z cD×Z bC×Int×Int) Empty))) N (([]:Z cD),([]:Z bC),0,0)).bind λbf=>bf.cs (λ(j:Z cD×Z bC×Int×Int)=>(bif decide (wrap .i64 ((j.1.length:Int)+j.2.2.1)>1)then((app 56 ab.1 ([(⟨3,j.1,j.2.1⟩:cI)]:Z cI)).bind λbg=>some bg)else some ab.1).bind λbh=>some<|.nx (bh,wrap .i64<|ab.2+1))<|λr=>r.elim)else(some<|.br (ab.1,ab.2)):aV (Fl (Z cI×Int) Empty))) N (o.2.1,0)).bind λbj=>bj.cs (λ(ab:Z cI×Int)=>(iL (λ(ad:Z bC×Int)=>(bif decide (ad.2<(p2.bW.length:Int))then((idx p2.bW ad.2).bind λan=>(idx p2.bW ad.2).bind λao=>(iT N p0 p1 (⟨an.Part,ao.bC⟩:bC)).bind λbk=>(bif(!bk)then((app 32 ad.1 ([(⟨an.Part,ao.bC⟩:bC)]:Z bC)).bind λbl=>some bl)else some ad.1).bind λbm=>some<|.nx (bm,wrap .i64<|ad.2+1))else(some<|.br (ad.1,ad.2)):aV (Fl (Z bC×Int) Empty))) N (([]:Z bC),0)).bind λbn=>bn.cs (λ(ad:Z bC×Int)=>(bif decide ((ad.1.length:Int)>0)then((app 56 ab.1 ([(⟨4,[],ad.1⟩:cI)]:Z cI)).bind λbo=>some bo)else some ab.1).bind λbp=>some (bp,0))<|λr=>r.elim)<|λr=>r.elim)<|λr=>r.elim)<|λr=>r.elim))
def gN(N:Nat)(p0:Z cI)(p1:Z cI)(p2:cI->cI->aV Bool):aV Bool:=
 bif(p0.length:Int) != (p1.length:Int)then some false else((qT p0.length (λ(j:Nat)(o:Unit)=>((idx p0 (j:Int)).bind λaa=>(idx p1 (j:Int)).bind λab=>(p2 aa ab).bind λad=>bif(!ad)then some (.rt false)else(some<|.nx ()):aV (Fl Unit Bool))) ()).bind λae=>ae.cs (λ(o:Unit)=>some true)<|λr=>some r)
def lO(N:Nat)(p0:Z cD)(p1:Z cD):aV Bool:=
 bif(p0.length:Int) != (p1.length:Int)then some false else((qT p0.length (λ(j:Nat)(o:Unit)=>((idx p0 (j:Int)).bind λaa=>(idx p1 (j:Int)).bind λab=>bif(!aa.kj ab)then some (.rt false)else(some<|.nx ()):aV (Fl Unit Bool))) ()).bind λad=>ad.cs (λ(o:Unit)=>some true)<|λr=>some r)
def qA(N:Nat)(p0:Z bC)(p1:Z bC):aV Bool:=
 bif(p0.length:Int) != (p1.length:Int)then some false else((qT p0.length (λ(j:Nat)(o:Unit)=>((idx p0 (j:Int)).bind λaa=>(idx p1 (j:Int)).bind λab=>bif(!(decide<|aa=ab))then some (.rt false)else(some<|.nx ()):aV (Fl Unit Bool))) ()).bind λad=>ad.cs (λ(o:Unit)=>some true)<|λr=>some r)
def ir(N:Nat)(p0 p1:cI):aV Bool:=
 (bif p0.Kind==p1.Kind then((lO N p0.bT p1.bT).bind λj=>bif j then((qA N p0.aT p1.aT).bind λo=>some o)else some false)else some false).bind λaa=>some aa
def iU(N:Nat):aV Bool:=
 (nz N (⟨⟨0,0⟩,2,0,0,false⟩:cL)).bind λj=>(bif j.2==0 then some (decide<|j.1=(⟨(-1),(-1),1,1⟩:aJ))else some false).bind λo=>some o
def eZ(N:Nat)(p0:Z aS)(p1:cA)(p2:lj):aV Bool:=
 (fZ N p0 p1 p2).bind λj=>(fW N p0 p1 p2).bind λo=>((gN N j.1 o.1<|ir N).bind λaa=>bif aa&&(j.2==o.2)then((iU N).bind λab=>some ab)else some false).bind λad=>some ad
end
def ov{R:Type}(m:Nat)(e:Nat->aV R):aV R:=(List.range m).findSome? e
theorem l9{R:Type}{m:Nat}{e:Nat->aV R}:ov m e=none↔∀k,k<m->e k=none:=by
 simp[ov]
theorem lz{R:Type}{m:Nat}{e:Nat->aV R}{r:R}:ov m e=some r↔∃k,k<m/\e k=some r/\∀j,j<k->e j=none:=by
 constructor
 ·intro h;obtain⟨l1,a,l2,hl,ha,hn⟩:=List.findSome?_eq_some_iff.1 h;have hlen:l1.length<m:=by have:=congrArg List.length hl;simp at this;omega
  have hget:∀i,i<l1.length->l1[i]? =some i:=λi hi=>by
   have:=congrArg (·[i]?) hl;simp only[kI hi,List.getElem?_range (show i<m by omega)]at this;exact this.symm
  have hat:a=l1.length:=by
   have:=congrArg (·[l1.length]?) hl;simp[List.getElem?_range hlen]at this;exact this.symm
  refine⟨a,by omega,ha,λj hj=>hn j ?_⟩;exact dT<|hget j (by omega)
 ·rintro⟨k,hk,he,hn⟩;refine List.findSome?_eq_some_iff.2 ⟨List.range k,k,(List.range<|m - k - 1).map (· +(k+1)),?_,he,λx hx=>hn x<|A6.1 hx⟩;refine List.ext_getElem? λi=>?_
  by_cases h1:i<k
  ·rw[kI (by simpa using h1),List.getElem?_range (by omega),List.getElem?_range h1]
  ·rw[kJ (by simpa using h1),List.length_range]
   by_cases h2:i=k
   ·subst h2;simp[List.getElem?_range hk]
   ·obtain⟨d,rfl⟩:∃d,i=k+1+d:=⟨i -(k+1),by omega⟩;rw[show k+1+d - k=d+1 by omega,List.getElem?_cons_succ,kg]
    by_cases h3:k+1+d<m
    ·rw[List.getElem?_range h3,List.getElem?_range (by omega)];simp;omega
    ·rw[List.getElem?_eq_none (by simp;omega),List.getElem?_eq_none (by simp;omega)];rfl
def P8{R R':Type}{m:Nat}{e:Nat->aV R}(f:R->R'):(ov m e).map f=ov m (λk=>(e k).map f):=by
 cases hx:ov m e with
 |none=>exact(l9.2 λk hk=>by rw[l9.1 hx k hk];rfl).symm
 |some r=>
  obtain⟨k,hk,he,hn⟩:=lz.1 hx;exact(lz.2 ⟨k,hk,by rw[he];rfl,λj hj=>by rw[hn j hj];rfl⟩).symm
section
variable {S R:Type}
def GK(o:aV R)(s:S):Fl S R:=match o with|some r=> .rt r|none=> .nx s
def JA(o:aV R)(s:S):Fo S R:=match o with|some r=> .rt r|none=> .go s
def K3{body:Nat->S->aV (Fl S R)}(F:Nat->S)(e:Nat->aV R)(m:Nat):∀(n k:Nat),k+n=m->
  (∀j,k<=j->j<m->(∀i,k<=i->i<j->e i=none)->body j (F j)=some (GK (e j)<|F<|j+1))->
  ∃o,Jk body n k (F k)=some o/\((∀j,k<=j->j<m->e j=none)/\o = .go (F m)\/∃j r,k<=j/\j<m/\e j=some r/\(∀i,k<=i->i<j->e i=none)/\o = .rt r)
 | 0,k,hk,_=>⟨_,rfl, .inl ⟨λj h1 h2=>by omega,by rw[show k=m by omega]⟩⟩
 |n+1,k,hk,h=>by
  have hb:=h k (cG _) (by omega) (λi h1 h2=>by omega);unfold Jk;rw[hb]
  cases hx:e k with
  |some r=>exact⟨_,rfl, .inr ⟨k,r,cG _,by omega,hx,λi h1 h2=>by omega,rfl⟩⟩
  |none=>
   obtain⟨o,ho,hc⟩:=K3 F e m n (k+1) (by omega) (λj h1 h2 h3=>h j (by omega) h2 λi h4 h5=>by
    by_cases h6:i=k
    ·subst h6;exact hx
    ·exact h3 i (by omega) h5)
   refine⟨o,ho,?_⟩
   rcases hc with⟨h1,h2⟩|⟨j,r,h1,h2,h3,h4,h5⟩
   ·refine .inl ⟨λj h3 h4=>?_,h2⟩
    by_cases h6:j=k
    ·subst h6;exact hx
    ·exact h1 j (by omega) h4
   ·refine .inr ⟨j,r,by omega,h2,h3,λi h6 h7=>?_,h5⟩
    by_cases h8:i=k
    ·subst h8;exact hx
    ·exact h4 i (by omega) h7
def NB{body:Nat->S->aV (Fl S R)}{m:Nat}{s:S}(F:Nat->S)(e:Nat->aV R)(hm:m<=4611686018427387904)(hs:F 0=s)
  (h:∀k,k<m->(∀i,i<k->e i=none)->body k (F k)=some (GK (e k)<|F<|k+1)):qT m body s=some (JA (ov m e)<|F m):=by
 subst hs;unfold qT;rw[aG hm];obtain⟨o,ho,hc⟩:=K3 F e m m 0 (by omega)<|λj _ h2 h3=>h j h2 λi hi=>h3 i (dH _) hi
 rw[ho]
 rcases hc with⟨h1,h2⟩|⟨j,r,_,h2,h3,h4,h5⟩
 ·rw[l9.2 λk hk=>h1 k (dH _) hk,h2];rfl
 ·rw[lz.2 ⟨j,h2,h3,λi hi=>h4 i (dH _) hi⟩,h5];rfl
def kZ{body:Nat->Unit->aV (Fl Unit R)}{m:Nat}(e:Nat->aV R)(hm:m<=4611686018427387904)
  (h:∀k,k<m->(∀i,i<k->e i=none)->body k ()=some (GK (e k) ())):qT m body ()=some (JA (ov m e) ()):=
 NB (λ_=>()) e hm rfl h
def K4{body:Nat->S->aV S}(F:Nat->S):∀(n k:Nat),(∀j,k<=j->j<k+n->body j (F j)=some (F<|j+1))->Me body n k (F k)=some (F<|k+n)
 | 0,_,_=>rfl
 |n+1,k,h=>by
  unfold Me;rw[h k (cG _) (by omega)];have:=K4 F n (k+1)<|λj h1 h2=>h j (by omega) (by omega)
  rw[show k+(n+1)=k+1+n by omega];exact this
def DF{body:Nat->S->aV S}{m:Nat}{s:S}(F:Nat->S)(hm:m<=4611686018427387904)(hs:F 0=s)
  (h:∀k,k<m->body k (F k)=some (F<|k+1)):mc m body s=some (F m):=by
 subst hs;unfold mc;rw[aG hm];have:=K4 F m 0<|λj _ h2=>h j (by omega)
 rwa[jW]at this
def Bh{body:S->aV (Fl S R)}(Inv:S->Prop)(μ:S->Nat)(Go:S->Prop)(Rt:R->Prop)
  (h:∀s,Inv s->∃fl,body s=some fl/\match fl with| .nx s'=>Inv s'/\μ s'<μ s| .br s'=>Go s'| .rt r=>Rt r):
  ∀(N:Nat)(s:S),Inv s->μ s<N->∃o,iL body N s=some o/\match o with| .go s'=>Go s'| .rt r=>Rt r
 | 0,s,_,hn=>by omega
 |N+1,s,hi,hn=>by
  obtain⟨fl,hb,hf⟩:=h s hi;unfold iL;rw[hb]
  cases fl with
  |nx s'=>exact Bh Inv μ Go Rt h N s' hf.1 (by have:=hf.2;omega)
  |br s'=>exact⟨_,rfl,hf⟩
  |rt r=>exact⟨_,rfl,hf⟩
def K5{body:Nat->S->aV (Fl S R)}(Inv:Nat->S->Prop)(Go:S->Prop)(Rt:R->Prop)(m:Nat)
  (h:∀k s,k<m->Inv k s->∃fl,body k s=some fl/\match fl with| .nx s'=>Inv (k+1) s'| .br s'=>Go s'| .rt r=>Rt r) (hg:∀s,Inv m s->Go s):
  ∀(n k:Nat)(s:S),k+n=m->Inv k s->∃o,Jk body n k s=some o/\match o with| .go s'=>Go s'| .rt r=>Rt r
 | 0,k,s,hk,hi=>⟨_,rfl,hg s (by rw[<-hk];exact hi)⟩
 |n+1,k,s,hk,hi=>by
  obtain⟨fl,hb,hf⟩:=h k s (by omega) hi;unfold Jk;rw[hb]
  cases fl with
  |nx s'=>exact K5 Inv Go Rt m h hg n (k+1) s' (by omega) hf
  |br s'=>exact⟨_,rfl,hf⟩
  |rt r=>exact⟨_,rfl,hf⟩
def RI{body:Nat->S->aV (Fl S R)}{m:Nat}{s:S}(Inv:Nat->S->Prop)(Go:S->Prop)(Rt:R->Prop)(hm:m<=4611686018427387904)(h0:Inv 0 s)
  (h:∀k s,k<m->Inv k s->∃fl,body k s=some fl/\match fl with| .nx s'=>Inv (k+1) s'| .br s'=>Go s'| .rt r=>Rt r) (hg:∀s,Inv m s->Go s):
  ∃o,qT m body s=some o/\match o with| .go s'=>Go s'| .rt r=>Rt r:=by
 unfold qT;rw[aG hm];exact K5 Inv Go Rt m h hg m 0 s (by omega) h0
def K6{body:Nat->S->aV S}(Inv:Nat->S->Prop)(m:Nat)(h:∀k s,k<m->Inv k s->∃s',body k s=some s'/\Inv (k+1) s'):
  ∀(n k:Nat)(s:S),k+n=m->Inv k s->∃s',Me body n k s=some s'/\Inv m s'
 | 0,k,s,hk,hi=>⟨_,rfl,by rw[<-hk];exact hi⟩
 |n+1,k,s,hk,hi=>by
  obtain⟨s',hb,hf⟩:=h k s (by omega) hi;unfold Me;rw[hb];exact K6 Inv m h n (k+1) s' (by omega) hf
def F7{body:Nat->S->aV S}{m:Nat}{s:S}(Inv:Nat->S->Prop)(hm:m<=4611686018427387904)(h0:Inv 0 s)
  (h:∀k s,k<m->Inv k s->∃s',body k s=some s'/\Inv (k+1) s'):∃s',mc m body s=some s'/\Inv m s':=by
 unfold mc;rw[aG hm];exact K6 Inv m h m 0 s (by omega) h0
end
section
variable {α β:Type}
theorem aA(x:α)(f:α->aV β):(some x).bind f=f x:=rfl
theorem kN(l:Z α)(k:Nat)(h:k<l.length):idx l ((k:Nat):Int)=some l[k]:=by
 unfold idx;rw[aG (by omega),dA,aM h]
theorem cK{l:Z α}{k:Nat}{x:α}(h:l[k]? =some x):idx l ((k:Nat):Int)=some x:=by
 unfold idx;rw[aG (by omega),dA,h]
theorem GL(s:cD)(k:Nat)(h:k<s.cY.length):Jl s ((k:Nat):Int)=some s.cY[k]:=by
 unfold Jl;rw[aG (by omega),dA,aM h]
theorem iv{k:Nat}(h:0<k)(hk:k<=4611686018427387904):wrap .i64 (((k:Nat):Int) - 1)=((k - 1:Nat):Int):=by
 rw[fC (by omega) (by omega)];omega
def nT(l:Z α)(k:Nat)(h:k<=l.length):ui l 0 ((k:Nat):Int)=some (l.take k):=by
 unfold ui;rw[aG ⟨by omega,by omega,by omega⟩];simp only[Int.toNat_zero,List.drop_zero,Int.sub_zero,dA]
def q7(l:Z α)(k:Nat)(h:k<=l.length):ui l ((k:Nat):Int) ((l.length:Nat):Int)=some (l.drop k):=by
 unfold ui;rw[aG ⟨by omega,by omega,by omega⟩];simp only[dA,Option.some.injEq];rw[oe];rw[lS];omega
theorem j6{b:Nat}{l ys:Z α}(h:(l.length+ys.length)*b<=140737488355328):app b l ys=some (l++ys):=by unfold app;rw[aG h]
def wx{b:Nat}(z:α){n:Nat}(h:n*b<=140737488355328):mk b z ((n:Nat):Int)=some (List.replicate n z):=by
 unfold mk;have e:((n:Nat):Int)*((b:Nat):Int)=((n*b:Nat):Int):=(Int.natCast_mul n b).symm;rw[e];generalize n*b=q at h ⊢;rw[aG ⟨by omega,by omega⟩,dA]
end
theorem cD.ext'{a b:cD}(h:a.cY=b.cY):a=b:=by cases a;cases b;simp at h;rw[h]
theorem rz{a b:cD}:a.kj b=true↔a=b:=by
 unfold cD.kj;rw[beq_iff_eq];exact⟨cD.ext',λh=>by rw[h]⟩
def u5{a b:cD}:a.kj b=false↔a≠b:=by rw[<-iM,rz]
def nG(a b:cD):a.kj b=decide (a=b):=by rw[fY,rz];simp
def P9(a:cD):a.kj a=true:=rz.2 rfl
def Fh:∀(a:Z UInt8),Op.bytesLess a a=false
 | []=>rfl
 |a::l=>by
  unfold Op.bytesLess;rw[Fh l];simp
def GM:∀{a b c:Z UInt8},Op.bytesLess a b=true->Op.bytesLess b c=true->Op.bytesLess a c=true
 | [],[],_,h,_=>by simp[Op.bytesLess]at h
 | [],_::_,[],_,h=>by simp[Op.bytesLess]at h
 | [],_::_,_::_,_,_=>rfl
 |_::_,[],_,h,_=>by simp[Op.bytesLess]at h
 |_::_,_::_,[],_,h=>by simp[Op.bytesLess]at h
 |a::l,b::m,c::n,h1,h2=>by
  unfold Op.bytesLess at h1 h2 ⊢;simp only[gT,dB,cZ,beq_iff_eq]at h1 h2 ⊢
  rcases h1 with h1|⟨rfl,h1⟩
  ·rcases h2 with h2|⟨rfl,h2⟩
   ·exact .inl<|UInt8.lt_trans h1 h2
   ·exact .inl h1
  ·rcases h2 with h2|⟨rfl,h2⟩
   ·exact .inl h2
   ·exact .inr ⟨rfl,GM h1 h2⟩
def GN:∀(a b:Z UInt8),Op.bytesLess a b=true\/a=b\/Op.bytesLess b a=true
 | [],[]=> .inr (.inl rfl)
 | [],_::_=> .inl rfl
 |_::_,[]=> .inr (.inr rfl)
 |a::l,b::m=>by
  unfold Op.bytesLess;simp only[gT,dB,cZ,beq_iff_eq]
  by_cases h1:a<b
  ·exact .inl<|.inl h1
  ·by_cases h2:b<a
   ·exact .inr<|.inr<|.inl h2
   ·have e:a=b:=by
     simp only[UInt8.lt_iff_toNat_lt]at h1 h2;exact UInt8.toNat_inj.1 (by omega)
    subst e
    rcases GN l m with h|h|h
    ·exact .inl<|.inr ⟨rfl,h⟩
    ·exact .inr<|.inl (by rw[h])
    ·exact .inr<|.inr<|.inr ⟨rfl,h⟩
def ti:∀(a b:Z UInt8),Lib.compareBytes a b<0↔Op.bytesLess a b=true
 | [],[]=>by simp[Lib.compareBytes,Op.bytesLess]
 | [],_::_=>by simp[Lib.compareBytes,Op.bytesLess]
 |_::_,[]=>by simp[Lib.compareBytes,Op.bytesLess]
 |a::l,b::m=>by
  unfold Lib.compareBytes Op.bytesLess;simp only[gT,dB,cZ,beq_iff_eq];split
  ·simp_all
  ·rename_i h1;split
   ·rename_i h2;have h3:a≠b:=λe=>by subst e;exact h1 h2
    simp[h1,h3]
   ·rename_i h2;have e:a=b:=by
     simp only[UInt8.lt_iff_toNat_lt]at h1 h2;exact UInt8.toNat_inj.1 (by omega)
    subst e;rw[ti l m];simp[h1]
theorem mq:∀(a b:Z UInt8),Lib.compareBytes a b=0↔a=b
 | [],[]=>by simp[Lib.compareBytes]
 | [],_::_=>by simp[Lib.compareBytes]
 |_::_,[]=>by simp[Lib.compareBytes]
 |a::l,b::m=>by
  unfold Lib.compareBytes;split
  ·rename_i h1;have h3:a≠b:=λe=>by subst e;exact absurd h1 (by simp)
   simp[h3]
  ·rename_i h1;split
   ·rename_i h2;have h3:a≠b:=λe=>by subst e;exact h1 h2
    simp[h3]
   ·rename_i h2;have e:a=b:=by
     simp only[UInt8.lt_iff_toNat_lt]at h1 h2;exact UInt8.toNat_inj.1 (by omega)
    subst e;rw[mq l m];simp
def cD.lt(a b:cD):Prop:=a.mH b=true
theorem cD.lt_irrefl(a:cD):¬cD.lt a a:=by unfold cD.lt cD.mH;rw[Fh];decide
def cD.lt_trans{a b c:cD}(h1:cD.lt a b)(h2:cD.lt b c):cD.lt a c:=GM h1 h2
def cD.vr(a b:cD):cD.lt a b\/a=b\/cD.lt b a:=by
 rcases GN a.cY b.cY with h|h|h
 ·exact .inl h
 ·exact .inr<|.inl<|cD.ext' h
 ·exact .inr<|.inr h
def cD.Fi{a b:cD}(h:cD.lt a b):a≠b:=λe=>by subst e;exact cD.lt_irrefl a h
def cD.lt_asymm{a b:cD}(h:cD.lt a b):¬cD.lt b a:=λh'=>cD.lt_irrefl a<|cD.lt_trans h h'
def F8{a b:cD}:(a.mH b||a.kj b)=false↔cD.lt b a:=by
 rw[Bool.or_eq_false_iff,u5];constructor
 ·rintro⟨h1,h2⟩
  rcases cD.vr a b with h|h|h
  ·unfold cD.lt at h;rw[h1]at h;cases h
  ·exact absurd h h2
  ·exact h
 ·intro h;refine⟨?_,λe=>cD.Fi h e.symm⟩;rw[<-iM];exact λh'=>cD.lt_asymm h h'
end Go.Gk
namespace Go.Gk
open Go IntKind
class Bk (α:Type)where
 bk:α->Nat
 pos:∀x,1<=bk x
def bk{α:Type}[Bk α](x:α):Nat:=Bk.bk x
def My{α:Type}[Bk α](x:α):1<=bk x:=Bk.pos x
instance:Bk cD:=⟨λs=>s.cY.length+1,λ_=>by omega⟩
instance:Bk Int:=⟨λ_=>1,λ_=>by omega⟩
instance:Bk Bool:=⟨λ_=>1,λ_=>by omega⟩
instance {α:Type} [Bk α]:Bk (Z α):=⟨λl=>(l.map bk).sum+1,λ_=>by omega⟩
def Mz{α:Type}[Bk α]:bk ([]:Z α)=1:=rfl
def DG{α:Type}[Bk α](x:α)(l:Z α):bk (x::l)=bk x+bk l:=by
 show(List.map bk<|x::l).sum+1=bk x+((List.map bk l).sum+1);simp;omega
def wQ{α:Type}[Bk α]:∀{l:Z α}{x:α},x∈l->bk x+1<=bk l
 |y::l,x,h=>by
  rw[DG]
  rcases eJ.1 h with h|h
  ·subst h;have:=My l;omega
  ·have:=wQ h;omega
def Ai{α:Type}[Bk α]{l:Z α}{k:Nat}{x:α}(h:l[k]? =some x):bk x+1<=bk l:=wQ<|dT h
theorem kB{α:Type}[Bk α]:∀(l:Z α),l.length+1<=bk l
 | []=>by rw[Mz];simp
 |x::l=>by rw[DG,dO];have:=kB l;have:=My x;omega
theorem yt(s:cD):bk s=s.cY.length+1:=rfl
def NC{α:Type}[Bk α]:∀(l:Z α)(k:Nat),bk (l.take k)<=bk l
 | [],k=>by simp
 |x::l,0=>by rw[List.take_zero,Mz];exact My _
 |x::l,k+1=>by rw[List.take_succ_cons,DG,DG];have:=NC l k;omega
section
variable {α R:Type}
def Of{l:Z α}{e:Nat->aV R}(f:α->aV R)(h:∀k x,l[k]? =some x->e k=f x):ov l.length e=l.findSome? f:=by
 cases hx:ov l.length e with
 |none=>
  refine(List.findSome?_eq_none_iff.2 λx hm=>?_).symm;obtain⟨k,hk⟩:=dD hm;rw[<-h k x hk];exact l9.1 hx k (bP.1 hk).1
 |some r=>
  obtain⟨k,hk,he,hn⟩:=lz.1 hx;refine(List.findSome?_eq_some_iff.2 ⟨l.take k,l[k],l.drop<|k+1,?_,?_,λy hy=>?_⟩).symm
  ·rw[<-wh hk,List.take_append_drop]
  ·rw[<-h k l[k] (aM hk)];exact he
  ·obtain⟨j,hj⟩:=dD hy;have hjk:j<k:=by have:=(bP.1 hj).1;rw[cN]at this;omega
   rw[List.getElem?_take_of_lt hjk]at hj;rw[<-h j y hj];exact hn j hjk
def JB(l:Z α)(p:α->Bool)(r:R):l.findSome? (λx=>if p x=true then some r else none)=if l.any p=true then some r else none:=by
 induction l with
 |nil=>simp
 |cons x l ih=>
  rw[List.findSome?_cons,List.any_cons]
  cases h:p x <;> simp[ih]
def GO{l:Z α}{body:Nat->Unit->aV (Fl Unit R)}(f:α->aV R)(hl:l.length<=4611686018427387904)
  (h:∀k x,l[k]? =some x->body k ()=some (GK (f x) ())):qT l.length body ()=some (JA (l.findSome? f) ()):=by
 have h2:=kZ (body:=body) (m:=l.length) (λk=>(l[k]?).bind f) hl (λk hk _=>by
  rw[h k l[k] (aM hk),aM hk];rfl)
 rw[h2,Of f (λk x hx=>by rw[hx];rfl)]
def DH{l:Z α}{body:Nat->Unit->aV (Fl Unit R)}(p:α->Bool)(r:R)(hl:l.length<=4611686018427387904)
  (h:∀k x,l[k]? =some x->body k ()=some (if p x=true then .rt r else .nx ())):qT l.length body ()=some (if l.any p=true then .rt r else .go ()):=by
 rw[GO (λx=>if p x=true then some r else none) hl (λk x hx=>by rw[h k x hx];cases p x <;> rfl),JB]
 cases l.any p <;> rfl
end
def RJ{β:Type}(b:Bool)(x y:β):(bif b then some x else some y)=some (bif b then x else y):=by cases b <;> rfl
section
variable {α β:Type}
def Kj(l:Z α)(p:α->Bool):Int:=match l.findIdx? p with|some k=>((k:Nat):Int)|none=> -1
def DI{l:Z α}{p:α->Bool}(h:l.any p=false):Kj l p = -1:=by
 unfold Kj;rw[List.findIdx?_eq_none_iff.2];intro x hx;rw[<-iM];intro hp;rw[<-iM]at h;exact h<|iN.2 ⟨x,hx,hp⟩
def GP{l:Z α}{p:α->Bool}{k:Nat}{x:α}(hk:l[k]? =some x)(hp:p x=true)(hn:∀j y,j<k->l[j]? =some y->p y=false):Kj l p=((k:Nat):Int):=by
 unfold Kj;have hlt:=(bP.1 hk).1;have:l.findIdx? p=some k:=by
  rw[List.findIdx?_eq_some_iff_getElem];refine⟨hlt,?_,λj hj=>?_⟩
  ·have:=aM hlt;rw[hk]at this;injection this with this;rw[<-this];exact hp
  ·have:=hn j l[j] hj<|aM (by omega);simpa using this
 rw[this]
def qD(l:Z α)(p:α->Bool):(Kj l p = -1/\∀x∈l,p x=false)\/∃k x,Kj l p=((k:Nat):Int)/\l[k]? =some x/\p x=true/\∀j y,j<k->l[j]? =some y->p y=false:=by
 unfold Kj
 cases h:l.findIdx? p with
 |none=>exact .inl ⟨rfl,λx hx=>by have:=List.findIdx?_eq_none_iff.1 h x hx;simpa using this⟩
 |some k=>
  obtain⟨hk,hp,hn⟩:=List.findIdx?_eq_some_iff_getElem.1 h;refine .inr ⟨k,l[k],rfl,aM hk,hp,λj y hj hy=>?_⟩;have:=hn j hj;rw[aM (by omega)]at hy;injection hy with hy
  subst hy;simpa using this
def GQ(l:Z α)(p:α->Bool):decide (Kj l p>=0)=l.any p:=by
 rcases qD l p with⟨h,hn⟩|⟨k,x,h,hx,hp,_⟩
 ·rw[h,List.any_eq_false.2 (λx hx=>by rw[hn x hx];decide)];decide
 ·rw[h,iN.2 ⟨x,dT hx,hp⟩];simp
def yu(p0:Z α)(p1:α->aV Bool):aV Int:=
 (qT p0.length (λ(k1:Nat)(_:Unit)=>((idx p0 ((k1:Nat):Int)).bind λx7=>(p1 x7).bind λx10=>bif x10 then some (.rt ((k1:Nat):Int))else(some<|.nx ()):aV (Fl Unit Int))) ()).bind λo11=>o11.cs (λ(_:Unit)=>some<|-1)<|λr=>some r
def tB{l:Z α}{φ:α->aV Bool}(p:α->Bool)(hl:l.length<=4611686018427387904)(h:∀x∈l,φ x=some (p x)):yu l φ=some (Kj l p):=by
 unfold yu
 rw[kZ (λk=>(l[k]?).bind λx=>if p x=true then some ((k:Nat):Int)else none) hl (λk hk _=>by
  rw[kN l k hk,aA,h _<|cP hk,aA,aM hk]
  cases hp:p l[k] <;> simp[GK,hp]),aA]
 rcases qD l p with⟨h1,h2⟩|⟨k,x,h1,h2,h3,h4⟩
 ·rw[l9.2 (λk hk=>by rw[aM hk];simp[h2 _<|cP hk])];simp[JA,Fo.cs,h1]
 ·rw[(lz (r:=((k:Nat):Int))).2 ⟨k,(bP.1 h2).1,by rw[h2];simp[h3],λj hj=>by
   cases hy:l[j]? with
   |none=>rfl
   |some y=>simp[h4 j y hj hy]⟩]
  simp[JA,Fo.cs,h1]
def tC(p0:Z α)(p1:α->aV Bool):aV Bool:=
 (yu p0 p1).bind λx1=>some<|decide<|x1>=0
def tj{l:Z α}{φ:α->aV Bool}(p:α->Bool)(hl:l.length<=4611686018427387904)(h:∀x∈l,φ x=some (p x)):tC l φ=some (l.any p):=by
 unfold tC;rw[tB p hl h,aA,GQ]
def Qa [DecidableEq α](p0:Z α)(p1:α):aV Int:=
 (qT p0.length (λ(k2:Nat)(_:Unit)=>((idx p0 ((k2:Nat):Int)).bind λx12=>bif decide (p1=x12)then some (.rt ((k2:Nat):Int))else(some<|.nx ()):aV (Fl Unit Int))) ()).bind λo18=>o18.cs (λ(_:Unit)=>some<|-1)<|λr=>some r
def Og [DecidableEq α]{l:Z α}{a:α}(hl:l.length<=4611686018427387904):Qa l a=some (Kj l<|λx=>decide<|a=x):=by
 have:=tB (l:=l) (φ:=λx=>some<|decide<|a=x) (λx=>decide<|a=x) hl<|λ_ _=>rfl
 rw[<-this];rfl
def ED [DecidableEq α](p0:Z α)(p1:α):aV Bool:=(Qa p0 p1).bind λx3=>some<|decide<|x3>=0
def JC [DecidableEq α]{l:Z α}{a:α}(hl:l.length<=4611686018427387904):ED l a=some (decide<|a∈l):=by
 unfold ED;rw[Og hl,aA,GQ,Option.some.injEq,fY];simp
def JD [DecidableEq α](p0 p1:Z α):aV Bool:=
 bif((p0.length:Nat):Int) != ((p1.length:Nat):Int)then some false else((qT p0.length (λ(k1:Nat)(_:Unit)=>((idx p0 ((k1:Nat):Int)).bind λx13=>(idx p1 ((k1:Nat):Int)).bind λx16=>bif(!(decide<|x13=x16))then some (.rt false)else(some<|.nx ()):aV (Fl Unit Bool))) ()).bind λo23=>o23.cs (λ(_:Unit)=>some true)<|λr=>some r)
def Bi [DecidableEq α]{l m:Z α}(hl:l.length<=4611686018427387904):JD l m=some (decide<|l=m):=by
 unfold JD
 by_cases h:l.length=m.length
 ·have e:(((l.length:Nat):Int) != ((m.length:Nat):Int))=false:=by rw[h];simp
  rw[e,aR]
  rw[kZ (λk=>if l[k]? =m[k]? then none else some false) hl (λk hk _=>by
   rw[kN l k hk,aA,kN m k (by omega),aA,aM hk,aM (by omega:k<m.length)]
   by_cases hx:l[k]=m[k] <;> simp[GK,hx]),aA]
  by_cases hx:l=m
  ·subst hx;rw[l9.2<|λk _=>aG rfl];simp[JA,Fo.cs]
  ·have:∃r,ov l.length (λk=>if l[k]? =m[k]? then none else some false)=some r:=by
    cases hf:ov l.length (λk=>if l[k]? =m[k]? then none else some false)with
    |some r=>exact⟨r,rfl⟩
    |none=>
     exfalso;refine hx<|List.ext_getElem? λi=>?_
     by_cases hi:i<l.length
     ·have:=l9.1 hf i hi
      by_cases h6:l[i]? =m[i]?
      ·exact h6
      ·rw[aK h6]at this;cases this
     ·rw[List.getElem?_eq_none (by omega),List.getElem?_eq_none (by omega)]
   obtain⟨r,hr⟩:=this;have hr2:r=false:=by
    obtain⟨k,_,hk,_⟩:=lz.1 hr;split at hk
    ·cases hk
    ·injection hk with hk;exact hk.symm
   rw[hr,hr2];simp[JA,Fo.cs,hx]
 ·have e:(((l.length:Nat):Int) != ((m.length:Nat):Int))=true:=by simp;omega
  rw[e,aO,cF<|λh'=>h (by rw[h'])]
def Sorted(key:α->cD)(l:Z α):Prop:=∀(i j:Nat)(x y:α),i<j->l[i]? =some x->l[j]? =some y->cD.lt (key x) (key y)
def Oh{key:α->cD}{l:Z α}(h:∀k x y,l[k]? =some x->l[k+1]? =some y->cD.lt (key x) (key y)):Sorted key l:=by
 intro i j
 induction j with
 |zero=>intro x y hij;omega
 |succ j ih=>
  intro x y hij hx hy
  by_cases e:i=j
  ·subst e;exact h i x y hx hy
  ·have hj:j<l.length:=by have:=(bP.1 hy).1;omega
   exact cD.lt_trans (ih x l[j] (by omega) hx<|aM hj)<|h j l[j] y (aM hj) hy
def Sorted.inj{key:α->cD}{l:Z α}(h:Sorted key l){i j:Nat}{x y:α}(hx:l[i]? =some x)(hy:l[j]? =some y)(e:key x=key y):i=j:=by
 rcases Nat.lt_trichotomy i j with h1|h1|h1
 ·exact absurd e<|cD.Fi<|h i j x y h1 hx hy
 ·exact h1
 ·exact absurd e.symm<|cD.Fi<|h j i y x h1 hy hx
def nat?(key:α->cD)(l:Z α)(s:cD):Int:=Kj l<|λx=>(key x).kj s
def Ii(N:Nat)(p0:Z α)(p1:β)(p2:α->β->aV Int):aV (Int×Bool):=
 (iL (λ(s2:Int×Int)=>(bif decide (s2.1<s2.2)then((idx p0<|wrap .i64<|Int.fdiv (wrap .u64<|wrap .i64<|s2.1+s2.2) 2).bind λx13=>(p2 x13 p1).bind λx16=>(bif decide (x16<0)then some (wrap .i64<|wrap .i64 (Int.fdiv (wrap .u64<|wrap .i64<|s2.1+s2.2) 2)+1,s2.2)else some (s2.1,wrap .i64<|Int.fdiv (wrap .u64<|wrap .i64<|s2.1+s2.2) 2)).bind λs17=>some<|.nx (s17.1,s17.2))else(some<|.br (s2.1,s2.2)):aV (Fl (Int×Int) Empty))) N (0,((p0.length:Nat):Int))).bind λo29=>o29.cs (λ(s2:Int×Int)=>(bif decide (s2.1<((p0.length:Nat):Int))then((idx p0 s2.1).bind λx25=>(p2 x25 p1).bind λx28=>some<|x28==0)else some false).bind λs23=>some (s2.1,s23))<|λr=>r.elim
def IQ{a b:Nat}(h:a<b)(hb:b<=4611686018427387904):wrap .i64 (Int.fdiv (wrap .u64<|wrap .i64<|((a:Nat):Int)+((b:Nat):Int)) 2)=(((a+b) / 2:Nat):Int):=by
 rw[fC (x:=((a:Nat):Int)+((b:Nat):Int)) (by omega) (by omega)];have e:wrap .u64 (((a:Nat):Int)+((b:Nat):Int))=((a+b:Nat):Int):=by
  show((a:Int)+b) % 18446744073709551616=_;omega
 rw[e,Int.fdiv_eq_ediv_of_nonneg _ (by omega),fC (by omega) (by omega)];omega
def JE{N:Nat}{key:α->cD}{l:Z α}{s:cD}{φ:α->cD->aV Int}(hφ:∀x,φ x s=some (Lib.compareBytes (key x).cY s.cY))(hs:Sorted key l)
  (hl:l.length<=1048576) (hN:4194304<=N):∃r,Ii N l s φ=some r/\(bif(!r.2)then some (-1)else some r.1)=some (nat? key l s):=by
 unfold Ii;have h:=Bh (S:=Int×Int) (R:=Empty)
  (body:=(λ(s2:Int×Int)=>(bif decide (s2.1<s2.2)then((idx l<|wrap .i64<|Int.fdiv (wrap .u64<|wrap .i64<|s2.1+s2.2) 2).bind λx13=>(φ x13 s).bind λx16=>(bif decide (x16<0)then some (wrap .i64<|wrap .i64 (Int.fdiv (wrap .u64<|wrap .i64<|s2.1+s2.2) 2)+1,s2.2)else some (s2.1,wrap .i64<|Int.fdiv (wrap .u64<|wrap .i64<|s2.1+s2.2) 2)).bind λs17=>some<|.nx (s17.1,s17.2))else(some<|.br (s2.1,s2.2)):aV (Fl (Int×Int) Empty))))
  (λst=>∃a b:Nat,st=(((a:Nat):Int),((b:Nat):Int))/\a<=b/\b<=l.length/\(∀j x,j<a->l[j]? =some x->cD.lt (key x) s)/\(∀j x,b<=j->l[j]? =some x->¬cD.lt (key x) s))
  (λst=>(st.2 - st.1).toNat)
  (λst=>∃a:Nat,st.1=((a:Nat):Int)/\a<=l.length/\(∀j x,j<a->l[j]? =some x->cD.lt (key x) s)/\(∀j x,a<=j->l[j]? =some x->¬cD.lt (key x) s))
  (λ_=>True) (by
   rintro st⟨a,b,rfl,hab,hb,h1,h2⟩
   by_cases hlt:a<b
   ·have hm:(a+b) / 2<l.length:=by omega
    have hd:decide (((a:Nat):Int)<((b:Nat):Int))=true:=by rw[cZ];omega
    simp only[hd,aO,IQ hlt (by omega:b<=4611686018427387904),kN l _ hm,aA,hφ]
    by_cases hc:Lib.compareBytes (key l[(a+b) / 2]).cY s.cY<0
    ·have hc':cD.lt (key l[(a+b) / 2]) s:=(ti _ _).1 hc;simp only[hc,decide_true,aO,aA];refine⟨_,rfl,⟨(a+b) / 2+1,b,?_,by omega,hb,λj x hj hx=>?_,h2⟩,?_⟩
     ·rw[fC (by omega) (by omega)];simp
     ·by_cases e:j=(a+b) / 2
      ·subst e;rw[aM hm]at hx;injection hx with hx;subst hx;exact hc'
      ·exact cD.lt_trans (hs j _ x _ (by omega) hx<|aM hm) hc'
     ·rw[fC (by omega) (by omega)];simp only;omega
    ·have hc':¬cD.lt (key l[(a+b) / 2]) s:=λh=>hc<|(ti _ _).2 h
     simp only[hc,decide_false,aR,aA];refine⟨_,rfl,⟨a,(a+b) / 2,rfl,by omega,by omega,h1,λj x hj hx=>?_⟩,by simp only;omega⟩
     by_cases e:j=(a+b) / 2
     ·subst e;rw[aM hm]at hx;injection hx with hx;subst hx;exact hc'
     ·exact λh3=>hc'<|cD.lt_trans (hs _ j _ x (by omega) (aM hm) hx) h3
   ·have hd:decide (((a:Nat):Int)<((b:Nat):Int))=false:=by rw[decide_eq_false_iff_not];omega
    simp only[hd,aR]
    exact⟨_,rfl,a,rfl,by omega,h1,λj x hj hx=>h2 j x (by omega) hx⟩)
  N (0,((l.length:Nat):Int)) ⟨0,l.length,rfl,by omega,cG _,λj x hj=>by omega,λj x hj hx=>by have:=(bP.1 hx).1;omega⟩ (by simp only;omega)
 obtain⟨o,ho,hc⟩:=h;rw[ho,aA]
 cases o with
 |rt r=>exact r.elim
 |go st=>
  obtain⟨a,ha,hle,h1,h2⟩:=hc;simp only[Fo.cs,ha]
  by_cases hlt:a<l.length
  ·have hd:decide (((a:Nat):Int)<((l.length:Nat):Int))=true:=by rw[cZ];omega
   simp only[hd,aO,kN l _ hlt,aA,hφ];refine⟨_,rfl,?_⟩
   by_cases he:key l[a]=s
   ·have e0:Lib.compareBytes (key l[a]).cY s.cY=0:=(mq _ _).2 (by rw[he]);simp only[e0,BEq.rfl,lT,aR];unfold nat?;rw[GP (aM hlt) (rz.2 he) (λj y hj hy=>by rw[u5];exact cD.Fi<|h1 j y hj hy)]
   ·have e0:(Lib.compareBytes (key l[a]).cY s.cY==0)=false:=by
     rw[beq_eq_false_iff_ne];intro h;exact he<|cD.ext'<|(mq _ _).1 h
    simp only[e0,qp,aO];unfold nat?;rw[DI];rw[List.any_eq_false];intro x hx;rw[iM,u5];obtain⟨j,hj⟩:=dD hx;intro hk
    by_cases hja:j<a
    ·exact cD.Fi (h1 j x hja hj) hk
    ·by_cases e:j=a
     ·subst e;rw[aM hlt]at hj;injection hj with hj;subst hj;exact he hk
     ·have h3:=hs a j _ x (by omega) (aM hlt) hj;rw[hk]at h3;exact h2 a _ (cG _) (aM hlt) h3
  ·have hd:decide (((a:Nat):Int)<((l.length:Nat):Int))=false:=by rw[decide_eq_false_iff_not];omega
   simp only[hd,aR,aA];refine⟨_,rfl,?_⟩;simp only[qp,aO];unfold nat?;rw[DI];rw[List.any_eq_false];intro x hx;rw[iM,u5];obtain⟨j,hj⟩:=dD hx;have:=(bP.1 hj).1;exact cD.Fi<|h1 j x (by omega) hj
def VB(key:α->cD)(p0:Z α)(p1:cD):aV Int:=
 (qT p0.length (λ(k1:Nat)(_:Unit)=>((idx p0 ((k1:Nat):Int)).bind λx7=>bif(key x7).kj p1 then some (.rt ((k1:Nat):Int))else(some<|.nx ()):aV (Fl Unit Int))) ()).bind λo11=>o11.cs (λ(_:Unit)=>some<|-1)<|λr=>some r
def GR{key:α->cD}{l:Z α}{s:cD}(hl:l.length<=4611686018427387904):VB key l s=some (nat? key l s):=by
 have:=tB (l:=l) (φ:=λx=>some<|(key x).kj s) (λx=>(key x).kj s) hl<|λ_ _=>rfl
 unfold nat?;rw[<-this];rfl
def nU(key:α->cD)(l:Z α)(k:Nat):Bool:=match l[k]?,l[k - 1]? with|some x,some y=>decide (0<k)&&((key x).mH (key y)||(key x).kj (key y))|_,_=>false
def Aj(key:α->cD){l:Z α}{k:Nat}{x:α}(hx:l[k]? =some x)(hl:l.length<=1048576):
  (bif decide (((k:Nat):Int)>0)then((idx l<|wrap .i64<|((k:Nat):Int) - 1).bind λy=>some<|(key x).mH (key y)||(key x).kj (key y))else some false)=some (nU key l k):=by
 have hk:=(bP.1 hx).1;unfold nU
 by_cases h0:0<k
 ·rw[bS (by omega),aO,iv h0 (by omega),kN l _ (by omega),aA,hx,aM (by omega:k - 1<l.length)];simp[h0]
 ·have:k=0:=by omega
  subst this;rw[hx];simp
def tD{key:α->cD}{l:Z α}(h:∀k,k<l.length->nU key l k=false):Sorted key l:=Oh λk x y hx hy=>by
 have hk:=(bP.1 hy).1;have:=h (k+1) hk;unfold nU at this;rw[hy,F2,hx]at this;simp only[Nat.zero_lt_succ,decide_true,Bool.true_and]at this;exact F8.1 this
end
end Go.Gk
namespace Go.Gk
open Go IntKind Go.ChangeShapes Go.WideShapes Go.RowKit
structure UB (ub:(H:Type)->DataW H->Nat) (ua:(H:Type)->List (DataW H)->Nat):Prop where
 str:∀(H:Type)(b:List UInt8),ub H (.lit<|.string b)=b.length+1
 pos:∀(H:Type)(d:DataW H),1<=ub H d
 sl:∀(H:Type)(e s:List (DataW H)),ub H (.slice e s)=ua H e+ua H s+1
 ag:∀(H:Type)(l:List (DataW H)),ub H (.agg l)=ua H l+1
 nil:∀(H:Type),ua H []=0
 cons:∀(H:Type)(x:DataW H)(l:List (DataW H)),ua H (x::l)=ub H x+ua H l
def Hw(w:aY):fG:=λb=>w.heap[b]?
structure kd (ub:(H:Type)->DataW H->Nat) (P:Program) (T:TypeId) (α:Type) [GT α] [Bk α]:Prop where
 trod:∀{H:Type}{enc:TypeId×Value->H}{w:World}{base:Nat}{spare:Nat->Bool}{held:Bool}{fuel:Nat}{cs:List Value}{d:DataW H×List MemPlace},
  DataW.trod enc P w base spare held fuel T cs=some d->∃x:α,GT.ok (Hw w) cs x/\bk x<=ub H d.1
 VC:∀{w:World}{r:Reach}{base:Nat}{v:Value},Value.okWide P w r base T v->v=Cj α v.cells.toList
section
variable {ub:(H:Type)->DataW H->Nat}{ua:(H:Type)->List (DataW H)->Nat}{P:Program}{T e:TypeId}
def Oi(u:UB ub ua)(ht:P.underlying T=some (.int .i64)):kd ub P T Int where
 trod:=λh=>by
  obtain⟨n,rfl,rfl,_⟩:=DataW.trod_int ht h;exact⟨n,rfl,u.pos _ _⟩
 VC:=λh=>by obtain⟨n,rfl⟩:=okWide_int ht h;rfl
def MA(u:UB ub ua)(ht:P.underlying T=some .bool):kd ub P T Bool where
 trod:=λh=>by
  obtain⟨n,rfl,rfl⟩:=DataW.trod_bool ht h;exact⟨n,rfl,u.pos _ _⟩
 VC:=λh=>by obtain⟨n,rfl⟩:=okWide_bool ht h;rfl
def Oj(u:UB ub ua)(ht:P.underlying T=some .string):kd ub P T cD where
 trod:=λh=>by
  obtain⟨s,rfl,rfl,_⟩:=DataW.trod_string ht h;refine⟨⟨s.data.toList⟩,?_,?_⟩
  ·show [Value.string s]= [Gk.str ⟨s.data.toList⟩]
   cases s;rfl
  ·rw[u.str];exact cG _
 VC:=λh=>by obtain⟨n,rfl⟩:=okWide_string ht h;rfl
def Fj{α:Type}{R:Nat->α->Prop}:∀(n:Nat),(∀i,i<n->∃x,R i x)->∃l:Z α,l.length=n/\∀i x,l[i]? =some x->R i x
 | 0,_=>⟨[],rfl,λi x h=>by simp at h⟩
 |n+1,h=>by
  obtain⟨l,h1,h2⟩:=Fj n<|λi hi=>h i (by omega)
  obtain⟨x,hx⟩:=h n (by omega);refine⟨l++[x],by simp[h1],λi y hy=>?_⟩
  by_cases hi:i<n
  ·rw[kI (by omega)]at hy;exact h2 i y hy
  ·have:=(bP.1 hy).1;rw[dC]at this;have:i=n:=by simp at this;omega
   subst this;rw[kJ (by omega),h1]at hy;simp at hy;subst hy;exact hx
def IU{H α:Type}[Bk α](u:UB ub ua):∀{l:List α}{es:List (DataW H×List MemPlace)},l.length=es.length->
  (∀(i:Nat)(x:α)(y:DataW H×List MemPlace),l[i]? =some x->es[i]? =some y->bk x<=ub H y.1)->bk l<=ua H (es.map (·.1))+1
 | [],[],_,_=>by rw[Mz];omega
 |x::l,y::es,hl,h=>by
  have h1:=h 0 x y rfl rfl;have h2:=IU (H:=H) u (l:=l) (es:=es) (by simpa using hl)<|λi x y hx hy=>h (i+1) x y (by simpa using hx) (by simpa using hy)
  rw[DG,fI,u.cons];omega
def K7{w:aY}{base:Nat}{a:Addr}{n:Nat}{cs:Z aW}(h:w.cells? base a n=some cs):At (Hw w) a cs:=by
 intro j v hv;obtain⟨_,hlen,hc⟩:=World.cells?_some h;have hj:=(bP.1 hv).1;have h2:=hc j (by omega);rw[hv]at h2;unfold C6 Hw;unfold World.cell? at h2;exact h2
def nA{α:Type}[GT α][Bk α](u:UB ub ua)(he:kd ub P e α)(ht:P.underlying T=some (.slice e):=by kernel_rfl)(hc:P.cellsOf e=GT.sz α:=by kernel_rfl):kd ub P T (List α)where
 trod:=λ{H enc w base spare held fuel cs d}h=>by
  rcases DataW.trod_slice ht h with⟨rfl,rfl⟩|⟨a,len,cap,elems,rest,n,_,rfl,rfl,_,hlc,hcm,hlen,hel,_⟩
  ·exact⟨[],⟨_,rfl,none,0,0,rfl,rfl,cG _,by simp[maxLen],λi x hx=>by simp at hx⟩,u.pos _ _⟩
  ·have each:∀i,i<len->∃x:α,(∃c y,GT.ok (Hw w) c x/\At (Hw w) (a.add<|i*GT.sz α) c/\elems[i]? =some y/\bk x<=ub H y.1):=by
    intro i hi;have h1:=hel i hi;rw[aM (by omega:i<elems.length),Option.bind_eq_some_iff]at h1;obtain⟨c,h2,h3⟩:=h1;obtain⟨x,h4,h5⟩:=he.trod h3;refine⟨x,c,_,h4,?_,aM (by omega),h5⟩;rw[hc]at h2;exact K7 h2
   obtain⟨l,hl,hr⟩:=Fj len each;refine⟨l,⟨_,rfl,some a,len,cap,rfl,hl.symm,hlc,hcm,λi x hx=>?_⟩,?_⟩
   ·obtain⟨c,y,h1,h2,_⟩:=hr i x hx;exact⟨a,c,rfl,h1,h2⟩
   ·have:=IU (H:=H) u (l:=l) (es:=elems) (by omega) (λi x y hx hy=>by
     obtain⟨c,y',_,_,h3,h4⟩:=hr i x hx
     rw[hy]at h3;injection h3 with h3;subst h3;exact h4)
    rw[u.sl];omega
 VC:=λh=>by obtain⟨a,n,c,rfl⟩:=okWide_slice ht h;rfl
def ND(ub:(H:Type)->DataW H->Nat)(ua:(H:Type)->List (DataW H)->Nat)(P:Program)(off:Nat)(fs:List Field)(β:Type)[GT β](m:β->Nat):Prop:=
 ∀{H:Type}{enc:TypeId×Value->H}{w:World}{base:Nat}{spare:Nat->Bool}{held:Bool}{n:Nat}{cs:List Value}{ys:List (DataW H×List MemPlace)},
  (∀(i:Nat)(f:Field),fs[i]? =some f->DataW.trod enc P w base spare held n f.type ((cs.drop f.offset).take<|P.cellsOf f.type)=ys[i]?)->ys.length=fs.length->
  cs.length=off+GT.sz β->∃x:β,GT.ok (Hw w) (cs.drop off) x/\m x<=ua H (ys.map (·.1))
def nV{β:Type}[GT β][Bk β]{off:Nat}{f:Field}(u:UB ub ua)(h:kd ub P f.type β)(ho:f.offset=off:=by exact rfl)(hc:P.cellsOf f.type=GT.sz β:=by kernel_rfl):ND ub ua P off [f] β bk:=by
 intro H enc w base spare held n cs ys hf hl hcs
 match ys,hl with
 | [y],_=>
  have h1:=hf 0 f rfl;rw[ho,hc,oe (by rw[lS];omega)]at h1;obtain⟨x,h2,h3⟩:=h.trod (d:=y) h1;exact⟨x,h2,by rw[fI,u.cons];omega⟩
def fK{α β:Type}[GT α][GT β][Bk α]{off off':Nat}{f:Field}{fs:Z Field}{m:β->Nat}(u:UB ub ua)(h:kd ub P f.type α)(hr:ND ub ua P off' fs β m)(ho:f.offset=off:=by exact rfl)(hc:P.cellsOf f.type=GT.sz α:=by kernel_rfl)(hoff:off'=off+GT.sz α:=by exact rfl):ND ub ua P off (f::fs) (α×β) (λx=>bk x.1+m x.2):=by
 intro H enc w base spare held n cs ys hf hl hcs;have hsz:GT.sz (α×β)=GT.sz α+GT.sz β:=rfl
 match ys,hl with
 |y::ys,hl=>
  have h1:=hf 0 f rfl;rw[ho,hc]at h1;obtain⟨x,h2,h3⟩:=h.trod (d:=y) h1;obtain⟨x',h4,h5⟩:=hr (n:=n) (cs:=cs) (ys:=ys) (λi g hg=>hf (i+1) g hg) (by simpa using hl) (by omega);refine⟨(x,x'),⟨_,_,?_,h2,h4⟩,?_⟩
  ·rw[hoff,<-List.drop_drop,List.take_append_drop]
  ·rw[fI,u.cons];show bk x+m x'<=_;omega
def j7{γ β:Type}[GT β][Bk γ]{fs:Array Field}{m:β->Nat}(u:UB ub ua)(f:γ->β)(g:β->γ)(hfg:∀b,f (g b)=b)(ht:P.underlying T=some (.struct fs))(h:ND ub ua P 0 fs.toList β m)(hm:∀b,bk (g b)<=m b+1)(hc:P.cellsOf T=GT.sz β:=by kernel_rfl): @kd ub P T γ (GT.via f) _:=
 @kd.mk ub P T γ (GT.via f) _
  (λ{H enc w base spare held fuel cs d}hd=>by
   obtain⟨xs,n,_,rfl,hl,hlen,hf⟩:=DataW.trod_struct ht hd;obtain⟨b,h1,h2⟩:=h (n:=n) (cs:=cs) (ys:=xs) (λi g hg=>hf i g (by rw[<-Array.getElem?_toList];exact hg)) (by rw[hlen];simp) (by omega);refine⟨g b,?_,?_⟩
   ·show GT.ok (Hw w) cs (f<|g b);rw[hfg];exact h1
   ·rw[u.ag];have:=hm b;omega)
  (λhv=>by
   obtain⟨cs,rfl,_⟩:=okWide_struct ht hv
   cases cs;rfl)
def kd.arg{H:Type}{enc:TypeId×Value->H}{w:World}{base:Nat}{spare:Nat->Bool}{held:Bool}{r:Reach}{b0:Nat}{v:Value}{d:DataW H}{ps:List MemPlace}{α:Type}[GT α][Bk α](o:kd ub P T α)
  (hv:Value.okWide P w r b0 T v) (hd:DataW.Trod enc P w base spare held T v d ps):∃x:α,Ck (Hw w) v x/\bk x<=ub H d:=by
 obtain⟨fuel,hf⟩:=hd;obtain⟨x,h1,h2⟩:=o.trod hf;exact⟨x,⟨_,o.VC hv,h1⟩,h2⟩
end
def Calls.fin{P:bO}{f:FuncId}{args:bD aW}{w:aY}{R Q:aW->aY->Prop}(h:Calls P f args w (eT R))(k:∀v w',R v w'->Q v w'):
  Calls P f args w (λe W'=>∃v,e = .returned v/\Q v W'):=Calls.mono h λ_ w'⟨v,e,hr⟩=>⟨v,e,k v w' hr⟩
def iV(W:aY):HP:=⟨λM h=>hle (Hw W) M/\h=vc,λk⟨a,b⟩=>⟨N0 a k,b⟩⟩
def Holds.begin(W:aY):Holds W W [iV W]:=by
 refine⟨Hw W,λ_=>vc,⟨rfl,rfl,rfl,cG _,λb o h=>h,λi Pr hq=>?_,λ_ _ _ _ h=>(by cases h),λ_ _ _ _ h=>(by cases h),λ_ _ _ _ _ _ _ h=>(by cases h)⟩⟩
 match i,hq with
 | 0,hq=>simp at hq;subst hq;exact⟨Kk _,rfl⟩
section
variable {H:Type}{enc:bU×aW->H}{P:bO}
def Ol{f:Func}{s:ChangeSpec}{apart fresh handsOn again:Bool}{W W':World}{args:Array Value}{v:Value}{ds gs:List (DataW H)}{before pa pv:List MemPlace}
  (hW:DataW.Whole enc P f.params.toList s.vars apart W args.toList ds gs before)
  (hres:∀(b:Nat)(sp:Nat->Bool)(hd:Bool),DataW.TrodAll enc P W' b sp hd f.resultTypes.toList (v.resultList f.resultTypes.size) (s.fn H<|ds++gs).results [])
  (hargs:∀sp:Nat->Bool,(∀p∈before,sp p.block=true)->DataW.TrodAll enc P W' 0 sp true f.params.toList args.toList (s.fn H<|ds++gs).args pa)
  (hvars:∀sp:Nat->Bool,(∀p∈before,sp p.block=true)->DataW.TrodVars enc P W' sp s.vars (s.fn H<|ds++gs).vars pv)
  (hps:before=pa++pv) (hb:Below W.heap.size W W')
  (hok:∀(j:Nat)(t:TypeId)(r:Value),f.resultTypes[j]? =some t->(v.resultList f.resultTypes.size)[j]? =some r->Value.okWide P W' .any 0 t r):
  s.post enc P f apart fresh handsOn again W args v W':=by
 have hlt:∀p∈before,p.block<W.heap.size:=λp hp=>hW.lt p hp;have hold:∀p∈before,(λb=>decide<|b<W.heap.size) p.block=true:=λp hp=>by simpa using hlt p hp
 refine⟨ds,gs,before,[],pa,pv,hW,hres _ _ _,hargs _ hold,hvars _ hold,World.keptBut_mono (λp hp=>⟨hp,?_⟩)<|hb.frame (· ∈before),λ_=>?_⟩
 ·rw[hps,dP]at hp;exact Or.inr hp
 ·obtain⟨_,_,_,_,_,hz,hn⟩:=hW;refine⟨hok,_,_,([]++pa)++pv,⟨[]++pa,pv,trodAll_append (hargs _<|λ_ _=>rfl)<|hres _ _ _,hvars _<|λ_ _=>rfl,rfl,?_,?_⟩,?_⟩
  ·intro b off hp;have hin:MemPlace.cell b off∈before:=by rw[hps];simpa using hp
   rw[hb.frozen<|hlt _ hin];exact hz b off hin
  ·intro ha;have:=hn ha;rw[hps]at this;simpa using this
  ·intro p hp _;rw[hps];simpa using hp
def B9{W W':World}(hl:laidOutB P=true)(hb:Below W.heap.size W W'){sp:Nat->Bool}:∀{ts:List TypeId}{vs:List Value}{ds:List (DataW H)}{ps:List MemPlace},
  (∀t∈ts,P.readableRec t=true/\t<P.types.size)->DataW.TrodAll enc P W 0 (λ_=>true) true ts vs ds ps->(∀p∈ps,p.block<W.heap.size)->(∀p∈ps,sp p.block=true)->DataW.TrodAll enc P W' 0 sp true ts vs ds ps
 | [],_,_,_,_,h,_,_=>by
  obtain⟨rfl,rfl,rfl⟩:=trodAll_nil h;rfl
 |t::ts,_,_,_,ht,h,hlt,hsp=>by
  obtain⟨v,vs,d,ds,p,q,rfl,rfl,rfl,h1,h2⟩:=trodAll_cons h;refine⟨p,q,?_,B9 hl hb (λt h=>ht t (by simp[h])) h2 (λx hx=>hlt x (by simp[hx]))<|λx hx=>hsp x (by simp[hx]),rfl⟩;exact WideElems.Trod_stays hl (ht t (by simp)).1 (ht t (by simp)).2 h1 (λx hx=>hb.same<|hlt x (by simp[hx]))<|λx hx=>hsp x (by simp[hx])
end
end Go.Gk
namespace Go.Gk
open Go IntKind
instance:Bk dM:=⟨λx=>bk x.Name+bk x.Kind+bk x.bG+1,λ_=>by omega⟩
def CH(x:dM):bk x=bk x.Name+bk x.Kind+bk x.bG+1:=rfl
instance:Bk aS:=⟨λx=>bk x.Name+bk x.aT+1,λ_=>by omega⟩
def pX(x:aS):bk x=bk x.Name+bk x.aT+1:=rfl
instance:Bk Part:=⟨λx=>bk x.Name+bk x.jR+1,λ_=>by omega⟩
def JF(x:Part):bk x=bk x.Name+bk x.jR+1:=rfl
instance:Bk bC:=⟨λx=>bk x.Part+bk x.bC+1,λ_=>by omega⟩
def Tt(x:bC):bk x=bk x.Part+bk x.bC+1:=rfl
instance:Bk Net:=⟨λx=>bk x.Name+bk x.aT+bk x.uj+1,λ_=>by omega⟩
def GS(x:Net):bk x=bk x.Name+bk x.aT+bk x.uj+1:=rfl
instance:Bk cA:=⟨λx=>bk x.cR+bk x.bT+1,λ_=>by omega⟩
def yv(x:cA):bk x=bk x.cR+bk x.bT+1:=rfl
instance:Bk aJ:=⟨λx=>bk x.X0+bk x.Y0+bk x.X1+bk x.Y1+1,λ_=>by omega⟩
def RK(x:aJ):bk x=bk x.X0+bk x.Y0+bk x.X1+bk x.Y1+1:=rfl
instance:Bk kF:=⟨λx=>bk x.X+bk x.Y+1,λ_=>by omega⟩
def Qb(x:kF):bk x=bk x.X+bk x.Y+1:=rfl
instance:Bk cL:=⟨λx=>bk x.At+bk x.eC+bk x.dS+bk x.To+bk x.il+1,λ_=>by omega⟩
def RM(x:cL):bk x=bk x.At+bk x.eC+bk x.dS+bk x.To+bk x.il+1:=rfl
instance:Bk eQ:=⟨λx=>bk x.Part+bk x.bC+bk x.dW+bk x.At+1,λ_=>by omega⟩
theorem NF(x:eQ):bk x=bk x.Part+bk x.bC+bk x.dW+bk x.At+1:=rfl
instance:Bk lj:=⟨λx=>bk x.aP+bk x.dF+bk x.aZ+bk x.bW+1,λ_=>by omega⟩
def Qc(x:lj):bk x=bk x.aP+bk x.dF+bk x.aZ+bk x.bW+1:=rfl
instance:Bk aB:=⟨λx=>bk x.Y0+bk x.Y1+bk x.Xs+1,λ_=>by omega⟩
instance:Bk aL:=⟨λx=>bk x.dW+bk x.Set+bk x.jw+1,λ_=>by omega⟩
instance:Bk bG:=⟨λx=>bk x.jQ+bk x.aZ+bk x.aT+1,λ_=>by omega⟩
instance:Bk ld:=⟨λx=>bk x.cL+bk x.Number+1,λ_=>by omega⟩
instance:Bk cI:=⟨λx=>bk x.Kind+bk x.bT+bk x.aT+1,λ_=>by omega⟩
instance:Bk aF:=⟨λx=>bk x.from_+bk x.to+1,λ_=>by omega⟩
instance:Bk aQ:=⟨λx=>bk x.from_+bk x.to+bk x.kG+1,λ_=>by omega⟩
end Go.Gk
namespace Go.Gk
open Go IntKind Go.RowKit
def W0(W:aY):aY:={W with drawn:=0}
instance (W:aY):Nd (W0 W):=⟨rfl⟩
def Holds.Tu(W:aY):Holds (W0 W) W [iV W]:=by
 refine⟨Hw W,λ_=>vc,⟨rfl,rfl,rfl,dH _,λb o h=>h,λi Pr hq=>?_,λ_ _ _ _ h=>(by cases h),λ_ _ _ _ h=>(by cases h),λ_ _ _ _ _ _ _ h=>(by cases h)⟩⟩
 match i,hq with
 | 0,hq=>simp at hq;subst hq;exact⟨Kk _,rfl⟩
def Holds.MB{α:Type}[GT α]{W:aY}{V:Z HP}{v:aW}{x:α}(h:Holds (W0 W) W (V++[iV W]))(hv:Gk.Ck (Hw W) v x):Holds (W0 W) W (rd v x::(V++[iV W])):=
 h.H4 λM hs g=>by
  have h1:=(g.sat V.length (iV W) (by simp)).1;exact⟨hv.mono h1,rfl⟩
def Holds.VK{W w:aY}{V:Z HP}(h:Holds (W0 W) w (V++[iV W])):Below W.heap.size W w:=by
 obtain⟨M,hs,g⟩:=h;have h1:=(g.sat V.length (iV W) (by simp)).1;have h2:∀k o,W.heap[k]? =some o->w.heap[k]? =some o:=λk o ho=>g.im k o<|h1 k o ho
 refine⟨g.os,g.tape,g.out,?_,λk hk=>?_⟩
 ·by_cases h0:W.heap.size=0
  ·omega
  ·have h3:=h2 (W.heap.size - 1) _<|kf (by omega)
   have:=(Array.getElem?_eq_some_iff.1 h3).1;omega
 ·rw[kf hk];exact h2 k _<|kf hk
end Go.Gk
namespace Go.Gk
open Go IntKind Go.Sort
section
variable {α:Type}
def Fk{β:Type}(a:bD β){n:Nat}(h:a.size=n):a.extract 0 n=a:=by subst h;exact Array.extract_size
def Tv{φ:α->α->aV Int}{l:Z α}(cf:α->α->Int)(hφ:∀x∈l,∀y∈l,φ x y=some (cf x y))(h1:∀x∈l,¬cf x x<0)
  (h2:∀x∈l,∀y∈l,∀z∈l,cf x y<0->cf y z<0->cf x z<0) (h3:∀x∈l,∀y∈l,∀z∈l,¬cf x y<0->¬cf y z<0->¬cf x z<0):SWO (Q7<|KH φ l):=by
 have hm:∀i:Fin l.length,l[i]∈l:=λi=>cP i.isLt;have e:∀i j:Fin l.length,KH φ l i j=cf l[i] l[j]:=λi j=>by unfold KH;rw[hφ _ (hm i) _<|hm j];rfl
 refine⟨λx=>?_,λx y z=>?_,λx y z=>?_⟩
 ·simp only[Q7,e,decide_eq_false_iff_not];exact h1 _<|hm _
 ·simp only[Q7,e,decide_eq_true_iff];exact h2 _ (hm _) _ (hm _) _<|hm _
 ·simp only[Q7,e,decide_eq_false_iff_not];exact h3 _ (hm _) _ (hm _) _<|hm _
def DV{φ:α->α->aV Int}{l:Z α}(cf:α->α->Int)(hφ:∀x∈l,∀y∈l,φ x y=some (cf x y))(h1:∀x∈l,¬cf x x<0)
  (h2:∀x∈l,∀y∈l,∀z∈l,cf x y<0->cf y z<0->cf x z<0) (h3:∀x∈l,∀y∈l,∀z∈l,¬cf x y<0->¬cf y z<0->¬cf x z<0) (hl:l.length<4611686018427387904):
  ∃m,z8 φ l=some m/\m.Perm l/\m.Pairwise (λx y=>¬cf y x<0):=by
 have hO:=Tv cf hφ h1 h2 h3;have hm:∀i:Fin l.length,l[i]∈l:=λi=>cP i.isLt;have hc:(∀i j:Fin l.length,∃c,φ l[i] l[j]=some c):=λi j=>⟨_,hφ _ (hm i) _<|hm j⟩;refine⟨Nm φ l,by unfold z8;rw[aG ⟨⟨hc,hO⟩,hl⟩],?_⟩;unfold Nm
 by_cases hn:0<l.length
 ·rw[dif_pos hn]
  letI inh:Inhabited (Fin l.length):=⟨⟨0,hn⟩⟩
  have hds:(Array.ofFn λi:Fin l.length=>i).size=l.length:=by simp
  obtain⟨hp,hs⟩:=pdq_sorts (Q7<|KH φ l) hO (Array.ofFn λi:Fin l.length=>i) 0 l.length (Lib.bitLen l.length) true true (dH _) (by rw[hds];exact cG _)<|Or.inl rfl
  show(List.map (λi=>l[i]) (pdq (Q7<|KH φ l) (Array.ofFn λi:Fin l.length=>i) 0 l.length (Lib.bitLen l.length) true true).toList).Perm l/\_;generalize pdq (Q7<|KH φ l) (Array.ofFn λi:Fin l.length=>i) 0 l.length (Lib.bitLen l.length) true true=d' at hp hs;obtain⟨hz,_,hpm⟩:=hp;have hz':d'.size=l.length:=hz.trans hds;rw[Fk d' hz',Fk _ hds]at hpm;have hof:(Array.ofFn λi:Fin l.length=>i).toList.map (λi=>l[i])=l:=by
   rw[Array.toList_ofFn,List.map_ofFn];exact List.ofFn_getElem
  refine⟨(hpm.map<|λi=>l[i]).trans<|List.Perm.of_eq hof,?_⟩;rw[List.pairwise_map,og];intro i j hi hj hij;rw[Array.length_toList]at hi hj;have:=hs i j (dH _) hij (by rw[<-hz'];exact hj);rw[getElem!_pos d' i hi,getElem!_pos d' j hj]at this;have hij2:=hφ _ (hm<|d'[j]) _<|hm<|d'[i]
  have hij3:KH φ l d'[j] d'[i]=cf l[d'[j]] l[d'[i]]:=by unfold KH;rw[hij2];rfl
  unfold Q7 at this;rw[decide_eq_false_iff_not,hij3]at this;exact this
 ·rw[dif_neg hn];have:l= []:=List.length_eq_zero_iff.1 (by omega);subst this;exact⟨List.Perm.refl _,lf⟩
def IV{φ:α->α->aV Int}{x:α}(h:φ x x=some 0):z8 φ [x]=some [x]:=by
 obtain⟨m,h1,h2,_⟩:=DV (φ:=φ) (l:=[x]) (λ_ _=>0) (λa ha b hb=>by simp at ha hb;rw[ha,hb];exact h) (λ_ _=>by decide) (λ_ _ _ _ _ _ h=>by simp at h) (λ_ _ _ _ _ _ _ _=>by decide) (by simp);rw[h1,List.perm_singleton.1 h2]
def Im{l:Z Int}(h:l.Pairwise (λx y=>x<=y))(hl:l.length<4611686018427387904):z7 l=some l:=by
 unfold z7;rw[aG hl,List.mergeSort_of_pairwise (by simpa using h)]
end
end Go.Gk
namespace Go.Gk
open Go IntKind
def tp(l:Z Int)(x:Int):Nat:=l.countP<|λa=>decide<|a<=x
def sZ(l:Z Int)(x:Int):Bool:=tp l x % 2==1
def k6(l:Z Int):Prop:=l.Pairwise (· < ·)
theorem NG(x:Int):tp [] x=0:=rfl
theorem tV(a:Int)(l:Z Int)(x:Int):tp (a::l) x=(if a<=x then 1 else 0)+tp l x:=by
 grind [tp]
theorem GZ(l m:Z Int)(x:Int):tp (l++m) x=tp l x+tp m x:=List.countP_append
theorem NH{l:Z Int}{x:Int}(h:∀a∈l,a<=x):tp l x=l.length:=by
 grind [tp,List.countP_eq_length]
theorem G0{l:Z Int}{x:Int}(h:∀a∈l,x<a):tp l x=0:=by
 grind [tp,List.countP_eq_zero]
def DW{l:Z Int}{x:Int}:sZ l x=true↔tp l x % 2=1:=by simp[sZ]
def DX{l:Z Int}{x:Int}(h:∀a∈l,x<a):sZ l x=false:=by grind [sZ,G0]
def k6.head{a:Int}{l:Z Int}(h:k6 (a::l)):∀b∈l,a<b:=(r6.1 h).1
def k6.tail{a:Int}{l:Z Int}(h:k6 (a::l)):k6 l:=(r6.1 h).2
def DY{a:Int}{l:Z Int}(h:k6 (a::l)):sZ (a::l) a=true:=by
 rw[DW,tV,aG<|Int.le_refl _,G0 h.head]
def G1:∀{l m:Z Int},k6 l->k6 m->(∀x,sZ l x=sZ m x)->l=m
 | [],[],_,_,_=>rfl
 | [],b::m,_,hm,h=>by have:=h b;rw[DY hm]at this;cases this
 |a::l,[],hl,_,h=>by have:=h a;rw[DY hl]at this;cases this
 |a::l,b::m,hl,hm,h=>by
  have hab:a=b:=by
   rcases Int.lt_trichotomy a b with h1|h1|h1
   ·have h2:=h a
    rw[DY hl,DX (l:=b::m) (λc hc=>by
     rcases eJ.1 hc with rfl|hc
     ·exact h1
     ·have:=hm.head c hc;omega)]at h2
    cases h2
   ·exact h1
   ·have h2:=h b
    rw[DY hm,DX (l:=a::l) (λc hc=>by
     rcases eJ.1 hc with rfl|hc
     ·exact h1
     ·have:=hl.head c hc;omega)]at h2
    cases h2
  subst hab;rw[G1 hl.tail hm.tail<|λx=>?_]
  by_cases hx:a<=x
  ·have h2:=h x;unfold sZ at h2 ⊢;rw[tV,tV,aG hx]at h2;rw[fY]at h2 ⊢;simp only[beq_iff_eq]at h2 ⊢;omega
  ·rw[DX (λc hc=>by have:=hl.head c hc;omega),DX (λc hc=>by have:=hm.head c hc;omega)]
theorem G2{l:Z Int}{a b:Int}(hl:∀c∈l,c<a)(he:l.length % 2=0)(hab:a<b)(x:Int):sZ (l++[a,b]) x=(sZ l x||(decide (a<=x)&&decide (x<b))):=by
 rw[fY,gT,dB,cZ,cZ,DW,DW,GZ,tV,tV,NG]
 grind [tp,NH]
def Qi{l:Z Int}{s e a b:Int}(hl:∀c∈l,c<s)(he:l.length % 2=0)(hs:s<e)(h1:s<=a)(h2:a<=e)(hab:a<b)(x:Int):sZ (l++[s,max e b]) x=(sZ (l++[s,e]) x||(decide (a<=x)&&decide (x<b))):=by
 grind [G2]
def k6.snoc{l:Z Int}{a b:Int}(h:k6 l)(hl:∀c∈l,c<a)(hab:a<b):k6 (l++[a,b]):=by
 grind [k6]
structure Bd where
 y0:Int
 y1:Int
 xs:Z Int
def rowAt:Z Bd->Int->Z Int
 | [],_=>[]
 |b::s,y=>if b.y0<=y/\y<b.y1 then b.xs else rowAt s y
theorem p9(b:Bd)(s:Z Bd)(y:Int):rowAt (b::s) y=if b.y0<=y/\y<b.y1 then b.xs else rowAt s y:=rfl
structure fT (s:Z Bd):Prop where
 each:∀b∈s,b.y0<b.y1/\b.xs≠[]/\k6 b.xs/\b.xs.length % 2=0
 ord:s.Pairwise (λb c=>b.y1<=c.y0/\(b.y1=c.y0->b.xs≠c.xs))
def fT.nil:fT []:=⟨λb h=>by simp at h,lf⟩
def fT.tail{b:Bd}{s:Z Bd}(h:fT (b::s)):fT s:=⟨λc hc=>h.each c<|kh _ hc,(r6.1 h.ord).2⟩
theorem oy{s:Z Bd}{y:Int}(h:∀b∈s,y<b.y0\/b.y1<=y):rowAt s y= []:=by
 induction s with
 |nil=>rfl
 |cons b s ih=>
  grind [rowAt,kh]
theorem uI(s t:Z Bd)(y:Int):rowAt (s++t) y=if(∃b∈s,b.y0<=y/\y<b.y1)then rowAt s y else rowAt t y:=by
 induction s with
 |nil=>simp
 |cons b s ih=>
  rw[List.cons_append,p9,p9]
  by_cases h:b.y0<=y/\y<b.y1
  ·simp_all
  ·rw[aK h,ih]
   by_cases h2:∃c∈s,c.y0<=y/\y<c.y1
   ·simp_all[aG,kh,aK]
   grind
theorem fT.qc{b:Bd}{s:Z Bd}{y:Int}(h0:b.y0<=y)(h1:y<b.y1):rowAt (b::s) y=b.xs:=by grind [rowAt]
def fT.G3{b:Bd}{s:Z Bd}(h:fT (b::s)):∀c∈s,b.y1<=c.y0:=λc hc=>((r6.1 h.ord).1 c hc).1
def fT.Bj{b:Bd}{s:Z Bd}(h:fT (b::s)){y:Int}(hy:y<b.y0):rowAt (b::s) y= []:=oy λc hc=>by
 rcases eJ.1 hc with rfl|hc
 ·exact .inl hy
 ·have:=h.G3 c hc;have:=(h.each b (by simp)).1;exact .inl (by omega)
def fT.NI{b:Bd}{s:Z Bd}(h:fT (b::s)):rowAt (b::s) b.y1≠b.xs:=by
 rw[p9,aK (by omega)]
 cases s with
 |nil=>exact λe=>(h.each b (by simp)).2.1 e.symm
 |cons c s=>
  have h1:=(r6.1 h.ord).1 c (by simp)
  by_cases e:b.y1=c.y0
  ·rw[fT.qc (by omega) (by have:=(h.tail.each c (by simp)).1;omega)]
   grind
  ·rw[h.tail.Bj (by omega)];exact λe=>(h.each b (by simp)).2.1 e.symm
def G4:∀{s t:Z Bd},fT s->fT t->(∀y,rowAt s y=rowAt t y)->s=t
 | [],[],_,_,_=>rfl
 | [],c::t,_,ht,h=>by
  have hc:=ht.each c (by simp);have:=h c.y0;rw[fT.qc (Int.le_refl _) hc.1]at this;exact absurd this.symm hc.2.1
 |b::s,[],hs,_,h=>by
  have hb:=hs.each b (by simp);have:=h b.y0;rw[fT.qc (Int.le_refl _) hb.1]at this;exact absurd this hb.2.1
 |b::s,c::t,hs,ht,h=>by
  have hb:=hs.each b (by simp);have hc:=ht.each c (by simp);have e0:b.y0=c.y0:=by
   rcases Int.lt_trichotomy b.y0 c.y0 with h1|h1|h1
   ·have h2:=h b.y0;rw[fT.qc (Int.le_refl _) hb.1,ht.Bj h1]at h2;exact absurd h2 hb.2.1
   ·exact h1
   ·have h2:=h c.y0;rw[fT.qc (Int.le_refl _) hc.1,hs.Bj h1]at h2;exact absurd h2.symm hc.2.1
  have ex:b.xs=c.xs:=by
   have h2:=h b.y0;rw[fT.qc (Int.le_refl _) hb.1,fT.qc (by omega) (by omega)]at h2;exact h2
  have e1:b.y1=c.y1:=by
   rcases Int.lt_trichotomy b.y1 c.y1 with h1|h1|h1
   ·have h2:=h b.y1;rw[fT.qc (b:=c) (by omega) h1]at h2;exact absurd (h2.trans ex.symm) hs.NI
   ·exact h1
   ·have h2:=h c.y1;rw[fT.qc (b:=b) (by omega) h1]at h2;exact absurd (h2.symm.trans ex) ht.NI
  have ebc:b=c:=by cases b;cases c;simp_all
  subst ebc;rw[G4 hs.tail ht.tail<|λy=>?_]
  by_cases hy:b.y1<=y
  ·have h2:=h y;unfold rowAt at h2;rw[aK (by omega),aK (by omega)]at h2;exact h2
  ·rw[oy (λd hd=>by have:=hs.G3 d hd;omega),oy (λd hd=>by have:=ht.G3 d hd;omega)]
def zU(s:Z Bd)(x y:Int):Bool:=sZ (rowAt s y) x
def IW{s:Z Bd}(h:∀b∈s,k6 b.xs)(y:Int):k6 (rowAt s y):=by
 induction s with
 |nil=>exact lf
 |cons b s ih=>
  grind [rowAt,kh]
def yP{s t:Z Bd}(hs:fT s)(ht:fT t)(h:∀x y,zU s x y=zU t x y):s=t:=
 G4 hs ht λy=>G1 (IW (λb hb=>(hs.each b hb).2.2.1) y) (IW (λb hb=>(ht.each b hb).2.2.1) y) λx=>h x y
def lA(s:Z Bd)(b:Bd):Z Bd:=
 if b.xs= []\/b.y1<=b.y0 then s else
  match s.getLast? with
  |some c=>if c.y1=b.y0/\c.xs=b.xs then s.dropLast++[⟨c.y0,b.y1,c.xs⟩]else s++[b]
  |none=>[b]
theorem vJ{α:Type}{s:Z α}{c:α}(h:s.getLast? =some c):s=s.dropLast++[c]:=by
 have hne:s≠[]:=λe=>by grind
 grind [List.getLast?_eq_some_getLast,List.dropLast_concat_getLast]
def Bl{s:Z Bd}{b:Bd}(hs:∀c∈s,c.y1<=b.y0)(hg:∀c∈s,c.y0<c.y1)(hb:b.y1<=b.y0->b.y1=b.y0)(y:Int):rowAt (lA s b) y=if b.y0<=y/\y<b.y1 then b.xs else rowAt s y:=by
 have key:∀(s:Z Bd)(c:Bd),(∀d∈s,d.y1<=c.y0)->rowAt (s++[c]) y=if c.y0<=y/\y<c.y1 then c.xs else rowAt s y:=by
  intro s c h;rw[uI]
  by_cases h1:c.y0<=y/\y<c.y1
  ·grind [fT.qc]
  ·rw[aK h1]
   by_cases h2:∃d∈s,d.y0<=y/\y<d.y1
   all_goals grind [p9,rowAt,oy]
 unfold lA
 by_cases h0:b.xs= []\/b.y1<=b.y0
 ·grind [oy]
 ·rw[aK h0]
  cases hl:s.getLast? with
  |none=>
   have:s= []:=by simp_all
   subst this;rfl
  |some c=>
   dsimp only;have hsp:=vJ hl;have hcm:c∈s:=by rw[hsp];simp
   by_cases h1:c.y1=b.y0/\c.xs=b.xs
   ·rw[aG h1];have hd:∀d∈s.dropLast,d.y1<=c.y0\/True:=λ_ _=> .inr trivial;rw[uI];have hrow:rowAt s y=if(∃d∈s.dropLast,d.y0<=y/\y<d.y1)then rowAt s.dropLast y else(if c.y0<=y/\y<c.y1 then c.xs else []):=by
     conv=>lhs;rw[hsp]
     rw[uI];rfl
    rw[hrow];have hcg:=hg c hcm
    by_cases h2:∃d∈s.dropLast,d.y0<=y/\y<d.y1
    ·obtain⟨d,hd,hd2⟩:=h2;have:=hs d<|List.dropLast_subset _ hd
     have he:∃d∈s.dropLast,d.y0<=y/\y<d.y1:=⟨d,hd,hd2⟩;rw[aG he,aG he,aK (by omega)]
    ·rw[aK h2,aK h2];show(if c.y0<=y/\y<b.y1 then c.xs else [])=_
     by_cases h3:b.y0<=y/\y<b.y1
     ·rw[aG h3,aG ⟨by omega,h3.2⟩,h1.2]
     ·rw[aK h3]
      by_cases h4:c.y0<=y/\y<c.y1
      ·rw[aG h4,aG ⟨h4.1,by omega⟩]
      ·rw[aK h4,aK (by omega)]
   ·rw[aK h1];exact key s b hs
def Bm{s:Z Bd}{b:Bd}(h:fT s)(hs:∀c∈s,c.y1<=b.y0)(hb:k6 b.xs)(he:b.xs.length % 2=0):fT (lA s b):=by
 unfold lA
 by_cases h0:b.xs= []\/b.y1<=b.y0
 ·grind
 ·rw[aK h0];have hbg:b.y0<b.y1/\b.xs≠[]/\k6 b.xs/\b.xs.length % 2=0:=⟨by omega,λe=>h0<|.inl e,hb,he⟩
  cases hl:s.getLast? with
  |none=>exact⟨λc hc=>by grind,List.pairwise_singleton _ _⟩
  |some c=>
   dsimp only;have hsp:=vJ hl;have hcm:c∈s:=by rw[hsp];simp
   have hc:=h.each c hcm;have hord:=h.ord;rw[hsp,nD]at hord
   by_cases h1:c.y1=b.y0/\c.xs=b.xs
   ·rw[aG h1];refine⟨λd hd=>?_,?_⟩
    ·rcases dP.1 hd with hd|hd
     ·exact h.each d<|List.dropLast_subset _ hd
     grind
    grind
   ·rw[aK h1];refine⟨λd hd=>?_,?_⟩
    ·rcases dP.1 hd with hd|hd
     ·exact h.each d hd
     ·simp at hd;subst hd;exact hbg
    ·rw[nD];refine⟨h.ord,List.pairwise_singleton _ _,λd hd e he=>?_⟩;simp at he;subst he;refine⟨hs d hd,λe1 e2=>?_⟩;rw[hsp]at hd
     rcases dP.1 hd with hd|hd
     ·have h2:=(hord.2.2 d hd c (by simp)).1;have:=hs c hcm;omega
     ·simp at hd;subst hd;exact h1 ⟨e1,e2⟩
def Bn{s:Z Bd}{b:Bd}(hs:∀c∈s,c.y1<=b.y0)(hb:b.y0<=b.y1):∀c∈lA s b,c.y1<=b.y1:=by
 grind [lA,List.dropLast_subset]
section
variable {N:Nat}
def cO(b:aB):Bd:=⟨b.Y0,b.Y1,b.Xs⟩
def small(a:Int):Prop:= -1099511627776<=a/\a<=1099511627776
structure H3 (r:aJ):Prop where
 x:r.X0<r.X1
 y:r.Y0<r.Y1
 s1:small r.X0
 s2:small r.X1
 s3:small r.Y0
 s4:small r.Y1
def ME(l:Z aJ)(x:Int):Bool:=l.any<|λr=>decide (r.X0<=x)&&decide (x<r.X1)
def xJ(l:Z aJ)(x y:Int):Bool:=l.any<|λr=>(decide (r.X0<=x)&&decide (x<r.X1))&&(decide (r.Y0<=y)&&decide (y<r.Y1))
def G5{l:Z aJ}{x:Int}:ME l x=true↔∃r∈l,r.X0<=x/\x<r.X1:=by unfold ME;simp[iN]
theorem lX{l:Z aJ}{x y:Int}:xJ l x y=true↔∃r∈l,(r.X0<=x/\x<r.X1)/\r.Y0<=y/\y<r.Y1:=by unfold xJ;simp[iN]
def wrap_small{a b:Int}(ha:small a)(hb:small b):wrap .i64 (a - b)=a - b:=by unfold small at *;exact fC (by omega) (by omega)
theorem G6{n:Nat}(h:0<n)(hn:n<=4611686018427387904):wrap .i64 (((n:Nat):Int) - 1)=((n - 1:Nat):Int):=iv h hn
structure XD (out:Z Int) (m:Z aJ) (k:Nat):Prop where
 row:(k=0/\out= [])\/∃A s e,out=A++[s,e]/\k6 A/\(∀c∈A,c<s)/\A.length % 2=0/\s<e/\∃j r,j<k/\m[j]? =some r/\s=r.X0
 sZ:∀x,sZ out x=ME (m.take k) x
 len:out.length<=2*k
 mem:∀c∈out,∃r∈m,c=r.X0\/c=r.X1
def EI(l:Z aJ)(r:aJ)(x:Int):ME (l++[r]) x=(ME l x||(decide (r.X0<=x)&&decide (x<r.X1))):=by unfold ME;rw[List.any_append];simp
def JI{l:Z aJ}(hl:l.length<=268435456)(hok:∀r∈l,H3 r):∃row l',lF N l=some (row,l')/\l'.Perm l/\k6 row/\row.length % 2=0/\(∀x,sZ row x=ME l x)/\row.length<=2*l.length/\∀c∈row,∃r∈l,c=r.X0\/c=r.X1:=by
 unfold lF
 obtain⟨m,h1,h2,h3⟩:=DV (φ:=jm N) (l:=l) (λa b=>a.X0 - b.X0) (λa ha b hb=>by
  unfold jm;rw[wrap_small (hok a ha).s1 (hok b hb).s1]) (λa _=>by omega) (λa _ b _ c _ h1 h2=>by omega) (λa _ b _ c _ h1 h2=>by omega) (by omega)
 have hml:m.length=l.length:=h2.length_eq;have hmok:∀r∈m,H3 r:=λr hr=>hok r<|h2.subset hr
 rw[h1,aA];obtain⟨out,a1,a2⟩:=F7 (m:=m.length) (s:=([]:Z Int)) (body:=λ(k32:Nat)(s33:Z Int)=>((idx m (k32:Int)).bind λx79=>(bif decide (wrap .i64 ((s33.length:Int) - 1)>=0)then((idx s33<|wrap .i64<|(s33.length:Int) - 1).bind λx86=>some<|decide<|x79.X0<=x86)else some false).bind λs84=>(bif s84 then((idx s33<|wrap .i64<|(s33.length:Int) - 1).bind λx94=>(idx s33<|wrap .i64<|(s33.length:Int) - 1).bind λx95=>some<|s33.set (Int.toNat<|wrap .i64<|(s33.length:Int) - 1) (if x94<x79.X1 then x79.X1 else x94))else((app 8 s33 ([x79.X0,x79.X1]:Z Int)).bind λx97=>some x97)).bind λs92=>some s92:aV (Z Int)))
  (λk out=>XD out m k) (by omega) ⟨.inl ⟨rfl,rfl⟩,λx=>rfl,by simp,λc hc=>by cases hc⟩ (λk out hk⟨i1,i2,i3,i4⟩=>by
   have hx:m[k]? =some m[k]:=aM hk;have hr:=hmok _<|cP hk
   rw[cK hx,aA];have hts:m.take (k+1)=m.take k++[m[k]]:=dN hk
   rcases i1 with⟨rfl,rfl⟩|⟨A,s,e,rfl,hA,hAs,hAe,hse,j,r,hj,hjr,hsr⟩
   ·rw[show decide (wrap .i64 (((([]:Z Int).length:Nat):Int) - 1)>=0)=false by decide,aR,aA,aR,j6 (by simp),aA,aA];refine⟨_,rfl, .inr ⟨[],_,_,rfl,lf,λc hc=>by simp at hc,rfl,hr.x,0,m[0],by omega,hx,rfl⟩,λx=>?_,by simp,λc hc=>⟨m[0],cP hk,by simpa using hc⟩⟩;rw[hts,EI,<-i2 x];exact G2 (l:=[]) (λc hc=>by simp at hc) rfl hr.x x
   ·have hlen:(A++[s,e]).length=A.length+2:=by simp
    have hwp:wrap .i64 ((((A++[s,e]).length:Nat):Int) - 1)=((A.length+1:Nat):Int):=by rw[G6 (by omega) (by omega),hlen];rfl
    have hlast:(A++[s,e])[A.length+1]? =some e:=by rw[kJ (by omega)];simp
    have hs:s<=m[k].X0:=by
     have:=og.1 h3 j k (by have:=(bP.1 hjr).1;omega) hk hj;rw[hsr,<-(bP.1 hjr).2];omega
    rw[hwp,bS (by omega),aO,cK hlast,aA,aA]
    by_cases hc:m[k].X0<=e
    ·rw[bS hc,aO,aA,aA,aA,dA];have qq:(A++[s,e]).set (A.length+1) (if e<m[k].X1 then m[k].X1 else e)=A++[s,max e m[k].X1]:=by
      rw[List.set_append_right _ _ (by omega)];have:A.length+1 - A.length=1:=by omega
      rw[this,Int.max_def];simp only[List.set_cons_succ,List.set_cons_zero];congr 2;split <;> split <;> simp <;> omega
     rw[qq]
     refine⟨_,rfl, .inr ⟨A,s,_,rfl,hA,hAs,hAe,by omega,j,r,by omega,hjr,hsr⟩,λx=>?_,by simp at i3 ⊢;omega,λc hc=>by
      rcases dP.1 hc with h|h
      ·exact i4 c<|List.mem_append_left _ h
      ·simp at h
       rcases h with h|h
       ·exact i4 c (by simp[h])
       ·rw[Int.max_def]at h;split at h
        ·exact⟨_,cP hk, .inr h⟩
        ·exact i4 c (by simp[h])⟩
     rw[hts,EI,<-i2 x];exact Qi hAs hAe hse hs hc hr.x x
    ·rw[cF hc,aR,j6 (by rw[hlen];simp;omega),aA,aA];have hall:∀c∈A++[s,e],c<m[k].X0:=λc hc'=>by
      rcases dP.1 hc' with h|h
      ·have:=hAs c h;omega
      ·simp at h;omega
     refine⟨_,rfl, .inr ⟨A++[s,e],_,_,rfl,hA.snoc hAs hse,hall,by rw[hlen];omega,hr.x,k,m[k],by omega,hx,rfl⟩,λx=>?_,by simp at i3 ⊢;omega,λc hc=>by
      rcases dP.1 hc with h|h
      ·exact i4 c h
      ·exact⟨m[k],cP hk,by simpa using h⟩⟩
     rw[hts,EI,<-i2 x]
     exact G2 hall (by rw[hlen];omega) hr.x x)
 rw[a1,aA];refine⟨out,m,rfl,h2,?_,?_,λx=>?_,by rw[<-hml];exact a2.len,λc hc=>by obtain⟨r,hr,h⟩:=a2.mem c hc;exact⟨r,h2.subset hr,h⟩⟩
 ·rcases a2.row with⟨_,h⟩|⟨A,s,e,rfl,hA,hAs,hAe,hse,_⟩
  ·rw[h];exact lf
  ·exact hA.snoc hAs hse
 ·rcases a2.row with⟨_,h⟩|⟨A,s,e,rfl,hA,hAs,hAe,hse,_⟩
  ·rw[h];rfl
  ·simp;omega
 ·rw[a2.sZ x,dK,fY,G5,G5];constructor
  ·rintro⟨r,hr,h⟩;exact⟨r,h2.subset hr,h⟩
  ·rintro⟨r,hr,h⟩;exact⟨r,h2.symm.subset hr,h⟩
def Om{l m:Z Int}(hl:l.length<=4611686018427387904):qw N l m=some (decide<|l=m):=Bi hl
def NJ{s:Z aB}{b:aB}(hs:s.length<=1048576000)(hx:∀c∈s,c.Xs.length<=1048576000):∃s',kT N s b=some s'/\s'.map cO=lA (s.map cO) (cO b):=by
 unfold kT lA
 by_cases h0:b.Xs= []\/b.Y1<=b.Y0
 ·have e:((((b.Xs.length:Nat):Int)==0)||decide (b.Y1<=b.Y0))=true:=by
   rw[gT]
   rcases h0 with h|h
   ·left;rw[h];rfl
   ·right;exact bS h
  rw[e,aO,aG (show(cO b).xs= []\/(cO b).y1<=(cO b).y0 from h0)];exact⟨s,rfl,rfl⟩
 ·have e:((((b.Xs.length:Nat):Int)==0)||decide (b.Y1<=b.Y0))=false:=by
   rw[Bool.or_eq_false_iff];constructor
   ·rw[beq_eq_false_iff_ne];intro h;exact h0<|.inl<|List.eq_nil_of_length_eq_zero (by omega)
   ·exact cF λh=>h0<|.inr h
  rw[e,aR,aK (show ¬((cO b).xs= []\/(cO b).y1<=(cO b).y0)from h0)]
  rcases List.eq_nil_or_concat s with rfl|⟨A,c,hA⟩
  ·rw[show decide (wrap .i64 (((([]:Z aB).length:Nat):Int) - 1)>=0)=false by decide,aR,aA,aR,j6 (by simp),aA];exact⟨_,rfl,rfl⟩
  ·rw[List.concat_eq_append]at hA;subst hA;have hlen:(A++[c]).length=A.length+1:=by simp
   have hwp:wrap .i64 ((((A++[c]).length:Nat):Int) - 1)=((A.length:Nat):Int):=by rw[G6 (by omega) (by omega),hlen];rfl
   have hlast:(A++[c])[A.length]? =some c:=by simp
   rw[hwp,bS (by omega),aO,cK hlast,aA,aA,Om (by have:=hx c (by simp);omega),aA,aA,dA,j6 (by rw[hlen];simp;omega),aA];have hl2:((A++[c]).map cO).getLast? =some (cO c):=by simp
   have hd2:((A++[c]).map cO).dropLast=A.map cO:=by simp
   rw[hl2,hd2];dsimp only
   by_cases h1:c.Y1=b.Y0/\c.Xs=b.Xs
   ·rw[aG (show(cO c).y1=(cO b).y0/\(cO c).xs=(cO b).xs from h1),show(c.Y1==b.Y0)=true by rw[h1.1];simp,aO,bS h1.2,aA,aO];refine⟨_,rfl,?_⟩;rw[List.set_append_right _ _<|cG _,Nat.sub_self];simp[cO]
   ·rw[aK (show ¬((cO c).y1=(cO b).y0/\(cO c).xs=(cO b).xs)from h1)];have e2:(bif c.Y1==b.Y0 then some (decide<|c.Xs=b.Xs)else some false)=some false:=by
     by_cases h2:c.Y1=b.Y0
     ·rw[show(c.Y1==b.Y0)=true by rw[h2];simp,aO,cF<|λh=>h1 ⟨h2,h⟩]
     ·rw[show(c.Y1==b.Y0)=false by simpa using h2,aR]
    rw[e2,aA,aR];exact⟨_,rfl,by simp⟩
end
def dV(l:Z (Int×Int)):Z Int:=l.flatMap λs=>[s.1,s.2]
def kP(l:Z (Int×Int))(x:Int):Bool:=l.any λs=>decide (s.1<=x)&&decide (x<s.2)
theorem lH(s:Int×Int)(l:Z (Int×Int)):dV (s::l)=s.1::s.2::dV l:=rfl
def yQ(l m:Z (Int×Int)):dV (l++m)=dV l++dV m:=List.flatMap_append
theorem ma(l:Z (Int×Int)):(dV l).length=2*l.length:=by
 induction l with
 |nil=>rfl
 |cons s l ih=>rw[lH,dO,dO,dO,ih];omega
def IX(s:Int×Int)(l:Z (Int×Int))(x:Int):kP (s::l) x=((decide (s.1<=x)&&decide (x<s.2))||kP l x):=rfl
def Fm(l m:Z (Int×Int))(x:Int):kP (l++m) x=(kP l x||kP m x):=List.any_append
def xK{l:Z (Int×Int)}{x:Int}:kP l x=true↔∃s∈l,s.1<=x/\x<s.2:=by
 unfold kP;simp
def On{a b:Int}{m:Z Int}(h:k6 (a::b::m))(x:Int):sZ (a::b::m) x=((decide (a<=x)&&decide (x<b))||sZ m x):=by
 have hab:a<b:=h.head b (by simp);have hm:=h.tail.head;rw[fY,gT,dB,cZ,cZ,DW,DW,tV,tV]
 by_cases h1:a<=x
 ·rw[aG h1]
  by_cases h2:b<=x
  ·rw[aG h2];omega
  ·rw[aK h2,G0 (λc hc=>by have:=hm c hc;omega)];omega
 ·rw[aK h1,aK (by omega)];omega
theorem xL:∀{l:Z (Int×Int)},k6 (dV l)->∀x,sZ (dV l) x=kP l x
 | [],_,x=>rfl
 |s::l,h,x=>by
  rw[lH]at h ⊢;rw[On h,IX,xL h.tail.tail]
theorem IY:∀{l m:Z (Int×Int)},dV l=dV m->l=m
 | [],[],_=>rfl
 | [],s::m,h=>by cases h
 |s::l,[],h=>by cases h
 |(a,b)::l,(c,d)::m,h=>by
  rw[lH,lH]at h;injection h with h1 h2
  injection h2 with h2 h3
  simp only at h1 h2;rw[h1,h2,IY h3]
def EJ{l:Z (Int×Int)}{c:Int}(h:c∈dV l):∃s∈l,c=s.1\/c=s.2:=by
 obtain⟨s,hs,hc⟩:=List.mem_flatMap.1 h;exact⟨s,hs,by simpa using hc⟩
def AL{l:Z (Int×Int)}(h:k6 (dV l)):∀s∈l,s.1<s.2:=by
 induction l with
 |nil=>intro s hs;cases hs
 |cons a l ih=>
  rw[lH]at h;intro s hs
  rcases eJ.1 hs with rfl|hs
  ·exact h.head _ (by simp)
  ·exact ih h.tail.tail s hs
def xM{l m:Z (Int×Int)}:k6 (dV<|l++m)↔k6 (dV l)/\k6 (dV m)/\∀s∈l,∀t∈m,s.2<t.1:=by
 rw[yQ];unfold k6;rw[nD];constructor
 ·rintro⟨h1,h2,h3⟩;exact⟨h1,h2,λs hs t ht=>h3 s.2 (List.mem_flatMap.2 ⟨s,hs,by simp⟩) t.1<|List.mem_flatMap.2 ⟨t,ht,by simp⟩⟩
 ·rintro⟨h1,h2,h3⟩;refine⟨h1,h2,λa ha b hb=>?_⟩;obtain⟨s,hs,ha⟩:=EJ ha;obtain⟨t,ht,hb⟩:=EJ hb;have h4:=h3 s hs t ht;have h5:=AL (l:=l) h1 s hs;have h6:=AL (l:=m) h2 t ht
  rcases ha with rfl|rfl <;> rcases hb with rfl|rfl <;> omega
def mN(s:Int×Int):Z (Int×Int)->(Int×Int)×Z (Int×Int)
 | []=>(s,[])
 |a::l=>if a.1<=s.2 then mN (min s.1 a.1,max s.2 a.2) l else(s,a::l)
def oz(l:Z (Int×Int))(s:Int×Int):Z (Int×Int):=
 l.takeWhile (λa=>decide<|a.2<s.1)++(mN s<|l.dropWhile λa=>decide<|a.2<s.1).1::(mN s<|l.dropWhile λa=>decide<|a.2<s.1).2
def Fp:∀(l:Z (Int×Int))(s:Int×Int),s.1<s.2->k6 (dV l)->(∀a∈l,s.1<=a.2)->
  (mN s l).1.1<(mN s l).1.2/\((mN s l).1.1=s.1\/∃a∈l,(mN s l).1.1=a.1)/\k6 (dV (mN s l).2)/\(∀t∈(mN s l).2,(mN s l).1.2<t.1)/\
  ∀x,kP ((mN s l).1::(mN s l).2) x=((decide (s.1<=x)&&decide (x<s.2))||kP l x)
 | [],s,h,_,_=>⟨h, .inl rfl,lf,λt(ht:t∈([]:Z (Int×Int)))=>(by cases ht),λx=>rfl⟩
 |a::l,s,h,hi,hs=>by
  have hsp:=AL hi;have ha:=hsp a (by simp);have hi':=hi;rw[lH]at hi';have hsa:=hs a (by simp);unfold mN
  by_cases hc:a.1<=s.2
  ·rw[aG hc];have hlt:(min s.1 a.1,max s.2 a.2).1<(min s.1 a.1,max s.2 a.2).2:=by dsimp only;omega
   obtain⟨h1,h2,h3,h4,h5⟩:=Fp l (min s.1 a.1,max s.2 a.2) hlt hi'.tail.tail (λb hb=>by
    have:=(xM (l:=[a]) (m:=l)).1 hi;have h6:=this.2.2 a (by simp) b hb;have h7:=hsp b<|kh _ hb
    dsimp only;omega)
   refine⟨h1,?_,h3,h4,λx=>?_⟩
   ·rcases h2 with h2|⟨b,hb,h2⟩
    ·rw[h2]
     rcases Int.le_total s.1 a.1 with h6|h6
     ·exact .inl (by simp only;omega)
     ·exact .inr ⟨a,by simp,by simp only;omega⟩
    ·exact .inr ⟨b,kh _ hb,h2⟩
   ·rw[h5,IX,<-Bool.or_assoc];congr 1;clear h1 h2 h3 h4 h5;rw[fY];simp only[gT,dB,cZ];constructor
    ·intro h6
     by_cases h7:s.1<=x/\x<s.2
     ·exact .inl h7
     ·exact .inr (by omega)
    ·rintro(h6|h6) <;> omega
  ·rw[aK hc];refine⟨h, .inl rfl,hi,λt ht=>?_,λx=>rfl⟩;show s.2<t.1
   rcases eJ.1 ht with rfl|ht
   ·omega
   ·have:=((xM (l:=[a]) (m:=l)).1 hi).2.2 a (by simp) t ht;omega
def JJ{l:Z (Int×Int)}{c:Int}(h:k6 (dV l)):∀a∈l.dropWhile (λa=>decide<|a.2<c),c<=a.2:=by
 induction l with
 |nil=>intro a ha;cases ha
 |cons b l ih=>
  have h':=h;rw[lH]at h';rw[List.dropWhile_cons]
  by_cases hb:b.2<c
  ·rw[aG (by simpa using hb)];exact ih h'.tail.tail
  ·rw[aK (by simpa using hb)];intro a ha
   rcases eJ.1 ha with rfl|ha
   ·omega
   ·have h1:=((xM (l:=[b]) (m:=l)).1 h).2.2 b (by simp) a ha;have h2:=AL h a<|kh _ ha
    omega
def JK(l:Z (Int×Int))(c:Int):∀a∈l.takeWhile (λa=>decide<|a.2<c),a.2<c:=by
 induction l with
 |nil=>intro a ha;cases ha
 |cons b l ih=>
  rw[List.takeWhile_cons]
  by_cases hb:b.2<c
  ·rw[aG (by simpa using hb)];intro a ha
   rcases eJ.1 ha with rfl|ha
   ·exact hb
   ·exact ih a ha
  ·rw[aK (by simpa using hb)];intro a ha;cases ha
def DZ{l:Z (Int×Int)}{s:Int×Int}(h:k6 (dV l))(hs:s.1<s.2):
  k6 (dV<|oz l s)/\∀x,kP (oz l s) x=((decide (s.1<=x)&&decide (x<s.2))||kP l x):=by
 have hsplit:=h;rw[<-List.takeWhile_append_dropWhile (p:=λa:Int×Int=>decide<|a.2<s.1) (l:=l),xM]at hsplit;obtain⟨h1,h2,h3⟩:=hsplit;obtain⟨m1,m2,m3,m4,m5⟩:=Fp (l.dropWhile λa=>decide<|a.2<s.1) s hs h2<|JJ h
 unfold oz;refine⟨xM.2 ⟨h1,?_,λa ha t ht=>?_⟩,λx=>?_⟩
 ·rw[lH];have h4:∀c∈dV (mN s<|l.dropWhile λa=>decide<|a.2<s.1).2,(mN s<|l.dropWhile λa=>decide<|a.2<s.1).1.2<c:=λc hc=>by
   obtain⟨t,ht,hc⟩:=EJ hc;have:=m4 t ht;have:=AL m3 t ht
   rcases hc with rfl|rfl <;> omega
  exact r6.2 ⟨λc hc=>by
   rcases eJ.1 hc with rfl|hc
   ·exact m1
   ·have:=h4 c hc;omega,r6.2 ⟨h4,m3⟩⟩
 ·have ha1:=JK l s.1 a ha
  rcases eJ.1 ht with rfl|ht
  ·rcases m2 with m2|⟨b,hb,m2⟩
   ·rw[m2];exact ha1
   ·rw[m2];exact h3 a ha b hb
  ·have h5:=m4 t ht
   rcases m2 with m2|⟨b,hb,m2⟩
   ·rw[m2]at m1;omega
   ·have:=h3 a ha b hb;rw[m2]at m1;omega
 ·rw[Fm,m5]
  conv=>rhs;rw[<-List.takeWhile_append_dropWhile (p:=λa:Int×Int=>decide<|a.2<s.1) (l:=l),Fm]
  rw[Bool.or_left_comm]
def mO:Z Int->Z (Int×Int)
 |a::b::l=>(a,b)::mO (b::l)
 |_=>[]
def u6:∀{xs:Z Int},k6 xs->∀s∈mO xs,s.1∈xs/\s.2∈xs/\s.1<s.2/\∀c∈xs,c<=s.1\/s.2<=c
 | [],_,s,hs=>by cases hs
 | [a],_,s,hs=>by cases hs
 |a::b::l,h,s,hs=>by
  have hab:=h.head b (by simp)
  rcases eJ.1 hs with rfl|hs
  ·refine⟨by simp,by simp,hab,λc hc=>?_⟩
   rcases eJ.1 hc with rfl|hc
   ·exact .inl<|Int.le_refl _
   ·rcases eJ.1 hc with rfl|hc
    ·exact .inr<|Int.le_refl _
    ·exact .inr (by have:=h.tail.head c hc;show b<=c;omega)
  ·obtain⟨h1,h2,h3,h4⟩:=u6 h.tail s hs;refine⟨kh _ h1,kh _ h2,h3,λc hc=>?_⟩
   rcases eJ.1 hc with rfl|hc
   ·exact .inl (by have:=h.head s.1 h1;omega)
   ·exact h4 c hc
def CR:∀{xs:Z Int},k6 xs->∀x,(∃s∈mO xs,s.1<=x/\x<s.2)\/(∀c∈xs,x<c)\/(∀c∈xs,c<=x)
 | [],_,x=> .inr (.inl λc hc=>by cases hc)
 | [a],_,x=>by
  by_cases h:x<a
  ·exact .inr (.inl λc hc=>by simp at hc;omega)
  ·exact .inr (.inr λc hc=>by simp at hc;omega)
 |a::b::l,h,x=>by
  have hab:=h.head b (by simp)
  rcases CR h.tail x with⟨s,hs,h1⟩|h1|h1
  ·exact .inl ⟨s,kh _ hs,h1⟩
  ·by_cases h2:x<a
   ·exact .inr (.inl λc hc=>by
     rcases eJ.1 hc with rfl|hc
     ·exact h2
     ·exact h1 c hc)
   ·exact .inl ⟨(a,b),by simp[mO],by show a<=x;omega,h1 b (by simp)⟩
  ·exact .inr (.inr λc hc=>by
    rcases eJ.1 hc with rfl|hc
    ·have:=h1 b (by simp);omega
    ·exact h1 c hc)
def Ends(a:Z (Int×Int))(xs:Z Int):Prop:=∀s∈a,s.1∈xs/\s.2∈xs
def F9{a:Z (Int×Int)}{xs:Z Int}(he:Ends a xs)(hx:k6 xs){s:Int×Int}(hs:s∈mO xs){x:Int}(h1:s.1<=x)(h2:x<s.2):kP a x=kP a s.1:=by
 obtain⟨_,_,h3,h4⟩:=u6 hx s hs;rw[fY,xK,xK];constructor
 ·rintro⟨t,ht,h5,h6⟩;have:=h4 _ (he t ht).1;exact⟨t,ht,by omega,by omega⟩
 ·rintro⟨t,ht,h5,h6⟩;have:=h4 _ (he t ht).2;exact⟨t,ht,by omega,by omega⟩
def NK{a:Z (Int×Int)}{xs:Z Int}(he:Ends a xs){x:Int}(h:(∀c∈xs,x<c)\/(∀c∈xs,c<=x)):kP a x=false:=by
 rw[<-iM,xK];rintro⟨t,ht,h5,h6⟩;obtain⟨e1,e2⟩:=he t ht
 rcases h with h|h
 ·have:=h _ e1;omega
 ·have:=h _ e2;omega
def pj(iV:Bool->Bool->Bool)(a b:Z (Int×Int))(ss:Z (Int×Int))(out:Z (Int×Int)):Z (Int×Int):=
 ss.foldl (λout s=>if iV (kP a s.1) (kP b s.1)=true then oz out s else out) out
def AM(iV:Bool->Bool->Bool)(a b:Z (Int×Int)):∀(ss out:Z (Int×Int)),k6 (dV out)->(∀s∈ss,s.1<s.2)->
  k6 (dV<|pj iV a b ss out)/\∀x,kP (pj iV a b ss out) x=(kP out x||ss.any λs=>iV (kP a s.1) (kP b s.1)&&(decide (s.1<=x)&&decide (x<s.2)))
 | [],out,h,_=>⟨h,λx=>by simp[pj]⟩
 |s::ss,out,h,hs=>by
  have h0:=hs s (by simp);unfold pj;rw[List.foldl_cons]
  by_cases hk:iV (kP a s.1) (kP b s.1)=true
  ·rw[aG hk];obtain⟨j1,j2⟩:=DZ h h0;obtain⟨m1,m2⟩:=AM iV a b ss (oz out s) j1<|λt ht=>hs t<|kh _ ht
   refine⟨m1,λx=>?_⟩;rw[show kP (List.foldl _ (oz out s) ss) x=_ from m2 x,j2,List.any_cons,hk,Bool.true_and]
   cases kP out x <;> simp
  ·rw[aK hk];obtain⟨m1,m2⟩:=AM iV a b ss out h<|λt ht=>hs t<|kh _ ht
   refine⟨m1,λx=>?_⟩;rw[show kP (List.foldl _ out ss) x=_ from m2 x,List.any_cons,eq_false_of_ne_true hk,Bool.false_and,Bool.false_or]
def K9{iV:Bool->Bool->Bool}(hk:iV false false=false){a b:Z (Int×Int)}{xs:Z Int}(hx:k6 xs)(ha:Ends a xs)(hb:Ends b xs):
  k6 (dV<|pj iV a b (mO xs) [])/\∀x,kP (pj iV a b (mO xs) []) x=iV (kP a x) (kP b x):=by
 obtain⟨m1,m2⟩:=AM iV a b (mO xs) [] lf<|λs hs=>(u6 hx s hs).2.2.1
 refine⟨m1,λx=>?_⟩;rw[m2,show kP [] x=false from rfl,Bool.false_or]
 rcases CR hx x with⟨s,hs,h1,h2⟩|h
 ·rw[fY,iN];constructor
  ·rintro⟨t,ht,h3⟩;rw[dB,dB,cZ,cZ]at h3;rw[F9 ha hx ht h3.2.1 h3.2.2,F9 hb hx ht h3.2.1 h3.2.2];exact h3.1
  ·intro h3;rw[F9 ha hx hs h1 h2,F9 hb hx hs h1 h2]at h3;exact⟨s,hs,by rw[h3,bS h1,bS h2];rfl⟩
 ·rw[NK ha h,NK hb h,hk,<-iM,iN];rintro⟨t,ht,h3⟩;rw[dB,dB,cZ,cZ]at h3;obtain⟨e1,e2,_⟩:=u6 hx t ht
  rcases h with h|h
  ·have:=h _ e1;omega
  ·have:=h _ e2;omega
def po(f:Int->Z Int)(ss:Z (Int×Int))(out:Z Bd):Z Bd:=ss.foldl (λout s=>lA out ⟨s.1,s.2,f s.1⟩) out
def Fq(f:Int->Z Int)(hf:∀y,k6 (f y)/\(f y).length % 2=0):∀(ys:Z Int)(out:Z Bd),k6 ys->fT out->(∀c∈out,∀y∈ys,c.y1<=y)->
  fT (po f (mO ys) out)/\∀y,rowAt (po f (mO ys) out) y=match(mO ys).find? (λs=>decide (s.1<=y)&&decide (y<s.2))with|some s=>f s.1|none=>rowAt out y
 | [],out,_,h,_=>⟨h,λy=>rfl⟩
 | [a],out,_,h,_=>⟨h,λy=>rfl⟩
 |a::b::l,out,hi,h,ho=>by
  have hab:=hi.head b (by simp);have ho1:∀c∈out,c.y1<=(⟨a,b,f a⟩:Bd).y0:=λc hc=>ho c hc a (by simp);have hc:=Bm (b:=⟨a,b,f a⟩) h ho1 (hf a).1 (hf a).2;have htop:=Bn (b:=⟨a,b,f a⟩) ho1 (by show a<=b;omega)
  obtain⟨m1,m2⟩:=Fq f hf (b::l) (lA out ⟨a,b,f a⟩) hi.tail hc (λc hc' y hy=>by
   have h1:=htop c hc';have h2:b<=y:=by
    rcases eJ.1 hy with rfl|hy
    ·exact Int.le_refl _
    ·have:=hi.tail.head y hy;omega
   have h3:c.y1<=b:=h1
   omega)
  refine⟨m1,λy=>?_⟩;show rowAt (po f (mO<|b::l)<|lA out ⟨a,b,f a⟩) y=_;rw[m2 y,show mO (a::b::l)=(a,b)::mO (b::l)from rfl,List.find?_cons];have hrow:=Bl (s:=out) (b:=⟨a,b,f a⟩) ho1 (λc hc=>(h.each c hc).1) (λh=>absurd h (by show ¬b<=a;omega)) y
  by_cases hy:a<=y/\y<b
  ·have e:(decide (a<=y)&&decide (y<b))=true:=by rw[bS hy.1,bS hy.2];rfl
   have hn:(mO<|b::l).find? (λs=>decide (s.1<=y)&&decide (y<s.2))=none:=by
    rw[List.find?_eq_none];intro s hs;have:=(u6 hi.tail s hs).1;have h5:b<=s.1:=by
     rcases eJ.1 this with h6|h6
     ·omega
     ·have:=hi.tail.head _ h6;omega
    simp;omega
   rw[hn];show rowAt (lA out ⟨a,b,f a⟩) y=_;rw[hrow,aG hy,e]
  ·have e:(decide (a<=y)&&decide (y<b))=false:=by
    rw[Bool.and_eq_false_iff,decide_eq_false_iff_not,decide_eq_false_iff_not];omega
   rw[e]
   cases(mO<|b::l).find? (λs=>decide (s.1<=y)&&decide (y<s.2))with
   |some s=>rfl
   |none=>
    show rowAt (lA out ⟨a,b,f a⟩) y=rowAt out y;rw[hrow,aK hy]
def Ft{f:Int->Z Int}(hf:∀y,k6 (f y)/\(f y).length % 2=0){ys:Z Int}(hy:k6 ys)(h1:∀s∈mO ys,∀y,s.1<=y->y<s.2->f y=f s.1)(h2:∀y,((∀c∈ys,y<c)\/(∀c∈ys,c<=y))->f y= []):
  fT (po f (mO ys) [])/\∀y,rowAt (po f (mO ys) []) y=f y:=by
 obtain⟨m1,m2⟩:=Fq f hf ys [] hy fT.nil (λc hc=>by cases hc);refine⟨m1,λy=>?_⟩;rw[m2 y]
 cases TI:(mO ys).find? (λs=>decide (s.1<=y)&&decide (y<s.2))with
 |some s=>
  have h3:=List.find?_some TI;rw[dB,cZ,cZ]at h3;exact(h1 s (List.mem_of_find?_eq_some TI) y h3.1 h3.2).symm
 |none=>
  show rowAt [] y=f y
  rcases CR hy y with⟨s,hs,h3,h4⟩|h3
  ·have:=List.find?_eq_none.1 TI s hs;rw[bS h3,bS h4]at this;exact absurd rfl this
  ·rw[h2 y h3];rfl
def Ok{β:Type}(o:aV β)(P:β->Prop):Prop:=∃r,o=some r/\P r
section
variable {α β S R:Type}{P:α->Prop}{Q:β->Prop}
theorem V_{x:β}(h:Q x):Ok (some x) Q:=⟨x,rfl,h⟩
def ag_{o:aV β}{x:β}(h:o=some x)(hq:Q x):Ok o Q:=⟨x,h,hq⟩
def Ok.mono{o:aV α}{P':α->Prop}(h:Ok o P)(k:∀x,P x->P' x):Ok o P':=by obtain⟨x,h1,h2⟩:=h;exact⟨x,h1,k x h2⟩
theorem Ym{o:aV α}{f:α->aV β}(h:Ok o P)(k:∀x,P x->Ok (f x) Q):Ok (o.bind f) Q:=by
 obtain⟨x,h1,h2⟩:=h;grind
theorem X_{o:aV α}{f:α->aV β}{x:α}(h:o=some x)(k:Ok (f x) Q):Ok (o.bind f) Q:=by grind
def YW{b:Bool}{x y:aV β}(ht:b=true->Ok x Q)(hf:b=false->Ok y Q):Ok (bif b then x else y) Q:=by
 grind
def Y9{o:aV β}{x:β}(h:Ok o (λr=>r=x)):o=some x:=by obtain⟨r,h1,h2⟩:=h;rw[h1,h2]
def Ra(Go:S->Prop)(Rt:R->Prop):Fo S R->Prop| .go s=>Go s| .rt r=>Rt r
def Pb(Nx Br:S->Prop)(Rt:R->Prop):Fl S R->Prop| .nx s=>Nx s| .br s=>Br s| .rt r=>Rt r
theorem YK{Nx Br:S->Prop}{Rt:R->Prop}{s:S}(h:Nx s):Ok (some<|Fl.nx s) (Pb Nx Br Rt):=⟨_,rfl,h⟩
theorem YO{Nx Br:S->Prop}{Rt:R->Prop}{s:S}(h:Br s):Ok (some<|Fl.br s) (Pb Nx Br Rt):=⟨_,rfl,h⟩
theorem Zg{Nx Br:S->Prop}{Rt:R->Prop}{r:R}(h:Rt r):Ok (some (Fl.rt r:Fl S R)) (Pb Nx Br Rt):=⟨_,rfl,h⟩
def YS{Go:S->Prop}{Rt:R->Prop}{o:Fo S R}{f:S->aV β}{g:R->aV β}(h:Ra Go Rt o)(hf:∀s,Go s->Ok (f s) Q)(hg:∀r,Rt r->Ok (g r) Q):Ok (o.cs f g) Q:=by
 cases o with
 |go s=>exact hf s h
 |rt r=>exact hg r h
def Zk{body:Nat->S->aV S}{m:Nat}{s:S}(Inv:Nat->S->Prop)(hm:m<=4611686018427387904)(h0:Inv 0 s)(h:∀k s,k<m->Inv k s->Ok (body k s) (Inv<|k+1)):Ok (mc m body s) (Inv m):=
 F7 Inv hm h0 h
def aa8{body:Nat->S->aV (Fl S R)}{m:Nat}{s:S}(Inv:Nat->S->Prop){Go:S->Prop}{Rt:R->Prop}(hm:m<=4611686018427387904)(h0:Inv 0 s)
  (h:∀k s,k<m->Inv k s->Ok (body k s) (Pb (Inv<|k+1) Go Rt)) (hg:∀s,Inv m s->Go s):Ok (qT m body s) (Ra Go Rt):=by
 obtain⟨o,h1,h2⟩:=RI (R:=R) Inv Go Rt hm h0 (λk s hk hi=>by
  obtain⟨fl,a1,a2⟩:=h k s hk hi
  exact⟨fl,a1,by cases fl <;> exact a2⟩) hg
 exact⟨o,h1,by cases o <;> exact h2⟩
def Zl{body:S->aV (Fl S R)}{N:Nat}{s:S}(Inv:S->Prop)(μ:S->Nat){Go:S->Prop}{Rt:R->Prop}
  (h:∀s,Inv s->Ok (body s) (Pb (λs'=>Inv s'/\μ s'<μ s) Go Rt)) (hi:Inv s) (hn:μ s<N):Ok (iL body N s) (Ra Go Rt):=by
 obtain⟨o,h1,h2⟩:=Bh (R:=R) Inv μ Go Rt (λs hi=>by
  obtain⟨fl,a1,a2⟩:=h s hi
  exact⟨fl,a1,by cases fl <;> exact a2⟩) N s hi hn
 exact⟨o,h1,by cases o <;> exact h2⟩
theorem Y2{b:Nat}{l ys:Z α}{f:Z α->aV β}(h:(l.length+ys.length)*b<=140737488355328)(k:Ok (f<|l++ys) Q):Ok ((Go.Gk.app b l ys).bind f) Q:=by grind [j6]
theorem Zf{l:Z α}{i:Nat}{f:α->aV β}(h:i<l.length)(k:Ok (f l[i]) Q):Ok ((Go.Gk.idx l ((i:Nat):Int)).bind f) Q:=by grind [kN]
theorem Yx{l:Z α}{i:Nat}{x:α}{f:α->aV β}(h:l[i]? =some x)(k:Ok (f x) Q):Ok ((Go.Gk.idx l ((i:Nat):Int)).bind f) Q:=by grind [cK]
end
theorem Lb{n:Nat}(h:n<=4611686018427387904):wrap .i64 ((n:Nat):Int)=((n:Nat):Int):=by grind [fC]
theorem wrap_add{n m:Nat}(h:n+m<=4611686018427387904):wrap .i64 (((n:Nat):Int)+((m:Nat):Int))=((n+m:Nat):Int):=by grind [fC]
theorem bR{n:Nat}(h:n+1<=4611686018427387904):wrap .i64 (((n:Nat):Int)+1)=((n+1:Nat):Int):=by grind [fC]
def IZ{n:Nat}(h:n+2<=4611686018427387904):wrap .i64 (((n:Nat):Int)+2)=((n+2:Nat):Int):=by grind [fC]
def gS{α:Type}[DecidableEq α]:∀{l m:Z α},l.Nodup->(∀x∈l,x∈m)->l.length<=m.length
 | [],m,_,_=>dH _
 |a::l,m,hn,hs=>by
  have ha:a∈m:=hs a (by simp);have hn':=List.nodup_cons.1 hn
  have:=gS (l:=l) (m:=m.erase a) hn'.2 (λx hx=>by
   grind)
  rw[List.length_erase_of_mem ha]at this;have:=List.length_pos_of_mem ha;simp;omega
section
variable {α:Type}{N:Nat}
def VL(z:α)(N:Nat)(p0:Z α)(p1:α->aV Bool):aV (Z α):=
 (yu p0 p1).bind λx31=>bif x31==(-1)then some p0 else((iL (λ(s33:Z α×Int×Int)=>(bif decide (s33.2.2<(s33.1.length:Int))then((idx s33.1 s33.2.2).bind λx54=>(p1 x54).bind λx58=>(bif(!x58)then((idx s33.1 s33.2.1).bind λx63=>some (s33.1.set (Int.toNat s33.2.1) x54,wrap .i64<|s33.2.1+1))else some (s33.1,s33.2.1)).bind λs61=>some<|.nx (s61.1,s61.2,wrap .i64<|s33.2.2+1))else(some<|.br (s33.1,s33.2.1,s33.2.2)):aV (Fl (Z α×Int×Int) Empty))) N (p0,x31,wrap .i64<|x31+1)).bind λo67=>o67.cs (λ(s33:Z α×Int×Int)=>(ui s33.1 s33.2.1 (s33.1.length:Int)).bind λx64=>(ui (s33.1.take (Int.toNat s33.2.1)++List.replicate (s33.1.length - Int.toNat s33.2.1) z) 0 s33.2.1).bind λx65=>some x65)<|λr=>r.elim)
def Qj{z:α}{l:Z α}{φ:α->aV Bool}(p:α->Bool)(hφ:∀x∈l,φ x=some (p x))(hl:l.length<=4611686018427387000)(hN:l.length<N):VL z N l φ=some (l.filter<|λx=> !p x):=by
 unfold VL;rw[tB p (by omega) hφ,aA]
 rcases qD l p with⟨h1,h2⟩|⟨k,x,h1,h2,h3,h4⟩
 ·grind [List.filter_eq_self]
 ·rw[h1,show(((k:Nat):Int)== -1)=false by simp,aR];have hk:=(bP.1 h2).1;have hpre:(l.take k).filter (λx=> !p x)=l.take k:=List.filter_eq_self.2 λa ha=>by
   grind [dD,bP,cN,List.getElem?_take_of_lt]
  have hst:l.take (k+1)=l.take k++[x]:=by
   rw[dN hk];grind
  have hk1:wrap .i64 (((k:Nat):Int)+1)=((k+1:Nat):Int):=by grind [fC]
  rw[hk1];obtain⟨o,a1,a2⟩:=Bh (S:=Z α×Int×Int) (R:=Empty) (body:=λ(s33:Z α×Int×Int)=>(bif decide (s33.2.2<(s33.1.length:Int))then((idx s33.1 s33.2.2).bind λx54=>(φ x54).bind λx58=>(bif(!x58)then((idx s33.1 s33.2.1).bind λx63=>some (s33.1.set (Int.toNat s33.2.1) x54,wrap .i64<|s33.2.1+1))else some (s33.1,s33.2.1)).bind λs61=>some<|.nx (s61.1,s61.2,wrap .i64<|s33.2.2+1))else(some<|.br (s33.1,s33.2.1,s33.2.2)):aV (Fl (Z α×Int×Int) Empty)))
   (λs=>∃i j:Nat,s.2.1=((i:Nat):Int)/\s.2.2=((j:Nat):Int)/\i<j/\j<=l.length/\s.1.length=l.length/\s.1.take i=(l.take j).filter (λx=> !p x)/\∀m,j<=m->s.1[m]? =l[m]?)
   (λs=>l.length - s.2.2.toNat) (λs=>∃i:Nat,s.2.1=((i:Nat):Int)/\i<=l.length/\s.1.length=l.length/\s.1.take i=l.filter (λx=> !p x)) (λ_=>True) (λs⟨i,j,e1,e2,hij,hj,hlen,ht,hd⟩=>by
    obtain⟨s,a,b⟩:=s;dsimp only at e1 e2 hlen ht hd ⊢;subst e1;subst e2
    by_cases hlt:j<l.length
    ·rw[bS (by omega),aO];have hx:s[j]? =some l[j]:=by grind
     have w1:wrap .i64 (((j:Nat):Int)+1)=((j+1:Nat):Int):=by grind [fC]
     have w2:wrap .i64 (((i:Nat):Int)+1)=((i+1:Nat):Int):=by grind [fC]
     have hs2:l.take (j+1)=l.take j++[l[j]]:=dN hlt;rw[cK hx,aA,hφ _<|cP hlt,aA,w1]
     cases hp:p l[j]with
     |true=>
      refine⟨.nx (s,((i:Nat):Int),((j+1:Nat):Int)),by rfl,⟨i,j+1,rfl,rfl,by omega,by omega,hlen,?_,λm hm=>hd m (by omega)⟩,?_⟩
      ·grind
      grind
     |false=>
      refine⟨.nx (s.set i l[j],((i+1:Nat):Int),((j+1:Nat):Int)),by rw[qp,aO,kN _ _ (by omega),aA,dA,w2,aA],⟨i+1,j+1,rfl,rfl,by omega,by omega,by simp[hlen],?_,λm hm=>?_⟩,?_⟩
      ·rw[hs2,List.filter_append,<-ht];have:(s.set i l[j]).take (i+1)=s.take i++[l[j]]:=by
        rw[dN (by simp;omega),List.take_set_of_le<|cG _];simp
       rw[this];simp[hp]
      ·rw[mB,aK (by omega)];exact hd m (by omega)
      ·simp only[dA];omega
    ·rw[cF (by rw[hlen];omega),aR];have hje:j=l.length:=by omega
     subst hje;rw[dK]at ht
     exact⟨.br (s,((i:Nat):Int),((l.length:Nat):Int)),rfl,i,rfl,by omega,hlen,ht⟩)
   N (l,((k:Nat):Int),((k+1:Nat):Int)) ⟨k,k+1,rfl,rfl,by omega,by omega,rfl,by rw[hst,List.filter_append,hpre];simp[h3],λ_ _=>rfl⟩ (by simp only[dA];omega)
  rw[a1,aA]
  cases o with
  |rt r=>exact r.elim
  |go s=>
   obtain⟨i,e1,hi,hlen,ht⟩:=a2;obtain⟨s,a,b⟩:=s;dsimp only at e1 hlen ht;subst e1;simp only[Fo.cs];rw[q7 _ _ (by omega),aA,dA,nT _ _ (by simp;omega),aA,List.take_append_of_le_length (by simp;omega),List.take_take,Nat.min_self,ht]
end
section
variable {κ ν:Type}[DecidableEq κ]
theorem xN(m:Z (κ×ν))(k k':κ)(x z:ν):fP (pM m k x) k' z=if k'=k then x else fP m k' z:=by
 induction m with
 |nil=>grind [pM,fP]
 |cons p m ih=>
  grind [pM,fP,cF,bS]
theorem EK(m:Z (κ×ν))(k k':κ)(x:ν):k9 (pM m k x) k'=(decide (k'=k)||k9 m k'):=by
 induction m with
 |nil=>rfl
 |cons p m ih=>
  unfold pM
  grind [k9,cF,decide]
def rj(m:Z (κ×ν))(l:Z κ)(x:ν):Z (κ×ν):=l.foldl (λm k=>pM m k x) m
def yR(l:Z κ)(x z:ν)(k:κ):∀(m:Z (κ×ν)),fP (rj m l x) k z=if k∈l then x else fP m k z:=by
 induction l with
 |nil=>simp[rj]
 |cons a l ih=>
  intro m;show fP (rj (pM m a x) l x) k z=_
  grind [xN]
def MF(l:Z κ)(x:ν)(k:κ):∀(m:Z (κ×ν)),k9 (rj m l x) k=(decide (k∈l)||k9 m k):=by
 induction l with
 |nil=>simp[rj]
 |cons a l ih=>
  intro m;show k9 (rj (pM m a x) l x) k=_
  grind [EK]
def I0{l:Z κ}{m:Z (κ×ν)}(x:ν)(hl:l.length<=4611686018427387904):
  mc l.length (λ(k:Nat)(s:Z (κ×ν))=>((idx l ((k:Nat):Int)).bind λy=>some (pM s y x):aV (Z<|κ×ν))) m=some (rj m l x):=by
 rw[DF (s:=m) (λk=>rj m (l.take k) x) hl rfl (λk hk=>by
  grind [kN,aA,rj,dN]),dK]
end
section
variable {N:Nat}
def G7(l:Z Int)(a b:Nat)(h:a+b<l.length):Ml l ((a:Nat):Int) ((b:Nat):Int)=some l[a+b]:=by
 unfold Ml;rw[aG (by omega),show((a:Nat):Int)+((b:Nat):Int)=((a+b:Nat):Int)by omega,kN _ _ h]
def k6.Qk{l:Z Int}{a:Int}(h:k6 l)(hl:∀c∈l,c<a):k6 (l++[a]):=by
 grind [k6]
def k6.last{l:Z Int}{a:Int}(h:k6 l)(hl:l.getLast? =some a):∀c∈l,c<=a:=by
 intro c hc;have hs:=vJ hl;rw[hs]at h hc
 rcases dP.1 hc with h1|h1
 ·have:=(nD.1 h).2.2 c h1 a (by simp);omega
 grind
def JL{l:Z Int}(hs:l.Pairwise (λx y=>x<=y))(hl:l.length<=4611686018427387000)(hN:l.length<N):
  Ok (jl N l) (λm=>k6 m/\∀c,c∈m↔c∈l):=by
 unfold jl;refine YW (λh2=>V_ ⟨?_,λc=>Iff.rfl⟩)<|λh2=>?_
 ·have h2:=of_decide_eq_true h2
  match l,h2 with
  | [],_=>exact lf
  | [a],_=>exact List.pairwise_singleton _ _
  |a::b::l,h2=>grind
 ·have h2:=of_decide_eq_false h2;have le:∀(i j:Nat)(x y:Int),i<j->l[i]? =some x->l[j]? =some y->x<=y:=λi j x y hij hx hy=>by
   grind [og,bP]
  refine Ym (Zl (Go:=λ_=>k6 l) (Rt:=λm=>k6 m/\∀c,c∈m↔c∈l) (λs=>∃k:Nat,s=((k:Nat):Int)/\1<=k/\k<=l.length/\k6 (l.take k)) (λs=>l.length - s.toNat) ?_ ⟨1,rfl,cG _,by omega,?_⟩ (by simp;omega)) ?_
  ·rintro s⟨k,rfl,hk1,hkl,hinc⟩;refine YW (λh=>?_)<|λh=>YO ?_
   ·have hk:k<l.length:=by grind
    refine Zf hk ?_;rw[iv hk1 (by omega)];refine Zf (by omega) ?_;refine YW (λhe=>?_)<|λhe=>?_
    ·have he:l[k]=l[k - 1]:=by grind
     refine X_ (q7 l k hkl) ?_
     refine Ym (Zl (Go:=λs=>∃i:Nat,s.2.1=((i:Nat):Int)/\i<=l.length/\s.1.length=l.length/\k6 (s.1.take i)/\∀c,c∈s.1.take i↔c∈l) (Rt:=λ_=>True)
      (λs=>∃i j:Nat,s.2.1=((i:Nat):Int)/\s.2.2=((j:Nat):Int)/\1<=j/\k+j<=l.length/\i<=k+j - 1/\s.1.length=l.length/\k6 (s.1.take i)/\(s.1.take i).getLast? =l[k+j - 1]? /\
       (∀c,c∈s.1.take i↔c∈l.take (k+j))/\∀m,k+j - 1<=m->s.1[m]? =l[m]?) (λs=>l.length - s.2.2.toNat) ?_ ?_ (by simp;omega)) ?_
     ·rintro⟨u,a,b⟩⟨i,j,e1,e2,hj,hjl,hij,hlen,hi,hlast,hmem,hrest⟩;dsimp only at e1 e2 hlen hi hlast hmem hrest ⊢;subst e1;subst e2;rw[dA];refine YW (λh=>?_)<|λh=>YO ?_
      ·have hlt:k+j<l.length:=by have:=of_decide_eq_true h;omega
       have hx:u[k+j]'(by omega)=l[k+j]:=by have:=hrest (k+j) (by omega);rw[aM (by omega),aM hlt]at this;injection this
       have hy:u[k+(j - 1)]'(by omega)=l[k+(j - 1)]:=by have:=hrest (k+(j - 1)) (by omega);rw[aM (by omega),aM (by omega)]at this;injection this
       refine X_ (G7 u k j (by omega)) ?_;rw[iv hj (by omega)];refine X_ (G7 u k (j - 1) (by omega)) ?_;rw[hx,hy];have hts:l.take (k+j+1)=l.take (k+j)++[l[k+j]]:=dN hlt;have hlast':(u.take i).getLast? =some l[k+(j - 1)]:=by rw[hlast,show k+j - 1=k+(j - 1)by omega,aM (by omega)]
       have hxy:l[k+(j - 1)]<=l[k+j]:=le (k+(j - 1)) (k+j) _ _ (by omega) (aM _)<|aM _
       refine Ym (P:=λs'=>s'.1.length=l.length/\∃i':Nat,s'.2=((i':Nat):Int)/\i'<=k+j/\k6 (s'.1.take i')/\(s'.1.take i').getLast? =l[k+j]? /\(∀c,c∈s'.1.take i'↔c∈l.take (k+j+1))/\∀m,k+j<=m->s'.1[m]? =l[m]?) ?_ ?_
       ·refine YW (λhne=>?_)<|λhne=>V_ ?_
        ·have hne:l[k+j]≠l[k+(j - 1)]:=by simpa using hne
         refine X_ (G7 u k j (by omega)) ?_;rw[hx];refine Zf (by omega)<|V_ ⟨by simp[hlen],i+1,?_,by omega,?_⟩
         ·rw[bR (by omega)]
         ·dsimp only;rw[dA];have ht:(u.set i l[k+j]).take (i+1)=u.take i++[l[k+j]]:=by
           rw[dN (by simp;omega),List.take_set_of_le<|cG _];simp
          rw[ht];refine⟨hi.Qk λc hc=>?_,by simp[aM hlt],λc=>?_,λm hm=>?_⟩
          ·have:=hi.last hlast' c hc;omega
          ·rw[hts,dP,dP,hmem]
          ·rw[mB,aK (by omega)];exact hrest m (by omega)
        ·have he:l[k+j]=l[k+(j - 1)]:=by simpa using hne
         refine⟨hlen,i,rfl,by omega,hi,?_,λc=>?_,λm hm=>hrest m (by omega)⟩
         ·dsimp only;rw[hlast',aM hlt,he]
         ·rw[hts,dP,<-hmem];constructor
          ·exact .inl
          ·rintro(h|h)
           ·exact h
           ·simp at h;subst h;rw[he];exact List.mem_of_getLast? hlast'
       ·rintro⟨v,a⟩⟨g1,i',g2,g3,g4,g5,g6,g7⟩;dsimp only at g1 g2 g4 g5 g6 g7 ⊢;refine YK ⟨⟨i',j+1,g2,?_,by omega,by omega,by omega,g1,g4,?_,g6,λm hm=>g7 m (by omega)⟩,?_⟩
        ·rw[bR (by omega)]
        ·rw[show k+(j+1) - 1=k+j by omega];exact g5
        ·rw[bR (by omega)];simp only[dA];omega
      ·have hge:k+j=l.length:=by have:=of_decide_eq_false h;omega
       refine⟨i,rfl,by omega,hlen,hi,λc=>?_⟩;rw[hmem,hge,dK]
     ·refine⟨k,1,rfl,rfl,cG _,by omega,by omega,rfl,hinc,?_,λc=>?_,λm _=>rfl⟩
      ·dsimp only;rw[show k+1 - 1=k by omega,aM hk,he,List.getLast?_eq_getElem?,cN,Nat.min_eq_left hkl,List.getElem?_take_of_lt (by omega),aM (by omega)]
      ·dsimp only;rw[dN hk,dP];constructor
       ·exact .inl
       ·rintro(h|h)
        ·exact h
        ·simp at h;subst h;rw[he];refine dT (i:=k - 1) ?_;rw[List.getElem?_take_of_lt (by omega),aM (by omega)]
     ·rintro o ho;refine YS ho ?_<|λr=>r.elim
      rintro⟨u,a,b⟩⟨i,e1,hi,hlen,hinc',hmem⟩;dsimp only at e1 hlen hinc' hmem ⊢;subst e1;refine X_ (q7 u i (by omega)) ?_;rw[dA];refine X_ (nT _ i (by simp;omega))<|Zg ?_
      rw[List.take_append_of_le_length (by simp;omega),List.take_take,Nat.min_self];exact⟨hinc',hmem⟩
    ·have he:l[k]≠l[k - 1]:=by simpa using he
     refine YK ⟨⟨k+1,by rw[bR (by omega)],by omega,by omega,?_⟩,by rw[bR (by omega)];simp only[dA];omega⟩;rw[dN hk];refine hinc.Qk λc hc=>?_;have hlast:(l.take k).getLast? =some l[k - 1]:=by
      rw[List.getLast?_eq_getElem?,cN,Nat.min_eq_left hkl,List.getElem?_take_of_lt (by omega),aM (by omega)]
     have h3:=hinc.last hlast c hc;have h4:=le (k - 1) k _ _ (by omega) (aM (by omega:k - 1<l.length))<|aM hk
     omega
   ·have hge:k=l.length:=by have:=of_decide_eq_false h;omega
    subst hge;rw[dK]at hinc;exact hinc
  ·match l,h2 with
   | [],h2=>simp at h2
   |a::l,_=>exact List.pairwise_singleton _ _
  ·rintro o ho;exact YS ho (λs h=>V_ ⟨h,λc=>Iff.rfl⟩)<|λr h=>V_ h
def xO(l:Z aJ):Z Int:=l.flatMap λr=>[r.X0,r.X1]
def kQ(l:Z aJ):Z Int:=l.flatMap λr=>[r.Y0,r.Y1]
def xP{l:Z aJ}{c:Int}:c∈xO l↔∃r∈l,c=r.X0\/c=r.X1:=by simp[xO,List.mem_flatMap]
theorem qd{l:Z aJ}{c:Int}:c∈kQ l↔∃r∈l,c=r.Y0\/c=r.Y1:=by simp[kQ,List.mem_flatMap]
theorem vK(l:Z aJ):(xO l).length=2*l.length:=by
 induction l with
 |nil=>rfl
 |cons r l ih=>grind [xO]
theorem oL(l:Z aJ):(kQ l).length=2*l.length:=by
 induction l with
 |nil=>rfl
 |cons r l ih=>grind [kQ]
def C5(X Y:Z Int)(s:Z Bd):Prop:=∀b∈s,b.y0∈Y/\b.y1∈Y/\∀c∈b.xs,c∈X
def C5.push{X Y:Z Int}{s:Z Bd}{b:Bd}(h:C5 X Y s)(h0:b.y0∈Y)(h1:b.y1∈Y)(h2:∀c∈b.xs,c∈X):C5 X Y (lA s b):=by
 intro c hc;unfold lA at hc;split at hc
 ·exact h c hc
 ·split at hc
  ·rename_i d hd;have hdm:d∈s:=List.mem_of_getLast? hd;split at hc
   ·rcases dP.1 hc with hc|hc
    ·exact h c<|List.dropLast_subset _ hc
    ·simp at hc;subst hc;exact⟨(h d hdm).1,h1,(h d hdm).2.2⟩
   ·rcases dP.1 hc with hc|hc
    ·exact h c hc
    grind
  grind
def k6.nodup{l:Z Int}(h:k6 l):l.Nodup:=List.Pairwise.imp (λh=>by omega) h
def C5.row{X Y:Z Int}{s:Z Bd}(h:C5 X Y s)(hc:fT s){b:Bd}(hb:b∈s):b.xs.length<=X.length:=gS (hc.each b hb).2.2.1.nodup (h b hb).2.2
def C5.len{X Y:Z Int}{s:Z Bd}(h:C5 X Y s)(hc:fT s):s.length<=Y.length:=by
 have hn:(s.map Bd.y0).Nodup:=by
  unfold List.Nodup;rw[List.pairwise_map];refine List.Pairwise.imp_of_mem (λ{a b}ha hb hab=>?_) hc.ord;have:=(hc.each a ha).1;omega
 have:=gS hn (m:=Y) (λx hx=>by
  obtain⟨b,hb,rfl⟩:=dU.1 hx
  exact(h b hb).1)
 grind
def C5.mono{X Y X' Y':Z Int}{s:Z Bd}(h:C5 X Y s)(hx:∀c∈X,c∈X')(hy:∀c∈Y,c∈Y'):C5 X' Y' s:=λb hb=>⟨hy _ (h b hb).1,hy _ (h b hb).2.1,λc hc=>hx c<|(h b hb).2.2 c hc⟩
def Oo(s:Z Bd)(b:Bd):(lA s b).length<=s.length+1:=by
 grind [lA,vJ]
def k6.lt{l:Z Int}(h:k6 l){i j:Nat}{x y:Int}(hij:i<j)(hx:l[i]? =some x)(hy:l[j]? =some y):x<y:=by
 have:=og.1 h i j (bP.1 hx).1 (bP.1 hy).1 hij
 grind
def k6.next{l:Z Int}(h:k6 l){k:Nat}{x y c:Int}(hx:l[k]? =some x)(hy:l[k+1]? =some y)(hc:c∈l)(hxc:x<c):y<=c:=by
 obtain⟨j,hj⟩:=dD hc
 rcases Nat.lt_trichotomy j (k+1)with h1|h1|h1
 ·exfalso
  by_cases e:j=k
  ·grind
  ·have:=h.lt (show j<k by omega) hj hx;omega
 ·grind
 ·have:=h.lt h1 hy hj;omega
def CS{l:Z aJ}{φ:aJ->aV Bool}(p:aJ->Bool)(hφ:∀x∈l,φ x=some (p x))(hl:l.length<=4611686018427387000)(hN:l.length<N):j4 N l φ=some (l.filter<|λx=> !p x):=
 Qj (z:=(⟨0,0,0,0⟩:aJ)) p hφ hl hN
def Io{l:Z aJ}(hl:l.length<=268435456):lq N l=some l:=by
 grind [lq,j6,aA]
structure VM (l m:Z aJ) (ys:Z Int) (k:Nat) (out:Z aB) (now:Z aJ) (nx:Nat):Prop where
 can:fT (out.map cO)
 top:∀c∈out,∀y,ys[k]? =some y->c.Y1<=y
 cover:∀x y,zU (out.map cO) x y=(xJ l x y&&decide (∀a,ys[k]? =some a->y<a))
 lim:C5 (xO l) (kQ l) (out.map cO)
 Yc:∀r∈now,r∈m.take nx
 Yd:∀r∈m.take nx,∀y,ys[k]? =some y->y<r.Y1->r∈now
 len:now.length<=nx
 XE:nx<=m.length
 rest:∀(j:Nat)r y,nx<=j->m[j]? =some r->ys[k]? =some y->y<=r.Y0
 low:∀r∈now,∀y,ys[k]? =some y->r.Y0<=y
def RS{l m:Z aJ}(h:∀r,r∈l↔r∈m)(x y:Int):xJ l x y=xJ m x y:=by
 grind [lX]
structure xQ (l:Z aJ) (s:Z aB):Prop where
 can:fT (s.map cO)
 cover:∀x y,zU (s.map cO) x y=xJ l x y
 lim:C5 (xO l) (kQ l) (s.map cO)
def tq{l:Z aJ}(hl:l.length<=134217728)(hok:∀r∈l,H3 r)(hN:4294967296<=N):Ok (jy N l) (xQ l):=by
 unfold jy;refine X_ (Io (by omega)) ?_
 obtain⟨m,h1,h2,h3⟩:=DV (φ:=mh N) (l:=l) (λa b=>a.Y0 - b.Y0) (λa ha b hb=>by
  unfold mh;rw[wrap_small (hok a ha).s3 (hok b hb).s3]) (λa _=>by omega) (λa _ b _ c _ h1 h2=>by omega) (λa _ b _ c _ h1 h2=>by omega) (by omega)
 refine X_ h1 ?_;have hml:m.length=l.length:=h2.length_eq;have hmem:∀r,r∈m↔r∈l:=λr=>h2.mem_iff;refine Ym (Zk (λk s=>s=kQ (m.take k)) (by omega) rfl<|λk s hk e=>?_) ?_
 ·grind [Zf,Y2,V_,oL,dN,kQ]
 rintro s rfl;rw[dK];have hgs:z7 (kQ m)=some ((kQ m).mergeSort<|λx y=>decide<|x<=y):=by grind [z7,oL]
 refine X_ hgs ?_;have hsp:((kQ m).mergeSort<|λx y=>decide<|x<=y).Pairwise (λx y=>x<=y):=by
  grind [List.pairwise_mergeSort,decide,kQ,List.Pairwise.imp]
 have hsm:∀c,c∈(kQ m).mergeSort (λx y=>decide<|x<=y)↔c∈kQ m:=λc=>List.mem_mergeSort;have hsl:((kQ m).mergeSort<|λx y=>decide<|x<=y).length=2*m.length:=by rw[List.length_mergeSort,oL]
 generalize (kQ m).mergeSort (λx y=>decide<|x<=y)=sy at hsp hsm hsl;refine Ym (JL (N:=N) hsp (by omega) (by omega)) ?_;rintro ys⟨hy,hym⟩;have hyl:ys.length<=2*m.length:=by
  have:=gS hy.nodup (m:=sy)<|λc hc=>(hym c).1 hc
  omega
 have y0m:∀r∈m,r.Y0∈ys:=λr hr=>(hym _).2<|(hsm _).2<|qd.2 ⟨r,hr, .inl rfl⟩
 have y1m:∀r∈m,r.Y1∈ys:=λr hr=>(hym _).2<|(hsm _).2<|qd.2 ⟨r,hr, .inr rfl⟩
 have yml:∀c∈ys,c∈kQ l:=λc hc=>by
  grind [qd]
 refine Ym (Zl (Go:=λs=>xQ l s.1) (Rt:=λ_=>True) (λs=>∃k nx:Nat,s.2.2.2=((k:Nat):Int)/\s.2.2.1=((nx:Nat):Int)/\(k<ys.length\/k=0)/\VM l m ys k s.1 s.2.1 nx) (λs=>ys.length - s.2.2.2.toNat) ?_ ?_ (by simp;omega)) ?_
 ·rintro⟨out,now,a,b⟩⟨k,nx,e1,e2,hk,I⟩;dsimp only at e1 e2 I ⊢;subst e1;subst e2;rw[bR (by omega)];refine YW (λh=>?_)<|λh=>YO ?_
  ·have hk1:k+1<ys.length:=by grind
   have hyk:ys[k]? =some ys[k]:=aM _;have hyk1:ys[k+1]? =some ys[k+1]:=aM hk1;have hlt:=hy.lt (Nat.lt_succ_self k) hyk hyk1;have hcov:=I.cover;simp only[hyk,Option.some.injEq,forall_eq']at hcov;refine X_ (CS (λr=>decide<|r.Y1<=ys[k]) (λr _=>by grind [r9,kN,aA]) (by have:=I.len;have:=I.XE;omega) (by have:=I.len;have:=I.XE;omega)) ?_;have hfl:=iW (λr:aJ=> !decide (r.Y1<=ys[k])) now;have hIl:=I.len;have hIn:=I.XE
   refine Ym (Zl (Go:=λs=>∃nx':Nat,s.2=((nx':Nat):Int)/\nx'<=m.length/\s.1.length<=nx'/\(∀r∈s.1,r∈m.take nx')/\(∀r∈m.take nx',ys[k]<r.Y1->r∈s.1)/\(∀r∈s.1,r.Y0<=ys[k]/\ys[k]<r.Y1)/\(∀(j:Nat)r,nx'<=j->m[j]? =some r->ys[k]<r.Y0)) (Rt:=λ_=>True)
    (λs=>∃nx':Nat,s.2=((nx':Nat):Int)/\nx<=nx'/\nx'<=m.length/\s.1.length<=nx'/\(∀r∈s.1,r∈m.take nx')/\(∀r∈m.take nx',ys[k]<r.Y1->r∈s.1)/\(∀r∈s.1,r.Y0<=ys[k]/\ys[k]<r.Y1)) (λs=>m.length - s.2.toNat) ?_ ?_ (by simp;omega)) ?_
   ·rintro⟨nw,b⟩⟨nx',e1,g0,g1,g2,g3,g4,g5⟩;dsimp only at e1 g2 g3 g4 g5 ⊢;subst e1;refine Ym (P:=λb=>b=true↔∃h:nx'<m.length,m[nx'].Y0<=ys[k]) ?_ ?_
    ·refine YW (λh=>?_)<|λh=>V_ ?_
     ·have hlt:nx'<m.length:=by have:=of_decide_eq_true h;omega
      refine Zf hlt<|Zf (by omega)<|V_ ?_
      rw[cZ];exact⟨λh=>⟨hlt,h⟩,λ⟨_,h⟩=>h⟩
     ·have:=of_decide_eq_false h;constructor
      ·intro h;cases h
      ·rintro⟨h,_⟩;omega
    ·intro bb hbb;refine YW (λh=>?_)<|λh=>YO ?_
     ·obtain⟨hlt,h0⟩:=hbb.1 h;have hts:m.take (nx'+1)=m.take nx'++[m[nx']]:=dN hlt;refine Zf hlt<|Y2 (by simp;omega)<|YK ⟨⟨nx'+1,by rw[bR (by omega)],by omega,by omega,by simp;omega,λr hr=>?_,λr hr hr2=>?_,λr hr=>?_⟩,by rw[bR (by omega)];simp only[dA];omega⟩
      ·rw[hts]
       rcases dP.1 hr with h|h
       ·exact List.mem_append_left _<|g3 r h
       ·exact List.mem_append_right _ h
      ·rw[hts]at hr
       rcases dP.1 hr with h|h
       ·exact List.mem_append_left _<|g4 r h hr2
       ·exact List.mem_append_right _ h
      ·rcases dP.1 hr with h|h
       ·exact g5 r h
       ·simp at h;subst h;refine⟨h0,?_⟩;have:=(hok m[nx']<|(hmem _).1<|cP hlt).y;have:=I.rest nx' _ ys[k] g0 (aM hlt) hyk;omega
     ·refine⟨nx',rfl,g1,g2,g3,g4,g5,λj r hj hr=>?_⟩;have hjl:=(bP.1 hr).1;have hlt:nx'<m.length:=by omega
      have h0:¬m[nx'].Y0<=ys[k]:=λh0=>by rw[hbb.2 ⟨hlt,h0⟩]at h;cases h
      by_cases e:nx'=j
      ·subst e;rw[aM hlt]at hr;injection hr with hr;subst hr;omega
      ·have:=og.1 h3 nx' j hlt hjl (by omega);have hr':=(bP.1 hr).2;rw[hr']at this;omega
   ·refine⟨nx,rfl,cG _,hIn,by dsimp only;omega,λr hr=>I.Yc r (nC.1 hr).1,λr hr h=>nC.2 ⟨I.Yd r hr ys[k] hyk h,by simpa using h⟩,λr hr=>?_⟩;have hr:=nC.1 hr;have hr2:ys[k]<r.Y1:=by simpa using hr.2
    exact⟨I.low r hr.1 ys[k] hyk,hr2⟩
   ·rintro o ho;refine YS ho ?_<|λr=>r.elim
    rintro⟨nw,b⟩⟨nx',e1,g1,g2,g3,g4,g5,g6⟩;dsimp only at e1 g2 g3 g4 g5 ⊢;subst e1;refine Zf (by omega)<|Zf hk1 ?_
    have hnm:∀r∈nw,r∈l:=λr hr=>(hmem r).1<|List.take_subset _ _<|g3 r hr
    obtain⟨row,nw',s1,s2,s3,s4,s5,s6,s7⟩:=JI (N:=N) (l:=nw) (by omega)<|λr hr=>hok r<|hnm r hr
    refine X_ s1 ?_;have hlimx:∀c∈row,c∈xO l:=λc hc=>by
     obtain⟨r,hr,h⟩:=s7 c hc;exact xP.2 ⟨r,hnm r hr,h⟩
    have hol:out.length<=2*l.length:=by have:=I.lim.len I.can;rw[oL,dQ]at this;exact this
    have hox:∀c∈out,c.Xs.length<=2*l.length:=λc hc=>by
     have:=I.lim.row I.can (b:=cO c)<|dU.2 ⟨c,hc,rfl⟩
     rw[vK]at this;exact this
    obtain⟨out',p1,p2⟩:=NJ (N:=N) (s:=out) (b:=⟨ys[k],ys[k+1],row⟩) (by omega) (λc hc=>by have:=hox c hc;omega);refine X_ p1 ?_;have htop:∀c∈out.map cO,c.y1<=(cO ⟨ys[k],ys[k+1],row⟩).y0:=λc hc=>by
     obtain⟨d,hd,rfl⟩:=dU.1 hc;exact I.top d hd ys[k] hyk
    have hcan:=Bm I.can htop s3 s4;refine YK ⟨⟨k+1,nx',rfl,rfl, .inl hk1,⟨by dsimp only;rw[p2];exact hcan,λc hc y hy1=>?_,λx y=>?_,?_,λr hr=>g3 r<|s2.subset hr,λr hr y hy1 h=>?_,by rw[s2.length_eq];exact g2,g1,λj r y hj hr hy1=>?_,λr hr y hy1=>?_⟩⟩,by simp only[dA];omega⟩
    ·rw[hyk1]at hy1;injection hy1 with hy1;subst hy1
     have hm':cO c∈lA (out.map cO) (cO ⟨ys[k],ys[k+1],row⟩):=by rw[<-p2];exact dU.2 ⟨c,hc,rfl⟩
     exact Bn htop (by show ys[k]<=ys[k+1];omega) _ hm'
    ·simp only[hyk1,Option.some.injEq,forall_eq'];unfold zU;rw[p2,Bl htop (λc hc=>(I.can.each c hc).1)<|λh=>absurd h (by show ¬ys[k+1]<=ys[k];omega)]
     by_cases hyy:ys[k]<=y/\y<ys[k+1]
     ·rw[aG (show(cO ⟨ys[k],ys[k+1],row⟩).y0<=y/\y<(cO ⟨ys[k],ys[k+1],row⟩).y1 from hyy),bS hyy.2,Bool.and_true];show sZ row x=_;rw[s5,fY,G5,lX];constructor
      ·rintro⟨r,hr,h⟩;have hrm:=List.take_subset _ _<|g3 r hr
       have h5:=g5 r hr;have:=hy.next hyk hyk1 (y1m r hrm) h5.2;exact⟨r,hnm r hr,h,by omega,by omega⟩
      ·rintro⟨r,hr,h,h7,h8⟩;have hrm:=(hmem r).2 hr;have h9:r.Y0<=ys[k]:=by
        by_cases h10:r.Y0<=ys[k]
        ·exact h10
        ·have:=hy.next hyk hyk1 (y0m r hrm) (by omega);omega
       have h11:r∈m.take nx':=by
        obtain⟨j,hj⟩:=dD hrm
        by_cases h12:j<nx'
        ·exact dT (i:=j) (by rw[List.getElem?_take_of_lt h12];exact hj)
        ·have:=g6 j r (by omega) hj;omega
       exact⟨r,g4 r h11 (by omega),h⟩
     ·rw[aK (show ¬((cO ⟨ys[k],ys[k+1],row⟩).y0<=y/\y<(cO ⟨ys[k],ys[k+1],row⟩).y1)from hyy)];show zU (out.map cO) x y=_;rw[hcov]
      by_cases h1:y<ys[k]
      ·rw[bS h1,bS (show y<ys[k+1]by omega)]
      ·rw[cF h1,cF (show ¬y<ys[k+1]by omega)]
    ·show C5 (xO l) (kQ l) (out'.map cO);rw[p2];exact I.lim.push (yml _<|cP _) (yml _<|cP _) hlimx
    ·rw[hyk1]at hy1;injection hy1 with hy1;subst hy1
     exact s2.symm.subset<|g4 r hr (by omega)
    ·rw[hyk1]at hy1;injection hy1 with hy1;subst hy1
     exact hy.next hyk hyk1 (y0m r<|dT hr)<|g6 j r hj hr
    ·rw[hyk1]at hy1;injection hy1 with hy1;subst hy1
     have:=(g5 r<|s2.subset hr).1;omega
  ·have hge:¬k+1<ys.length:=by have:=of_decide_eq_false h;omega
   refine⟨I.can,λx y=>?_,I.lim⟩;rw[I.cover]
   by_cases hyn:ys= []
   ·have:xJ l x y=false:=by
     rw[<-iM,lX];rintro⟨r,hr,_⟩;have:=y0m r<|(hmem r).2 hr
     rw[hyn]at this;cases this
    rw[this];rfl
   ·have hkl:k<ys.length:=by
     rcases hk with h|h
     ·exact h
     ·subst h;exact List.length_pos_iff.2 hyn
    rw[aM hkl];simp only[Option.some.injEq,forall_eq']
    cases hc:xJ l x y with
    |false=>rfl
    |true=>
     obtain⟨r,hr,_,h7,h8⟩:=lX.1 hc;have:=y1m r<|(hmem r).2 hr
     obtain⟨j,hj⟩:=dD this;have hjl:=(bP.1 hj).1;have:r.Y1<=ys[k]:=by
      by_cases e:j=k
      ·subst e;rw[aM hkl]at hj;injection hj with hj;omega
      ·have:=hy.lt (show j<k by omega) hj<|aM hkl;omega
     rw[bS (show y<ys[k]by omega)];rfl
 ·refine⟨0,0,rfl,rfl, .inr rfl,?_⟩;show VM l m ys 0 [] [] 0;refine⟨fT.nil,λc hc=>(by cases hc),λx y=>?_,λb hb=>(by cases hb),λr hr=>(by cases hr),λr hr=>(by rw[List.take_zero]at hr;cases hr),cG _,dH _,λj r y _ hr hy0=>?_,λr hr=>(by cases hr)⟩
  ·show false=_;symm;rw[Bool.and_eq_false_iff]
   cases hc:xJ l x y with
   |false=>exact .inl rfl
   |true=>
    right;obtain⟨r,hr,_,h7,h8⟩:=lX.1 hc;have hr0:=y0m r<|(hmem r).2 hr
    have hpos:0<ys.length:=List.length_pos_of_mem hr0;rw[decide_eq_false_iff_not];intro h;have h:=h ys[0]<|aM hpos
    obtain⟨j,hj⟩:=dD hr0
    by_cases e:j=0
    ·subst e;rw[aM hpos]at hj;injection hj with hj;omega
    ·have:=hy.lt (show 0<j by omega) (aM hpos) hj;omega
  ·obtain⟨j',hj'⟩:=dD<|y0m r<|dT hr
   by_cases e:j'=0
   ·subst e;rw[hy0]at hj';injection hj' with hj';omega
   ·have:=hy.lt (show 0<j' by omega) hy0 hj';omega
 ·rintro o ho;refine YS ho (λs h=>V_ h)<|λr=>r.elim
end
section
variable {N:Nat}
def G8:Z Int->Z (Int×Int)
 |a::b::l=>(a,b)::G8 l
 |_=>[]
theorem Ga:∀(xs:Z Int),(G8 xs).length=xs.length / 2
 | []=>rfl
 | [a]=>by simp[G8]
 |a::b::l=>by unfold G8;rw[dO,Ga l];simp only[dO];omega
theorem D0:∀(xs:Z Int)(j:Nat)(h:2*j+1<xs.length),(G8 xs)[j]? =some (xs[2*j],xs[2*j+1])
 | [],j,h=>by simp at h
 | [a],j,h=>by simp at h
 |a::b::l,0,h=>rfl
 |a::b::l,j+1,h=>by
  have:=D0 l j (by grind);unfold G8;rw[List.getElem?_cons_succ,this];have e1:(a::b::l)[2*(j+1)]=l[2*j]'(by grind):=by simp[show 2*(j+1)=2*j+1+1 by omega]
  have e2:(a::b::l)[2*(j+1)+1]=l[2*j+1]'(by grind):=by simp[show 2*(j+1)+1=2*j+1+1+1 by omega]
  rw[e1,e2]
theorem G9:∀{xs:Z Int},xs.length % 2=0->dV (G8 xs)=xs
 | [],_=>rfl
 | [a],h=>by simp at h
 |a::b::l,h=>by unfold G8;rw[lH,G9 (by grind)]
def RT{xs:Z Int}(h:k6 xs)(he:xs.length % 2=0)(x:Int):sZ xs x=kP (G8 xs) x:=by
 grind [xL,G8,G9]
def JM{xs:Z Int}:∀p∈G8 xs,p.1∈xs/\p.2∈xs:=by
 grind [dD,bP,Ga,D0,cP]
def MG{xs:Z Int}(h:k6 xs):∀p∈G8 xs,p.1<p.2:=by
 intro p hp;obtain⟨j,hj⟩:=dD hp;have hjl:=(bP.1 hj).1;rw[Ga]at hjl;rw[D0 xs j (by omega)]at hj;injection hj with hj;subst hj
 exact h.lt (show 2*j<2*j+1 by omega) (aM _)<|aM _
def qe(b:aB):Z aJ:=(G8 b.Xs).map λp=>⟨p.1,b.Y0,p.2,b.Y1⟩
def bF(s:Z aB):Z aJ:=s.flatMap qe
theorem qf(b:aB)(s:Z aB):bF (b::s)=qe b++bF s:=rfl
theorem tr(b:aB):(qe b).length=b.Xs.length / 2:=by simp[qe,dQ,Ga]
theorem rk(s t:Z aB):bF (s++t)=bF s++bF t:=List.flatMap_append
theorem EL(s:Z aB)(k:Nat):(bF<|s.take k).length<=(bF s).length:=by
 grind [List.take_append_drop,rk,dC]
def Ha{s:Z aB}{A B:Nat}(h1:s.length<=A)(h2:∀b∈s,b.Xs.length<=B):(bF s).length<=A*B:=by
 induction s generalizing A with
 |nil=>simp[bF]
 |cons b s ih=>
  rw[qf,dC,tr];simp at h1;obtain⟨A',rfl⟩:∃A',A=A'+1:=⟨A - 1,by omega⟩
  grind
def Hb{s:Z aB}(he:∀b∈s,b.Xs.length % 2=0)(h1:s.length<=1099511627776)(h2:∀b∈s,b.Xs.length<=1099511627776/\b.Xs.length<N)(h3:(bF s).length<=1099511627776):lG N s=some (bF s):=by
 refine Y9 ?_;unfold lG;refine Ym (Zk (λk t=>t=bF (s.take k)) (by omega) rfl<|λk t hk e=>?_)<|λt e=>V_ (by rw[e,dK])
 subst e;refine Zf hk ?_;have hm:=cP hk;generalize hb:s[k]=b at hm ⊢;have heb:=he b hm;have hbl:=h2 b hm;have hts:bF (s.take<|k+1)=bF (s.take k)++qe b:=by
  grind [dN,rk,bF]
 have hle:=EL s<|k+1
 rw[hts,dC,tr]at hle;refine Ym (Zl (Go:=λs'=>s'.1=bF (s.take<|k+1)) (Rt:=λ_=>True) (λs'=>∃j:Nat,s'.2=((2*j:Nat):Int)/\2*j<=b.Xs.length/\s'.1=bF (s.take k)++(qe b).take j) (λs'=>b.Xs.length - s'.2.toNat) ?_ ⟨0,rfl,by omega,by simp⟩ (by simp;omega)) ?_
 ·rintro⟨acc,i⟩⟨j,e1,hj,e2⟩;dsimp only at e1 e2 ⊢;subst e1;subst e2;refine YW (λh=>?_)<|λh=>YO ?_
  ·have hlt:2*j+1<b.Xs.length:=by grind
   refine Zf (by omega) ?_;rw[bR (by omega)];refine Zf hlt<|Y2 ?_<|YK ⟨⟨j+1,?_,by omega,?_⟩,?_⟩
   ·grind
   ·rw[IZ (by omega)];congr 1
   ·rw[kK];congr 1;have hg:(qe b)[j]? =some ⟨b.Xs[2*j],b.Y0,b.Xs[2*j+1],b.Y1⟩:=by
     grind [qe,D0]
    have hjl:=(bP.1 hg).1;rw[dN hjl,(bP.1 hg).2]
   ·rw[IZ (by omega)];simp only[dA];omega
  ·have hge:2*j=b.Xs.length:=by have:=of_decide_eq_false h;omega
   show bF (s.take k)++(qe b).take j=_;rw[hts,oe (l:=qe b) (by rw[tr];omega)]
 ·rintro o ho;exact YS ho (λs' h=>V_ h)<|λr=>r.elim
def RU{s:Z aB}(h1:s.length<=1099511627776)(h2:∀b∈s,b.Xs.length<=1099511627776)(h3:(bF s).length<=1099511627776):pP N s=some (((bF s).length:Nat):Int):=by
 refine Y9 ?_;unfold pP;refine Ym (Zk (λk t=>t=(((bF<|s.take k).length:Nat):Int)) (by omega) rfl<|λk t hk e=>?_)<|λt e=>V_ (by rw[e,dK])
 subst e;refine Zf hk<|V_ ?_
 have hm:=cP hk;have hbl:=h2 _ hm;have hts:bF (s.take<|k+1)=bF (s.take k)++qe s[k]:=by
  grind [dN,rk,bF]
 grind [hle,EL,dC,tr,Int.tdiv,Int.ofNat_tdiv,Lb,wrap_add]
def MH(l m:Z aJ)(x y:Int):xJ (l++m) x y=(xJ l x y||xJ m x y):=List.any_append
def Ql{b:aB}(h:k6 b.Xs)(he:b.Xs.length % 2=0)(x y:Int):xJ (qe b) x y=(sZ b.Xs x&&(decide (b.Y0<=y)&&decide (y<b.Y1))):=by
 rw[RT h he,fY,lX,dB,xK,dB,cZ,cZ];unfold qe;constructor
 ·grind
 ·rintro⟨⟨p,hp,h1⟩,h2⟩;exact⟨_,dU.2 ⟨p,hp,rfl⟩,h1,h2⟩
theorem tt:∀{s:Z aB},fT (s.map cO)->∀x y,xJ (bF s) x y=zU (s.map cO) x y
 | [],_,x,y=>rfl
 |b::s,h,x,y=>by
  rw[qf,MH,tt h.tail x y];have hb:=h.each (cO b) (by simp);rw[Ql hb.2.2.1 hb.2.2.2];unfold zU;rw[fI,p9]
  by_cases hy:b.Y0<=y/\y<b.Y1
  ·rw[aG (show(cO b).y0<=y/\y<(cO b).y1 from hy),oy<|λc hc=> .inl (by have:=h.G3 c hc;grind [cO]),bS hy.1,bS hy.2];show(sZ b.Xs x&&true||false)=sZ b.Xs x;simp
  ·rw[aK (show ¬((cO b).y0<=y/\y<(cO b).y1)from hy)];have:(decide (b.Y0<=y)&&decide (y<b.Y1))=false:=by rw[Bool.and_eq_false_iff,decide_eq_false_iff_not,decide_eq_false_iff_not];omega
   rw[this];simp
def u7{s:Z aB}{r:aJ}(h:r∈bF s):∃b∈s,∃p∈G8 b.Xs,r= ⟨p.1,b.Y0,p.2,b.Y1⟩:=by
 unfold bF qe at h
 grind
def Hc{s:Z aB}{X Y:Z Int}(h:fT (s.map cO))(hl:C5 X Y (s.map cO))(hx:∀c∈X,small c)(hy:∀c∈Y,small c):∀r∈bF s,H3 r/\(r.X0∈X/\r.X1∈X)/\r.Y0∈Y/\r.Y1∈Y:=by
 intro r hr;obtain⟨b,hb,p,hp,rfl⟩:=u7 hr;have hm:cO b∈s.map cO:=dU.2 ⟨b,hb,rfl⟩;have hc:=h.each _ hm;have hll:=hl _ hm;have h1:=JM p hp;have h2:=hll.2.2 p.1 h1.1;have h3:=hll.2.2 p.2 h1.2;exact⟨⟨MG hc.2.2.1 p hp,hc.1,hx _ h2,hx _ h3,hy _ hll.1,hy _ hll.2.1⟩,⟨h2,h3⟩,hll.1,hll.2.1⟩
def CT{l:Z Int}{x:Int}(h:∀c∈l,c<=x):sZ l x=(l.length % 2==1):=by grind [sZ,NH]
theorem EM{l:Z Int}{a x:Int}(h:x<a):sZ (l++[a]) x=sZ l x:=by grind [sZ,GZ,tV,NG]
def Oq(l:Z Int):Bool:=l.length % 2==1
theorem Hd(l:Z Int)(a:Int):Oq (l++[a]) = !Oq l:=by
 unfold Oq
 grind
structure Lc (iV:Bool->Bool->Bool) (a b a' b' out:Z Int) (inA inB is:Bool) (pa pb:Z Int):Prop where
 ea:a=pa++a'
 eb:b=pb++b'
 oa:inA=Oq pa
 ob:inB=Oq pb
 oo:is=Oq out
 ok:is=iV inA inB
 low:∀c,(c∈pa\/c∈pb\/c∈out)->∀d,(d∈a'\/d∈b')->c<d
 inc:k6 out
 VN:∀x,(∀d,(d∈a'\/d∈b')->x<d)->sZ out x=iV (sZ pa x) (sZ pb x)
 mem:∀c∈out,c∈pa\/c∈pb
 len:out.length<=pa.length+pb.length
def Lc.step{iV:Bool->Bool->Bool}{a b a' b' out:Z Int}{inA inB is:Bool}{pa pb:Z Int}(I:Lc iV a b a' b' out inA inB is pa pb)(ha:k6 a)(hb:k6 b)(x:Int)(ta tb:Z Int)(wa wb:Bool)
  (h1:a'=(if wa then x::ta else ta)) (h2:b'=(if wb then x::tb else tb)) (hw:wa=true\/wb=true) (hx:∀d,(d∈ta\/d∈tb)->x<d):
  Lc iV a b ta tb (if iV (inA ^^ wa) (inB ^^ wb)=is then out else out++[x]) (inA ^^ wa) (inB ^^ wb) (iV (inA ^^ wa)<|inB ^^ wb) (if wa then pa++[x]else pa) (if wb then pb++[x]else pb):=by
 have hxm:x∈a'\/x∈b':=by
  grind
 have hsub:∀d,(d∈ta\/d∈tb)->d∈a'\/d∈b':=λd hd=>by
  grind
 have hlow:∀c,(c∈pa\/c∈pb\/c∈out)->c<x:=λc hc=>I.low c hc x hxm;have hpa:∀c∈(if wa then pa++[x]else pa),c∈pa\/(wa=true/\c=x):=λc hc=>by
  grind
 have hpb:∀c∈(if wb then pb++[x]else pb),c∈pb\/(wb=true/\c=x):=λc hc=>by
  grind
 have hout:∀c∈(if iV (inA ^^ wa) (inB ^^ wb)=is then out else out++[x]),c∈out\/c=x:=λc hc=>by
  grind
 have ooA:(inA ^^ wa)=Oq (if wa then pa++[x]else pa):=by
  rw[I.oa];grind [Hd]
 have ooB:(inB ^^ wb)=Oq (if wb then pb++[x]else pb):=by
  rw[I.ob];grind [Hd]
 have ooO:iV (inA ^^ wa) (inB ^^ wb)=Oq (if iV (inA ^^ wa) (inB ^^ wb)=is then out else out++[x]):=by
  split
  ·rename_i h;rw[h];exact I.oo
  ·rename_i h;rw[Hd,<-I.oo]
   cases hk:iV (inA ^^ wa) (inB ^^ wb) <;> cases his:is <;> simp_all
 refine⟨?_,?_,ooA,ooB,ooO,rfl,?_,?_,?_,?_,?_⟩
 ·rw[I.ea,h1];grind
 ·rw[I.eb,h2];grind
 ·grind
 ·split
  ·exact I.inc
  ·exact I.inc.Qk λc hc=>hlow c<|.inr<|.inr hc
 ·intro y hy
  by_cases hxy:y<x
  ·have e1:sZ (if wa then pa++[x]else pa) y=sZ pa y:=by grind [EM]
   have e2:sZ (if wb then pb++[x]else pb) y=sZ pb y:=by grind [EM]
   have e3:sZ (if iV (inA ^^ wa) (inB ^^ wb)=is then out else out++[x]) y=sZ out y:=by grind [EM]
   rw[e1,e2,e3];refine I.VN y λd hd=>?_
   grind
  ·rw[CT (l:=if wa then pa++[x]else pa),CT (l:=if wb then pb++[x]else pb),CT]
   ·have e1:=ooA;have e2:=ooB;have e3:=ooO;unfold Oq at e1 e2 e3;rw[<-e1,<-e2,<-e3]
   ·intro c hc
    rcases hout c hc with h|rfl
    ·have:=hlow c<|.inr<|.inr h;omega
    ·omega
   ·intro c hc
    rcases hpb c hc with h|⟨_,rfl⟩
    ·have:=hlow c<|.inr<|.inl h;omega
    ·omega
   ·intro c hc
    rcases hpa c hc with h|⟨_,rfl⟩
    ·have:=hlow c<|.inl h;omega
    ·omega
 ·intro c hc;have m1:∀c,c∈pa->c∈(if wa then pa++[x]else pa):=λc h=>by split;exact List.mem_append_left _ h;exact h
  have m2:∀c,c∈pb->c∈(if wb then pb++[x]else pb):=λc h=>by split;exact List.mem_append_left _ h;exact h
  rcases hout c hc with h|rfl
  ·rcases I.mem c h with h|h
   ·exact .inl<|m1 c h
   ·exact .inr<|m2 c h
  ·rcases hw with h|h
   ·left;rw[aG h];simp
   ·right;rw[aG h];simp
 ·have:=I.len;have h3:(if wa then pa++[x]else pa).length+(if wb then pb++[x]else pb).length>=pa.length+pb.length+1:=by
   rcases hw with h|h
   ·subst h;cases wb <;> simp <;> omega
   ·subst h;cases wa <;> simp <;> omega
  split
  ·omega
  ·simp at h3 ⊢;omega
end
section
variable {N:Nat}
def lQ(x:Int)(l:Z Int):idx (x::l) 0=some x:=rfl
theorem xR{α:Type}(x:α)(l:Z α):ui (x::l) 1 (((x::l).length:Nat):Int)=some l:=q7 (x::l) 1 (by simp)
def ni{α:Type}(x:α)(l:Z α):decide ((((x::l).length:Nat):Int)>0)=true:=bS (by simp)
theorem Bo{α:Type}(x:α)(l:Z α):((((x::l).length:Nat):Int)==0)=false:=by rfl
def MI{a b:Z Int}(ha:k6 a)(hb:k6 b)(h:a≠[]\/b≠[]):∃x ta tb wa wb,a=(if wa then x::ta else ta)/\b=(if wb then x::tb else tb)/\(wa=true\/wb=true)/\(∀d,(d∈ta\/d∈tb)->x<d):=by
 match a,b,ha,hb,h with
 | [],[],_,_,h=>grind
 |x::ta,[],ha,_,_=>exact⟨x,ta,[],true,false,rfl,rfl, .inl rfl,λd hd=>by rcases hd with h|h;exact ha.head d h;cases h⟩
 | [],y::tb,_,hb,_=>exact⟨y,[],tb,false,true,rfl,rfl, .inr rfl,λd hd=>by rcases hd with h|h;cases h;exact hb.head d h⟩
 |x::ta,y::tb,ha,hb,_=>
  rcases Int.lt_trichotomy x y with h|h|h
  ·refine⟨x,ta,y::tb,true,false,rfl,rfl, .inl rfl,λd hd=>?_⟩
   rcases hd with h1|h1
   ·exact ha.head d h1
   ·rcases eJ.1 h1 with rfl|h1
    ·exact h
    ·have:=hb.head d h1;omega
  ·subst h;exact⟨x,ta,tb,true,true,rfl,rfl, .inl rfl,λd hd=>by rcases hd with h|h;exact ha.head d h;exact hb.head d h⟩
  ·refine⟨y,x::ta,tb,false,true,rfl,rfl, .inr rfl,λd hd=>?_⟩
   rcases hd with h1|h1
   ·rcases eJ.1 h1 with rfl|h1
    ·exact h
    ·have:=ha.head d h1;omega
   ·exact hb.head d h1
def Ot{φ:Bool->Bool->aV Bool}{iV:Bool->Bool->Bool}(hφ:∀p q,φ p q=some (iV p q))(hk:iV false false=false){a b:Z Int}(ha:k6 a)(hb:k6 b)(hae:a.length % 2=0)(hbe:b.length % 2=0)
  (BG:a.length<=1099511627776) (hbl:b.length<=1099511627776) (hN:a.length+b.length<N):
  Ok (vf N a b φ) (λm=>k6 m/\m.length % 2=0/\(∀x,sZ m x=iV (sZ a x) (sZ b x))/\∀c∈m,c∈a\/c∈b):=by
 unfold vf
 refine Ym (Zl (Go:=λs=>k6 s.2.2.1/\s.2.2.1.length % 2=0/\(∀x,sZ s.2.2.1 x=iV (sZ a x) (sZ b x))/\∀c∈s.2.2.1,c∈a\/c∈b) (Rt:=λ_=>True)
  (λs=>∃pa pb,Lc iV a b s.1 s.2.1 s.2.2.1 s.2.2.2.1 s.2.2.2.2.1 s.2.2.2.2.2 pa pb) (λs=>s.1.length+s.2.1.length) ?_ ?_ hN) ?_
 ·rintro⟨a',b',out,inA,inB,is⟩⟨pa,pb,I⟩;dsimp only at I ⊢;have ha':k6 a':=by have:=ha;rw[I.ea]at this;exact(nD.1 this).2.1
  have hb':k6 b':=by have:=hb;rw[I.eb]at this;exact(nD.1 this).2.1
  have hle:pa.length+a'.length=a.length:=by rw[I.ea];simp
  have hlb:pb.length+b'.length=b.length:=by rw[I.eb];simp
  have hlo:=I.len
  by_cases hne:a'≠[]\/b'≠[]
  ·obtain⟨x,ta,tb,wa,wb,h1,h2,hw,hx⟩:=MI ha' hb' hne;have J:=I.step ha hb x ta tb wa wb h1 h2 hw hx;have fin:∀(sa sb:Z Int×Bool),sa=(ta,inA ^^ wa)->sb=(tb,inB ^^ wb)->
     Ok ((φ sa.2 sb.2).bind λx220=>(bif x220 != is then((app 8 out ([x]:Z Int)).bind λx227=>some (x227,x220))else some (out,is)).bind λs224=>some<|Fl.nx (sa.1,sb.1,s224.1,sa.2,sb.2,s224.2))
      (Pb (λs':Z Int×Z Int×Z Int×Bool×Bool×Bool=>(∃pa pb,Lc iV a b s'.1 s'.2.1 s'.2.2.1 s'.2.2.2.1 s'.2.2.2.2.1 s'.2.2.2.2.2 pa pb)/\s'.1.length+s'.2.1.length<a'.length+b'.length) (λs=>k6 s.2.2.1/\s.2.2.1.length % 2=0/\(∀x,sZ s.2.2.1 x=iV (sZ a x) (sZ b x))/\∀c∈s.2.2.1,c∈a\/c∈b) (λ_:Empty=>True)):=by
    rintro _ _ rfl rfl;refine X_ (hφ _ _) ?_;have hlt:ta.length+tb.length<a'.length+b'.length:=by
     rw[h1,h2]
     rcases hw with h|h
     ·subst h;cases wb <;> simp <;> omega
     ·subst h;cases wa <;> simp <;> omega
    by_cases he:iV (inA ^^ wa) (inB ^^ wb)=is
    ·rw[aG he]at J;refine X_ (x:=(out,is)) (by grind) ?_;rw[he]at J;exact YK ⟨⟨_,_,J⟩,hlt⟩
    ·rw[aK he]at J;refine X_ (x:=(out++[x],iV (inA ^^ wa)<|inB ^^ wb)) (by grind [j6,aA])<|YK ⟨⟨_,_,J⟩,hlt⟩
   rcases hw with rfl|rfl
   ·rw[aG rfl]at h1;subst h1;refine X_ (x:=true) (by rw[ni,aO]) ?_;rw[aO];have hle2:(bif((b'.length:Nat):Int)==0 then some true else(bif decide ((((x::ta).length:Nat):Int)>0)then((idx (x::ta) 0).bind λx181=>(idx b' 0).bind λx183=>some<|decide<|x181<=x183)else some false))=some true:=by
     cases b' with
     |nil=>rfl
     |cons y b''=>
      rw[Bo,aR,ni,aO,lQ,aA,lQ,aA];have:x<=y:=by
       cases wb with
       |true=>grind
       |false=>have:=hx y (.inr (by grind));omega
      rw[bS this]
    refine X_ hle2 ?_;rw[aO];refine X_ (x:=x) (by rw[lQ,aA]) ?_;refine X_ (x:=true) (by simp[ni,aO,lQ,aA]) ?_;refine X_ (x:=(ta,!inA)) (by grind [xR,aA]) ?_
    cases wb with
    |true=>
     rw[aG rfl]at h2;subst h2;refine X_ (x:=true) (by rw[ni,aO,lQ,aA];simp) ?_;refine X_ (x:=(tb,!inB)) (by rw[aO,xR,aA]) ?_;exact fin _ _ (by simp) (by simp)
    |false=>
     have h2:b'=tb:=h2;subst h2;refine X_ (x:=false) ?_ ?_
     ·cases b' with
      |nil=>rfl
      |cons y b''=>
       have:=hx y<|.inr (by simp)
       rw[ni,aO,lQ,aA,show(y==x)=false by rw[beq_eq_false_iff_ne];omega]
     ·refine X_ (x:=(b',inB)) (by rw[aR]) ?_;exact fin _ _ (by simp) (by simp)
   ·cases wa with
    |true=>
     rw[aG rfl]at h1 h2;subst h1;subst h2;refine X_ (x:=true) (by rw[ni,aO]) ?_;rw[aO];refine X_ (x:=true) (by rw[Bo,aR,ni,aO,lQ,aA,lQ,aA];simp) ?_;rw[aO];refine X_ (x:=x) (by rw[lQ,aA]) ?_;refine X_ (x:=true) (by rw[ni,aO,lQ,aA];simp) ?_;refine X_ (x:=(ta,!inA)) (by rw[aO,xR,aA]) ?_;refine X_ (x:=true) (by rw[ni,aO,lQ,aA];simp) ?_;refine X_ (x:=(tb,!inB)) (by rw[aO,xR,aA]) ?_;exact fin _ _ (by simp) (by simp)
    |false=>
     have h1:a'=ta:=h1;rw[aG rfl]at h2;subst h1;subst h2;refine X_ (x:=true) (by rw[ni,RJ];simp) ?_;rw[aO];refine X_ (x:=false) ?_ ?_
     ·rw[Bo,aR]
      cases a' with
      |nil=>rfl
      |cons y a''=>
       have:=hx y<|.inl (by simp)
       rw[ni,aO,lQ,aA,lQ,aA,cF (by omega)]
     ·rw[aR];refine X_ (x:=x) (by rw[lQ,aA]) ?_;refine X_ (x:=false) ?_ ?_
      ·cases a' with
       |nil=>rfl
       |cons y a''=>
        have:=hx y<|.inl (by simp)
        rw[ni,aO,lQ,aA,show(y==x)=false by rw[beq_eq_false_iff_ne];omega]
      ·refine X_ (x:=(a',inA)) (by rw[aR]) ?_;refine X_ (x:=true) (by rw[ni,aO,lQ,aA];simp) ?_;refine X_ (x:=(tb,!inB)) (by rw[aO,xR,aA]) ?_;exact fin _ _ (by simp) (by simp)
  ·have ea:a'= []:=Classical.byContradiction λh=>hne<|.inl h
   have eb:b'= []:=Classical.byContradiction λh=>hne<|.inr h
   subst ea;subst eb;refine X_ (x:=false) rfl ?_;refine YO ⟨I.inc,?_,λx=>?_,λc hc=>?_⟩
   ·have h1:=I.ea;have h2:=I.eb;rw[rq]at h1 h2;have h3:Oq out=false:=by
     rw[<-I.oo,I.ok,I.oa,I.ob,<-h1,<-h2];unfold Oq;rw[hae,hbe];exact hk
    unfold Oq at h3;rw[beq_eq_false_iff_ne]at h3;dsimp only;omega
   ·have:=I.VN x (λd hd=>by rcases hd with h|h <;> cases h);have h1:=I.ea;have h2:=I.eb;rw[rq]at h1 h2;rw[h1,h2];exact this
   ·have h1:=I.ea;have h2:=I.eb;rw[rq]at h1 h2;rw[h1,h2];exact I.mem c hc
 ·exact⟨[],[],rfl,rfl,rfl,rfl,rfl,hk.symm,λc hc=>(by rcases hc with h|h|h <;> cases h),lf,λx _=>hk.symm,λc hc=>(by cases hc),cG _⟩
 ·rintro o ho;exact YS ho (λs h=>V_ h)<|λr=>r.elim
def fT.app{s t:Z Bd}(h:fT (s++t)):fT t:=⟨λb hb=>h.each b<|List.mem_append_right _ hb,(nD.1 h.ord).2.1⟩
def fT.low{b:Bd}{s:Z Bd}(h:fT (b::s)):∀c∈b::s,b.y0<=c.y0:=λc hc=>by
 rcases eJ.1 hc with rfl|hc
 ·exact Int.le_refl _
 ·have:=h.G3 c hc;have:=(h.each b (by simp)).1;omega
def fT.high{s:Z Bd}{b:Bd}(h:fT (s++[b])):∀c∈s++[b],c.y1<=b.y1:=λc hc=>by
 rcases dP.1 hc with hc|hc
 ·have:=((nD.1 h.ord).2.2 c hc b (by simp)).1;have:=(h.each b (by simp)).1;omega
 ·simp at hc;subst hc;exact Int.le_refl _
def Ma(s:Z aB)(y e:Int):Z Int×Int:=match s with
 | []=>([],e)
 |b::_=>if y<b.Y0 then([],if b.Y0<e then b.Y0 else e)else(b.Xs,if b.Y1<e then b.Y1 else e)
theorem Qm{α:Type}(x:α)(l:Z α):idx (x::l) 0=some x:=rfl
def SO(s:Z aB)(y e:Int):qy N s y e=some (Ma s y e):=by
 unfold qy Ma
 cases s with
 |nil=>rfl
 |cons b s=>
  grind [Bo,Qm,aA,bS,cF]
def NL{s:Z aB}{y e:Int}{X Y:Z Int}(hc:fT (s.map cO))(hl:C5 X Y (s.map cO))(hh:∀b t,s=b::t->y<b.Y1)(hy:y<e):
  y<(Ma s y e).2/\(Ma s y e).2<=e/\(∀y',y<=y'->y'<(Ma s y e).2->rowAt (s.map cO) y'=(Ma s y e).1)/\k6 (Ma s y e).1/\(Ma s y e).1.length % 2=0/\((Ma s y e).2=e\/(Ma s y e).2∈Y)/\∀c∈(Ma s y e).1,c∈X:=by
 cases s with
 |nil=>exact⟨hy,Int.le_refl _,λy' _ _=>rfl,lf,rfl, .inl rfl,λc hc=>(by cases hc)⟩
 |cons b t=>
  have hb:=hc.each (cO b) (by simp);have hlb:=hl (cO b) (by simp);have h1:=hh b t rfl;unfold Ma;dsimp only
  by_cases h:y<b.Y0
  ·rw[aG h];dsimp only;refine⟨by omega,by omega,λy' h2 h3=>?_,lf,rfl,?_,λc hc=>(by cases hc)⟩
   ·exact hc.Bj (by show y'<b.Y0;omega)
   ·split
    ·exact .inr hlb.1
    omega
  grind [fT.qc,cO]
def I1{y:Int}{a:Z aB}(hN:a.length<N){body:Z aB->aV (Fl (Z aB) Empty)}
  (hb:body=λ(s373:Z aB)=>((bif decide ((s373.length:Int)>0)then((idx s373 0).bind λx407=>some<|decide<|x407.Y1<=y)else some false).bind λs405=>bif s405 then((ui s373 1 (s373.length:Int)).bind λx410=>some<|.nx x410)else(some<|.br s373):aV (Fl (Z aB) Empty))):
  Ok (iL body N a) (Ra (λa'=>∃p,a=p++a'/\(∀c∈p,c.Y1<=y)/\∀b t,a'=b::t->y<b.Y1)<|λ_=>True):=by
 subst hb;refine Zl (λa'=>∃p,a=p++a'/\∀c∈p,c.Y1<=y) List.length ?_ ⟨[],rfl,λc hc=>(by cases hc)⟩ hN;rintro a'⟨p,e,hp⟩
 cases a' with
 |nil=>simp_all[X_,YO]
 |cons b t=>
  refine X_ (x:=decide<|b.Y1<=y) (by rw[ni,aO,Qm,aA]) ?_;refine YW (λh=>?_)<|λh=>YO ⟨p,e,hp,λb' t' h'=>?_⟩
  ·have h:=of_decide_eq_true h;refine X_ (xR b t)<|YK ⟨⟨p++[b],by rw[e];simp,λc hc=>?_⟩,by simp⟩
   grind
  grind
def Ld{p a':Z Bd}{y y':Int}(hp:∀c∈p,c.y1<=y)(h:y<=y'):rowAt (p++a') y'=rowAt a' y':=by
 grind [uI]
structure JN (iV:Bool->Bool->Bool) (X Y:Z Int) (a b s:Z aB):Prop where
 can:fT (s.map cO)
 cover:∀x y,zU (s.map cO) x y=iV (zU (a.map cO) x y) (zU (b.map cO) x y)
 lim:C5 X Y (s.map cO)
def He{s:Z aB}(hs:s≠[])(hl:s.length<=1099511627776)(hc:fT (s.map cO)):∃f l,idx s 0=some f/\idx s (wrap .i64<|((s.length:Nat):Int) - 1)=some l/\f∈s/\l∈s/\∀c∈s,f.Y0<=c.Y0/\c.Y1<=l.Y1:=by
 cases s with
 |nil=>grind
 |cons f t=>
  rw[iv (by simp) (by omega)];have hlt:(f::t).length - 1<(f::t).length:=by simp
  refine⟨f,(f::t)[(f::t).length - 1],rfl,kN _ _ hlt,by simp,cP _,λc hcm=>⟨?_,?_⟩⟩
  ·exact hc.low (cO c)<|dU.2 ⟨c,hcm,rfl⟩
  ·have e:(f::t)=(f::t).dropLast++[(f::t)[(f::t).length - 1]]:=by
    grind [List.dropLast_concat_getLast]
   generalize (f::t)[(f::t).length - 1]=l at e;have hc2:=hc;rw[e,fX]at hc2;have hm:cO c∈(List.map cO (f::t).dropLast++[cO l]):=by
    grind
   exact fT.high hc2 (cO c) hm
def MJ{φ:Bool->Bool->aV Bool}{iV:Bool->Bool->Bool}(hφ:∀p q,φ p q=some (iV p q))(hk:iV false false=false){a b:Z aB}{X Y:Z Int}(ca:fT (a.map cO))(cb:fT (b.map cO))
  (la:C5 X Y (a.map cO)) (lb:C5 X Y (b.map cO)) (hX:X.length<=1048576000) (hY:Y.length<=1048576000) (hs:∀c∈Y,small c) (hN:4398046511104<=N):Ok (tH N a b φ) (JN iV X Y a b):=by
 have BG:a.length<=Y.length:=by have:=la.len ca;grind
 have hbl:b.length<=Y.length:=by have:=lb.len cb;grind
 unfold tH;rw[wrap_add (by omega)];refine YW (λh=>V_ ?_)<|λh=>?_
 ·have h:a.length+b.length=0:=by grind
  have e1:a= []:=List.eq_nil_of_length_eq_zero (by omega);have e2:b= []:=List.eq_nil_of_length_eq_zero (by omega);subst e1;subst e2;exact⟨fT.nil,λx y=>hk.symm,λc hc=>(by cases hc)⟩
 have h0:a≠[]\/b≠[]:=by
  grind
 refine Ym (Zk (λk s=>match k with| 0=>True| 1=>a= []\/((∀c∈a,s.1<=c.Y0/\c.Y1<=s.2)/\s.1∈Y/\s.2∈Y)|_=>(∀c∈a,s.1<=c.Y0/\c.Y1<=s.2)/\(∀c∈b,s.1<=c.Y0/\c.Y1<=s.2)/\s.1∈Y/\s.2∈Y) (by simp) trivial<|λk s hk hI=>?_) ?_
 ·obtain⟨y,e⟩:=s;have hk:k=0\/k=1:=by grind
  rcases hk with rfl|rfl
  ·refine Yx (x:=a) rfl ?_
   by_cases ea:a= []
   ·grind [X_,V_]
   ·obtain⟨f,l,f1,f2,f3,f4,f5⟩:=He ea (by omega) ca;have hpos:decide (((a.length:Nat):Int)>0)=true:=bS (by grind);refine X_ (x:=(f.Y0,l.Y1)) ?_<|V_<|.inr ⟨f5,(la _<|dU.2 ⟨f,f3,rfl⟩).1,(la _<|dU.2 ⟨l,f4,rfl⟩).2.1⟩
    grind
  ·refine Yx (x:=b) rfl ?_;have hI:a= []\/((∀c∈a,y<=c.Y0/\c.Y1<=e)/\y∈Y/\e∈Y):=hI
   by_cases eb:b= []
   ·subst eb;refine X_ (x:=(y,e)) rfl<|V_ ?_
    rcases hI with h|⟨h1,h2,h3⟩
    ·rcases h0 with h'|h'
     ·exact absurd h h'
     ·exact absurd rfl h'
    ·exact⟨h1,λc hc=>(by cases hc),h2,h3⟩
   ·obtain⟨f,l,f1,f2,f3,f4,f5⟩:=He eb (by omega) cb;have hpos:decide (((b.length:Nat):Int)>0)=true:=bS (by have:=List.length_pos_iff.2 eb;omega);have g1:f.Y0∈Y:=(lb _<|dU.2 ⟨f,f3,rfl⟩).1;have g2:l.Y1∈Y:=(lb _<|dU.2 ⟨l,f4,rfl⟩).2.1
    by_cases ea:a= []
    ·subst ea;refine X_ (x:=(f.Y0,l.Y1)) ?_<|V_ ⟨λc hc=>(by cases hc),f5,g1,g2⟩
     rw[hpos,aO];show((some true).bind _)=_;rw[aA,aO,f1,aA,f2,aA,aA,aA,aA];simp
    ·obtain⟨h1,h2,h3⟩:=hI.resolve_left ea;refine X_ (x:=(if f.Y0<y then f.Y0 else y,if e<l.Y1 then l.Y1 else e)) ?_<|V_ ⟨λc hc=>?_,λc hc=>?_,?_,?_⟩
     ·rw[hpos,aO];have ez:(((a.length:Nat):Int)==0)=false:=by rw[beq_eq_false_iff_ne];have:=List.length_pos_iff.2 ea;omega
      rw[ez];show((some false).bind _)=_;rw[aA,aR,aA,f1,aA,f2,aA]
     ·have:=h1 c hc;dsimp only;split <;> split <;> omega
     ·have:=f5 c hc;dsimp only;split <;> split <;> omega
     ·dsimp only;split
      ·exact g1
      ·exact h2
     ·dsimp only;split
      ·exact g2
      ·exact h3
 ·rintro⟨y0,e0⟩hI;have hI:(∀c∈a,y0<=c.Y0/\c.Y1<=e0)/\(∀c∈b,y0<=c.Y0/\c.Y1<=e0)/\y0∈Y/\e0∈Y:=hI;obtain⟨ia,ib,iy,ie⟩:=hI;have sy:=hs _ iy;have se:=hs _ ie;unfold small at sy se;dsimp only
  refine Ym (Zl (Go:=λs=>JN iV X Y a b s.2.2.1) (Rt:=λ_=>True)
   (λs=>∃pa pb,a=pa++s.1/\b=pb++s.2.1/\(∀c∈pa,c.Y1<=s.2.2.2)/\(∀c∈pb,c.Y1<=s.2.2.2)/\y0<=s.2.2.2/\s.2.2.2<=max y0 e0/\s.2.2.2∈Y/\fT (s.2.2.1.map cO)/\C5 X Y (s.2.2.1.map cO)/\(∀c∈s.2.2.1,c.Y1<=s.2.2.2)/\
    ∀x y,zU (s.2.2.1.map cO) x y=(iV (zU (a.map cO) x y) (zU (b.map cO) x y)&&decide (y<s.2.2.2)))
   (λs=>(e0 - s.2.2.2).toNat) ?_ ?_ (by dsimp only;omega)) ?_
  ·rintro⟨a',b',out,y⟩⟨pa,pb,ea,eb,hpa,hpb,hy0,hye,hyY,hcan,hlim,htop,hcov⟩;dsimp only at ea eb hpa hpb hy0 hye hyY hcan hlim htop hcov ⊢;refine YW (λh=>?_)<|λh=>YO ?_
   ·have hlt:y<e0:=of_decide_eq_true h;have hsl:∀(p s t:Z aB),t=p++s->s.length<=t.length:=λp s t e=>by rw[e];simp
    have hal':=hsl _ _ _ ea;have hbl':=hsl _ _ _ eb;refine Ym (I1 (y:=y) (a:=a') (by omega) rfl)<|λo ho=>YS ho ?_<|λr=>r.elim
    rintro a2⟨qa,ea2,hqa,hha⟩;refine Ym (I1 (y:=y) (a:=b') (by omega) rfl)<|λo ho=>YS ho ?_<|λr=>r.elim
    rintro b2⟨qb,eb2,hqb,hhb⟩;have ea3:a=(pa++qa)++a2:=by rw[ea,ea2];simp
    have eb3:b=(pb++qb)++b2:=by rw[eb,eb2];simp
    have hPa:∀c∈pa++qa,c.Y1<=y:=λc hc=>by rcases dP.1 hc with h|h;exact hpa c h;exact hqa c h
    have hPb:∀c∈pb++qb,c.Y1<=y:=λc hc=>by rcases dP.1 hc with h|h;exact hpb c h;exact hqb c h
    have ca2:fT (a2.map cO):=by have:=ca;rw[ea3,fX]at this;exact this.app
    have cb2:fT (b2.map cO):=by have:=cb;rw[eb3,fX]at this;exact this.app
    have la2:C5 X Y (a2.map cO):=λc hc=>la c (by rw[ea3,fX];exact List.mem_append_right _ hc);have lb2:C5 X Y (b2.map cO):=λc hc=>lb c (by rw[eb3,fX];exact List.mem_append_right _ hc);refine X_ (SO a2 y e0)<|X_ (SO b2 y e0) ?_
    obtain⟨a1,a3,a4,a5,a6,a7,a8⟩:=NL ca2 la2 hha hlt;obtain⟨b1,b3,b4,b5,b6,b7,b8⟩:=NL cb2 lb2 hhb hlt;have hal2:(Ma a2 y e0).1.length<=X.length:=gS a5.nodup a8;have hbl2:(Ma b2 y e0).1.length<=X.length:=gS b5.nodup b8;generalize Ma a2 y e0=pa2 at *;generalize Ma b2 y e0=pb2 at *;obtain⟨xa,n⟩:=pa2;obtain⟨xb,m⟩:=pb2;dsimp only at *;refine Ym (Ot hφ hk a5 b5 a6 b6 (by omega) (by omega) (by omega)) ?_;rintro row⟨r1,r2,r3,r4⟩;have hnx:∃nx,nx=(if m<n then m else n)/\y<nx/\nx<=e0/\nx<=n/\nx<=m/\nx∈Y:=by
     refine⟨_,rfl,by split <;> omega,by split <;> omega,by split <;> omega,by split <;> omega,?_⟩;split
     ·rcases b7 with h|h
      ·rw[h];exact ie
      ·exact h
     ·rcases a7 with h|h
      ·rw[h];exact ie
      ·exact h
    obtain⟨nx,hnx,n1,n2,n3,n4,n5⟩:=hnx;rw[<-hnx];have hol:out.length<=Y.length:=by have:=hlim.len hcan;rwa[dQ]at this
    obtain⟨out',p1,p2⟩:=NJ (N:=N) (s:=out) (b:=⟨y,nx,row⟩) (by omega) (λc hc=>by
     have:=hlim.row hcan (b:=cO c)<|dU.2 ⟨c,hc,rfl⟩
     have e:(cO c).xs=c.Xs:=rfl
     rw[e]at this;omega)
    refine X_ p1 ?_;have htop':∀c∈out.map cO,c.y1<=(cO ⟨y,nx,row⟩).y0:=λc hc=>by
     obtain⟨d,hd,rfl⟩:=dU.1 hc;exact htop d hd
    refine YK ⟨⟨pa++qa,pb++qb,ea3,eb3,λc hc=>by have:=hPa c hc;dsimp only;omega,λc hc=>by have:=hPb c hc;dsimp only;omega,by dsimp only;omega,by dsimp only;omega,n5,by dsimp only;rw[p2];exact Bm hcan htop' r1 r2,?_,λc hc=>?_,λx y'=>?_⟩,by dsimp only;omega⟩
    ·dsimp only;rw[p2];refine hlim.push hyY n5<|λc hc=>?_
     rcases r4 c hc with h|h
     ·exact a8 c h
     ·exact b8 c h
    ·have hm':cO c∈lA (out.map cO) (cO ⟨y,nx,row⟩):=by rw[<-p2];exact dU.2 ⟨c,hc,rfl⟩
     exact Bn htop' (by show y<=nx;omega) _ hm'
    ·show sZ (rowAt (out'.map cO) y') x=_;rw[p2,Bl htop' (λc hc=>(hcan.each c hc).1)<|λh=>absurd h (by show ¬nx<=y;omega)]
     by_cases hyy:y<=y'/\y'<nx
     ·rw[aG (show(cO ⟨y,nx,row⟩).y0<=y'/\y'<(cO ⟨y,nx,row⟩).y1 from hyy),bS hyy.2,Bool.and_true];show sZ row x=_;have mp:∀p q:Z aB,(∀c∈p++q,c.Y1<=y)->∀c∈(p++q).map cO,c.y1<=y:=λp q h c hc=>by
       obtain⟨d,hd,rfl⟩:=dU.1 hc;exact h d hd
      have q1:zU (a.map cO) x y'=sZ xa x:=by
       unfold zU;rw[ea3,fX,Ld (mp _ _ hPa) hyy.1,a4 y' hyy.1 (by omega)]
      have q2:zU (b.map cO) x y'=sZ xb x:=by
       unfold zU;rw[eb3,fX,Ld (mp _ _ hPb) hyy.1,b4 y' hyy.1 (by omega)]
      rw[r3,q1,q2]
     ·rw[aK (show ¬((cO ⟨y,nx,row⟩).y0<=y'/\y'<(cO ⟨y,nx,row⟩).y1)from hyy)];show zU (out.map cO) x y'=_;rw[hcov]
      by_cases h1:y'<y
      ·rw[bS h1,bS (show y'<nx by omega)]
      ·rw[cF h1,cF (show ¬y'<nx by omega)]
   ·have hge:e0<=y:=by have:=of_decide_eq_false h;omega
    refine⟨hcan,λx y'=>?_,hlim⟩;dsimp only;rw[hcov]
    by_cases h1:y'<y
    ·rw[bS h1,Bool.and_true]
    ·have z:∀s:Z aB,(∀c∈s,y0<=c.Y0/\c.Y1<=e0)->zU (s.map cO) x y'=false:=λs h=>by
      unfold zU;rw[oy λc hc=>?_]
      ·rfl
      ·obtain⟨d,hd,rfl⟩:=dU.1 hc;exact .inr (by have:=(h d hd).2;show d.Y1<=y';omega)
     rw[z a ia,z b ib,hk];rfl
  ·refine⟨[],[],rfl,rfl,λc hc=>(by cases hc),λc hc=>(by cases hc),Int.le_refl _,by dsimp only;omega,iy,fT.nil,λc hc=>(by cases hc),λc hc=>(by cases hc),λx y=>?_⟩;dsimp only;show false=_
   by_cases h1:y<y0
   ·have z:∀s:Z aB,(∀c∈s,y0<=c.Y0/\c.Y1<=e0)->zU (s.map cO) x y=false:=λs h=>by
     unfold zU;rw[oy λc hc=>?_]
     ·rfl
     ·obtain⟨d,hd,rfl⟩:=dU.1 hc;exact .inl (by have:=(h d hd).1;show y<d.Y0;omega)
    rw[z a ia,z b ib,hk];rfl
   ·rw[cF h1,Bool.and_false]
  ·rintro o ho;exact YS ho (λs h=>V_ h)<|λr=>r.elim
def Ou{a b:Z aB}{X Y:Z Int}(ca:fT (a.map cO))(cb:fT (b.map cO))(la:C5 X Y (a.map cO))(lb:C5 X Y (b.map cO))(hX:X.length<=1048576000)(hY:Y.length<=1048576000)(hs:∀c∈Y,small c)(hN:4398046511104<=N):
  Ok (nM N a b) (JN (λp q=>p&& !q) X Y a b):=by
 unfold nM;exact Ym (MJ (iV:=λp q=>p&& !q) (λp q=>rfl) rfl ca cb la lb hX hY hs hN)<|λs h=>V_ h
end
section
variable {N:Nat}
structure UF (n:Nat) (up:Z Int) (r:Nat->Nat):Prop where
 len:up.length=n
 rt:∀i,i<n->∃u:Nat,up[i]? =some ((u:Nat):Int)/\u<=i/\r u=r i/\(u=i↔r i=i)
def UF.le{n:Nat}{up:Z Int}{r:Nat->Nat}(h:UF n up r):∀i,i<n->r i<=i:=by
 intro i
 induction i using Nat.strongRecOn with
 |ind i ih=>
  intro hi;obtain⟨u,_,h2,h3,h4⟩:=h.rt i hi
  grind
def UF.rr{n:Nat}{up:Z Int}{r:Nat->Nat}(h:UF n up r):∀i,i<n->r (r i)=r i:=by
 intro i
 induction i using Nat.strongRecOn with
 |ind i ih=>
  intro hi;obtain⟨u,_,h2,h3,h4⟩:=h.rt i hi
  grind
theorem sF{l:Z Int}{j:Nat}{v:Int}{i:Nat}(hj:j<l.length):(l.set j v)[i]? =if i=j then some v else l[i]? :=by
 grind
theorem UF.init(n:Nat)(up:Z Int)(h1:up.length=n)(h2:∀i,i<n->up[i]? =some ((i:Nat):Int)):UF n up (λi=>i):=
 ⟨h1,λi hi=>⟨i,h2 i hi,cG _,rfl,by simp⟩⟩
def Le{n:Nat}(hn:n<=1048576000):∃up,nN N ((n:Nat):Int)=some up/\UF n up (λi=>i):=by
 unfold nN;rw[wx 0 (by omega),aA];have h0:(List.replicate n (0:Int)).length=n:=by simp
 obtain⟨s',h1,h2⟩:=F7 (m:=(List.replicate n (0:Int)).length) (s:=List.replicate n (0:Int)) (body:=λ(k34:Nat)(s35:Z Int)=>((idx s35 (k34:Int)).bind λx38=>some (s35.set (Int.toNat (k34:Int)) (k34:Int)):aV (Z Int)))
  (λk s=>s.length=n/\∀i,i<k->s[i]? =some ((i:Nat):Int)) (by omega) ⟨h0,λi hi=>by omega⟩ (λk s hk⟨hs,hi⟩=>by
   grind [kN,aA,dA,sF])
 grind [aA,UF.init]
def JO{n:Nat}{up:Z Int}{r:Nat->Nat}(h:UF n up r){i:Nat}(hi:i<n)(hn:n<N):∃up',iX N up ((i:Nat):Int)=some (((r i:Nat):Int),up')/\UF n up' r:=by
 unfold iX;obtain⟨o,h1,h2⟩:=Bh (R:=Empty) (body:=λ(s32:Z Int×Int)=>((idx s32.1 s32.2).bind λx43=>bif x43 != s32.2 then((idx s32.1 s32.2).bind λx44=>(idx s32.1 x44).bind λx45=>(idx s32.1 s32.2).bind λx46=>(idx (s32.1.set (Int.toNat s32.2) x45) s32.2).bind λx47=>some<|.nx (s32.1.set (Int.toNat s32.2) x45,x47))else(some<|.br (s32.1,s32.2)):aV (Fl (Z Int×Int) Empty)))
  (λs=>UF n s.1 r/\∃j:Nat,s.2=((j:Nat):Int)/\j<n/\r j=r i) (λs=>s.2.toNat) (λs=>s.2=((r i:Nat):Int)/\UF n s.1 r) (λ_=>True) (λs⟨hu,j,hj,hjn,hr⟩=>by
   obtain⟨l,y⟩:=s;dsimp only at hu hj ⊢;subst hj;obtain⟨u,a1,a2,a3,a4⟩:=hu.rt j hjn;rw[cK a1,aA]
   by_cases e:u=j
   ·simp_all
   ·obtain⟨v,b1,b2,b3,b4⟩:=hu.rt u (by omega);have hl:=hu.len
    refine⟨.nx (l.set j ((v:Nat):Int),((v:Nat):Int)),by
     grind [aA,cK,dA,sF],⟨⟨by simp[hl],λk hk=>?_⟩,v,rfl,by omega,?_⟩,?_⟩
    ·rw[sF (by omega)]
     by_cases e2:k=j
     ·grind
     ·rw[aK e2];exact hu.rt k hk
    ·omega
    omega)
  N (up,((i:Nat):Int)) ⟨h,i,rfl,hi,rfl⟩ (by omega)
 rw[h1,aA]
 cases o with
 |go s'=>exact⟨s'.1,by rw[<-h2.1];rfl,h2.2⟩
 |rt r=>exact r.elim
def wi(r:Nat->Nat)(a b:Nat):Nat->Nat:=λx=>if r x=max a b then min a b else r x
def Qn(a b:Nat):(if((a:Nat):Int)<((b:Nat):Int)then((b:Nat):Int)else((a:Nat):Int))=((max a b:Nat):Int):=by
 omega
def Qo(a b:Nat):(if((b:Nat):Int)<((a:Nat):Int)then((b:Nat):Int)else((a:Nat):Int))=((min a b:Nat):Int):=by
 omega
def RW{n:Nat}{up:Z Int}{r:Nat->Nat}(h:UF n up r){i k:Nat}(hi:i<n)(hk:k<n)(hn:n<N):
  ∃up',jo N up ((i:Nat):Int) ((k:Nat):Int)=some up'/\UF n up' (wi r (r i)<|r k):=by
 obtain⟨u1,a1,a2⟩:=JO h hi hn;obtain⟨u2,b1,b2⟩:=JO a2 hk hn;have hri:=h.le i hi;have hrk:=h.le k hk;have rri:=h.rr i hi;have rrk:=h.rr k hk;unfold jo;rw[a1,aA,b1,aA];dsimp only;rw[Qn,Qo];have hm:max (r i) (r k)<n:=by omega
 have hl:=b2.len;rw[kN _ _ (by omega),aA,dA];refine⟨_,rfl,by simp[hl],λx hx=>?_⟩;have rmax:r (max (r i)<|r k)=max (r i) (r k):=by grind
 have rmin:r (min (r i)<|r k)=min (r i) (r k):=by grind
 rw[sF (by omega)]
 by_cases e:x=max (r i) (r k)
 ·grind [Min.min,wi]
 ·rw[aK e];obtain⟨u,c1,c2,c3,c4⟩:=b2.rt x hx
  grind [wi,Min.min,Max.max]
def vL(r:Nat->Nat)(E:Z (Nat×Nat)):Prop:=∀p∈E,r p.1=r p.2
def Hf(n:Nat)(r:Nat->Nat)(E:Z (Nat×Nat)):Prop:=∀S:Nat->Prop,(∀p∈E,S p.1↔S p.2)->∀i j,i<n->j<n->r i=r j->S i->S j
def vL.join{r:Nat->Nat}{E:Z (Nat×Nat)}(h:vL r E)(i k:Nat)(_h2:r (r i)=r i):vL (wi r (r i)<|r k) (E++[(i,k)]):=λp hp=>by
 rcases dP.1 hp with hp|hp
 ·unfold wi;rw[h p hp]
 ·simp at hp;subst hp;unfold wi;dsimp only;split <;> split <;> omega
def Hf.join{n:Nat}{r:Nat->Nat}{E:Z (Nat×Nat)}(h:Hf n r E){i k:Nat}(hi:i<n)(hk:k<n):Hf n (wi r (r i)<|r k) (E++[(i,k)]):=λS hS x y hx hy hr hSx=>by
 have hE:∀p∈E,S p.1↔S p.2:=λp hp=>hS p<|List.mem_append_left _ hp
 have hik:S i↔S k:=hS (i,k) (by simp);have key:=h S hE;unfold wi at hr
 by_cases h1:r x=r y
 ·exact key x y hx hy h1 hSx
 ·have:(r x=r i/\r y=r k)\/(r x=r k/\r y=r i):=by
   split at hr <;> split at hr <;> omega
  rcases this with⟨e1,e2⟩|⟨e1,e2⟩
  ·exact key k y hk hy e2.symm<|hik.1<|key x i hx hi e1 hSx
  ·exact key i y hi hy e2.symm<|hik.2<|key x k hx hk e1 hSx
def Hf.id(n:Nat):Hf n (λi=>i) []:=λS _ i j _ _ h hs=>by
 have h:i=j:=h;subst h;exact hs
def vL.id:vL (λi=>i) []:=λp hp=>by simp at hp
def cC(n:Nat)(r:Nat->Nat):Z Nat:=(List.range n).filter<|λk=>decide<|r k=k
def cls(n:Nat)(r:Nat->Nat)(k:Nat):Z Nat:=(List.range n).filter<|λi=>decide<|r i=k
theorem iI(n:Nat)(r:Nat->Nat):cC (n+1) r=if r n=n then cC n r++[n]else cC n r:=by
 grind [cC,List.range_succ]
theorem AN(n:Nat)(r:Nat->Nat)(k:Nat):cls (n+1) r k=if r n=k then cls n r k++[n]else cls n r k:=by
 grind [cls,List.range_succ]
theorem mT(n:Nat)(r:Nat->Nat):(cC n r).length<=n:=by
 have:=iW (λk=>decide<|r k=k)<|List.range n
 rw[List.length_range]at this;exact this
theorem D1(n:Nat)(r:Nat->Nat)(k:Nat):(cls n r k).length<=n:=by
 have:=iW (λi=>decide<|r i=k)<|List.range n
 rw[List.length_range]at this;exact this
theorem kD{n k:Nat}{r:Nat->Nat}:k∈cC n r↔k<n/\r k=k:=by simp[cC]
theorem qg(n:Nat)(r:Nat->Nat):(cC n r).Nodup:=List.Nodup.sublist List.filter_sublist List.nodup_range
def vM(n:Nat)(r:Nat->Nat):Z (Z Int):=(cC n r).map<|λk=>(cls n r k).map<|λi=>((i:Nat):Int)
theorem NM{n k:Nat}{r:Nat->Nat}(h:∀i,i<n->r i<=i)(hk:n<=k):cls n r k= []:=by
 grind [cls,List.filter_eq_nil_iff]
def AO{α β:Type}(f g:α->β)(l:Z α)(j:Nat)(a:α)(hn:l.Nodup)(hj:l[j]? =some a)(hf:∀b,b∈l->b≠a->f b=g b):(l.map f).set j (g a)=l.map g:=by
 apply List.ext_getElem?;intro i;have hjl:=(bP.1 hj).1;rw[mB,dQ,kg,kg]
 grind [bP,List.getElem_inj,dT]
def VO(n:Nat)(r:Nat->Nat)(m:Z (Int×Int)):Prop:=∀(j k:Nat),(cC n r)[j]? =some k->fP m ((k:Nat):Int) 0=((j:Nat):Int)
def RX{n:Nat}{up:Z Int}{r:Nat->Nat}(h:UF n up r)(hn:n<N)(hn2:n<=1048576000):∃up',ml N up=some (vM n r,up')/\UF n up' r:=by
 unfold ml;have hlen:=h.len;have hle:=h.le;have hrr:=h.rr;obtain⟨s',h1,h2⟩:=F7 (m:=up.length) (s:=(up,([]:Z (Z Int)),([]:Z (Int×Int))))
  (body:=λ(k32:Nat)(s33:Z Int×Z (Z Int)×Z (Int×Int))=>((iX N s33.1 (k32:Int)).bind λx117=>(bif x117.1==(k32:Int)then((app 24 s33.2.1 [([]:Z Int)]).bind λx126=>some (x126,pM s33.2.2 (k32:Int) (s33.2.1.length:Int)))else some (s33.2.1,s33.2.2)).bind λs122=>(idx s122.1<|fP s122.2 x117.1 (0:Int)).bind λx128=>(app 8 x128 ([(k32:Int)]:Z Int)).bind λx134=>(idx s122.1<|fP s122.2 x117.1 (0:Int)).bind λx136=>some (x117.2,s122.1.set (Int.toNat<|fP s122.2 x117.1 (0:Int)) x134,s122.2):aV (Z Int×Z (Z Int)×Z (Int×Int))))
  (λk s=>UF n s.1 r/\s.2.1=vM k r/\VO k r s.2.2) (by omega) ⟨h,rfl,λj k hj=>by grind [cC]⟩ (λk s hk⟨hu,hs,hm⟩=>by
   obtain⟨l,ss,m⟩:=s;dsimp only at hu hs hm ⊢;subst hs;rw[hlen]at hk;obtain⟨u',a1,a2⟩:=JO hu hk hn;rw[a1,aA];dsimp only;have hhl:=mT k r;have hsl:(vM k r).length=(cC k r).length:=by simp[vM]
   have hrk:=hle k hk
   by_cases e:r k=k
   ·
    rw[show(((r k:Nat):Int)==((k:Nat):Int))=true by rw[e];simp,aO,j6 (by grind),aA,aA];dsimp only;rw[e,xN,aG rfl,hsl];have hi:(vM k r++[([]:Z Int)])[(cC k r).length]? =some []:=by grind
    rw[cK hi,aA,j6 (by simp),aA,aA,dA];refine⟨_,rfl,a2,?_,λj q hj=>?_⟩
    ·dsimp only;rw[<-hsl,List.set_append_right _ _<|cG _,Nat.sub_self];unfold vM;rw[iI,aG e,fX];congr 1
     ·grind [List.map_congr_left,kD,AN]
     grind [AN,NM,hle]
    ·dsimp only;rw[iI,aG e]at hj;rw[xN]
     by_cases e2:j<(cC k r).length
     ·rw[kI e2]at hj;have:=(kD.1<|dT hj).1;rw[aK (by omega)];exact hm j q hj
     ·rw[kJ (by omega)]at hj;have hj0:j -(cC k r).length=0:=by
       have:=(bP.1 hj).1;simp at this;omega
      rw[hj0]at hj;simp at hj;subst hj;rw[aG rfl];congr 1;omega
   ·rw[show(((r k:Nat):Int)==((k:Nat):Int))=false by simp;omega,aR,aA];dsimp only;have hh:r k∈cC k r:=kD.2 ⟨by omega,hrr k hk⟩;obtain⟨j,hj⟩:=dD hh;rw[hm j (r k) hj];have hcl:=D1 k r<|r k
    have hi:(vM k r)[j]? =some ((cls k r<|r k).map<|λi=>((i:Nat):Int)):=by unfold vM;rw[kg,hj];rfl
    rw[cK hi,aA,j6 (by simp;omega),aA,aA,dA];refine⟨_,rfl,a2,?_,λj' q hj'=>?_⟩
    ·unfold vM;rw[iI,aK e]
     have:=AO (λa=>(cls k r a).map (λi=>((i:Nat):Int))) (λa=>(cls (k+1) r a).map (λi=>((i:Nat):Int))) (cC k r) j (r k) (qg k r) hj (λb hb hne=>by
      rw[AN,aK (λh=>hne h.symm)])
     rw[AN,aG rfl,fX]at this;exact this
    ·rw[iI,aK e]at hj';exact hm j' q hj')
 rw[h1,aA];obtain⟨l,ss,m⟩:=s';dsimp only at h2;rw[hlen]at h2;refine⟨l,?_,h2.1⟩;rw[<-h2.2.1]
end
section
variable {N:Nat}
def JP{n:Nat}{up:Z Int}{r:Nat->Nat}(h:UF n up r){i:Nat}(hi:i<n)(hn:n<N):∃up',gL N ((i:Nat):Int) up=some (((r i:Nat):Int),up')/\UF n up' r:=by
 unfold gL
 have:=Ym (β:=Int×Z Int) (Q:=λx=>x.1=((r i:Nat):Int)/\UF n x.2 r) (Zl (body:=λ(s32:Int×(Z Int))=>((idx s32.2 s32.1).bind λx43=>bif(x43 != s32.1)then((idx s32.2 s32.1).bind λx44=>(idx s32.2 x44).bind λx45=>(idx s32.2 s32.1).bind λx46=>(idx (s32.2.set (Int.toNat s32.1) x45) s32.1).bind λx47=>some (.nx (x47,(s32.2.set (Int.toNat s32.1) x45))))else(some (.br (s32.1,s32.2))):aV (Fl (Int×(Z Int)) Empty)))
  (N:=N) (s:=(((i:Nat):Int),up)) (Go:=λs=>s.1=((r i:Nat):Int)/\UF n s.2 r) (Rt:=λ_=>True) (λs=>UF n s.2 r/\∃j:Nat,s.1=((j:Nat):Int)/\j<n/\r j=r i) (λs=>s.1.toNat) (by
   rintro⟨y,l⟩⟨hu,j,hj,hjn,hr⟩;dsimp only at hu hj ⊢;subst hj;obtain⟨u,a1,a2,a3,a4⟩:=hu.rt j hjn;refine Yx a1 ?_
   by_cases e:u=j
   ·grind [YO]
   ·obtain⟨v,b1,b2,b3,b4⟩:=hu.rt u (by omega);have hl:=hu.len;rw[show(((u:Nat):Int) != ((j:Nat):Int))=true by simp;omega,aO];refine Yx a1<|Yx b1<|Yx a1<|Yx (x:=((v:Nat):Int)) (by grind)<|YK ⟨⟨⟨by simp[hl],λk hk=>?_⟩,v,rfl,by omega,?_⟩,?_⟩
    ·rw[dA,sF (by omega)]
     by_cases e2:k=j
     ·grind
     ·rw[aK e2];exact hu.rt k hk
    ·omega
    omega)
  ⟨h,i,rfl,hi,rfl⟩ (by omega))
  (λo ho=>YS (f:=λ(s32:Int×Z Int)=>some (s32.1,s32.2)) (g:=λr:Empty=>r.elim) ho (λs h=>V_ h)<|λr=>r.elim)
 obtain⟨⟨x,up'⟩,h1,h2,h3⟩:=this
 grind
def Qp{n:Nat}{up:Z Int}{r:Nat->Nat}(h:UF n up r){i k:Nat}(hi:i<n)(hk:k<n){f:Z Int->aV (Z Int)}(hn:n<N):
  ∃up',((gL N ((i:Nat):Int) up).bind λx840=>(gL N ((k:Nat):Int) x840.2).bind λx842=>(idx x842.2 (if x840.1<x842.1 then x842.1 else x840.1)).bind λx844=>some<|x842.2.set (Int.toNat (if x840.1<x842.1 then x842.1 else x840.1)) (if x842.1<x840.1 then x842.1 else x840.1))=some up'/\UF n up' (wi r (r i)<|r k):=by
 obtain⟨u1,a1,a2⟩:=JP h hi hn;obtain⟨u2,b1,b2⟩:=JP a2 hk hn;obtain⟨v1,c1,c2⟩:=JO h hi hn;have hri:=h.le i hi;have hrk:=h.le k hk;have rri:=h.rr i hi;have rrk:=h.rr k hk;rw[a1,aA,b1,aA];dsimp only;rw[Qn,Qo];have hm:max (r i) (r k)<n:=by omega
 have hl:=b2.len;rw[kN _ _ (by omega),aA,dA];refine⟨_,rfl,by simp[hl],λx hx=>?_⟩;have rmax:r (max (r i)<|r k)=max (r i) (r k):=by grind
 have rmin:r (min (r i)<|r k)=min (r i) (r k):=by grind
 rw[sF (by omega)]
 by_cases e:x=max (r i) (r k)
 ·grind [Min.min,wi]
 ·rw[aK e];obtain⟨u,c1,c2,c3,c4⟩:=b2.rt x hx
  grind [wi,Max.max]
def k7(s:Z aB)(k:Nat):Nat:=(bF<|s.take k).length
def EN{s:Z aB}{k:Nat}(h:k<s.length):k7 s (k+1)=k7 s k+s[k].Xs.length / 2:=by
 grind [k7,dN,rk,dC,bF,qe,tr]
def EO{s:Z aB}{k m:Nat}(h:k<=m):k7 s k<=k7 s m:=by
 unfold k7;have:=EL (s.take m) k
 grind
theorem Lg(s:Z aB):k7 s s.length=(bF s).length:=by simp[k7,dK]
def RY{s:Z aB}{k t:Nat}(h:k<s.length)(ht:2*t+1<s[k].Xs.length):(bF s)[k7 s k+t]? =some ⟨s[k].Xs[2*t],s[k].Y0,s[k].Xs[2*t+1],s[k].Y1⟩:=by
 have e:bF s=bF (s.take k)++(qe s[k]++bF (s.drop<|k+1)):=by
  grind [List.take_append_drop,wh,rk,qf]
 grind [k7,kJ,Nat.add_sub_cancel_left,kI,tr,qe,D0]
def NN{s:Z aB}{i:Nat}(h:i<(bF s).length):∃k,k<s.length/\k7 s k<=i/\i<k7 s (k+1):=by
 have key:∀m,m<=s.length->i<k7 s m->∃k,k<m/\k7 s k<=i/\i<k7 s (k+1):=by
  intro m
  induction m with
  |zero=>simp[k7,bF]
  |succ m ih=>
   grind
 grind [Lg]
def JQ(a c:aJ):Prop:=a.Y1=c.Y0/\a.X0<c.X1/\c.X0<a.X1
def El(all:Z aJ)(i j:Nat):Prop:=∃a c,all[i]? =some a/\all[j]? =some c/\JQ a c
def Bp{s:Z aB}(he:∀b∈s,b.Xs.length % 2=0){k i:Nat}(hk:k<s.length)(h1:k7 s k<=i)(h2:i<k7 s (k+1)):∃t,i=k7 s k+t/\∃h:2*t+1<s[k].Xs.length,(bF s)[i]? =some ⟨s[k].Xs[2*t],s[k].Y0,s[k].Xs[2*t+1],s[k].Y1⟩:=by
 rw[EN hk]at h2;have:=he _<|cP hk
 refine⟨i - k7 s k,by omega,by omega,?_⟩;have h3:=RY (t:=i - k7 s k) hk (by omega)
 grind
def Hg{s:Z aB}(hc:fT (s.map cO)){p q:Nat}(hp:p<s.length)(hq:q<s.length)(h:p<q):s[p].Y1<=s[q].Y0:=by
 have:=og.1 hc.ord p q (by simp;omega) (by simp;omega) h;simp only[List.getElem_map]at this;exact this.1
def Hh{s:Z aB}(hc:fT (s.map cO)){p:Nat}(hp:p<s.length):s[p].Y0<s[p].Y1:=(hc.each (cO s[p])<|dU.2 ⟨_,cP hp,rfl⟩).1
def xS{s:Z aB}(hc:fT (s.map cO)):∀b∈s,b.Xs.length % 2=0:=λb hb=>(hc.each (cO b)<|dU.2 ⟨b,hb,rfl⟩).2.2.2
def NO{s:Z aB}(hc:fT (s.map cO)):∀b∈s,k6 b.Xs:=λb hb=>(hc.each (cO b)<|dU.2 ⟨b,hb,rfl⟩).2.2.1
def Lh{s:Z aB}(hc:fT (s.map cO)){i j q:Nat}(hq:q<s.length)(h1:k7 s q<=j)(h2:j<k7 s (q+1))(ht:El (bF s) i j):∃hq0:0<q,s[q - 1].Y1=s[q].Y0/\k7 s (q - 1)<=i/\i<k7 s q:=by
 obtain⟨a,c,ha,hb,e1,e2,e3⟩:=ht;obtain⟨t,e4,ht,hj⟩:=Bp (xS hc) hq h1 h2;rw[hj]at hb;injection hb with hb;subst hb
 have hil:=(bP.1 ha).1;obtain⟨p,hp,p1,p2⟩:=NN hil;obtain⟨u,e5,hu,hi⟩:=Bp (xS hc) hp p1 p2;rw[hi]at ha;injection ha with ha;subst ha
 have e1:s[p].Y1=s[q].Y0:=e1;have hpp:=Hh hc hp;have hqq:=Hh hc hq;have hpq:p+1=q:=by
  rcases Nat.lt_trichotomy p q with h|h|h
  ·by_cases h':p+1=q
   ·exact h'
   ·have h3:=Hg hc hp (show p+1<s.length by omega) (by omega);have h4:=Hg hc (show p+1<s.length by omega) hq (by omega);have h5:=Hh hc (show p+1<s.length by omega);omega
  ·grind
  ·have:=Hg hc hq hp h;omega
 grind
structure PJ (all:Z aJ) (n:Nat) (up:Z Int) (r:Nat->Nat) (E:Z (Nat×Nat)):Prop where
 uf:UF n up r
 co:vL r E
 fi:Hf n r E
 so:∀p∈E,El all p.1 p.2
def PJ.join{all:Z aJ}{n:Nat}{up up':Z Int}{r:Nat->Nat}{E:Z (Nat×Nat)}(h:PJ all n up r E){i j:Nat}(hi:i<n)(hj:j<n)(hu:UF n up' (wi r (r i)<|r j))(ht:El all i j):PJ all n up' (wi r (r i)<|r j) (E++[(i,j)]):=
 ⟨hu,h.co.join i j (h.uf.rr i hi),h.fi.join hi hj,λp hp=>by
  rcases dP.1 hp with hp|hp
  ·exact h.so p hp
  grind⟩
structure Joined (all:Z aJ) (r:Nat->Nat):Prop where
 le:∀i,i<all.length->r i<=i
 rr:∀i,i<all.length->r (r i)=r i
 co:∀i j,El all i j->r i=r j
 fi:∀S:Nat->Prop,(∀i j,El all i j->(S i↔S j))->∀i j,i<all.length->j<all.length->r i=r j->S i->S j
def rl(all:Z aJ)(n:Nat)(r:Nat->Nat)(h:Nat):Z aJ:=(cls n r h).filterMap<|λi=>all[i]?
def Hi(all:Z aJ)(n:Nat)(r:Nat->Nat)(h:Nat):(rl all n r h).length<=n:=by
 grind [List.length_filterMap_le,cls,D1,rl]
def Bq{all:Z aJ}{n:Nat}{r:Nat->Nat}(h:Nat){x:aJ}(hx:all[n]? =some x):rl all (n+1) r h=if r n=h then rl all n r h++[x]else rl all n r h:=by
 grind [rl,AN]
theorem oM{all:Z aJ}{n:Nat}{r:Nat->Nat}{h:Nat}{x:aJ}:x∈rl all n r h↔∃i,i<n/\r i=h/\all[i]? =some x:=by
 unfold rl cls
 grind
structure wz (s:Z aB) (r:Nat->Nat) (ps:Z (Z aB)):Prop where
 join:Joined (bF s) r
 len:ps.length=(cC (bF s).length r).length
 each:∀(j h:Nat)(p:Z aB),(cC (bF s).length r)[j]? =some h->ps[j]? =some p->xQ (rl (bF s) (bF s).length r h) p
def XF(n:Nat)(r:Nat->Nat)(m:Z (Int×Int)):Prop:=(∀(j k:Nat),(cC n r)[j]? =some k->fP m ((k:Nat):Int) 0=((j:Nat):Int))/\∀k:Nat,k9 m ((k:Nat):Int)=decide (k∈cC n r)
def MK{s:Z aB}{X Y:Z Int}(hc:fT (s.map cO))(hl:C5 X Y (s.map cO))(hX:∀c∈X,small c)(hY:∀c∈Y,small c)(h1:s.length<=1073741824)(h2:∀b∈s,b.Xs.length<=1073741824)(h3:(bF s).length<=134217728)(hN:4398046511104<=N):
  Ok (oF N s) (λps=>∃r,wz s r ps):=by
 unfold oF;have hev:=xS hc;have hinc:=NO hc;refine X_ (Hb hev (by omega) (λb hb=>by grind) (by omega)) ?_;have hok:=Hc hc hl hX hY;have hall:k7 s s.length=(bF s).length:=Lg s;generalize hn:(bF s).length=n at *;refine X_ (wx 0 (by omega)) ?_;rw[show((List.replicate n (0:Int)).length)=n by simp];refine Ym (Zk (λk up=>up.length=n/\∀i,i<k->up[i]? =some ((i:Nat):Int)) (by omega) ⟨by simp,λi hi=>by omega⟩<|λk up hk hI=>?_) ?_
 ·grind [Zf,V_,dA,sF]
 rintro up0⟨hu1,hu2⟩
 refine Ym (Zk (λk st=>st.2.1=((k7 s k:Nat):Int)/\(0<k->st.2.2=((k7 s (k - 1):Nat):Int))/\∃r E,PJ (bF s) n st.1 r E/\∀q,q<k->∀i j,k7 s q<=j->j<k7 s (q+1)->El (bF s) i j->(i,j)∈E) (by omega)
  ⟨rfl,λh=>by omega,_,_,⟨UF.init n up0 hu1 hu2,vL.id,Hf.id n,λp hp=>(by cases hp)⟩,λq hq=>by omega⟩ (λk st hk hI=>?_)) ?_
 ·obtain⟨up,a,b⟩:=st;obtain⟨e1,e2,r,E,hP,hE⟩:=hI;dsimp only at e1 e2 hP ⊢;subst e1;refine Zf hk ?_;have hoff:=EN hk;have hoffle:k7 s (k+1)<=n:=by rw[<-hall];exact EO hk
  have hkm:=cP hk;have hlen:wrap .i64 (Int.tdiv ((s[k].Xs.length:Nat):Int) 2)=((s[k].Xs.length / 2:Nat):Int):=by
   grind [Int.ofNat_tdiv,Lb]
  rw[hlen,wrap_add (by omega),<-hoff];refine Ym (P:=λc=>c=true↔∃h0:0<k,s[k - 1].Y1=s[k].Y0) ?_<|λc hcc=>?_
  ·grind [V_,iv,Zf,of_decide_eq_false]
  refine Ym (P:=λup'=>∃r E,PJ (bF s) n up' r E/\∀q,q<k+1->∀i j,k7 s q<=j->j<k7 s (q+1)->El (bF s) i j->(i,j)∈E) ?_<|λup' hI=>V_ ⟨rfl,λ_=>rfl,hI⟩
  refine YW (λh=>?_)<|λh=>V_ ⟨r,E,hP,λq hq i j q1 q2 ht=>?_⟩
  ·obtain⟨hpos,hyy⟩:=hcc.1 h;rw[e2 hpos];have hoffp:=EN (show k - 1<s.length by omega);rw[show k - 1+1=k by omega]at hoffp
   refine Ym (Zl (Go:=λst=>∃r E,PJ (bF s) n st.1 r E/\∀q,q<k+1->∀i j,k7 s q<=j->j<k7 s (q+1)->El (bF s) i j->(i,j)∈E) (Rt:=λ_=>True)
    (λst=>∃i j:Nat,st.2.1=((i:Nat):Int)/\st.2.2=((j:Nat):Int)/\k7 s (k - 1)<=i/\i<=k7 s k/\k7 s k<=j/\j<=k7 s (k+1)/\∃r E,PJ (bF s) n st.1 r E/\(∀q,q<k->∀i j,k7 s q<=j->j<k7 s (q+1)->El (bF s) i j->(i,j)∈E)/\
     ∀i' j',k7 s (k - 1)<=i'->i'<k7 s k->k7 s k<=j'->j'<k7 s (k+1)->(i'<i\/j'<j)->El (bF s) i' j'->(i',j')∈E)
    (λst=>(n - st.2.1.toNat)+(n - st.2.2.toNat)) ?_ ?_ (by simp only[dA];omega)) (λo ho=>YS ho (λst h=>V_ h) (λr=>r.elim))
   ·rintro⟨up,a,b⟩⟨i,j,e3,e4,i1,i2,j1,j2,r,E,hP,hE,hE2⟩;dsimp only at e3 e4 hP ⊢;subst e3;subst e4;refine YW (λh=>?_)<|λh=>YO ?_
    ·rw[dB,cZ,cZ]at h;have hi:i<k7 s k:=by omega
     have hj:j<k7 s (k+1):=by omega
     obtain⟨t,et,_,hri⟩:=Bp hev (show k - 1<s.length by omega) i1 (by rw[show k - 1+1=k by omega];exact hi);obtain⟨u,eu,_,hrj⟩:=Bp hev hk j1 hj;have xi:=hinc _<|cP (show k - 1<s.length by omega)
     have xj:=hinc _ hkm;have farI:∀i' a,i<i'->i'<k7 s k->(bF s)[i']? =some a->s[k - 1].Xs[2*t+1]<a.X0:=λi' a h4 h5 h6=>by
      obtain⟨t',et',ht',hr'⟩:=Bp hev (show k - 1<s.length by omega) (show k7 s (k - 1)<=i' by omega) (by rw[show k - 1+1=k by omega];exact h5);rw[hr']at h6;injection h6 with h6;subst h6
      exact xi.lt (show 2*t+1<2*t' by omega) (aM _)<|aM _
     have farJ:∀j' a,j<j'->j'<k7 s (k+1)->(bF s)[j']? =some a->s[k].Xs[2*u+1]<a.X0:=λj' a h4 h5 h6=>by
      obtain⟨u',eu',hu',hr'⟩:=Bp hev hk (show k7 s k<=j' by omega) h5;rw[hr']at h6;injection h6 with h6;subst h6
      exact xj.lt (show 2*u+1<2*u' by omega) (aM _)<|aM _
     refine Ym (P:=λc=>c=true↔El (bF s) i j) ?_<|λc hct=>?_
     ·refine Yx hri<|Yx hrj<|YW (λh=>Yx hrj<|Yx hri<|V_ ?_)<|λh=>V_ ?_
      ·rw[cZ]at h ⊢;constructor
       ·intro h';exact⟨_,_,hri,hrj,hyy,h,h'⟩
       ·rintro⟨a,c,ha,hc',_,_,h'⟩;rw[hri]at ha;injection ha with ha;subst ha
        rw[hrj]at hc';injection hc' with hc';subst hc'
        exact h'
      ·constructor
       ·intro h;cases h
       ·rintro⟨a,c,ha,hc',_,h',_⟩;rw[hri]at ha;injection ha with ha;subst ha
        rw[hrj]at hc';injection hc' with hc';subst hc'
        rw[decide_eq_false_iff_not]at h;exact absurd h' h
     refine Ym (P:=λup'=>∃r E',PJ (bF s) n up' r E'/\(∀p∈E,p∈E')/\(El (bF s) i j->(i,j)∈E')) ?_ ?_
     ·refine YW (λh=>?_)<|λh=>V_ ⟨r,E,hP,λp hp=>hp,λht=>by rw[hct.2 ht]at h;cases h⟩
      obtain⟨up',u1,u2⟩:=Qp (N:=N) (f:=λx=>some x) hP.uf (i:=i) (k:=j) (by omega) (by omega) (by omega);refine⟨up',u1,_,_,hP.join (by omega) (by omega) u2<|hct.1 h,λp hp=>List.mem_append_left _ hp,λ_=>by simp⟩
     ·rintro up'⟨r',E',hP',hsub,hij⟩;refine Yx hri<|Yx hrj ?_
      dsimp only
      by_cases hx:s[k - 1].Xs[2*t+1]<s[k].Xs[2*u+1]
      ·rw[bS hx,aO];refine X_ (x:=(((i+1:Nat):Int),((j:Nat):Int))) (by rw[bR (by omega)])<|YK ⟨⟨i+1,j,rfl,rfl,by omega,by omega,j1,j2,r',E',hP',λq hq i j q1 q2 ht=>hsub _<|hE q hq i j q1 q2 ht,λi' j' g1 g2 g3 g4 g5 ht=>?_⟩,by simp only[dA];omega⟩
       by_cases h5:i'<i\/j'<j
       ·exact hsub _<|hE2 i' j' g1 g2 g3 g4 h5 ht
       ·have:i'=i:=by omega
        subst this
        by_cases h6:j'=j
        ·subst h6;exact hij ht
        ·exfalso;obtain⟨a,c,ha,hc',_,_,h'⟩:=ht;rw[hri]at ha;injection ha with ha;subst ha
         have:=farJ j' c (by omega) g4 hc';dsimp only at h';omega
      ·rw[cF hx,aR];refine X_ (x:=(((i:Nat):Int),((j+1:Nat):Int))) (by rw[bR (by omega)])<|YK ⟨⟨i,j+1,rfl,rfl,i1,i2,by omega,by omega,r',E',hP',λq hq i j q1 q2 ht=>hsub _<|hE q hq i j q1 q2 ht,λi' j' g1 g2 g3 g4 g5 ht=>?_⟩,by simp only[dA];omega⟩
       by_cases h5:i'<i\/j'<j
       ·exact hsub _<|hE2 i' j' g1 g2 g3 g4 h5 ht
       ·have:j'=j:=by omega
        subst this
        by_cases h6:i'=i
        ·subst h6;exact hij ht
        ·exfalso;obtain⟨a,c,ha,hc',_,h',_⟩:=ht;rw[hrj]at hc';injection hc' with hc';subst hc'
         have:=farI i' a (by omega) g2 ha;dsimp only at h';omega
    ·refine⟨r,E,hP,λq hq i' j' q1 q2 ht=>?_⟩
     by_cases hqk:q<k
     ·exact hE q hqk i' j' q1 q2 ht
     ·have:q=k:=by omega
      subst this;obtain⟨_,_,g1,g2⟩:=Lh hc hk q1 q2 ht;refine hE2 i' j' g1 g2 q1 q2 ?_ ht;rw[Bool.and_eq_false_iff,decide_eq_false_iff_not,decide_eq_false_iff_not]at h;omega
   ·exact⟨k7 s<|k - 1,k7 s k,rfl,rfl,cG _,EO (by omega),cG _,EO (by omega),r,E,hP,hE,λi' j' g1 g2 g3 g4 g5=>by omega⟩
  ·by_cases hqk:q<k
   ·exact hE q hqk i j q1 q2 ht
   ·have:q=k:=by omega
    subst this;obtain⟨g0,g1,_⟩:=Lh hc hk q1 q2 ht;rw[hcc.2 ⟨g0,g1⟩]at h;cases h
 ·rintro⟨up,a,b⟩⟨_,_,r,E,hP,hE⟩;dsimp only at hP ⊢;have hEq:∀i j,El (bF s) i j->(i,j)∈E:=λi j ht=>by
   have hjl:j<(bF s).length:=by obtain⟨a,c,_,hb,_⟩:=ht;exact(bP.1 hb).1
   obtain⟨q,hq,q1,q2⟩:=NN hjl;exact hE q hq i j q1 q2 ht
  have hJ:Joined (bF s) r:=⟨by rw[hn];exact hP.uf.le,by rw[hn];exact hP.uf.rr,λi j ht=>hP.co (i,j) (hEq i j ht),λS hS i j hi hj=>by
   rw[hn]at hi hj
   exact hP.fi S (λp hp=>hS p.1 p.2 (hP.so p hp)) i j hi hj⟩
  refine Ym (Zk (λk st=>UF n st.1 r/\XF k r st.2.1/\st.2.2=(cC k r).map (rl (bF s) k r)) (by omega) ⟨hP.uf,⟨λj k hj=>by simp[cC]at hj,λk=>rfl⟩,rfl⟩<|λk st hk hI=>?_) ?_
  ·obtain⟨l,m,ls⟩:=st;obtain⟨hu,⟨hm1,hm2⟩,hs⟩:=hI;dsimp only at hu hm1 hm2 hs ⊢;subst hs;have hkx:(bF s)[k]? =some ((bF s)[k]'(by omega)):=aM (by omega);refine Yx hkx ?_;obtain⟨u',a1,a2⟩:=JP (N:=N) hu hk (by omega);refine X_ a1 ?_;dsimp only;have hhl:=mT k r;have hrk:=hP.uf.le k hk;have hrr:=hP.uf.rr k hk;have hcl:=Hi (bF s) k r<|r k
   have hmap:((cC k r).map<|rl (bF s) k r).length=(cC k r).length:=by simp
   rw[hm2]
   by_cases e:r k=k
   ·have hnot:r k∉cC k r:=λh=>by have:=(kD.1 h).1;omega
    refine X_ (x:=(pM m ((r k:Nat):Int) (((cC k r).length:Nat):Int),(cC k r).map (rl (bF s) k r)++[([]:Z aJ)],(((cC k r).length:Nat):Int))) ?_ ?_
    ·rw[cF hnot,qp,aO,j6 (by simp;omega),aA,hmap]
    ·dsimp only;have hi:((cC k r).map (rl (bF s) k r)++[([]:Z aJ)])[(cC k r).length]? =some []:=by rw[<-hmap,kJ<|cG _,Nat.sub_self];rfl
     refine Yx hi<|Y2 (by simp)<|Yx hi<|V_ ⟨a2,⟨λj q hj=>?_,λq=>?_⟩,?_⟩
     ·dsimp only;rw[iI,aG e]at hj;rw[xN]
      by_cases e2:j<(cC k r).length
      ·rw[kI e2]at hj;have:=(kD.1<|dT hj).1;rw[aK (by omega)];exact hm1 j q hj
      ·rw[kJ (by omega)]at hj;have hj0:j -(cC k r).length=0:=by
        have:=(bP.1 hj).1;simp at this;omega
       rw[hj0]at hj;simp at hj;subst hj;rw[aG (by rw[e])];congr 1;omega
     ·dsimp only;rw[EK,hm2,iI,aG e,fY];rw[gT,cZ,cZ,cZ,dP,mA,e];constructor
      ·rintro(h|h)
       ·exact .inr (by omega)
       ·exact .inl h
      ·rintro(h|h)
       ·exact .inr h
       ·exact .inl (by omega)
     ·dsimp only;rw[dA,<-hmap,List.set_append_right _ _<|cG _,Nat.sub_self,iI,aG e,fX];congr 1
      ·apply List.map_congr_left;intro a ha;have:=(kD.1 ha).1;rw[Bq a hkx,aK (by omega)]
      ·simp only[List.set_cons_zero,fI,List.map_nil,List.nil_append];rw[Bq k hkx,aG e];have:rl (bF s) k r k= []:=by unfold rl;rw[NM (λi hi=>hP.uf.le i (by omega))<|cG _];rfl
       rw[this];rfl
   ·have hh:r k∈cC k r:=kD.2 ⟨by omega,hrr⟩;obtain⟨j,hj⟩:=dD hh;refine X_ (x:=(m,(cC k r).map<|rl (bF s) k r,((j:Nat):Int))) ?_ ?_
    ·rw[bS hh,lT,aR,hm1 j (r k) hj]
    ·dsimp only;have hi:((cC k r).map<|rl (bF s) k r)[j]? =some (rl (bF s) k r<|r k):=by rw[kg,hj];rfl
     refine Yx hi<|Y2 (by simp;omega)<|Yx hi<|V_ ⟨a2,⟨λj' q hj'=>?_,λq=>?_⟩,?_⟩
     ·rw[iI,aK e]at hj';exact hm1 j' q hj'
     ·rw[iI,aK e];exact hm2 q
     ·dsimp only;rw[dA,iI,aK e]
      have:=AO (rl (bF s) k r) (rl (bF s) (k+1) r) (cC k r) j (r k) (qg k r) hj (λb hb hne=>by
       rw[Bq b hkx,aK (λh=>hne h.symm)])
      rw[Bq (r k) hkx,aG rfl]at this;exact this
  ·rintro⟨l,m,ls⟩⟨_,_,hs⟩;dsimp only at hs ⊢;subst hs;have hhl:=mT n r;refine Ym (Zk (λk ps=>ps.length=k/\∀(j h:Nat)(p:Z aB),j<k->(cC n r)[j]? =some h->ps[j]? =some p->xQ (rl (bF s) n r h) p) (by simp;omega) ⟨rfl,λj h p hj=>by omega⟩<|λk ps hk hI=>?_) ?_
   ·obtain⟨hp1,hp2⟩:=hI;have hk':k<(cC n r).length:=by simpa using hk
    refine Yx (x:=rl (bF s) n r (cC n r)[k]) (by rw[kg,aM hk'];rfl) ?_;have hcl:=Hi (bF s) n r (cC n r)[k];refine Ym (tq (N:=N) (by omega) (λx hx=>?_) (by omega)) ?_
    ·obtain⟨i,_,_,h⟩:=oM.1 hx;exact(hok x<|dT h).1
    ·intro p hp;refine Y2 (by rw[hp1];simp;omega)<|V_ ⟨by simp[hp1],λj h q hj hh hq=>?_⟩
     by_cases hjk:j<k
     ·rw[kI (by omega)]at hq;exact hp2 j h q hjk hh hq
     ·have:j=k:=by omega
      subst this;rw[kJ (by omega),hp1,Nat.sub_self]at hq;simp at hq;subst hq;rw[aM hk']at hh;injection hh with hh;subst hh
      exact hp
   ·rintro ps⟨hp1,hp2⟩;refine V_ ⟨r,hJ,?_,λj h p hh hp=>?_⟩
    ·rw[hp1,hn];simp
    ·rw[hn]at hh ⊢;exact hp2 j h p (by have:=(bP.1 hp).1;omega) hh hp
end
section
variable {N:Nat}
def D2{n:Int}(h: -9223372036854775808<=n/\n<=9223372036854775807):wrap .i64 n=n:=by rw[IntKind.wrap_i64];omega
def iz(n lo hi:Int):Bool:=decide (n>=lo)&&decide (n<=hi)
def qh(n:Int):Bool:=iz n (-1000000) 1000000
def vN(p:kF):Bool:=qh p.X&&qh p.Y
def gQ(r:aJ):Bool:=qh r.X0&&(qh r.Y0&&(qh r.X1&&qh r.Y1))
def Hj(n:Int):oj N n=some (qh n):=rfl
theorem Fu(p:kF):lZ N p=some (vN p):=by
 unfold lZ vN;rw[Hj,aA,Hj]
 cases qh p.X <;> rfl
theorem Fv(p:kF):gX N p=some (vN p):=by
 have e:∀n,dI N n=some (qh n):=λ_=>rfl;unfold gX vN;rw[e,aA,e]
 cases qh p.X <;> rfl
def Hk(r:aJ):qu N r=some (gQ r):=by
 unfold qu gQ;simp only[Hj,aA]
 cases qh r.X0 <;> cases qh r.Y0 <;> cases qh r.X1 <;> rfl
def Li{a b:Int}(h:a≠b):jl (N+4) [a,b]=some [a,b]:=by
 have e:(b==a)=false:=by rw[beq_eq_false_iff_ne];exact λe=>h e.symm
 have w1:wrap .i64 ((1:Int) - 1)=0:=by decide
 have w2:wrap .i64 ((1:Int)+1)=2:=by decide
 unfold jl;have e1:idx [a,b] 1=some b:=rfl;have e2:idx [a,b] 0=some a:=rfl;have l2:(([a,b]:Z Int).length:Int)=2:=rfl;rw[l2,show decide ((2:Int)<2)=false by decide,aR];rw[iL.eq_def];dsimp only;rw[show decide ((1:Int)<2)=true by decide,aO,e1,aA,w1,e2,aA,e,aR,aA,w2];dsimp only;rw[iL.eq_def];dsimp only;rw[show decide ((2:Int)<2)=false by decide,aR,aA];rfl
def SP(x:Int):wrap .i64 (x - x)=0:=by rw[Int.sub_self];decide
def Ov{r:aJ}(hx:r.X0<r.X1)(hy:r.Y0<r.Y1):jy (N+16) [r]=some [⟨r.Y0,r.Y1,[r.X0,r.X1]⟩]:=by
 have s1:z8 (mh<|N+16) [r]=some [r]:=IV (by unfold mh;rw[SP]);have s2:z8 (jm<|N+16) [r]=some [r]:=IV (by unfold jm;rw[SP]);have s3:z7 [r.Y0,r.Y1]=some [r.Y0,r.Y1]:=Im (by simp;omega) (by simp);have c1:lq (N+16) [r]=some [r]:=rfl;have f1:∀φ,j4 (N+16) [] φ=some []:=λφ=>rfl;have st:lF (N+16) [r]=some ([r.X0,r.X1],[r]):=by
  unfold lF;rw[s2,aA];rfl
 have pu:∀b:aB,b.Xs= [r.X0,r.X1]->b.Y0<b.Y1->kT (N+16) [] b=some [b]:=λb h1 h2=>by
  unfold kT;rw[h1,cF (show ¬b.Y1<=b.Y0 by omega)];rfl
 unfold jy;rw[c1,aA,s1,aA];have ys:mc ([r]:Z aJ).length (λ(k35:Nat)(s36:Z Int)=>((idx [r] (k35:Int)).bind λx54=>(app 8 s36 ([x54.Y0,x54.Y1]:Z Int)).bind λx58=>some x58:aV (Z Int))) ([]:Z Int)=some [r.Y0,r.Y1]:=rfl;rw[ys,aA,s3,aA,Li (N:=N+12) (by omega),aA];have l2:(([r.Y0,r.Y1]:Z Int).length:Int)=2:=rfl;have l1:(([r]:Z aJ).length:Int)=1:=rfl;have w1:wrap .i64 ((0:Int)+1)=1:=by decide
 have w2:wrap .i64 ((1:Int)+1)=2:=by decide
 have i0:idx [r.Y0,r.Y1] 0=some r.Y0:=rfl;have i1:idx [r.Y0,r.Y1] 1=some r.Y1:=rfl;have j0:idx [r] 0=some r:=rfl;have a1:app 32 ([]:Z aJ) [r]=some [r]:=rfl;rw[l2,l1];rw[iL.eq_def];dsimp only;rw[w1,show decide ((1:Int)<2)=true by decide,aO,f1,aA];rw[iL.eq_def];dsimp only;rw[show decide ((0:Int)<1)=true by decide,aO,j0,aA,i0,aA,aA,show decide (r.Y0<=r.Y0)=true by simp,aO,aA,a1,aA,w1,aA];dsimp only;rw[iL.eq_def];dsimp only;rw[show decide ((1:Int)<1)=false by decide,aR,aA,aR,aA,aA];unfold Fo.cs;dsimp only;rw[aA,i1,aA,st,aA,pu _ rfl hy,aA,aA];dsimp only;rw[iL.eq_def];dsimp only;rw[w2,show decide ((2:Int)<2)=false by decide,aR,aA];rfl
def Qq{r:aJ}(hx:r.X0<r.X1):pO N [⟨r.Y0,r.Y1,[r.X0,r.X1]⟩]=some (gQ r):=by
 have ar:qx N [⟨r.Y0,r.Y1,[r.X0,r.X1]⟩]=some r:=by
  have e1:(if r.X0<r.X0 then r.X0 else r.X0)=r.X0:=by split <;> rfl
  have e2:(if r.X1<r.X1 then r.X1 else r.X1)=r.X1:=by split <;> rfl
  show some ({X0:=(if r.X0<r.X0 then r.X0 else r.X0),Y0:=r.Y0,X1:=(if r.X1<r.X1 then r.X1 else r.X1),Y1:=r.Y1}:aJ)=some r;rw[e1,e2]
 unfold pO;rw[ar,aA,Hk];rfl
def AP(b:cL):aJ:=⟨b.At.X - b.eC / 2,b.At.Y - b.eC / 2,b.At.X - b.eC / 2+b.eC,b.At.Y - b.eC / 2+b.eC⟩
def uo(b:cL):Bool:=iz b.eC 1 10000&&vN b.At
def pD(b:cL):aJ×Int:=if uo b&&gQ (AP b)then(AP b,0)else(⟨0,0,0,0⟩,1)
def wA{b:cL}(h:uo b=true):(1<=b.eC/\b.eC<=10000)/\(-1000000<=b.At.X/\b.At.X<=1000000)/\(-1000000<=b.At.Y/\b.At.Y<=1000000):=by
 simp only[uo,iz,vN,qh,dB,decide_eq_true_iff]at h;omega
theorem qj{b:cL}(h:uo b=true):iJ N b=some (AP b):=by
 obtain⟨h1,h2,h3⟩:=wA h;have t:Int.tdiv b.eC 2=b.eC / 2:=Int.tdiv_eq_ediv_of_nonneg (by omega);unfold iJ AP;rw[t,D2 (n:=b.eC / 2) (by omega),D2 (n:=b.At.X - b.eC / 2) (by omega),D2 (n:=b.At.Y - b.eC / 2) (by omega),D2 (by omega),D2 (by omega)]
def xT{b:cL}:nz (N+16) b=some (pD b):=by
 have e0:jU (N+16) b.eC 1 10000=some (iz b.eC 1 10000):=rfl;have e1:(bif(!(iz b.eC 1 10000))then some true else some (!(vN b.At)))=some (!uo b):=by unfold uo;cases iz b.eC 1 10000 <;> rfl
 unfold nz pD;rw[e0,aA,Fu,aA,e1,aA]
 cases hf:uo b with
 |false=>rfl
 |true=>
  obtain⟨h1,h2,h3⟩:=wA hf;have hx:(AP b).X0<(AP b).X1:=by simp only[AP];omega
  have hy:(AP b).Y0<(AP b).Y1:=by simp only[AP];omega
  rw[lT,aR,qj hf,aA,Ov hx hy,aA,Qq hx,aA]
  cases gQ (AP b) <;> rfl
def Ow:iU (N+16)=some true:=by
 unfold iU;rw[xT,aA];rfl
end
section
variable {N:Nat}
def Hl(c:UInt8):Bool:=
 (((decide (((c.toNat:Nat):Int)<65)||decide (((c.toNat:Nat):Int)>90))&&(decide (((c.toNat:Nat):Int)<97)||decide (((c.toNat:Nat):Int)>122)))&&(decide (((c.toNat:Nat):Int)<48)||decide (((c.toNat:Nat):Int)>57)))&&decide (Lib.indexByte [95,43,45,35] c<0)
def isWord(s:cD):Bool:= !s.cY.any Hl&&(decide (1<=s.cY.length)&&decide (s.cY.length<=40))
def yS(s:cD)(c:UInt8):g9 N s ((c.toNat:Nat):Int)=some (Lib.indexByte s.cY c):=by
 show some (Lib.indexByte s.cY (Int.toNat ((c.toNat:Nat):Int)).toUInt8)=_;simp
def Hm{R:Type}(b1:Bool)(c:UInt8)(r:R):
  ((bif b1 then((g9 N (⟨[95,43,45,35]⟩) ((c.toNat:Nat):Int)).bind λx14=>some<|decide<|x14<0)else some false).bind λs12=>bif s12 then some (.rt r)else(some<|.nx ()):aV (Fl Unit R))=some (if(b1&&decide (Lib.indexByte [95,43,45,35] c<0))=true then .rt r else .nx ()):=by
 rw[yS,aA]
 grind
theorem pE{s:cD}(h:s.cY.length<=2097152):i7 N s=some (isWord s):=by
 unfold i7
 rw[DH Hl false (by omega) (λk x hx=>by
  have hk:=(bP.1 hx).1;have e:Jl s ((k:Nat):Int)=some x:=by grind [GL,aM]
  rw[e,aA]
  exact Hm (R:=Bool) _ x false),aA]
 unfold isWord
 grind [Hl,Fo.cs,qp,Bool.false_eq_true,Option.some.injEq]
def w3{s:cD}(h:s.cY.length<=2097152):iC N s=some (isWord s):=by
 unfold iC
 rw[DH Hl false (by omega) (λk x hx=>by
  have hk:=(bP.1 hx).1;have e:Jl s ((k:Nat):Int)=some x:=by rw[GL s k hk,<-aM hk,hx]
  rw[e,aA];refine(Hm (R:=Bool) _ x false).trans ?_;unfold Hl
  rw[Bool.and_comm (_||_) (_||_)]),aA]
 unfold isWord gG
 cases s.cY.any Hl
 ·simp only[Fo.cs,aA,qp,Bool.true_and,Bool.false_eq_true,if_false,Option.some.injEq];rw[fY,dB,dB];simp only[cZ];omega
 ·simp[Fo.cs]
def cutAt(c:UInt8):Z UInt8->Z (Z UInt8)
 | []=>[[]]
 |b::l=>if b==c then []::cutAt c l else match cutAt c l with|h::t=>(b::h)::t| []=>[[b]]
def Hn{c:UInt8}:∀{l:Z UInt8},c∉l->cutAt c l= [l]
 | [],_=>rfl
 |b::l,h=>by
  unfold cutAt;have hb:(b==c)=false:=by rw[beq_eq_false_iff_ne];rintro rfl;exact h (by simp)
  rw[hb,Hn<|λh'=>h (by simp[h'])];rfl
def Lj{c:UInt8}:∀{a b:Z UInt8},c∉a->cutAt c (a++c::b)=a::cutAt c b
 | [],b,_=>by rw[List.nil_append];show(if(c==c)=true then _ else _)=_;simp
 |x::a,b,h=>by
  have hb:(x==c)=false:=by rw[beq_eq_false_iff_ne];rintro rfl;exact h (by simp)
  have ih:=Lj (c:=c) (a:=a) (b:=b)<|λh'=>h (by simp[h'])
  show(if(x==c)=true then []::cutAt c (a++c::b)else match cutAt c (a++c::b)with|h::t=>(x::h)::t| []=>[[x]])=_;rw[hb,ih];rfl
def AQ:∀(l:Z UInt8)(c:UInt8),(Lib.indexByte l c = -1/\c∉l)\/∃a b,l=a++c::b/\c∉a/\Lib.indexByte l c=((a.length:Nat):Int)
 | [],c=> .inl ⟨rfl,by simp⟩
 |x::l,c=>by
  unfold Lib.indexByte
  by_cases hx:x=c
  ·subst hx;exact .inr ⟨[],l,rfl,by simp,by simp⟩
  ·have hb:(x==c)=false:=by rw[beq_eq_false_iff_ne];exact hx
   rcases AQ l c with⟨h1,h2⟩|⟨a,b,h1,h2,h3⟩
   ·left;rw[hb,h1];refine⟨by simp,?_⟩;simp[h2];exact λh=>hx h.symm
   ·right;refine⟨x::a,b,by rw[h1];rfl,by grind,?_⟩;rw[hb,h3];have:(((a.length:Nat):Int)== -1)=false:=by rw[beq_eq_false_iff_ne];omega
    rw[this];simp
def Qr(s:cD)(c:UInt8):oS N s ⟨[c]⟩=some (Lib.indexByte s.cY c):=by
 show(mX N s ⟨[c]⟩).bind _=_;unfold mX
 by_cases h:cD.kj ⟨[c]⟩ s=true
 ·grind [rz,Lib.indexByte]
 ·rw[iM]at h;rw[h];show((kl N s ((c.toNat:Nat):Int)).bind _).bind _=_;have:=yS (N:=N) s c
  grind [g9]
def Qs(s:cD)(c:UInt8):qU N s ⟨[c]⟩=some ((s.cY.count c:Nat):Int):=by
 unfold qU;show(some _:aV Int)=_;simp[Lib.countByte]
def Ox{s:cD}{k:Nat}(h:k<=s.cY.length):Cr s 0 ((k:Nat):Int)=some ⟨s.cY.take k⟩:=by
 unfold Cr;grind
def Oy{s:cD}{k:Nat}(h:k<=s.cY.length):Cr s ((k:Nat):Int) ((s.cY.length:Nat):Int)=some ⟨s.cY.drop k⟩:=by
 grind [Cr,dA,oe,lS]
def pq(s:cD)(c:UInt8):Z cD:=(cutAt c s.cY).map cD.mk
def Ho{s:cD}(c:UInt8)(h:s.cY.length<=2097152)(hN:4194304<=N):nv N s ⟨[c]⟩=some (pq s c):=by
 have hc:s.cY.count c<=s.cY.length:=List.count_le_length;unfold nv qt;rw[show((-1:Int)==0)=false by decide,aR,show cD.kj ⟨[c]⟩ ⟨[]⟩=false by simp[cD.kj],aR,Qs,aA];rw[fC (x:=((s.cY.count c:Nat):Int)+1) (by omega) (by omega),show decide ((-1:Int)<0)=true by decide,aO,aA];rw[fC (x:=((s.cY.length:Nat):Int)+1) (by omega) (by omega)];have e1:(if((s.cY.length:Nat):Int)+1<((s.cY.count c:Nat):Int)+1 then((s.cY.length:Nat):Int)+1 else((s.cY.count c:Nat):Int)+1)=((s.cY.count c+1:Nat):Int):=by
  omega
 rw[e1,wx _ (by omega),aA];rw[fC (x:=((s.cY.count c+1:Nat):Int) - 1) (by omega) (by omega)];have key:=Bh (S:=cD×Z cD×Int) (R:=Empty) (body:=(λ(s7:cD×Z cD×Int)=>(bif decide (s7.2.2<((s.cY.count c+1:Nat):Int) - 1)then((oS N s7.1 ⟨[c]⟩).bind λx23=>bif decide (x23<0)then some (.br (s7.1,s7.2.1,s7.2.2))else((Cr s7.1 0<|wrap .i64<|x23+0).bind λx24=>(idx s7.2.1 s7.2.2).bind λx25=>(Cr s7.1 (wrap .i64<|x23+(((⟨[c]⟩:cD).cY.length:Nat):Int)) ((s7.1.cY.length:Nat):Int)).bind λx27=>some<|.nx (x27,s7.2.1.set (Int.toNat s7.2.2) x24,wrap .i64<|s7.2.2+1)))else(some<|.br (s7.1,s7.2.1,s7.2.2)):aV (Fl (cD×Z cD×Int) Empty))))
  (λst=>∃ws:Z (Z UInt8),st.2.2=((ws.length:Nat):Int)/\cutAt c s.cY=ws++cutAt c st.1.cY/\ws.length+st.1.cY.count c=s.cY.count c/\st.1.cY.length<=s.cY.length/\st.2.1=ws.map cD.mk++List.replicate (s.cY.count c+1 - ws.length) ⟨[]⟩)
  (λst=>s.cY.count c+1 - st.2.2.toNat)
  (λst=>∃ws:Z (Z UInt8),st.2.2=((ws.length:Nat):Int)/\cutAt c s.cY=ws++[st.1.cY]/\ws.length=s.cY.count c/\st.2.1=ws.map cD.mk++[⟨[]⟩])
  (λ_=>True) (by
   rintro⟨r,arr,i⟩⟨ws,h1,h2,h3,h4,h5⟩;simp only at h1 h2 h3 h4 h5;subst h1 h5
   by_cases hlt:ws.length<s.cY.count c
   ·have hd:decide (((ws.length:Nat):Int)<((s.cY.count c+1:Nat):Int) - 1)=true:=by grind
    simp only[hd,aO,Qr,aA]
    rcases AQ r.cY c with⟨_,hn⟩|⟨a,b,hr,ha,hi⟩
    ·grind
    ·have hrl:r.cY.length=a.length+(b.length+1):=by rw[hr];simp
     rw[hi,cF (by omega),aR];rw[show((a.length:Nat):Int)+0=((a.length:Nat):Int)by omega,fC (x:=((a.length:Nat):Int)) (by omega) (by omega),Ox (by omega),aA];rw[kN _ _ (by simp;omega),aA];rw[show((a.length:Nat):Int)+(((⟨[c]⟩:cD).cY.length:Nat):Int)=((a.length+1:Nat):Int)by simp,fC (x:=((a.length+1:Nat):Int)) (by omega) (by omega),Oy (by omega),aA];refine⟨_,rfl,⟨ws++[a],?_,?_,?_,?_,?_⟩,?_⟩
     ·grind [fC]
     ·simp_all[Lj]
     ·simp only;rw[hr]at h3 ⊢;simp[List.count_eq_zero_of_not_mem ha]at h3 ⊢;omega
     ·simp;omega
     ·simp only[dA];rw[List.set_append_right _ _ (by simp)];simp only[dQ,Nat.sub_self];obtain⟨d,hd'⟩:∃d,s.cY.count c+1 - ws.length=d+1:=⟨s.cY.count c - ws.length,by omega⟩;rw[hd',List.replicate_succ,List.set_cons_zero,show s.cY.count c+1 -(ws++[a]).length=d by simp;omega];simp[hr]
     ·simp only;rw[fC (by omega) (by omega)];omega
   ·have hd:decide (((ws.length:Nat):Int)<((s.cY.count c+1:Nat):Int) - 1)=false:=by rw[decide_eq_false_iff_not];omega
    simp only[hd,aR];refine⟨_,rfl,ws,rfl,?_,by omega,?_⟩
    ·have h0:r.cY.count c=0:=by omega
     rw[h2,Hn<|List.count_eq_zero.1 h0]
    ·rw[show s.cY.count c+1 - ws.length=1 by omega];rfl)
  N (s,List.replicate (s.cY.count c+1) ⟨[]⟩,0) ⟨[],rfl,rfl,by simp,cG _,by simp⟩ (by simp only;omega)
 obtain⟨o,ho,hgo⟩:=key;rw[ho,aA]
 cases o with
 |rt r=>exact r.elim
 |go st=>
  obtain⟨r,arr,i⟩:=st;obtain⟨ws,h1,h2,h3,h4⟩:=hgo;simp only at h1 h2 h3 h4;subst h1 h4;simp only[Fo.cs];rw[kN _ _ (by simp),aA,fC (by omega) (by omega)];rw[show((ws.length:Nat):Int)+1=((ws.length+1:Nat):Int)by omega,nT _ _ (by simp),aA,aA];unfold pq;rw[h2];rw[dA,List.set_append_right _ _ (by simp),oe (by simp)];simp
def kE(s:cD):Bool:=decide (s.cY.length<=200)&&(pq s 47).all isWord
def Bs{c:UInt8}:∀{l x:Z UInt8},x∈cutAt c l->x.length<=l.length
 | [],x,h=>by simp[cutAt]at h;subst h;simp
 |b::l,x,h=>by
  unfold cutAt at h;split at h
  ·rcases eJ.1 h with h|h
   ·subst h;simp
   ·have:=Bs h;simp;omega
  ·split at h
   ·rename_i t e
    rcases eJ.1 h with h|h
    ·subst h;have:=Bs (c:=c) (l:=l) (by rw[e];exact List.mem_cons_self);simp;omega
    ·have:=Bs (c:=c) (l:=l) (by rw[e];exact kh _ h);simp;omega
   ·simp at h;subst h;simp
def I2(c:UInt8):∀(l:Z UInt8),(cutAt c l).length<=l.length+1
 | []=>by simp[cutAt]
 |b::l=>by
  have:=I2 c l;unfold cutAt;split
  ·simp;omega
  ·split
   ·rename_i e;rw[e]at this;simp at this ⊢;omega
   ·simp
def EP{s x:cD}{c:UInt8}(h:x∈pq s c):x.cY.length<=s.cY.length:=by
 obtain⟨y,hy,rfl⟩:=dU.1 h;exact Bs hy
def ER(s:cD)(c:UInt8):(pq s c).length<=s.cY.length+1:=by simp[pq,dQ,I2]
def sG{s:cD}(h:s.cY.length<=2097152)(hN:4194304<=N):kR N s=some (kE s):=by
 unfold kR kE
 by_cases hl:s.cY.length<=200
 ·rw[bS (by omega),aO,Ho 47 h hN,aA]
  have e:=tj (l:=pq s 47) (φ:=j3 N) (λx=> !isWord x) (by have:=ER s 47;omega) (λx hx=>by
   unfold j3
   rw[pE (by have:=EP hx;omega)];rfl)
  have e2:jZ N (pq s 47) (j3 N)=tC (pq s 47) (j3 N):=rfl;rw[e2,e,aA,aA,bS hl,Bool.true_and];congr 1;rw[fY];simp
 ·rw[cF (by omega),aR,aA,cF hl,Bool.false_and]
def Ca{s:cD}(h:s.cY.length<=2097152)(hN:4194304<=N):jB N s=some (kE s):=by
 unfold jB
 rw[Ho 47 h hN,aA,DH (λx=> !isWord x) false (by have:=ER s 47;omega) (λk x hx=>by
  rw[cK hx,aA,w3 (by have:=EP<|dT hx;omega),aA]
  cases isWord x <;> rfl),aA]
 unfold kE;have e:(pq s 47).any (λx=> !isWord x) = !(pq s 47).all isWord:=by rw[fY];simp
 rw[e]
 cases(pq s 47).all isWord
 ·simp[Fo.cs]
 ·simp only[lT,Bool.false_eq_true,if_false,Fo.cs,Bool.and_true];congr 1;rw[fY];simp only[cZ];omega
end
end Go.Gk
