/-
  Helping texts: plain functions and plain laws. No statement of the seed is proved here.
-/
import Derived.Test.YtfdnmjbbeolcdaaGreatDoorA1
import Derived.ChangeShapes
import Derived.ChangeSame
import Derived.Carry
import Derived.RowKit
import Derived.Test.YtfdnmjbbeolcdaaGreatDoorA2
import Derived.Sort.Walk0
set_option linter.unusedVariables false
set_option linter.unusedSimpArgs false
set_option linter.unusedSectionVars false
namespace Go.Gk
open Go IntKind
noncomputable section
structure aU where
 Name:aP
 Kind:Int
 cD:Int
 deriving DecidableEq,Inhabited
structure aC where
 Name:aP
 aV:Z aU
 deriving DecidableEq,Inhabited
structure Part where
 Name:aP
 bU:aP
 deriving DecidableEq,Inhabited
structure bN where
 Part:aP
 bN:aP
 deriving DecidableEq,Inhabited
structure Net where
 Name:aP
 aV:Z bN
 mU:Z aP
 deriving DecidableEq,Inhabited
structure aG where
 aJ:Z Part
 aQ:Z Net
 deriving DecidableEq,Inhabited
structure aD where
 part:Int
 iJ:Int
 mark:Int
 deriving DecidableEq,Inhabited
structure aB where
 e0:Int
 e1:Int
 deriving DecidableEq,Inhabited
def aB.st(x:aB)(k:Fin 2)(y:Int):aB:=if k.val=0 then{x with e0:=y}else{x with e1:=y}
structure aH where
 A:aP
 B:aP
 deriving DecidableEq,Inhabited
def dZ(N:Nat)(p0:aG)(p1:aP):aW aG:=
 (j8 p0.aJ.length (λ(af:Nat)(j:Z Part)=>((idx p0.aJ (af:Int)).bind λad=>(pw p1 ad.Name).bind λag=>(app 32 j ([(⟨ag,ad.bU⟩:Part)]:Z Part)).bind λah=>some ah:aW (Z Part))) ([]:Z Part)).bind λj=>(j8 p0.aQ.length (λ(ai:Nat)(o:Z Net)=>((idx p0.aQ (ai:Int)).bind λaa=>(pw p1 aa.Name).bind λaj=>(j8 aa.aV.length (λ(ak:Nat)(ab:Z bN)=>((idx aa.aV (ak:Int)).bind λae=>(pw p1 ae.Part).bind λal=>(app 32 ab ([(⟨al,ae.bN⟩:bN)]:Z bN)).bind λan=>some an:aW (Z bN))) ([]:Z bN)).bind λab=>(app 64 o ([(⟨aj,ab,([]:Z aP)⟩:Net)]:Z Net)).bind λao=>some ao:aW (Z Net))) ([]:Z Net)).bind λo=>some (⟨j,o⟩:aG)
def d4(N:Nat)(p0:aP)(p1:Int):aW Int:=
 some (Lib.indexByte p0.bK (Int.toNat p1).toUInt8)
def eA(N:Nat)(p0:aP)(p1:Int):aW Int:=
 (d4 N p0 p1).bind λj=>some j
def eV(N:Nat)(p0:aP):aW Bool:=
 (ow p0.bK.length (λ(o:Nat)(aa:Unit)=>((yu p0 (o:Int)).bind λj=>(bif((decide ((j.toNat:Int)<65)||decide ((j.toNat:Int)>90))&&(decide ((j.toNat:Int)<97)||decide ((j.toNat:Int)>122)))&&(decide ((j.toNat:Int)<48)||decide ((j.toNat:Int)>57))then((eA N (⟨[95,43,45,35]⟩) (j.toNat:Int)).bind λab=>some<|decide<|ab<0)else some false).bind λad=>bif ad then some (.rt false)else(some<|.nx ()):aW (Fl Unit Bool))) ()).bind λae=>ae.cs (λ(aa:Unit)=>some<|decide ((p0.bK.length:Int)>=1)&&decide ((p0.bK.length:Int)<=40))<|λr=>some r
def dc(N:Nat)(p0 p1:aU):aW Bool:=
 (bif p1.cD>0 then(bif p0.cD==p1.cD then some (p0.Kind != p1.Kind)else some false)else some false).bind λj=>some j
def dA(N:Nat)(p0:Z aU)(p1:aU->aW Bool):aW Int:=
 (ow p0.length (λ(j:Nat)(o:Unit)=>((idx p0 (j:Int)).bind λaa=>(p1 aa).bind λab=>bif ab then some (.rt (j:Int))else(some<|.nx ()):aW (Fl Unit Int))) ()).bind λad=>ad.cs (λ(o:Unit)=>some<|-1)<|λr=>some r
def dH(N:Nat)(p0:Z aU)(p1:aU->aW Bool):aW Bool:=
 (dA N p0 p1).bind λj=>some<|decide<|j>=0
def fD(N:Nat)(p0:Z aU):aW Int:=
 bif(p0.length:Int)==0 then some 9 else(bif decide ((p0.length:Int)>200)then some 2 else((ow p0.length (λ(o:Nat)(ad:Unit)=>((idx p0 (o:Int)).bind λj=>(eV N j.Name).bind λae=>bif(!ae)then some (.rt 5)else(bif decide (j.Kind<1)||decide (j.Kind>7)then some (.rt 4)else(bif decide (j.cD<0)||decide (j.cD>200)then some (.rt 1)else((bif decide ((o:Int)>0)then((idx p0<|wrap .i64<|(o:Int) - 1).bind λaa=>some<|j.Name.p9 aa.Name||j.Name.jg aa.Name)else some false).bind λaf=>bif af then some (.rt 8)else some (.nx ())))):aW (Fl Unit Int))) ()).bind λag=>ag.cs (λ(ad:Unit)=>(ow p0.length (λ(ab:Nat)(ah:Unit)=>((idx p0 (ab:Int)).bind λai=>(qP p0 0 (ab:Int)).bind λaj=>(dH N aj<|λy0=>dc N y0 ai).bind λak=>bif ak then some (.rt 12)else(some<|.nx ()):aW (Fl Unit Int))) ()).bind λal=>al.cs (λ(ah:Unit)=>some 0)<|λr=>some r)<|λr=>some r))
def eW(N:Nat)(p0:Z aC):aW Int:=
 bif decide ((p0.length:Int)>200)then some 2 else((ow p0.length (λ(o:Nat)(ad:Unit)=>((idx p0 (o:Int)).bind λj=>(eV N j.Name).bind λae=>bif(!ae)then some (.rt 5)else((fD N j.aV).bind λaa=>bif aa != 0 then some (.rt aa)else((bif decide ((o:Int)>0)then((idx p0<|wrap .i64<|(o:Int) - 1).bind λab=>some<|j.Name.p9 ab.Name||j.Name.jg ab.Name)else some false).bind λaf=>bif af then some (.rt 8)else some (.nx ()))):aW (Fl Unit Int))) ()).bind λag=>ag.cs (λ(ad:Unit)=>some 0)<|λr=>some r)
def cB(N:Nat)(p0:Z aC)(p1:aP)(p2:aC->aP->aW Int):aW (Int×Bool):=
 (m8 (λ(j:Int×Int)=>(bif j.1<j.2 then((idx p0<|wrap .i64<|Int.fdiv (wrap .u64<|wrap .i64<|j.1+j.2) 2).bind λaa=>(p2 aa p1).bind λab=>(bif ab<0 then some (wrap .i64<|wrap .i64 (Int.fdiv (wrap .u64<|wrap .i64<|j.1+j.2) 2)+1,j.2)else some (j.1,wrap .i64<|Int.fdiv (wrap .u64<|wrap .i64<|j.1+j.2) 2)).bind λo=>some<|.nx (o.1,o.2))else(some<|.br (j.1,j.2)):aW (Fl (Int×Int) Empty))) N (0,(p0.length:Int))).bind λad=>ad.cs (λ(j:Int×Int)=>(bif decide (j.1<(p0.length:Int))then((idx p0 j.1).bind λae=>(p2 ae p1).bind λaf=>some<|af==0)else some false).bind λag=>some (j.1,ag))<|λr=>r.elim
def gL(N:Nat)(p0 p1:aP):aW Int:=
 some (Lib.compareBytes p0.bK p1.bK)
def cQ(N:Nat)(p0 p1:aP):aW Int:=
 (gL N p0 p1).bind λj=>some j
def eB(N:Nat)(p0:aC)(p1:aP):aW Int:=
 (cQ N p0.Name p1).bind λj=>some j
def dd(N:Nat)(p0:Z aC)(p1:aP):aW Int:=
 (cB N p0 p1<|eB N).bind λj=>bif(!j.2)then some (-1)else some j.1
def eX(N:Nat)(p0:Z aC)(p1:Z Part)(p2:aP->aW Bool):aW Int:=
 bif decide ((p1.length:Int)>1000)then some 2 else((ow p1.length (λ(o:Nat)(ab:Unit)=>((idx p1 (o:Int)).bind λj=>(p2 j.Name).bind λad=>bif(!ad)then some (.rt 5)else((dd N p0 j.bU).bind λae=>bif ae<0 then some (.rt 9)else((bif decide ((o:Int)>0)then((idx p1<|wrap .i64<|(o:Int) - 1).bind λaa=>some<|j.Name.p9 aa.Name||j.Name.jg aa.Name)else some false).bind λaf=>bif af then some (.rt 8)else some (.nx ()))):aW (Fl Unit Int))) ()).bind λag=>ag.cs (λ(ab:Unit)=>some 0)<|λr=>some r)
def fE(N:Nat)(p0 p1:aP):aW Int:=
 bif((p1.bK.length:Int)==0)||p1.jg p0 then some 0 else(bif(p1.bK.length:Int)==1 then((yu p1 0).bind λj=>(d4 N p0 (j.toNat:Int)).bind λo=>some o)else(bif decide ((p1.bK.length:Int)>=(p0.bK.length:Int))then some (-1)else none))
def gF(N:Nat)(p0 p1:aP):aW Int:=
 (fE N p0 p1).bind λj=>some j
def iM(N:Nat)(p0 p1:aP):aW Int:=
 bif(p1.bK.length:Int)==0 then none else(bif(p1.bK.length:Int)==1 then((yu p1 0).bind λaa=>some ((Lib.countByte p0.bK (Int.toNat (aa.toNat:Int)).toUInt8:Nat):Int))else((m8 (λ(j:aP×Int)=>((gF N j.1 p1).bind λo=>bif o==(-1)then some (.rt j.2)else((oK j.1 (wrap .i64<|o+(p1.bK.length:Int)) (j.1.bK.length:Int)).bind λab=>some<|.nx (ab,wrap .i64<|j.2+1)):aW (Fl (aP×Int) Int))) N (p0,0)).bind λad=>ad.cs (λ(j:aP×Int)=>some 0)<|λr=>some r))
def ir(N:Nat)(p0 p1:aP)(p2 p3:Int):aW (Z aP):=
 bif p3==0 then some ([]:Z aP)else(bif p1.jg (⟨[]⟩)then none else((bif p3<0 then((iM N p0 p1).bind λab=>some<|wrap .i64<|ab+1)else some p3).bind λo=>(mk 16 (⟨[]⟩:aP) (if wrap .i64 ((p0.bK.length:Int)+1)<o then wrap .i64 ((p0.bK.length:Int)+1)else o)).bind λad=>(m8 (λ(j:aP×Z aP×Int)=>(bif decide (j.2.2< wrap .i64 ((if wrap .i64 ((p0.bK.length:Int)+1)<o then wrap .i64 ((p0.bK.length:Int)+1)else o) - 1))then((gF N j.1 p1).bind λaa=>bif aa<0 then some (.br (j.1,j.2.1,j.2.2))else((oK j.1 0<|wrap .i64<|aa+p2).bind λae=>(idx j.2.1 j.2.2).bind λai=>(oK j.1 (wrap .i64<|aa+(p1.bK.length:Int)) (j.1.bK.length:Int)).bind λaf=>some<|.nx (af,j.2.1.set (Int.toNat j.2.2) ae,wrap .i64<|j.2.2+1)))else(some<|.br (j.1,j.2.1,j.2.2)):aW (Fl (aP×Z aP×Int) Empty))) N (p0,ad,0)).bind λag=>ag.cs (λ(j:aP×Z aP×Int)=>(idx j.2.1 j.2.2).bind λaj=>(qP (j.2.1.set (Int.toNat j.2.2) j.1) 0<|wrap .i64<|j.2.2+1).bind λah=>some ah)<|λr=>r.elim))
def iN(N:Nat)(p0 p1:aP):aW (Z aP):=
 (ir N p0 p1 0<|-1).bind λj=>some j
def fQ(N:Nat)(p0:Z aP)(p1:aP->aW Bool):aW Int:=
 (ow p0.length (λ(j:Nat)(o:Unit)=>((idx p0 (j:Int)).bind λaa=>(p1 aa).bind λab=>bif ab then some (.rt (j:Int))else(some<|.nx ()):aW (Fl Unit Int))) ()).bind λad=>ad.cs (λ(o:Unit)=>some<|-1)<|λr=>some r
def dL(N:Nat)(p0:Z aP)(p1:aP->aW Bool):aW Bool:=
 (fQ N p0 p1).bind λj=>some<|decide<|j>=0
def dM(N:Nat)(p0:aP):aW Bool:=
 (eV N p0).bind λj=>some<|!j
def eY(N:Nat)(p0:aP):aW Bool:=
 (bif decide ((p0.bK.length:Int)<=200)then((iN N p0<|⟨[47]⟩).bind λj=>(dL N j<|dM N).bind λo=>some<|!o)else some false).bind λaa=>some aa
def cU(N:Nat)(p0:Z Part)(p1:aP)(p2:Part->aP->aW Int):aW (Int×Bool):=
 (m8 (λ(j:Int×Int)=>(bif j.1<j.2 then((idx p0<|wrap .i64<|Int.fdiv (wrap .u64<|wrap .i64<|j.1+j.2) 2).bind λaa=>(p2 aa p1).bind λab=>(bif ab<0 then some (wrap .i64<|wrap .i64 (Int.fdiv (wrap .u64<|wrap .i64<|j.1+j.2) 2)+1,j.2)else some (j.1,wrap .i64<|Int.fdiv (wrap .u64<|wrap .i64<|j.1+j.2) 2)).bind λo=>some<|.nx (o.1,o.2))else(some<|.br (j.1,j.2)):aW (Fl (Int×Int) Empty))) N (0,(p0.length:Int))).bind λad=>ad.cs (λ(j:Int×Int)=>(bif decide (j.1<(p0.length:Int))then((idx p0 j.1).bind λae=>(p2 ae p1).bind λaf=>some<|af==0)else some false).bind λag=>some (j.1,ag))<|λr=>r.elim
def eC(N:Nat)(p0:Part)(p1:aP):aW Int:=
 (cQ N p0.Name p1).bind λj=>some j
def dQ(N:Nat)(p0:Z Part)(p1:aP):aW Int:=
 (cU N p0 p1<|eC N).bind λj=>bif(!j.2)then some (-1)else some j.1
def cF(N:Nat)(p0:Z aU)(p1:aP)(p2:aU->aP->aW Int):aW (Int×Bool):=
 (m8 (λ(j:Int×Int)=>(bif j.1<j.2 then((idx p0<|wrap .i64<|Int.fdiv (wrap .u64<|wrap .i64<|j.1+j.2) 2).bind λaa=>(p2 aa p1).bind λab=>(bif ab<0 then some (wrap .i64<|wrap .i64 (Int.fdiv (wrap .u64<|wrap .i64<|j.1+j.2) 2)+1,j.2)else some (j.1,wrap .i64<|Int.fdiv (wrap .u64<|wrap .i64<|j.1+j.2) 2)).bind λo=>some<|.nx (o.1,o.2))else(some<|.br (j.1,j.2)):aW (Fl (Int×Int) Empty))) N (0,(p0.length:Int))).bind λad=>ad.cs (λ(j:Int×Int)=>(bif decide (j.1<(p0.length:Int))then((idx p0 j.1).bind λae=>(p2 ae p1).bind λaf=>some<|af==0)else some false).bind λag=>some (j.1,ag))<|λr=>r.elim
def eO(N:Nat)(p0:aU)(p1:aP):aW Int:=
 (cQ N p0.Name p1).bind λj=>some j
def gG(N:Nat)(p0:aC)(p1:aP):aW Int:=
 (cF N p0.aV p1<|eO N).bind λj=>bif(!j.2)then some (-1)else some j.1
def jm(N:Nat)(p0:Z aC)(p1:Z Part)(p2:bN):aW Bool:=
 (dQ N p1 p2.Part).bind λj=>(bif j>=0 then((idx p1 j).bind λo=>(dd N p0 o.bU).bind λaa=>(idx p0 aa).bind λab=>(gG N ab p2.bN).bind λad=>some<|decide<|ad>=0)else some false).bind λae=>some ae
def fF(N:Nat)(p0:bN)(p1:Z aC)(p2:aG):aW Bool:=
 (jm N p1 p2.aJ p0).bind λj=>some j
def fP(N:Nat)(p0 p1:bN):aW Int:=
 (cQ N p0.Part p1.Part).bind λj=>bif j != 0 then some j else((cQ N p0.bN p1.bN).bind λo=>some o)
def er(N:Nat)(p0:Z bN)(p1:bN->aW Bool)(p2:Z (bN×Bool)):aW (Int×Z (bN×Bool)):=
 bif decide ((p0.length:Int)>500)then some (2,p2)else((ow p0.length (λ(j:Nat)(ab:Unit)=>((idx p0 (j:Int)).bind λo=>(p1 o).bind λad=>bif(!ad)then some (.rt (9,p2))else((bif decide ((j:Int)>0)then((idx p0<|wrap .i64<|(j:Int) - 1).bind λae=>(fP N o ae).bind λaf=>some<|decide<|af<=0)else some false).bind λag=>bif ag then some (.rt (8,p2))else(bif aZ p2 o (false:Bool)then some (.rt (7,p2))else some (.nx ()))):aW (Fl Unit<|Int×Z (bN×Bool)))) ()).bind λah=>ah.cs (λ(ab:Unit)=>(j8 p0.length (λ(ai:Nat)(aa:Z (bN×Bool))=>((idx p0 (ai:Int)).bind λaj=>some (cP aa aj true):aW (Z<|bN×Bool))) p2).bind λaa=>some (0,aa))<|λr=>some r)
def cV(N:Nat)(p0:Z aC)(p1:aG):aW Int:=
 (eW N p0).bind λab=>bif ab != 0 then some ab else((eX N p0 p1.aJ<|eY N).bind λad=>bif ad != 0 then some ad else(bif decide ((p1.aQ.length:Int)>1000)then some 2 else((ow p1.aQ.length (λ(o:Nat)(ae:Z (bN×Bool))=>((idx p1.aQ (o:Int)).bind λj=>(eY N j.Name).bind λag=>bif(!ag)then some (.rt 5)else(bif(j.aV.length:Int)==0 then some (.rt 9)else((er N j.aV (λy0=>fF N y0 p0 p1) ae).bind λaa=>bif aa.1 != 0 then some (.rt aa.1)else(bif decide ((j.mU.length:Int)>0)then some (.rt 3)else((bif decide ((o:Int)>0)then((idx p1.aQ<|wrap .i64<|(o:Int) - 1).bind λaf=>some<|j.Name.p9 af.Name||j.Name.jg af.Name)else some false).bind λah=>bif ah then some (.rt 8)else some (.nx aa.2))))):aW (Fl (Z<|bN×Bool) Int))) ([]:Z (bN×Bool))).bind λai=>ai.cs (λ(ae:Z (bN×Bool))=>some 0)<|λr=>some r)))
def iu(N:Nat)(p0:aG):aW (Z<|bN×Int):=
 (j8 p0.aQ.length (λ(aa:Nat)(j:Z (bN×Int))=>((idx p0.aQ (aa:Int)).bind λab=>(j8 ab.aV.length (λ(ad:Nat)(o:Z (bN×Int))=>((idx ab.aV (ad:Int)).bind λae=>some (cP o ae (aa:Int)):aW (Z<|bN×Int))) j).bind λo=>some o:aW (Z<|bN×Int))) ([]:Z (bN×Int))).bind λj=>some j
def kP(N:Nat)(p0:Z aC)(p1:Part):aW (Z bN):=
 (dd N p0 p1.bU).bind λaa=>(idx p0 aa).bind λo=>(j8 o.aV.length (λ(ab:Nat)(j:Z bN)=>((idx o.aV (ab:Int)).bind λad=>(app 32 j ([(⟨p1.Name,ad.Name⟩:bN)]:Z bN)).bind λae=>some ae:aW (Z bN))) ([]:Z bN)).bind λj=>some j
def kf(N:Nat)(p0:Z aC)(p1:aG):aW (Z bN):=
 (iu N p1).bind λad=>(j8 p1.aJ.length (λ(ae:Nat)(o:Z bN)=>((idx p1.aJ (ae:Int)).bind λaf=>(kP N p0 af).bind λaa=>(j8 aa.length (λ(ag:Nat)(j:Z bN)=>((idx aa (ag:Int)).bind λab=>(bif(!(fM ad ab))then((app 32 j ([ab]:Z bN)).bind λah=>some ah)else some j).bind λai=>some ai:aW (Z bN))) o).bind λj=>some j:aW (Z bN))) ([]:Z bN)).bind λo=>some o
def lx(N:Nat)(p0:Z aC)(p1:aG):aW (Z bN×Int):=
 (cV N p0 p1).bind λj=>bif j != 0 then some (([]:Z bN),j)else((kf N p0 p1).bind λo=>some (o,0))
def eI(N:Nat):aW Bool:=
 (lx N ([(⟨⟨[114]⟩,([(⟨⟨[49]⟩,6,0⟩:aU)]:Z aU)⟩:aC)]:Z aC) (⟨([(⟨⟨[97]⟩,⟨[114]⟩⟩:Part)]:Z Part),[]⟩:aG)).bind λj=>(bif j.2==0 then(bif(j.1.length:Int)==1 then((idx j.1 0).bind λo=>some<|decide<|o=(⟨⟨[97]⟩,⟨[49]⟩⟩:bN))else some false)else some false).bind λaa=>some aa
def eR(N:Nat)(p0:Z aC)(p1 p2:aG):aW Int:=
 (cV N p0 p1).bind λj=>bif j != 0 then some j else((cV N p0 p2).bind λo=>some o)
def fz(N:Nat)(p0:aU)(p1:Int):aW Bool:=
 some (p0.cD==p1)
def fG(N:Nat)(p0:aC)(p1:aP):aW Int:=
 (gG N p0 p1).bind λj=>(idx p0.aV j).bind λo=>bif o.cD>0 then((dA N p0.aV<|λy0=>fz N y0 o.cD).bind λaa=>some aa)else some j
def eF(N:Nat)(p0_0:Z aP)(p0_1:Z aD)(p0_2 p0_3:Int)(p1:Z aC)(p2:aG):aW (Z aP×Z aD×Int×Int):=
 (iu N p2).bind λae=>(j8 p2.aJ.length (λ(af:Nat)(j:Z aP×Z aD)=>((idx p2.aJ (af:Int)).bind λo=>(dd N p1 o.bU).bind λag=>(idx p1 ag).bind λaa=>(app 16 j.1 ([o.bU]:Z aP)).bind λah=>(j8 aa.aV.length (λ(ai:Nat)(ab:Z aD)=>((idx aa.aV (ai:Int)).bind λad=>(bif fM ae (⟨o.Name,ad.Name⟩:bN)then some (wrap .i64<|p0_3+ aZ ae (⟨o.Name,ad.Name⟩:bN) (0:Int))else some (-1)).bind λaj=>(fG N aa ad.Name).bind λak=>(app 24 ab ([(⟨wrap .i64<|p0_2+(af:Int),aj,ak⟩:aD)]:Z aD)).bind λal=>some al:aW (Z aD))) j.2).bind λab=>some (ah,ab):aW (Z aP×Z aD))) (p0_0,p0_1)).bind λj=>some (j.1,j.2,wrap .i64<|p0_2+(p2.aJ.length:Int),wrap .i64<|p0_3+(p2.aQ.length:Int))
def iL(N:Nat)(p0:Z aP):aW (Z aP):=
 (app 16 ([]:Z aP) p0).bind λj=>some j
def cX(N:Nat)(p0 p1:aP)(p2:oM 47):aW Bool:=
 (cQ N p0 p1).bind λj=>some<|j==0
def fw(N:Nat)(p0:Z aP)(p1:aP->aP->aW Bool):aW (Z aP):=
 bif decide ((p0.length:Int)<2)then some p0 else((m8 (λ(o:Int)=>(bif decide (o<(p0.length:Int))then((idx p0 o).bind λab=>(idx p0<|wrap .i64<|o - 1).bind λad=>(p1 ab ad).bind λae=>bif ae then((qP p0 o (p0.length:Int)).bind λan=>(m8 (λ(j:Z aP×Int×Int)=>(bif decide (j.2.2<(((j.1.length - Int.toNat o):Nat):Int))then((qf j.1 o j.2.2).bind λaf=>(qf j.1 o<|wrap .i64<|j.2.2 - 1).bind λag=>(p1 af ag).bind λah=>(bif(!ah)then((qf j.1 o j.2.2).bind λai=>(idx j.1 j.2.1).bind λao=>some (j.1.set (Int.toNat j.2.1) ai,wrap .i64<|j.2.1+1))else some (j.1,j.2.1)).bind λaa=>some<|.nx (aa.1,aa.2,wrap .i64<|j.2.2+1))else(some<|.br (j.1,j.2.1,j.2.2)):aW (Fl (Z aP×Int×Int) Empty))) N (p0,o,1)).bind λaj=>aj.cs (λ(j:Z aP×Int×Int)=>(qP j.1 j.2.1 (j.1.length:Int)).bind λaq=>(qP (j.1.take (Int.toNat j.2.1)++List.replicate (j.1.length - Int.toNat j.2.1) (⟨[]⟩:aP)) 0 j.2.1).bind λak=>some<|.rt ak)<|λr=>r.elim)else some (.nx<|wrap .i64<|o+1))else(some<|.br o):aW (Fl Int<|Z aP))) N 1).bind λal=>al.cs (λ(o:Int)=>some p0)<|λr=>some r)
def dq(N:Nat)(p0:Z aP)(p1:aP)(p2:aP->aP->aW Int):aW (Int×Bool):=
 (m8 (λ(j:Int×Int)=>(bif j.1<j.2 then((idx p0<|wrap .i64<|Int.fdiv (wrap .u64<|wrap .i64<|j.1+j.2) 2).bind λaa=>(p2 aa p1).bind λab=>(bif ab<0 then some (wrap .i64<|wrap .i64 (Int.fdiv (wrap .u64<|wrap .i64<|j.1+j.2) 2)+1,j.2)else some (j.1,wrap .i64<|Int.fdiv (wrap .u64<|wrap .i64<|j.1+j.2) 2)).bind λo=>some<|.nx (o.1,o.2))else(some<|.br (j.1,j.2)):aW (Fl (Int×Int) Empty))) N (0,(p0.length:Int))).bind λad=>ad.cs (λ(j:Int×Int)=>(bif decide (j.1<(p0.length:Int))then((idx p0 j.1).bind λae=>(p2 ae p1).bind λaf=>some<|af==0)else some false).bind λag=>some (j.1,ag))<|λr=>r.elim
def cC(N:Nat)(p0:Z aP):aW (Z Int×Int):=
 (iL N p0).bind λaa=>(mT (cQ N) aa).bind λab=>(fw N ab<|λy0 y1=>cX N y0 y1 (⟨⟩:oM 47)).bind λad=>(mk 8 (0:Int) (p0.length:Int)).bind λae=>(j8 p0.length (λ(o:Nat)(j:Z aP×Z Int)=>((idx p0 (o:Int)).bind λaf=>(dq N j.1 af<|cQ N).bind λag=>(idx j.2 (o:Int)).bind λah=>some (j.1,j.2.set (Int.toNat (o:Int)) ag.1):aW (Z aP×Z Int))) (ad,ae)).bind λj=>some (j.2,(j.1.length:Int))
def gH(N:Nat)(p0:Int):aW Bool:=
 some (p0 != p0)
def gy(N:Nat)(p0 p1:Int):aW Int:=
 (gH N p0).bind λo=>(gH N p1).bind λj=>bif o then(bif j then some 0 else some (-1))else(bif j then some 1 else(bif p0<p1 then some (-1)else(bif p0>p1 then some 1 else some 0)))
def cY(N:Nat)(p0:Z Int)(p1:Z Int):aW Int:=
 (ow p0.length (λ(j:Nat)(aa:Unit)=>((idx p0 (j:Int)).bind λab=>bif decide ((j:Int)>=(p1.length:Int))then some (.rt 1)else((idx p1 (j:Int)).bind λad=>(gy N ab ad).bind λo=>bif o != 0 then some (.rt o)else some (.nx ())):aW (Fl Unit Int))) ()).bind λae=>ae.cs (λ(aa:Unit)=>bif decide ((p0.length:Int)<(p1.length:Int))then some (-1)else some 0)<|λr=>some r
def eT(N:Nat)(p0 p1:aB):aW Int:=
 (cY N [p0.e0,p0.e1] [p1.e0,p1.e1]).bind λj=>some j
def eL(N:Nat)(p0:Z Int)(p1:Z (Z aB)):aW (Z<|Z Int):=
 (j8 p0.length (λ(j:Nat)(o:Z (Z aB)×Z (Z Int))=>((idx p0 (j:Int)).bind λaf=>(idx o.1 (j:Int)).bind λag=>(mT (eT N) ag).bind λad=>(idx (o.1.set (Int.toNat (j:Int)) ad) (j:Int)).bind λaa=>(j8 aa.length (λ(ah:Nat)(ab:Z Int)=>((idx aa (ah:Int)).bind λae=>(app 8 ab ([ae.e0,ae.e1]:Z Int)).bind λai=>some ai:aW (Z Int))) ([af]:Z Int)).bind λab=>(app 24 o.2 ([ab]:Z (Z Int))).bind λaj=>some ((o.1.set (Int.toNat (j:Int)) ad).set (Int.toNat (j:Int)) aa,aj):aW (Z (Z aB)×Z (Z Int)))) (p1,([]:Z (Z Int)))).bind λo=>some o.2
def jG(N:Nat)(p0:Z (Z Int)):aW (Z<|Z Int):=
 (app 24 ([]:Z (Z Int)) p0).bind λj=>some j
def cM(N:Nat)(p0:Z Int)(p1:Z Int)(p2:oM 66):aW Bool:=
 (cY N p0 p1).bind λj=>some<|j==0
def gb(N:Nat)(p0:Z (Z Int))(p1:Z Int->Z Int->aW Bool):aW (Z<|Z Int):=
 bif decide ((p0.length:Int)<2)then some p0 else((m8 (λ(o:Int)=>(bif decide (o<(p0.length:Int))then((idx p0 o).bind λab=>(idx p0<|wrap .i64<|o - 1).bind λad=>(p1 ab ad).bind λae=>bif ae then((qP p0 o (p0.length:Int)).bind λan=>(m8 (λ(j:Z (Z Int)×Int×Int)=>(bif decide (j.2.2<(((j.1.length - Int.toNat o):Nat):Int))then((qf j.1 o j.2.2).bind λaf=>(qf j.1 o<|wrap .i64<|j.2.2 - 1).bind λag=>(p1 af ag).bind λah=>(bif(!ah)then((qf j.1 o j.2.2).bind λai=>(idx j.1 j.2.1).bind λao=>some (j.1.set (Int.toNat j.2.1) ai,wrap .i64<|j.2.1+1))else some (j.1,j.2.1)).bind λaa=>some<|.nx (aa.1,aa.2,wrap .i64<|j.2.2+1))else(some<|.br (j.1,j.2.1,j.2.2)):aW (Fl (Z (Z Int)×Int×Int) Empty))) N (p0,o,1)).bind λaj=>aj.cs (λ(j:Z (Z Int)×Int×Int)=>(qP j.1 j.2.1 (j.1.length:Int)).bind λaq=>(qP (j.1.take (Int.toNat j.2.1)++List.replicate (j.1.length - Int.toNat j.2.1) ([]:Z Int)) 0 j.2.1).bind λak=>some<|.rt ak)<|λr=>r.elim)else some (.nx<|wrap .i64<|o+1))else(some<|.br o):aW (Fl Int<|Z<|Z Int))) N 1).bind λal=>al.cs (λ(o:Int)=>some p0)<|λr=>some r)
def dU(N:Nat)(p0:Z (Z Int))(p1:Z Int)(p2:Z Int->Z Int->aW Int):aW (Int×Bool):=
 (m8 (λ(j:Int×Int)=>(bif j.1<j.2 then((idx p0<|wrap .i64<|Int.fdiv (wrap .u64<|wrap .i64<|j.1+j.2) 2).bind λaa=>(p2 aa p1).bind λab=>(bif ab<0 then some (wrap .i64<|wrap .i64 (Int.fdiv (wrap .u64<|wrap .i64<|j.1+j.2) 2)+1,j.2)else some (j.1,wrap .i64<|Int.fdiv (wrap .u64<|wrap .i64<|j.1+j.2) 2)).bind λo=>some<|.nx (o.1,o.2))else(some<|.br (j.1,j.2)):aW (Fl (Int×Int) Empty))) N (0,(p0.length:Int))).bind λad=>ad.cs (λ(j:Int×Int)=>(bif decide (j.1<(p0.length:Int))then((idx p0 j.1).bind λae=>(p2 ae p1).bind λaf=>some<|af==0)else some false).bind λag=>some (j.1,ag))<|λr=>r.elim
def bR(N:Nat)(p0:Z (Z Int)):aW (Z Int×Int):=
 (jG N p0).bind λaa=>(mT (cY N) aa).bind λab=>(gb N ab<|λy0 y1=>cM N y0 y1 (⟨⟩:oM 66)).bind λad=>(mk 8 (0:Int) (p0.length:Int)).bind λae=>(j8 p0.length (λ(o:Nat)(j:Z (Z Int)×Z Int)=>((idx p0 (o:Int)).bind λaf=>(dU N j.1 af<|cY N).bind λag=>(idx j.2 (o:Int)).bind λah=>some (j.1,j.2.set (Int.toNat (o:Int)) ag.1):aW (Z (Z Int)×Z Int))) (ad,ae)).bind λj=>some (j.2,(j.1.length:Int))
def eJ(N:Nat)(p0_0:Z aP)(p0_1:Z aD)(p0_2 p0_3:Int):aW (Z Int×Z Int):=
 (cC N p0_0).bind λae=>(mk 8 (0:Int) p0_3).bind λag=>(m8 (λ(j:Z Int×Z Int×Int×Int)=>((mk 24 ([]:Z aB) p0_2).bind λah=>(mk 24 ([]:Z aB) p0_3).bind λai=>(j8 p0_1.length (λ(aj:Nat)(aa:Z (Z aB)×Z (Z aB))=>((idx p0_1 (aj:Int)).bind λo=>(bif o.iJ>=0 then((idx j.2.1 o.iJ).bind λak=>(idx aa.2 o.iJ).bind λal=>(idx j.1 o.part).bind λan=>(app 16 al ([(⟨an,o.mark⟩:aB)]:Z aB)).bind λao=>(idx aa.2 o.iJ).bind λax=>some (aa.2.set (Int.toNat o.iJ) ao,ak))else some (aa.2,(-1))).bind λaf=>(idx aa.1 o.part).bind λaq=>(app 16 aq ([(⟨o.mark,af.2⟩:aB)]:Z aB)).bind λar=>(idx aa.1 o.part).bind λay=>some (aa.1.set (Int.toNat o.part) ar,af.1):aW (Z (Z aB)×Z (Z aB)))) (ah,ai)).bind λaa=>(eL N j.1 aa.1).bind λau=>(bR N au).bind λab=>(eL N j.2.1 aa.2).bind λav=>(bR N av).bind λad=>bif(ab.2==j.2.2.1)&&(ad.2==j.2.2.2)then some (.rt (j.1,j.2.1))else(some<|.nx (ab.1,ad.1,ab.2,ad.2)):aW (Fl (Z Int×Z Int×Int×Int)<|Z Int×Z Int))) N (ae.1,ag,ae.2,(if 1<p0_3 then 1 else p0_3))).bind λaw=>aw.cs (λ(j:Z Int×Z Int×Int×Int)=>some (j.1,j.2.1))<|λr=>some r
def iv(N:Nat)(p0:Z aC)(p1 p2:aG):aW (Z Int×Z Int×Int):=
 (eR N p0 p1 p2).bind λaa=>bif aa != 0 then some (([]:Z Int),([]:Z Int),aa)else((eF N ([]:Z aP) ([]:Z aD) 0 0 p0 p1).bind λj=>(eF N j.1 j.2.1 j.2.2.1 j.2.2.2 p0 p2).bind λo=>(eJ N o.1 o.2.1 o.2.2.1 o.2.2.2).bind λab=>some (ab.1,ab.2,0))
def iw(N:Nat)(p0:Z Int)(p1:Int):aW Bool:=
 (j8 p0.length (λ(aa:Nat)(j:Z (Int×Int))=>((idx p0 (aa:Int)).bind λo=>(bif decide ((aa:Int)<p1)then some (cP j o<|wrap .i64<|aZ j o (0:Int)+1)else some (cP j o<|wrap .i64<|aZ j o (0:Int) - 1)).bind λab=>some ab:aW (Z<|Int×Int))) ([]:Z (Int×Int))).bind λj=>qZ j (λ(ad:Int×Int)(ae:Unit)=>(bif ad.2 != 0 then some (.rt false)else(some<|.nx ()):aW (Fl Unit Bool))) () (λ(ae:Unit)=>some true)<|λr=>some r
def iO(N:Nat)(p0:Z aC)(p1 p2:aG):aW (Bool×Int):=
 (iv N p0 p1 p2).bind λj=>bif j.2.2 != 0 then some (false,j.2.2)else(((iw N j.1 (p1.aJ.length:Int)).bind λo=>bif o then((iw N j.2.1 (p1.aQ.length:Int)).bind λaa=>some aa)else some false).bind λab=>some (ab,0))
def gI(N:Nat)(p0:Z Int)(p1:Int):aW (Z aB):=
 (j8 p0.length (λ(ab:Nat)(o:Z (Int×Z Int))=>((idx p0 (ab:Int)).bind λad=>(app 8 (aZ o ad ([]:Z Int)) ([(ab:Int)]:Z Int)).bind λae=>some (cP o ad ae):aW (Z<|Int×Z Int))) ([]:Z (Int×Z Int))).bind λo=>(m8 (λ(j:Z aB×Int)=>(bif j.2<p1 then((idx p0 j.2).bind λaa=>(bif(((aZ o aa ([]:Z Int)).length:Nat):Int)==2 then((idx (aZ o aa ([]:Z Int)) 1).bind λaf=>some<|decide<|af>=p1)else some false).bind λag=>(bif ag then((idx (aZ o aa ([]:Z Int)) 1).bind λah=>(app 16 j.1 ([(⟨j.2,wrap .i64<|ah - p1⟩:aB)]:Z aB)).bind λai=>some ai)else some j.1).bind λaj=>some<|.nx (aj,wrap .i64<|j.2+1))else(some<|.br (j.1,j.2)):aW (Fl (Z aB×Int) Empty))) N (([]:Z aB),0)).bind λak=>ak.cs (λ(j:Z aB×Int)=>some j.1)<|λr=>r.elim
def gz(N:Nat)(p0:Z aC)(p1 p2:aG):aW (Z aH×Z aH×Int):=
 (iv N p0 p1 p2).bind λj=>bif j.2.2 != 0 then some (([]:Z aH),([]:Z aH),j.2.2)else((gI N j.1 (p1.aJ.length:Int)).bind λab=>(j8 ab.length (λ(ag:Nat)(o:Z aH)=>((idx ab (ag:Int)).bind λad=>(idx p1.aJ ad.e0).bind λah=>(idx p2.aJ ad.e1).bind λz9=>(app 32 o ([(⟨ah.Name,z9.Name⟩:aH)]:Z aH)).bind λai=>some ai:aW (Z aH))) ([]:Z aH)).bind λo=>(gI N j.2.1 (p1.aQ.length:Int)).bind λae=>(j8 ae.length (λ(aj:Nat)(aa:Z aH)=>((idx ae (aj:Int)).bind λaf=>(idx p1.aQ af.e0).bind λak=>(idx p2.aQ af.e1).bind λal=>(app 32 aa ([(⟨ak.Name,al.Name⟩:aH)]:Z aH)).bind λan=>some an:aW (Z aH))) ([]:Z aH)).bind λaa=>some (o,aa,0))
def fi(N:Nat)(p0 p1:Int)(p2 p3:aG):aW Bool:=
 (idx p2.aJ p0).bind λj=>(idx p3.aJ p1).bind λo=>some<|j.bU.jg o.bU
def c7(N:Nat)(p0:aP)(p1:aG):aW Int:=
 (dQ N p1.aJ p0).bind λj=>some j
def dy(N:Nat)(p0:aG):aW (aG):=
 some p0
def d9(N:Nat)(p0:Z aH)(p1 p2:aP->aW Int)(p3:Int->Int->aW Bool):aW Int:=
 (ow p0.length (λ(o:Nat)(aa:Z (aP×Bool))=>((idx p0 (o:Int)).bind λj=>(p1 j.A).bind λab=>(p2 j.B).bind λad=>bif decide (ab<0)||decide (ad<0)then some (.rt 9)else((p3 ab ad).bind λaf=>bif(!af)then some (.rt 6)else((bif decide ((o:Int)>0)then((idx p0<|wrap .i64<|(o:Int) - 1).bind λae=>some<|j.A.p9 ae.A||j.A.jg ae.A)else some false).bind λag=>bif ag then some (.rt 8)else(bif aZ aa j.B (false:Bool)then some (.rt 7)else some (.nx<|cP aa j.B true)))):aW (Fl (Z<|aP×Bool) Int))) ([]:Z (aP×Bool))).bind λah=>ah.cs (λ(aa:Z (aP×Bool))=>some 0)<|λr=>some r
def dC(N:Nat)(p0:Z Net)(p1:aP)(p2:Net->aP->aW Int):aW (Int×Bool):=
 (m8 (λ(j:Int×Int)=>(bif j.1<j.2 then((idx p0<|wrap .i64<|Int.fdiv (wrap .u64<|wrap .i64<|j.1+j.2) 2).bind λaa=>(p2 aa p1).bind λab=>(bif ab<0 then some (wrap .i64<|wrap .i64 (Int.fdiv (wrap .u64<|wrap .i64<|j.1+j.2) 2)+1,j.2)else some (j.1,wrap .i64<|Int.fdiv (wrap .u64<|wrap .i64<|j.1+j.2) 2)).bind λo=>some<|.nx (o.1,o.2))else(some<|.br (j.1,j.2)):aW (Fl (Int×Int) Empty))) N (0,(p0.length:Int))).bind λad=>ad.cs (λ(j:Int×Int)=>(bif decide (j.1<(p0.length:Int))then((idx p0 j.1).bind λae=>(p2 ae p1).bind λaf=>some<|af==0)else some false).bind λag=>some (j.1,ag))<|λr=>r.elim
def fR(N:Nat)(p0:Net)(p1:aP):aW Int:=
 (cQ N p0.Name p1).bind λj=>some j
def fJ(N:Nat)(p0:aG)(p1:aP):aW Int:=
 (dC N p0.aQ p1<|fR N).bind λj=>bif(!j.2)then some (-1)else some j.1
def c8(N:Nat)(p0:aP)(p1:aG):aW Int:=
 (fJ N p1 p0).bind λj=>some j
def dz(N:Nat)(p0:aG):aW (aG):=
 some p0
def gM(N:Nat)(p0 p1:Int):aW Bool:=
 some true
def de(N:Nat)(p0:aG)(p2:aP)(p3_0:Z (aP×Int))(p3_1:Z (aP×Int))(p4:Z aC):aW (Z<|aD×Int):=
 (fJ N p0 p2).bind λad=>(idx p0.aQ ad).bind λaa=>(j8 aa.aV.length (λ(ae:Nat)(j:Z (aD×Int))=>((idx aa.aV (ae:Int)).bind λo=>(bif fM p3_0 o.Part then((dQ N p0.aJ o.Part).bind λaf=>(idx p0.aJ af).bind λag=>(dd N p4 ag.bU).bind λah=>(idx p4 ah).bind λai=>(fG N ai o.bN).bind λab=>some<|cP j (⟨aZ p3_0 o.Part (0:Int),0,ab⟩:aD)<|wrap .i64<|aZ j (⟨aZ p3_0 o.Part (0:Int),0,ab⟩:aD) (0:Int)+1)else some j).bind λaj=>some aj:aW (Z<|aD×Int))) ([]:Z (aD×Int))).bind λj=>some j
def df(N:Nat)(p0:aG)(p2:aP)(p3_0:Z (aP×Int))(p3_1:Z (aP×Int))(p4:Z aC):aW (Z<|aD×Int):=
 (fJ N p0 p2).bind λad=>(idx p0.aQ ad).bind λaa=>(j8 aa.aV.length (λ(ae:Nat)(j:Z (aD×Int))=>((idx aa.aV (ae:Int)).bind λo=>(bif fM p3_1 o.Part then((dQ N p0.aJ o.Part).bind λaf=>(idx p0.aJ af).bind λag=>(dd N p4 ag.bU).bind λah=>(idx p4 ah).bind λai=>(fG N ai o.bN).bind λab=>some<|cP j (⟨aZ p3_1 o.Part (0:Int),0,ab⟩:aD)<|wrap .i64<|aZ j (⟨aZ p3_1 o.Part (0:Int),0,ab⟩:aD) (0:Int)+1)else some j).bind λaj=>some aj:aW (Z<|aD×Int))) ([]:Z (aD×Int))).bind λj=>some j
def eZ(N:Nat)(p0:Z aC)(p1 p2:aG)(p3:Z aH)(p4:Z aH):aW Int:=
 (eR N p0 p1 p2).bind λaa=>bif aa != 0 then some aa else((bif decide ((p3.length:Int)>1000)then some true else some (decide<|(p4.length:Int)>1000)).bind λaj=>bif aj then some 2 else((dy N p1).bind λak=>(dy N p2).bind λal=>(d9 N p3 (λy0=>c7 N y0 ak) (λy0=>c7 N y0 al)<|λy0 y1=>fi N y0 y1 p1 p2).bind λab=>bif ab != 0 then some ab else((dz N p1).bind λan=>(dz N p2).bind λao=>(d9 N p4 (λy0=>c8 N y0 an) (λy0=>c8 N y0 ao)<|gM N).bind λad=>bif ad != 0 then some ad else((j8 p3.length (λ(o:Nat)(j:Z (aP×Int)×Z (aP×Int))=>((idx p3 (o:Int)).bind λae=>some (cP j.1 ae.A (o:Int),cP j.2 ae.B (o:Int)):aW (Z (aP×Int)×Z (aP×Int)))) (([]:Z (aP×Int)),([]:Z (aP×Int)))).bind λj=>(ow p4.length (λ(aq:Nat)(ar:Unit)=>((idx p4 (aq:Int)).bind λaf=>(de N p1 af.A j.1 j.2 p0).bind λag=>(df N p2 af.B j.1 j.2 p0).bind λah=>bif(ag.length:Int) != (ah.length:Int)then some (.rt 12)else(qZ ag (λ(ai:aD×Int)(au:Unit)=>(bif aZ ah ai.1 (0:Int) != ai.2 then some (.rt 12)else(some<|.nx ()):aW (Fl Unit Int))) () (λ(au:Unit)=>some<|.nx ())<|λr=>some<|.rt r):aW (Fl Unit Int))) ()).bind λav=>av.cs (λ(ar:Unit)=>some 0)<|λr=>some r))))
def dE(N:Nat)(p1:Int):aW (Z aH):=
 bif p1<0 then none else((bif decide (wrap .i64 (p1 -(wrap .i64<|((0:Nat):Int) -((0:Nat):Int)))>0)then((zS 32 (⟨⟨[]⟩,⟨[]⟩⟩:aH)<|wrap .i64<|p1 -(wrap .i64<|((0:Nat):Int) -((0:Nat):Int))).bind λj=>(qP j 0 ((0:Nat):Int)).bind λo=>some o)else some ([]:Z aH)).bind λaa=>some aa)
def d5(N:Nat)(p0:Z (Z aH)):aW (Z aH):=
 (j8 p0.length (λ(ab:Nat)(j:Int)=>((idx p0 (ab:Int)).bind λaa=>bif decide (wrap .i64 (j+(aa.length:Int))<0)then none else(some<|wrap .i64<|j+(aa.length:Int)):aW Int)) 0).bind λj=>(dE N j).bind λad=>(j8 p0.length (λ(ae:Nat)(o:Z aH)=>((idx p0 (ae:Int)).bind λaf=>(app 32 o af).bind λag=>some ag:aW (Z aH))) ad).bind λo=>some o
def cK(N:Nat)(p0:Z aC)(p1:aG)(p2:aP):aW Bool:=
 (dZ N p1 p2).bind λo=>((cV N p0 p1).bind λaf=>bif af != 0 then some true else((cV N p0 o).bind λag=>some<|ag != 0)).bind λah=>bif ah then((eI N).bind λai=>some ai)else((iO N p0 p1 o).bind λab=>bif(ab.2 != 0)||(!ab.1)then some false else((gz N p0 p1 o).bind λj=>(bif j.2.2 != 0 then some (j.1,j.2.1,true)else((eZ N p0 p1 o j.1 j.2.1).bind λaj=>some (j.1,j.2.1,aj != 0))).bind λaa=>bif aa.2.2 then some false else((d5 N ([aa.1,aa.2.1]:Z (Z aH))).bind λad=>(ow ad.length (λ(ak:Nat)(al:Unit)=>((idx ad (ak:Int)).bind λae=>(pw p2 ae.A).bind λan=>bif(!ae.B.jg an)then some (.rt false)else(some<|.nx ()):aW (Fl Unit Bool))) ()).bind λao=>ao.cs (λ(al:Unit)=>(eI N).bind λaq=>some aq)<|λr=>some r)))
end
def hG{R:Type}(m:Nat)(e:Nat->aW R):aW R:=(List.range m).findSome? e
theorem iC{R:Type}{m:Nat}{e:Nat->aW R}:hG m e=none↔∀k,k<m->e k=none:=by
 simp[hG]
theorem iD{R:Type}{m:Nat}{e:Nat->aW R}{r:R}:hG m e=some r↔∃k,k<m/\e k=some r/\∀j,j<k->e j=none:=by
 constructor
 ·intro h;obtain⟨l1,a,l2,hl,ha,hn⟩:=List.findSome?_eq_some_iff.1 h;have hlen:l1.length<m:=by have:=congrArg List.length hl;grind
  have hget:∀i,i<l1.length->l1[i]? =some i:=λi hi=>by
   have:=congrArg (·[i]?) hl
   grind
  have hat:a=l1.length:=by
   have:=congrArg (·[l1.length]?) hl
   grind
  grind
 ·rintro⟨k,hk,he,hn⟩;refine List.findSome?_eq_some_iff.2 ⟨List.range k,k,(List.range<|m - k - 1).map (· +(k+1)),?_,he,λx hx=>hn x<|cO.1 hx⟩;refine List.ext_getElem? λi=>?_
  by_cases h1:i<k
  ·grind
  ·rw[gS (by grind),List.length_range]
   by_cases h2:i=k
   all_goals grind
theorem Ax{R R':Type}{m:Nat}{e:Nat->aW R}(f:R->R'):(hG m e).map f=hG m (λk=>(e k).map f):=by
 cases hx:hG m e with
 |none=>grind [iC]
 |some r=>
  grind [iD]
section
variable {S R:Type}
def uI(o:aW R)(s:S):Fl S R:=match o with|some r=> .rt r|none=> .nx s
def yM(o:aW R)(s:S):Fo S R:=match o with|some r=> .rt r|none=> .go s
theorem vW{body:Nat->S->aW (Fl S R)}(F:Nat->S)(e:Nat->aW R)(m:Nat):∀(n k:Nat),k+n=m->
  (∀j,k<=j->j<m->(∀i,k<=i->i<j->e i=none)->body j (F j)=some (uI (e j)<|F<|j+1))->
  ∃o,t8 body n k (F k)=some o/\((∀j,k<=j->j<m->e j=none)/\o = .go (F m)\/∃j r,k<=j/\j<m/\e j=some r/\(∀i,k<=i->i<j->e i=none)/\o = .rt r)
 | 0,k,hk,_=>⟨_,rfl, .inl ⟨λj h1 h2=>by omega,by grind⟩⟩
 |n+1,k,hk,h=>by
  have hb:=h k (aX _) (by omega) (λi h1 h2=>by omega);unfold t8;rw[hb]
  cases hx:e k with
  |some r=>exact⟨_,rfl, .inr ⟨k,r,aX _,by omega,hx,λi h1 h2=>by omega,rfl⟩⟩
  |none=>
   obtain⟨o,ho,hc⟩:=vW F e m n (k+1) (by omega) (λj h1 h2 h3=>h j (by omega) h2 λi h4 h5=>by
    grind)
   refine⟨o,ho,?_⟩
   rcases hc with⟨h1,h2⟩|⟨j,r,h1,h2,h3,h4,h5⟩
   ·refine .inl ⟨λj h3 h4=>?_,h2⟩
    by_cases h6:j=k
    ·subst h6;exact hx
    ·exact h1 j (by omega) h4
   ·refine .inr ⟨j,r,by omega,h2,h3,λi h6 h7=>?_,h5⟩
    by_cases h8:i=k
    ·subst h8;exact hx
    ·exact h4 i (by omega) h7
theorem uJ{body:Nat->S->aW (Fl S R)}{m:Nat}{s:S}(F:Nat->S)(e:Nat->aW R)(hm:m<=4611686018427387904)(hs:F 0=s)
  (h:∀k,k<m->(∀i,i<k->e i=none)->body k (F k)=some (uI (e k)<|F<|k+1)):ow m body s=some (yM (hG m e)<|F m):=by
 subst hs;unfold ow;rw[aK hm];obtain⟨o,ho,hc⟩:=vW F e m m 0 (by omega)<|λj _ h2 h3=>h j h2 λi hi=>h3 i (lf _) hi
 rw[ho]
 rcases hc with⟨h1,h2⟩|⟨j,r,_,h2,h3,h4,h5⟩
 ·rw[iC.2 λk hk=>h1 k (lf _) hk,h2];rfl
 ·rw[iD.2 ⟨j,h2,h3,λi hi=>h4 i (lf _) hi⟩,h5];rfl
theorem kT{body:Nat->Unit->aW (Fl Unit R)}{m:Nat}(e:Nat->aW R)(hm:m<=4611686018427387904)
  (h:∀k,k<m->(∀i,i<k->e i=none)->body k ()=some (uI (e k) ())):ow m body ()=some (yM (hG m e) ()):=
 uJ (λ_=>()) e hm rfl h
theorem vX{body:Nat->S->aW S}(F:Nat->S):∀(n k:Nat),(∀j,k<=j->j<k+n->body j (F j)=some (F<|j+1))->wT body n k (F k)=some (F<|k+n)
 | 0,_,_=>rfl
 |n+1,k,h=>by
  unfold wT;rw[h k (aX _) (by omega)];have:=vX F n (k+1)<|λj h1 h2=>h j (by omega) (by omega)
  rw[show k+(n+1)=k+1+n by omega];exact this
theorem jT{body:Nat->S->aW S}{m:Nat}{s:S}(F:Nat->S)(hm:m<=4611686018427387904)(hs:F 0=s)
  (h:∀k,k<m->body k (F k)=some (F<|k+1)):j8 m body s=some (F m):=by
 subst hs
 simp_all[j8,aK,vX,ez]
theorem rm{body:S->aW (Fl S R)}(Inv:S->Prop)(μ:S->Nat)(Go:S->Prop)(Rt:R->Prop)
  (h:∀s,Inv s->∃fl,body s=some fl/\match fl with| .nx s'=>Inv s'/\μ s'<μ s| .br s'=>Go s'| .rt r=>Rt r):
  ∀(N:Nat)(s:S),Inv s->μ s<N->∃o,m8 body N s=some o/\match o with| .go s'=>Go s'| .rt r=>Rt r
 | 0,s,_,hn=>by omega
 |N+1,s,hi,hn=>by
  obtain⟨fl,hb,hf⟩:=h s hi;unfold m8;rw[hb]
  cases fl with
  |nx s'=>exact rm Inv μ Go Rt h N s' hf.1 (by have:=hf.2;omega)
  |br s'=>exact⟨_,rfl,hf⟩
  |rt r=>exact⟨_,rfl,hf⟩
theorem vY{body:Nat->S->aW (Fl S R)}(Inv:Nat->S->Prop)(Go:S->Prop)(Rt:R->Prop)(m:Nat)
  (h:∀k s,k<m->Inv k s->∃fl,body k s=some fl/\match fl with| .nx s'=>Inv (k+1) s'| .br s'=>Go s'| .rt r=>Rt r) (hg:∀s,Inv m s->Go s):
  ∀(n k:Nat)(s:S),k+n=m->Inv k s->∃o,t8 body n k s=some o/\match o with| .go s'=>Go s'| .rt r=>Rt r
 | 0,k,s,hk,hi=>⟨_,rfl,hg s (by rw[<-hk];exact hi)⟩
 |n+1,k,s,hk,hi=>by
  obtain⟨fl,hb,hf⟩:=h k s (by omega) hi;unfold t8;rw[hb]
  cases fl with
  |nx s'=>exact vY Inv Go Rt m h hg n (k+1) s' (by omega) hf
  |br s'=>exact⟨_,rfl,hf⟩
  |rt r=>exact⟨_,rfl,hf⟩
theorem BK{body:Nat->S->aW (Fl S R)}{m:Nat}{s:S}(Inv:Nat->S->Prop)(Go:S->Prop)(Rt:R->Prop)(hm:m<=4611686018427387904)(h0:Inv 0 s)
  (h:∀k s,k<m->Inv k s->∃fl,body k s=some fl/\match fl with| .nx s'=>Inv (k+1) s'| .br s'=>Go s'| .rt r=>Rt r) (hg:∀s,Inv m s->Go s):
  ∃o,ow m body s=some o/\match o with| .go s'=>Go s'| .rt r=>Rt r:=by
 unfold ow;rw[aK hm];exact vY Inv Go Rt m h hg m 0 s (by omega) h0
theorem vZ{body:Nat->S->aW S}(Inv:Nat->S->Prop)(m:Nat)(h:∀k s,k<m->Inv k s->∃s',body k s=some s'/\Inv (k+1) s'):
  ∀(n k:Nat)(s:S),k+n=m->Inv k s->∃s',wT body n k s=some s'/\Inv m s'
 | 0,k,s,hk,hi=>⟨_,rfl,by grind⟩
 |n+1,k,s,hk,hi=>by
  obtain⟨s',hb,hf⟩:=h k s (by omega) hi;unfold wT;rw[hb];exact vZ Inv m h n (k+1) s' (by omega) hf
theorem BL{body:Nat->S->aW S}{m:Nat}{s:S}(Inv:Nat->S->Prop)(hm:m<=4611686018427387904)(h0:Inv 0 s)
  (h:∀k s,k<m->Inv k s->∃s',body k s=some s'/\Inv (k+1) s'):∃s',j8 m body s=some s'/\Inv m s':=by
 simp_all[j8,aK,vZ]
end
section
variable {α β:Type}
theorem aA(x:α)(f:α->aW β):(some x).bind f=f x:=rfl
theorem gV(l:Z α)(k:Nat)(h:k<l.length):idx l (k:Int)=some l[k]:=by
 unfold idx;simp
theorem du{l:Z α}{k:Nat}{x:α}(h:l[k]? =some x):idx l (k:Int)=some x:=by
 grind [idx,el]
theorem Ay(s:aP)(k:Nat)(h:k<s.bK.length):yu s (k:Int)=some s.bK[k]:=by
 unfold yu;simp
theorem nY{k:Nat}(h:0<k)(hk:k<=4611686018427387904):wrap .i64 ((k:Int) - 1)=((k - 1:Nat):Int):=by
 grind [dF]
theorem pP(l:Z α)(k:Nat)(h:k<=l.length):qP l 0 (k:Int)=some (l.take k):=by
 unfold qP;grind
theorem v5(l:Z α)(k:Nat)(h:k<=l.length):qP l (k:Int) (l.length:Int)=some (l.drop k):=by
 grind [qP,el,Option.some.injEq,ij,fO]
theorem gC{b:Nat}{l ys:Z α}(h:(l.length+ys.length)*b<=140737488355328):app b l ys=some (l++ys):=by grind [app]
theorem pQ{b:Nat}(z:α){n:Nat}(h:n*b<=140737488355328):mk b z (n:Int)=some (List.replicate n z):=by
 unfold mk
 grind
end
theorem aP.ext'{a b:aP}(h:a.bK=b.bK):a=b:=by cases a;simp_all
theorem gk{a b:aP}:a.jg b=true↔a=b:=by
 grind [aP.jg,aP.ext']
theorem kI{a b:aP}:a.jg b=false↔a≠b:=by grind [gk]
theorem xZ(a b:aP):a.jg b=decide (a=b):=by grind [gk]
theorem qS:∀(a:Z UInt8),Op.bytesLess a a=false
 | []=>rfl
 |a::l=>by
  unfold Op.bytesLess;rw[qS l];simp
theorem sa:∀{a b c:Z UInt8},Op.bytesLess a b=true->Op.bytesLess b c=true->Op.bytesLess a c=true
 | [],[],_,h,_=>by simp[Op.bytesLess]at h
 | [],_::_,[],_,h=>by simp[Op.bytesLess]at h
 | [],_::_,_::_,_,_=>rfl
 |_::_,[],_,h,_=>by simp[Op.bytesLess]at h
 |_::_,_::_,[],_,h=>by simp[Op.bytesLess]at h
 |a::l,b::m,c::n,h1,h2=>by
  unfold Op.bytesLess at h1 h2 ⊢;simp only[dK,bY,fC,beq_iff_eq]at h1 h2 ⊢
  rcases h1 with h1|⟨rfl,h1⟩
  ·rcases h2 with h2|⟨rfl,h2⟩
   ·exact .inl<|UInt8.lt_trans h1 h2
   ·exact .inl h1
  ·rcases h2 with h2|⟨rfl,h2⟩
   ·exact .inl h2
   ·exact .inr ⟨rfl,sa h1 h2⟩
theorem sb:∀(a b:Z UInt8),Op.bytesLess a b=true\/a=b\/Op.bytesLess b a=true
 | [],[]=> .inr (.inl rfl)
 | [],_::_=> .inl rfl
 |_::_,[]=> .inr (.inr rfl)
 |a::l,b::m=>by
  unfold Op.bytesLess;simp only[dK,bY,fC,beq_iff_eq]
  by_cases h1:a<b
  ·exact .inl<|.inl h1
  ·by_cases h2:b<a
   ·exact .inr<|.inr<|.inl h2
   ·have e:a=b:=by
     simp only[UInt8.lt_iff_toNat_lt]at h1 h2;exact UInt8.toNat_inj.1 (by omega)
    subst e
    rcases sb l m with h|h|h
    ·exact .inl<|.inr ⟨rfl,h⟩
    ·exact .inr<|.inl (by rw[h])
    ·exact .inr<|.inr<|.inr ⟨rfl,h⟩
theorem jK:∀(a b:Z UInt8),Lib.compareBytes a b<0↔Op.bytesLess a b=true
 | [],[]=>by simp[Lib.compareBytes,Op.bytesLess]
 | [],_::_=>by simp[Lib.compareBytes,Op.bytesLess]
 |_::_,[]=>by simp[Lib.compareBytes,Op.bytesLess]
 |a::l,b::m=>by
  unfold Lib.compareBytes Op.bytesLess;simp only[dK,bY,fC,beq_iff_eq];split
  ·simp_all
  ·rename_i h1;split
   ·rename_i h2;have h3:a≠b:=λe=>by subst e;exact h1 h2
    simp[h1,h3]
   ·rename_i h2;have e:a=b:=by
     simp only[UInt8.lt_iff_toNat_lt]at h1 h2;exact UInt8.toNat_inj.1 (by omega)
    subst e;rw[jK l m];simp[h1]
theorem hZ:∀(a b:Z UInt8),Lib.compareBytes a b=0↔a=b
 | [],[]=>by simp[Lib.compareBytes]
 | [],_::_=>by simp[Lib.compareBytes]
 |_::_,[]=>by simp[Lib.compareBytes]
 |a::l,b::m=>by
  unfold Lib.compareBytes;split
  ·rename_i h1;have h3:a≠b:=λe=>by subst e;exact absurd h1 (by simp)
   simp[h3]
  ·rename_i h1;split
   ·rename_i h2;have h3:a≠b:=λe=>by subst e;exact h1 h2
    simp[h3]
   ·rename_i h2;have e:a=b:=by
     simp only[UInt8.lt_iff_toNat_lt]at h1 h2;exact UInt8.toNat_inj.1 (by omega)
    subst e;rw[hZ l m];simp
def aP.lt(a b:aP):Prop:=a.p9 b=true
theorem aP.lt_irrefl(a:aP):¬aP.lt a a:=by simp[aP.lt,aP.p9,qS,decide]
theorem aP.lt_trans{a b c:aP}(h1:aP.lt a b)(h2:aP.lt b c):aP.lt a c:=sa h1 h2
theorem aP.v7(a b:aP):aP.lt a b\/a=b\/aP.lt b a:=by
 rcases sb a.bK b.bK with h|h|h
 ·exact .inl h
 ·grind [aP.ext']
 ·exact .inr<|.inr h
theorem aP.ny{a b:aP}(h:aP.lt a b):a≠b:=by grind [aP.lt_irrefl]
theorem aP.lt_asymm{a b:aP}(h:aP.lt a b):¬aP.lt b a:=by grind [aP.lt_irrefl,aP.lt_trans]
theorem x0{a b:aP}:(a.p9 b||a.jg b)=false↔aP.lt b a:=by
 grind [Bool.or_eq_false_iff,kI,aP.v7,aP.lt,aP.ny,aP.lt_asymm]
end Go.Gk
namespace Go.Gk
open Go IntKind
class Bk (α:Type)where
 bk:α->Nat
 pos:∀x,1<=bk x
def bk{α:Type}[Bk α](x:α):Nat:=Bk.bk x
theorem Az{α:Type}[Bk α](x:α):1<=bk x:=Bk.pos x
instance:Bk aP:=⟨λs=>s.bK.length+1,λ_=>by omega⟩
instance:Bk Int:=⟨λ_=>1,λ_=>by omega⟩
instance:Bk Bool:=⟨λ_=>1,λ_=>by omega⟩
instance {α:Type} [Bk α]:Bk (Z α):=⟨λl=>(l.map bk).sum+1,λ_=>by omega⟩
theorem AA{α:Type}[Bk α]:bk ([]:Z α)=1:=rfl
theorem uK{α:Type}[Bk α](x:α)(l:Z α):bk (x::l)=bk x+bk l:=by
 rfl
theorem lC{α:Type}[Bk α]:∀{l:Z α}{x:α},x∈l->bk x+1<=bk l
 |y::l,x,h=>by
  rw[uK]
  rcases fB.1 h with h|h
  ·subst h;have:=Az l;omega
  ·have:=lC h;omega
theorem sd{α:Type}[Bk α]{l:Z α}{k:Nat}{x:α}(h:l[k]? =some x):bk x+1<=bk l:=lC<|dJ h
theorem my{α:Type}[Bk α]:∀(l:Z α),l.length+1<=bk l
 | []=>by rw[AA];simp
 |x::l=>by rw[uK,gT];have:=my l;have:=Az x;omega
theorem ki(s:aP):bk s=s.bK.length+1:=rfl
section
variable {α R:Type}
theorem yN{l:Z α}{e:Nat->aW R}(f:α->aW R)(h:∀k x,l[k]? =some x->e k=f x):hG l.length e=l.findSome? f:=by
 cases hx:hG l.length e with
 |none=>
  grind [List.findSome?_eq_none_iff,fZ,iC,bF]
 |some r=>
  obtain⟨k,hk,he,hn⟩:=iD.1 hx;refine(List.findSome?_eq_some_iff.2 ⟨l.take k,l[k],l.drop<|k+1,?_,?_,λy hy=>?_⟩).symm
  ·simp
  ·grind
  grind [fZ,bF,bX,List.getElem?_take_of_lt]
theorem uL(l:Z α)(p:α->Bool)(r:R):l.findSome? (λx=>if p x=true then some r else none)=if l.any p=true then some r else none:=by
 induction l with
 |nil=>simp
 |cons x l ih=>
  grind
theorem AB{l:Z α}{body:Nat->Unit->aW (Fl Unit R)}(f:α->aW R)(hl:l.length<=4611686018427387904)
  (h:∀k x,l[k]? =some x->body k ()=some (uI (f x) ())):ow l.length body ()=some (yM (l.findSome? f) ()):=by
 have h2:=kT (body:=body) (m:=l.length) (λk=>(l[k]?).bind f) hl (λk hk _=>by
  grind)
 grind [yN]
theorem uM{l:Z α}{body:Nat->Unit->aW (Fl Unit R)}(p:α->Bool)(r:R)(hl:l.length<=4611686018427387904)
  (h:∀k x,l[k]? =some x->body k ()=some (if p x=true then .rt r else .nx ())):ow l.length body ()=some (if l.any p=true then .rt r else .go ()):=by
 rw[AB (λx=>if p x=true then some r else none) hl (λk x hx=>by rw[h k x hx];cases p x <;> rfl),uL]
 cases l.any p <;> rfl
end
section
variable {α β:Type}
def rn(l:Z α)(p:α->Bool):Int:=match l.findIdx? p with|some k=>(k:Int)|none=> -1
theorem v8{l:Z α}{p:α->Bool}(h:l.any p=false):rn l p = -1:=by
 unfold rn
 grind
theorem nz{l:Z α}{p:α->Bool}{k:Nat}{x:α}(hk:l[k]? =some x)(hp:p x=true)(hn:∀j y,j<k->l[j]? =some y->p y=false):rn l p=(k:Int):=by
 unfold rn;have hlt:=(bF.1 hk).1;have:l.findIdx? p=some k:=by
  rw[List.findIdx?_eq_some_iff_getElem]
  grind
 rw[this]
theorem iE(l:Z α)(p:α->Bool):(rn l p = -1/\∀x∈l,p x=false)\/∃k x,rn l p=((k:Nat):Int)/\l[k]? =some x/\p x=true/\∀j y,j<k->l[j]? =some y->p y=false:=by
 unfold rn
 cases h:l.findIdx? p with
 |none=>grind
 |some k=>
  grind [List.findIdx?_eq_some_iff_getElem,aN]
theorem xb(l:Z α)(p:α->Bool):decide (rn l p>=0)=l.any p:=by
 grind [iE,List.any_eq_false,decide,gU,dJ]
def mz(p0:Z α)(p1:α->aW Bool):aW Int:=
 (ow p0.length (λ(k1:Nat)(_:Unit)=>((idx p0 (k1:Int)).bind λx7=>(p1 x7).bind λx10=>bif x10 then some (.rt (k1:Int))else(some<|.nx ()):aW (Fl Unit Int))) ()).bind λo11=>o11.cs (λ(_:Unit)=>some<|-1)<|λr=>some r
theorem oB{l:Z α}{φ:α->aW Bool}(p:α->Bool)(hl:l.length<=4611686018427387904)(h:∀x∈l,φ x=some (p x)):mz l φ=some (rn l p):=by
 unfold mz
 rw[kT (λk=>(l[k]?).bind λx=>if p x=true then some ((k:Nat):Int)else none) hl (λk hk _=>by
  grind [gV,aA,db,aN,uI]),aA]
 grind [iE,iC,aN,db,yM,Fo.cs,iD,bF]
def jU(p0:Z α)(p1:α->aW Bool):aW Bool:=
 (mz p0 p1).bind λx1=>some<|decide<|x1>=0
theorem lV{l:Z α}{φ:α->aW Bool}(p:α->Bool)(hl:l.length<=4611686018427387904)(h:∀x∈l,φ x=some (p x)):jU l φ=some (l.any p):=by
 simp_all[jU,oB,aA,xb]
def eu(key:α->aP)(l:Z α):Prop:=∀(i j:Nat)(x y:α),i<j->l[i]? =some x->l[j]? =some y->aP.lt (key x) (key y)
theorem yO{key:α->aP}{l:Z α}(h:∀k x y,l[k]? =some x->l[k+1]? =some y->aP.lt (key x) (key y)):eu key l:=by
 intro i j
 induction j with
 |zero=>omega
 |succ j ih=>
  grind [bF,aP.lt_trans,aN]
theorem eu.inj{key:α->aP}{l:Z α}(h:eu key l){i j:Nat}{x y:α}(hx:l[i]? =some x)(hy:l[j]? =some y)(e:key x=key y):i=j:=by
 rcases Nat.lt_trichotomy i j with h1|h1|h1
 ·exact absurd e<|aP.ny<|h i j x y h1 hx hy
 ·exact h1
 ·exact absurd e.symm<|aP.ny<|h j i y x h1 hy hx
def nat?(key:α->aP)(l:Z α)(s:aP):Int:=rn l<|λx=>(key x).jg s
def tc(N:Nat)(p0:Z α)(p1:β)(p2:α->β->aW Int):aW (Int×Bool):=
 (m8 (λ(s2:Int×Int)=>(bif s2.1<s2.2 then((idx p0<|wrap .i64<|Int.fdiv (wrap .u64<|wrap .i64<|s2.1+s2.2) 2).bind λx13=>(p2 x13 p1).bind λx16=>(bif x16<0 then some (wrap .i64<|wrap .i64 (Int.fdiv (wrap .u64<|wrap .i64<|s2.1+s2.2) 2)+1,s2.2)else some (s2.1,wrap .i64<|Int.fdiv (wrap .u64<|wrap .i64<|s2.1+s2.2) 2)).bind λs17=>some<|.nx (s17.1,s17.2))else(some<|.br (s2.1,s2.2)):aW (Fl (Int×Int) Empty))) N (0,(p0.length:Int))).bind λo29=>o29.cs (λ(s2:Int×Int)=>(bif decide (s2.1<(p0.length:Int))then((idx p0 s2.1).bind λx25=>(p2 x25 p1).bind λx28=>some<|x28==0)else some false).bind λs23=>some (s2.1,s23))<|λr=>r.elim
theorem tJ{a b:Nat}(h:a<b)(hb:b<=4611686018427387904):wrap .i64 (Int.fdiv (wrap .u64<|wrap .i64<|(a:Int)+(b:Int)) 2)=(((a+b) / 2:Nat):Int):=by
 rw[dF (x:=(a:Int)+(b:Int)) (by omega) (by omega)];have e:wrap .u64 ((a:Int)+(b:Int))=((a+b:Nat):Int):=by
  show((a:Int)+b) % 18446744073709551616=_;omega
 grind [Int.fdiv_eq_ediv_of_nonneg,dF]
theorem rp{N:Nat}{key:α->aP}{l:Z α}{s:aP}{φ:α->aP->aW Int}(hφ:∀x,φ x s=some (Lib.compareBytes (key x).bK s.bK))(hs:eu key l)
  (hl:l.length<=1048576) (hN:4194304<=N):∃r,tc N l s φ=some r/\(bif(!r.2)then some (-1)else some r.1)=some (nat? key l s):=by
 unfold tc;have h:=rm (S:=Int×Int) (R:=Empty)
  (body:=(λ(s2:Int×Int)=>(bif s2.1<s2.2 then((idx l<|wrap .i64<|Int.fdiv (wrap .u64<|wrap .i64<|s2.1+s2.2) 2).bind λx13=>(φ x13 s).bind λx16=>(bif x16<0 then some (wrap .i64<|wrap .i64 (Int.fdiv (wrap .u64<|wrap .i64<|s2.1+s2.2) 2)+1,s2.2)else some (s2.1,wrap .i64<|Int.fdiv (wrap .u64<|wrap .i64<|s2.1+s2.2) 2)).bind λs17=>some<|.nx (s17.1,s17.2))else(some<|.br (s2.1,s2.2)):aW (Fl (Int×Int) Empty))))
  (λst=>∃a b:Nat,st=((a:Int),(b:Int))/\a<=b/\b<=l.length/\(∀j x,j<a->l[j]? =some x->aP.lt (key x) s)/\(∀j x,b<=j->l[j]? =some x->¬aP.lt (key x) s))
  (λst=>(st.2 - st.1).toNat)
  (λst=>∃a:Nat,st.1=(a:Int)/\a<=l.length/\(∀j x,j<a->l[j]? =some x->aP.lt (key x) s)/\(∀j x,a<=j->l[j]? =some x->¬aP.lt (key x) s))
  (λ_=>True) (by
   rintro st⟨a,b,rfl,hab,hb,h1,h2⟩
   by_cases hlt:a<b
   ·have hm:(a+b) / 2<l.length:=by omega
    have hd:decide ((a:Int)<(b:Int))=true:=by grind
    simp only[hd,bV,tJ hlt (by omega),gV l _ hm,aA,hφ]
    by_cases hc:Lib.compareBytes (key l[(a+b) / 2]).bK s.bK<0
    ·have hc':aP.lt (key l[(a+b) / 2]) s:=(jK _ _).1 hc;simp only[hc,decide_true,bV,aA];refine⟨_,rfl,⟨(a+b) / 2+1,b,?_,by omega,hb,λj x hj hx=>?_,h2⟩,?_⟩
     ·grind [dF]
     ·by_cases e:j=(a+b) / 2
      ·grind
      ·exact aP.lt_trans (hs j _ x _ (by omega) hx<|aN hm) hc'
     grind [dF]
    ·have hc':¬aP.lt (key l[(a+b) / 2]) s:=λh=>hc<|(jK _ _).2 h
     simp only[hc,decide_false,bJ,aA];refine⟨_,rfl,⟨a,(a+b) / 2,rfl,by omega,by omega,h1,λj x hj hx=>?_⟩,by omega⟩
     by_cases e:j=(a+b) / 2
     ·grind
     ·exact λh3=>hc'<|aP.lt_trans (hs _ j _ x (by omega) (aN hm) hx) h3
   ·have hd:decide ((a:Int)<(b:Int))=false:=by rw[decide_eq_false_iff_not];omega
    simp only[hd,bJ]
    exact⟨_,rfl,a,rfl,by omega,h1,λj x hj hx=>h2 j x (by omega) hx⟩)
  N (0,(l.length:Int)) ⟨0,l.length,rfl,by omega,aX _,λj x hj=>by omega,λj x hj hx=>by have:=(bF.1 hx).1;omega⟩ (by simp only;omega)
 obtain⟨o,ho,hc⟩:=h;rw[ho,aA]
 cases o with
 |rt r=>exact r.elim
 |go st=>
  obtain⟨a,ha,hle,h1,h2⟩:=hc;simp only[Fo.cs,ha]
  by_cases hlt:a<l.length
  ·have hd:decide ((a:Int)<(l.length:Int))=true:=by rw[fC];omega
   simp only[hd,bV,gV l _ hlt,aA,hφ];refine⟨_,rfl,?_⟩
   by_cases he:key l[a]=s
   ·have e0:Lib.compareBytes (key l[a]).bK s.bK=0:=(hZ _ _).2 (by rw[he]);simp only[e0,BEq.rfl,Bool.not_true,bJ];unfold nat?;rw[nz (aN hlt) (gk.2 he) (λj y hj hy=>by rw[kI];exact aP.ny<|h1 j y hj hy)]
   ·have e0:(Lib.compareBytes (key l[a]).bK s.bK==0)=false:=by
     rw[beq_eq_false_iff_ne];intro h;exact he<|aP.ext'<|(hZ _ _).1 h
    simp only[e0,ri,bV];unfold nat?;rw[v8];rw[List.any_eq_false];intro x hx;rw[ig,kI];obtain⟨j,hj⟩:=fZ hx;intro hk
    by_cases hja:j<a
    ·exact aP.ny (h1 j x hja hj) hk
    ·by_cases e:j=a
     ·subst e;rw[aN hlt]at hj;injection hj with hj;subst hj;exact he hk
     ·have h3:=hs a j _ x (by omega) (aN hlt) hj;rw[hk]at h3;exact h2 a _ (aX _) (aN hlt) h3
  ·have hd:decide ((a:Int)<(l.length:Int))=false:=by rw[decide_eq_false_iff_not];omega
   simp only[hd,bJ,aA];refine⟨_,rfl,?_⟩;simp only[ri,bV];unfold nat?;rw[v8];rw[List.any_eq_false];intro x hx;rw[ig,kI];obtain⟨j,hj⟩:=fZ hx;have:=(bF.1 hj).1;exact aP.ny<|h1 j x (by omega) hj
def fx(key:α->aP)(l:Z α)(k:Nat):Bool:=match l[k]?,l[k - 1]? with|some x,some y=>decide (0<k)&&((key x).p9 (key y)||(key x).jg (key y))|_,_=>false
theorem sf(key:α->aP){l:Z α}{k:Nat}{x:α}(hx:l[k]? =some x)(hl:l.length<=1048576):
  (bif decide ((k:Int)>0)then((idx l<|wrap .i64<|(k:Int) - 1).bind λy=>some<|(key x).p9 (key y)||(key x).jg (key y))else some false)=some (fx key l k):=by
 grind [bF,fx,dw,nY,gV,aA,aN]
theorem iR{key:α->aP}{l:Z α}(h:∀k,k<l.length->fx key l k=false):eu key l:=by grind [yO,bF,fx,Nat.add_sub_cancel,decide_true,x0]
end
end Go.Gk
namespace Go.Gk
open Go IntKind Go.ChangeShapes Go.WideShapes Go.RowKit
structure UB (ub:(H:Type)->DataW H->Nat) (ua:(H:Type)->List (DataW H)->Nat):Prop where
 str:∀(H:Type)(b:List UInt8),ub H (.lit<|.string b)=b.length+1
 pos:∀(H:Type)(d:DataW H),1<=ub H d
 sl:∀(H:Type)(e s:List (DataW H)),ub H (.slice e s)=ua H e+ua H s+1
 ag:∀(H:Type)(l:List (DataW H)),ub H (.agg l)=ua H l+1
 nil:∀(H:Type),ua H []=0
 cons:∀(H:Type)(x:DataW H)(l:List (DataW H)),ua H (x::l)=ub H x+ua H l
def Hw(w:bM):bZ:=λb=>w.heap[b]?
structure fH (ub:(H:Type)->DataW H->Nat) (P:Program) (T:TypeId) (α:Type) [GT α] [Bk α]:Prop where
 trod:∀{H:Type}{enc:TypeId×Value->H}{w:World}{base:Nat}{spare:Nat->Bool}{held:Bool}{fuel:Nat}{cs:List Value}{d:DataW H×List MemPlace},
  DataW.trod enc P w base spare held fuel T cs=some d->∃x:α,GT.ok (Hw w) cs x/\bk x<=ub H d.1
 D6:∀{w:World}{r:Reach}{base:Nat}{v:Value},Value.okWide P w r base T v->v=oI α v.cells.toList
section
variable {ub:(H:Type)->DataW H->Nat}{ua:(H:Type)->List (DataW H)->Nat}{P:Program}{T e:TypeId}
theorem yP(u:UB ub ua)(ht:P.underlying T=some (.int .i64)):fH ub P T Int where
 trod:=λh=>by
  obtain⟨n,rfl,rfl,_⟩:=DataW.trod_int ht h;exact⟨n,rfl,u.pos _ _⟩
 D6:=λh=>by obtain⟨n,rfl⟩:=okWide_int ht h;rfl
theorem yQ(u:UB ub ua)(ht:P.underlying T=some .string):fH ub P T aP where
 trod:=λh=>by
  obtain⟨s,rfl,rfl,_⟩:=DataW.trod_string ht h;refine⟨⟨s.data.toList⟩,?_,?_⟩
  ·show [Value.string s]= [Gk.str ⟨s.data.toList⟩]
   cases s;rfl
  ·rw[u.str];exact aX _
 D6:=λh=>by obtain⟨n,rfl⟩:=okWide_string ht h;rfl
theorem qT{α:Type}{R:Nat->α->Prop}:∀(n:Nat),(∀i,i<n->∃x,R i x)->∃l:Z α,l.length=n/\∀i x,l[i]? =some x->R i x
 | 0,_=>⟨[],rfl,λi x h=>by simp at h⟩
 |n+1,h=>by
  obtain⟨l,h1,h2⟩:=qT n<|λi hi=>h i (by omega)
  obtain⟨x,hx⟩:=h n (by omega);refine⟨l++[x],by simp[h1],λi y hy=>?_⟩
  by_cases hi:i<n
  ·rw[gR (by omega)]at hy;exact h2 i y hy
  ·have:=(bF.1 hy).1;rw[dh]at this;have:i=n:=by simp at this;omega
   subst this;rw[gS (by omega),h1]at hy;simp at hy;subst hy;exact hx
theorem tK{H α:Type}[Bk α](u:UB ub ua):∀{l:List α}{es:List (DataW H×List MemPlace)},l.length=es.length->
  (∀(i:Nat)(x:α)(y:DataW H×List MemPlace),l[i]? =some x->es[i]? =some y->bk x<=ub H y.1)->bk l<=ua H (es.map (·.1))+1
 | [],[],_,_=>by rw[AA];omega
 |x::l,y::es,hl,h=>by
  have h1:=h 0 x y rfl rfl;have h2:=tK (H:=H) u (l:=l) (es:=es) (by simpa using hl)<|λi x y hx hy=>h (i+1) x y (by simpa using hx) (by simpa using hy)
  rw[uK,ef,u.cons];omega
theorem v9{w:bM}{base:Nat}{a:Addr}{n:Nat}{cs:Z bL}(h:w.cells? base a n=some cs):At (Hw w) a cs:=by
 intro j v hv;obtain⟨_,hlen,hc⟩:=World.cells?_some h;have hj:=(bF.1 hv).1;have h2:=hc j (by omega);rw[hv]at h2;unfold pg Hw;unfold World.cell? at h2;exact h2
theorem jL{α:Type}[GT α][Bk α](u:UB ub ua)(he:fH ub P e α)(ht:P.underlying T=some (.slice e):=by kernel_rfl)(hc:P.cellsOf e=GT.sz α:=by kernel_rfl):fH ub P T (List α)where
 trod:=λ{H enc w base spare held fuel cs d}h=>by
  rcases DataW.trod_slice ht h with⟨rfl,rfl⟩|⟨a,len,cap,elems,rest,n,_,rfl,rfl,_,hlc,hcm,hlen,hel,_⟩
  ·exact⟨[],⟨_,rfl,none,0,0,rfl,rfl,aX _,by simp[maxLen],λi x hx=>by simp at hx⟩,u.pos _ _⟩
  ·have each:∀i,i<len->∃x:α,(∃c y,GT.ok (Hw w) c x/\At (Hw w) (a.add<|i*GT.sz α) c/\elems[i]? =some y/\bk x<=ub H y.1):=by
    intro i hi;have h1:=hel i hi;rw[aN (by omega:i<elems.length),Option.bind_eq_some_iff]at h1;obtain⟨c,h2,h3⟩:=h1;obtain⟨x,h4,h5⟩:=he.trod h3;refine⟨x,c,_,h4,?_,aN (by omega),h5⟩;rw[hc]at h2;exact v9 h2
   obtain⟨l,hl,hr⟩:=qT len each;refine⟨l,⟨_,rfl,some a,len,cap,rfl,hl.symm,hlc,hcm,λi x hx=>?_⟩,?_⟩
   ·obtain⟨c,y,h1,h2,_⟩:=hr i x hx;exact⟨a,c,rfl,h1,h2⟩
   ·have:=tK (H:=H) u (l:=l) (es:=elems) (by omega) (λi x y hx hy=>by
     obtain⟨c,y',_,_,h3,h4⟩:=hr i x hx
     rw[hy]at h3;injection h3 with h3;subst h3;exact h4)
    rw[u.sl];omega
 D6:=λh=>by obtain⟨a,n,c,rfl⟩:=okWide_slice ht h;rfl
def x3(ub:(H:Type)->DataW H->Nat)(ua:(H:Type)->List (DataW H)->Nat)(P:Program)(off:Nat)(fs:List Field)(β:Type)[GT β](m:β->Nat):Prop:=
 ∀{H:Type}{enc:TypeId×Value->H}{w:World}{base:Nat}{spare:Nat->Bool}{held:Bool}{n:Nat}{cs:List Value}{ys:List (DataW H×List MemPlace)},
  (∀(i:Nat)(f:Field),fs[i]? =some f->DataW.trod enc P w base spare held n f.type ((cs.drop f.offset).take<|P.cellsOf f.type)=ys[i]?)->ys.length=fs.length->
  cs.length=off+GT.sz β->∃x:β,GT.ok (Hw w) (cs.drop off) x/\m x<=ua H (ys.map (·.1))
theorem kJ{β:Type}[GT β][Bk β]{off:Nat}{f:Field}(u:UB ub ua)(h:fH ub P f.type β)(ho:f.offset=off:=by exact rfl)(hc:P.cellsOf f.type=GT.sz β:=by kernel_rfl):x3 ub ua P off [f] β bk:=by
 intro H enc w base spare held n cs ys hf hl hcs
 match ys,hl with
 | [y],_=>
  have h1:=hf 0 f rfl;rw[ho,hc,ij (by rw[fO];omega)]at h1;obtain⟨x,h2,h3⟩:=h.trod (d:=y) h1;exact⟨x,h2,by rw[ef,u.cons];omega⟩
theorem ia{α β:Type}[GT α][GT β][Bk α]{off off':Nat}{f:Field}{fs:Z Field}{m:β->Nat}(u:UB ub ua)(h:fH ub P f.type α)(hr:x3 ub ua P off' fs β m)(ho:f.offset=off:=by exact rfl)(hc:P.cellsOf f.type=GT.sz α:=by kernel_rfl)(hoff:off'=off+GT.sz α:=by exact rfl):x3 ub ua P off (f::fs) (α×β) (λx=>bk x.1+m x.2):=by
 intro H enc w base spare held n cs ys hf hl hcs;have hsz:GT.sz (α×β)=GT.sz α+GT.sz β:=rfl
 match ys,hl with
 |y::ys,hl=>
  have h1:=hf 0 f rfl;rw[ho,hc]at h1;obtain⟨x,h2,h3⟩:=h.trod (d:=y) h1;obtain⟨x',h4,h5⟩:=hr (n:=n) (cs:=cs) (ys:=ys) (λi g hg=>hf (i+1) g hg) (by simpa using hl) (by omega);refine⟨(x,x'),⟨_,_,?_,h2,h4⟩,?_⟩
  ·rw[hoff,<-List.drop_drop,List.take_append_drop]
  ·rw[ef,u.cons];show bk x+m x'<=_;omega
theorem iF{γ β:Type}[GT β][Bk γ]{fs:Array Field}{m:β->Nat}(u:UB ub ua)(f:γ->β)(g:β->γ)(hfg:∀b,f (g b)=b)(ht:P.underlying T=some (.struct fs))(h:x3 ub ua P 0 fs.toList β m)(hm:∀b,bk (g b)<=m b+1)(hc:P.cellsOf T=GT.sz β:=by kernel_rfl): @fH ub P T γ (GT.via f) _:=
 @fH.mk ub P T γ (GT.via f) _
  (λ{H enc w base spare held fuel cs d}hd=>by
   obtain⟨xs,n,_,rfl,hl,hlen,hf⟩:=DataW.trod_struct ht hd;obtain⟨b,h1,h2⟩:=h (n:=n) (cs:=cs) (ys:=xs) (λi g hg=>hf i g (by rw[<-Array.getElem?_toList];exact hg)) (by rw[hlen];simp) (by omega);refine⟨g b,?_,?_⟩
   ·show GT.ok (Hw w) cs (f<|g b);rw[hfg];exact h1
   ·rw[u.ag];have:=hm b;omega)
  (λhv=>by
   obtain⟨cs,rfl,_⟩:=okWide_struct ht hv
   cases cs;rfl)
theorem fH.arg{H:Type}{enc:TypeId×Value->H}{w:World}{base:Nat}{spare:Nat->Bool}{held:Bool}{r:Reach}{b0:Nat}{v:Value}{d:DataW H}{ps:List MemPlace}{α:Type}[GT α][Bk α](o:fH ub P T α)
  (hv:Value.okWide P w r b0 T v) (hd:DataW.Trod enc P w base spare held T v d ps):∃x:α,ou (Hw w) v x/\bk x<=ub H d:=by
 obtain⟨fuel,hf⟩:=hd;obtain⟨x,h1,h2⟩:=o.trod hf;exact⟨x,⟨_,o.D6 hv,h1⟩,h2⟩
theorem fH.Fu{H:Type}{enc:TypeId×Value->H}{w:World}{base:Nat}{spare:Nat->Bool}{held:Bool}{r:Reach}{b0:Nat}{v:Value}{d:DataW H}{ps:List MemPlace}{α:Type}[Sc α][Bk α](o:fH ub P T α)
  (hv:Value.okWide P w r b0 T v) (hd:DataW.Trod enc P w base spare held T v d ps):∃x:α,v=Sc.toV x/\bk x<=ub H d:=by
 obtain⟨x,h1,h2⟩:=o.arg hv hd;exact⟨x,rF.1 h1,h2⟩
end
theorem Calls.fin{P:cR}{f:FuncId}{args:bQ bL}{w:bM}{R Q:bL->bM->Prop}(h:Calls P f args w (eU R))(k:∀v w',R v w'->Q v w'):
  Calls P f args w (λe W'=>∃v,e = .returned v/\Q v W'):=Calls.mono h λ_ w'⟨v,e,hr⟩=>⟨v,e,k v w' hr⟩
def yR(W:bM):HP:=⟨λM h=>hle (Hw W) M/\h=j9,λk⟨a,b⟩=>⟨yq a k,b⟩⟩
theorem Holds.begin(W:bM):Holds W W [yR W]:=by
 refine⟨Hw W,λ_=>j9,⟨rfl,rfl,rfl,aX _,λb o h=>h,λi Pr hq=>?_,λ_ _ _ _ h=>(by cases h),λ_ _ _ _ h=>(by cases h),λ_ _ _ _ _ _ _ h=>(by cases h)⟩⟩
 match i,hq with
 | 0,hq=>simp at hq;subst hq;exact⟨zC _,rfl⟩
theorem Holds.Ci{α:Type}[GT α]{W:bM}{V:Z HP}{v:bL}{x:α}(h:Holds W W (V++[yR W]))(hv:Gk.ou (Hw W) v x):Holds W W (rd v x::(V++[yR W])):=
 h.rE λM hs g=>by
  have h1:=(g.sat V.length (yR W) (by simp)).1;exact⟨hv.mono h1,rfl⟩
theorem Holds.kept{E W w:bM}{V:Z HP}(h:Holds E w (V++[yR W]))(he:E=W):Below W.heap.size W w:=by
 subst he;obtain⟨M,hs,g⟩:=h;have h1:=(g.sat V.length (yR E) (by simp)).1;have h2:∀k o,E.heap[k]? =some o->w.heap[k]? =some o:=λk o ho=>g.im k o<|h1 k o ho
 refine⟨g.os,g.tape,g.out,?_,λk hk=>?_⟩
 ·by_cases h0:E.heap.size=0
  ·omega
  ·have h3:=h2 (E.heap.size - 1) _<|di (by omega)
   have:=(Array.getElem?_eq_some_iff.1 h3).1;omega
 ·rw[di hk];exact h2 k _<|di hk
section
variable {H:Type}{enc:da×bL->H}{P:cR}
theorem yS{f:Func}{s:ChangeSpec}{apart fresh handsOn again:Bool}{W W':World}{args:Array Value}{v:Value}{ds gs:List (DataW H)}{before pa pv:List MemPlace}
  (hW:DataW.Whole enc P f.params.toList s.vars apart W args.toList ds gs before)
  (hres:∀(b:Nat)(sp:Nat->Bool)(hd:Bool),DataW.TrodAll enc P W' b sp hd f.resultTypes.toList (v.resultList f.resultTypes.size) (s.fn H<|ds++gs).results [])
  (hargs:∀sp:Nat->Bool,(∀p∈before,sp p.block=true)->DataW.TrodAll enc P W' 0 sp true f.params.toList args.toList (s.fn H<|ds++gs).args pa)
  (hvars:∀sp:Nat->Bool,(∀p∈before,sp p.block=true)->DataW.TrodVars enc P W' sp s.vars (s.fn H<|ds++gs).vars pv)
  (hps:before=pa++pv) (hb:Below W.heap.size W W')
  (hok:∀(j:Nat)(t:TypeId)(r:Value),f.resultTypes[j]? =some t->(v.resultList f.resultTypes.size)[j]? =some r->Value.okWide P W' .any 0 t r):
  s.post enc P f apart fresh handsOn again W args v W':=by
 have hlt:∀p∈before,p.block<W.heap.size:=λp hp=>hW.lt p hp;have hold:∀p∈before,(λb=>decide<|b<W.heap.size) p.block=true:=λp hp=>by simpa using hlt p hp
 refine⟨ds,gs,before,[],pa,pv,hW,hres _ _ _,hargs _ hold,hvars _ hold,World.keptBut_mono (λp hp=>⟨hp,?_⟩)<|hb.frame (· ∈before),λ_=>?_⟩
 ·rw[hps,jD]at hp;exact Or.inr hp
 ·obtain⟨_,_,_,_,_,hz,hn⟩:=hW;refine⟨hok,_,_,([]++pa)++pv,⟨[]++pa,pv,trodAll_append (hargs _<|λ_ _=>rfl)<|hres _ _ _,hvars _<|λ_ _=>rfl,rfl,?_,?_⟩,?_⟩
  ·intro b off hp;have hin:MemPlace.cell b off∈before:=by rw[hps];simpa using hp
   rw[hb.frozen<|hlt _ hin];exact hz b off hin
  ·intro ha;have:=hn ha;rw[hps]at this;simpa using this
  ·intro p hp _;rw[hps];simpa using hp
theorem oC{W W':World}(hl:laidOutB P=true)(hb:Below W.heap.size W W'){sp:Nat->Bool}:∀{ts:List TypeId}{vs:List Value}{ds:List (DataW H)}{ps:List MemPlace},
  (∀t∈ts,P.readableRec t=true/\t<P.types.size)->DataW.TrodAll enc P W 0 (λ_=>true) true ts vs ds ps->(∀p∈ps,p.block<W.heap.size)->(∀p∈ps,sp p.block=true)->DataW.TrodAll enc P W' 0 sp true ts vs ds ps
 | [],_,_,_,_,h,_,_=>by
  obtain⟨rfl,rfl,rfl⟩:=trodAll_nil h;rfl
 |t::ts,_,_,_,ht,h,hlt,hsp=>by
  obtain⟨v,vs,d,ds,p,q,rfl,rfl,rfl,h1,h2⟩:=trodAll_cons h;refine⟨p,q,?_,oC hl hb (λt h=>ht t (by simp[h])) h2 (λx hx=>hlt x (by simp[hx]))<|λx hx=>hsp x (by simp[hx]),rfl⟩;exact WideElems.Trod_stays hl (ht t (by simp)).1 (ht t (by simp)).2 h1 (λx hx=>hb.same<|hlt x (by simp[hx]))<|λx hx=>hsp x (by simp[hx])
end
end Go.Gk
namespace Go.Gk
open Go IntKind
instance:Bk aU:=⟨λx=>bk x.Name+bk x.Kind+bk x.cD+1,λ_=>by omega⟩
theorem sg(x:aU):bk x=bk x.Name+bk x.Kind+bk x.cD+1:=rfl
instance:Bk aC:=⟨λx=>bk x.Name+bk x.aV+1,λ_=>by omega⟩
theorem ll(x:aC):bk x=bk x.Name+bk x.aV+1:=rfl
instance:Bk Part:=⟨λx=>bk x.Name+bk x.bU+1,λ_=>by omega⟩
theorem rq(x:Part):bk x=bk x.Name+bk x.bU+1:=rfl
instance:Bk bN:=⟨λx=>bk x.Part+bk x.bN+1,λ_=>by omega⟩
theorem AD(x:bN):bk x=bk x.Part+bk x.bN+1:=rfl
instance:Bk Net:=⟨λx=>bk x.Name+bk x.aV+bk x.mU+1,λ_=>by omega⟩
theorem qq(x:Net):bk x=bk x.Name+bk x.aV+bk x.mU+1:=rfl
instance:Bk aG:=⟨λx=>bk x.aJ+bk x.aQ+1,λ_=>by omega⟩
theorem kU(x:aG):bk x=bk x.aJ+bk x.aQ+1:=rfl
instance:Bk aD:=⟨λx=>bk x.part+bk x.iJ+bk x.mark+1,λ_=>by omega⟩
instance:Bk aB:=⟨λx=>bk x.e0+bk x.e1+1,λ_=>by omega⟩
instance:Bk aH:=⟨λx=>bk x.A+bk x.B+1,λ_=>by omega⟩
end Go.Gk
namespace Go.Gk
open Go IntKind Go.Sort
section
variable {α:Type}
theorem qU{β:Type}(a:bQ β){n:Nat}(h:a.size=n):a.extract 0 n=a:=by grind
theorem CP{φ:α->α->aW Int}{l:Z α}(cf:α->α->Int)(hφ:∀x∈l,∀y∈l,φ x y=some (cf x y))(h1:∀x∈l,¬cf x x<0)
  (h2:∀x∈l,∀y∈l,∀z∈l,cf x y<0->cf y z<0->cf x z<0) (h3:∀x∈l,∀y∈l,∀z∈l,¬cf x y<0->¬cf y z<0->¬cf x z<0):SWO (Ca<|rS φ l):=by
 have hm:∀i:Fin l.length,l[i]∈l:=λi=>db i.isLt;have e:∀i j:Fin l.length,rS φ l i j=cf l[i] l[j]:=λi j=>by grind [rS]
 refine⟨λx=>?_,λx y z=>?_,λx y z=>?_⟩
 all_goals grind [Ca,decide_eq_false_iff_not]
theorem AF{φ:α->α->aW Int}{l:Z α}(cf:α->α->Int)(hφ:∀x∈l,∀y∈l,φ x y=some (cf x y))(h1:∀x∈l,¬cf x x<0)
  (h2:∀x∈l,∀y∈l,∀z∈l,cf x y<0->cf y z<0->cf x z<0) (h3:∀x∈l,∀y∈l,∀z∈l,¬cf x y<0->¬cf y z<0->¬cf x z<0) (hl:l.length<4611686018427387904):
  ∃m,mT φ l=some m/\m.Perm l/\m.Pairwise (λx y=>¬cf y x<0):=by
 have hO:=CP cf hφ h1 h2 h3;have hm:∀i:Fin l.length,l[i]∈l:=λi=>db i.isLt;have hc:(∀i j:Fin l.length,∃c,φ l[i] l[j]=some c):=λi j=>⟨_,hφ _ (hm i) _<|hm j⟩;refine⟨vC φ l,by simp_all[mT,aK],?_⟩;unfold vC
 by_cases hn:0<l.length
 ·rw[dif_pos hn]
  letI inh:Inhabited (Fin l.length):=⟨⟨0,hn⟩⟩
  have hds:(Array.ofFn λi:Fin l.length=>i).size=l.length:=by simp
  obtain⟨hp,hs⟩:=pdq_sorts (Ca<|rS φ l) hO (Array.ofFn λi:Fin l.length=>i) 0 l.length (Lib.bitLen l.length) true true (lf _) (by omega)<|Or.inl rfl
  show(List.map (λi=>l[i]) (pdq (Ca<|rS φ l) (Array.ofFn λi:Fin l.length=>i) 0 l.length (Lib.bitLen l.length) true true).toList).Perm l/\_;generalize pdq (Ca<|rS φ l) (Array.ofFn λi:Fin l.length=>i) 0 l.length (Lib.bitLen l.length) true true=d' at hp hs;obtain⟨hz,_,hpm⟩:=hp;have hz':d'.size=l.length:=hz.trans hds;rw[qU d' hz',qU _ hds]at hpm;have hof:(Array.ofFn λi:Fin l.length=>i).toList.map (λi=>l[i])=l:=by
   rw[Array.toList_ofFn,List.map_ofFn];exact List.ofFn_getElem
  refine⟨(hpm.map<|λi=>l[i]).trans<|List.Perm.of_eq hof,?_⟩;rw[List.pairwise_map,List.pairwise_iff_getElem];intro i j hi hj hij;rw[Array.length_toList]at hi hj;have:=hs i j (lf _) hij (by omega)
  grind [rS,Ca,decide_eq_false_iff_not]
 ·rw[dif_neg hn];have:l= []:=List.length_eq_zero_iff.1 (by omega);subst this;exact⟨List.Perm.refl _,List.Pairwise.nil⟩
end
end Go.Gk
namespace Go.Gk
open Go IntKind
def Ok{β:Type}(o:aW β)(P:β->Prop):Prop:=∃r,o=some r/\P r
section
variable {α β S R:Type}{P:α->Prop}{Q:β->Prop}
theorem GG{x:β}(h:Q x):Ok (some x) Q:=⟨x,rfl,h⟩
theorem Ok.mono{o:aW α}{P':α->Prop}(h:Ok o P)(k:∀x,P x->P' x):Ok o P':=by obtain⟨x,h1,h2⟩:=h;exact⟨x,h1,k x h2⟩
theorem GM{o:aW α}{f:α->aW β}(h:Ok o P)(k:∀x,P x->Ok (f x) Q):Ok (o.bind f) Q:=by
 obtain⟨x,h1,h2⟩:=h;grind
theorem GH{o:aW α}{f:α->aW β}{x:α}(h:o=some x)(k:Ok (f x) Q):Ok (o.bind f) Q:=by grind
theorem G2{b:Bool}{x y:aW β}(ht:b=true->Ok x Q)(hf:b=false->Ok y Q):Ok (bif b then x else y) Q:=by
 grind
theorem HE{o:aW β}{x:β}(h:Ok o (λr=>r=x)):o=some x:=by obtain⟨r,h1,h2⟩:=h;rw[h1,h2]
def FH(Go:S->Prop)(Rt:R->Prop):Fo S R->Prop| .go s=>Go s| .rt r=>Rt r
def CQ(Nx Br:S->Prop)(Rt:R->Prop):Fl S R->Prop| .nx s=>Nx s| .br s=>Br s| .rt r=>Rt r
theorem Hp{Nx Br:S->Prop}{Rt:R->Prop}{s:S}(h:Nx s):Ok (some<|Fl.nx s) (CQ Nx Br Rt):=⟨_,rfl,h⟩
theorem HS{Nx Br:S->Prop}{Rt:R->Prop}{s:S}(h:Br s):Ok (some<|Fl.br s) (CQ Nx Br Rt):=⟨_,rfl,h⟩
theorem HT{Nx Br:S->Prop}{Rt:R->Prop}{r:R}(h:Rt r):Ok (some (Fl.rt r:Fl S R)) (CQ Nx Br Rt):=⟨_,rfl,h⟩
theorem Hy{Go:S->Prop}{Rt:R->Prop}{o:Fo S R}{f:S->aW β}{g:R->aW β}(h:FH Go Rt o)(hf:∀s,Go s->Ok (f s) Q)(hg:∀r,Rt r->Ok (g r) Q):Ok (o.cs f g) Q:=by
 cases o with
 |go s=>exact hf s h
 |rt r=>exact hg r h
theorem Hq{body:Nat->S->aW S}{m:Nat}{s:S}(Inv:Nat->S->Prop)(hm:m<=4611686018427387904)(h0:Inv 0 s)(h:∀k s,k<m->Inv k s->Ok (body k s) (Inv<|k+1)):Ok (j8 m body s) (Inv m):=
 BL Inv hm h0 h
theorem I0{body:Nat->S->aW (Fl S R)}{m:Nat}{s:S}(Inv:Nat->S->Prop){Go:S->Prop}{Rt:R->Prop}(hm:m<=4611686018427387904)(h0:Inv 0 s)
  (h:∀k s,k<m->Inv k s->Ok (body k s) (CQ (Inv<|k+1) Go Rt)) (hg:∀s,Inv m s->Go s):Ok (ow m body s) (FH Go Rt):=by
 obtain⟨o,h1,h2⟩:=BK (R:=R) Inv Go Rt hm h0 (λk s hk hi=>by
  obtain⟨fl,a1,a2⟩:=h k s hk hi
  exact⟨fl,a1,by cases fl <;> exact a2⟩) hg
 exact⟨o,h1,by cases o <;> exact h2⟩
theorem HF{body:S->aW (Fl S R)}{N:Nat}{s:S}(Inv:S->Prop)(μ:S->Nat){Go:S->Prop}{Rt:R->Prop}
  (h:∀s,Inv s->Ok (body s) (CQ (λs'=>Inv s'/\μ s'<μ s) Go Rt)) (hi:Inv s) (hn:μ s<N):Ok (m8 body N s) (FH Go Rt):=by
 obtain⟨o,h1,h2⟩:=rm (R:=R) Inv μ Go Rt (λs hi=>by
  obtain⟨fl,a1,a2⟩:=h s hi
  exact⟨fl,a1,by cases fl <;> exact a2⟩) N s hi hn
 exact⟨o,h1,by cases o <;> exact h2⟩
theorem H6{b:Nat}{l ys:Z α}{f:Z α->aW β}(h:(l.length+ys.length)*b<=140737488355328)(k:Ok (f<|l++ys) Q):Ok ((Go.Gk.app b l ys).bind f) Q:=by grind [gC]
theorem G7{l:Z α}{i:Nat}{f:α->aW β}(h:i<l.length)(k:Ok (f l[i]) Q):Ok ((Go.Gk.idx l (i:Int)).bind f) Q:=by grind [gV]
theorem Hr{l:Z α}{i:Nat}{x:α}{f:α->aW β}(h:l[i]? =some x)(k:Ok (f x) Q):Ok ((Go.Gk.idx l (i:Int)).bind f) Q:=by grind [du]
end
theorem wrap_add{n m:Nat}(h:n+m<=4611686018427387904):wrap .i64 ((n:Int)+(m:Int))=((n+m:Nat):Int):=by grind [dF]
theorem jw{n:Nat}(h:n+1<=4611686018427387904):wrap .i64 ((n:Int)+1)=((n+1:Nat):Int):=by grind [dF]
theorem fA{α:Type}[DecidableEq α]:∀{l m:Z α},l.Nodup->(∀x∈l,x∈m)->l.length<=m.length
 | [],m,_,_=>lf _
 |a::l,m,hn,hs=>by
  have ha:a∈m:=hs a (by simp);have hn':=List.nodup_cons.1 hn
  have:=fA (l:=l) (m:=m.erase a) hn'.2 (λx hx=>by
   grind)
  rw[List.length_erase_of_mem ha]at this;have:=List.length_pos_of_mem ha;simp;omega
section
variable {κ ν:Type}[DecidableEq κ]
theorem mc(m:Z (κ×ν))(k k':κ)(x z:ν):aZ (cP m k x) k' z=if k'=k then x else aZ m k' z:=by
 induction m with
 |nil=>grind [cP,aZ]
 |cons p m ih=>
  grind [cP,aZ,bP,dw]
theorem tM(m:Z (κ×ν))(k k':κ)(x:ν):fM (cP m k x) k'=(decide (k'=k)||fM m k'):=by
 induction m with
 |nil=>rfl
 |cons p m ih=>
  unfold cP
  grind [fM,bP,decide]
def j6(m:Z (κ×ν))(l:Z κ)(x:ν):Z (κ×ν):=l.foldl (λm k=>cP m k x) m
theorem oZ(l:Z κ)(x z:ν)(k:κ):∀(m:Z (κ×ν)),aZ (j6 m l x) k z=if k∈l then x else aZ m k z:=by
 induction l with
 |nil=>simp[j6]
 |cons a l ih=>
  intro m;show aZ (j6 (cP m a x) l x) k z=_
  grind [mc]
theorem xd(l:Z κ)(x:ν)(k:κ):∀(m:Z (κ×ν)),fM (j6 m l x) k=(decide (k∈l)||fM m k):=by
 induction l with
 |nil=>simp[j6]
 |cons a l ih=>
  intro m;show fM (j6 (cP m a x) l x) k=_
  grind [tM]
theorem tN{l:Z κ}{m:Z (κ×ν)}(x:ν)(hl:l.length<=4611686018427387904):
  j8 l.length (λ(k:Nat)(s:Z (κ×ν))=>((idx l ((k:Nat):Int)).bind λy=>some (cP s y x):aW (Z<|κ×ν))) m=some (j6 m l x):=by
 rw[jT (s:=m) (λk=>j6 m (l.take k) x) hl rfl (λk hk=>by
  grind [gV,aA,j6,ek]),ee]
end
structure ld {α:Type} (cf:α->α->Int):Prop where
 refl:∀x,cf x x=0
 eq:∀x y,cf x y=0->x=y
 DT:∀x y,cf x y<0↔0<cf y x
 trans:∀x y z,cf x y<0->cf y z<0->cf x z<0
def gE(a b:Int):Int:=if a<b then -1 else if b<a then 1 else 0
def cmpL:Z Int->Z Int->Int
 | [],[]=>0
 | [],_::_=> -1
 |_::_,[]=>1
 |x::a,y::b=>if x<y then -1 else if y<x then 1 else cmpL a b
theorem qy:∀a:Z Int,cmpL a a=0
 | []=>rfl
 |x::a=>by unfold cmpL;rw[aL (by omega),aL (by omega)];exact qy a
theorem cmpL_eq:∀a b:Z Int,cmpL a b=0->a=b
 | [],[],_=>rfl
 | [],_::_,h=>by unfold cmpL at h;omega
 |_::_,[],h=>by unfold cmpL at h;omega
 |x::a,y::b,h=>by
  unfold cmpL at h;split at h
  ·omega
  split at h
  ·omega
  have:=cmpL_eq a b h;have:x=y:=by omega
  grind
theorem qz:∀a b:Z Int,cmpL a b<0↔0<cmpL b a
 | [],[]=>by unfold cmpL;omega
 | [],_::_=>by unfold cmpL;omega
 |_::_,[]=>by unfold cmpL;omega
 |x::a,y::b=>by
  have:=qz a b;unfold cmpL;split <;> split <;> (try split) <;> omega
theorem o4:∀a b c:Z Int,cmpL a b<0->cmpL b c<0->cmpL a c<0
 | [],[],c,h,_=>by unfold cmpL at h;omega
 | [],y::b,[],h,h2=>by unfold cmpL at h2;omega
 | [],y::b,z::c,h,h2=>by unfold cmpL;omega
 |x::a,[],c,h,_=>by unfold cmpL at h;omega
 |x::a,y::b,[],h,h2=>by unfold cmpL at h2;omega
 |x::a,y::b,z::c,h,h2=>by
  have:=o4 a b c;unfold cmpL at h h2 ⊢
  repeat' split at h
  all_goals repeat' split at h2
  all_goals repeat' split
  all_goals omega
theorem qA:ld cmpL:=⟨qy,cmpL_eq,qz,o4⟩
section
variable {α:Type}{cf:α->α->Int}
def SD(cf:α->α->Int)(d:Z α):Prop:=d.Pairwise λx y=>cf x y<0
theorem ld.DU(h:ld cf)(x y:α):cf x y<0\/x=y\/cf y x<0:=by
 have h2:=h.DT y x
 by_cases h0:cf x y=0
 ·exact .inr<|.inl<|h.eq x y h0
 ·omega
theorem ld.D7(h:ld cf){x:α}(hx:cf x x<0):False:=by have:=h.refl x;omega
theorem SD.nodup(h:ld cf){d:Z α}(hd:SD cf d):d.Nodup:=List.Pairwise.imp (S:=λa b=>a≠b) (λ{a b}hab e=>by subst e;exact h.D7 hab) hd
theorem SD.ext(h:ld cf){d e:Z α}(hd:SD cf d)(he:SD cf e)(hm:∀x,x∈d↔x∈e):d=e:=by
 have hp:d.Perm e:=by
  classical
  rw[List.perm_iff_count];intro x;have h1:=List.nodup_iff_count.1 (hd.nodup h) x;have h2:=List.nodup_iff_count.1 (he.nodup h) x
  by_cases hx:x∈d
  ·have:=List.count_pos_iff.2 hx;have:=List.count_pos_iff.2<|(hm x).1 hx
   omega
  ·rw[List.count_eq_zero_of_not_mem hx,List.count_eq_zero_of_not_mem<|λhh=>hx<|(hm x).2 hh]
 exact List.Perm.eq_of_pairwise (le:=λa b=>cf a b<0) (λa b _ _ h1 h2=>(h.D7<|h.trans _ _ _ h1 h2).elim) hd he hp
def eE(cf:α->α->Int)(l d:Z α):Prop:=SD cf d/\∀x,x∈d↔x∈l
theorem eE.uniq(h:ld cf){l m d e:Z α}(hd:eE cf l d)(he:eE cf m e)(hm:∀x,x∈l↔x∈m):d=e:=
 hd.1.ext h he.1 λx=>by rw[hd.2,he.2,hm]
theorem eE.len [DecidableEq α](h:ld cf){l d:Z α}(hd:eE cf l d):d.length<=l.length:=fA (hd.1.nodup h) λx hx=>(hd.2 x).1 hx
def xe [DecidableEq α](d:Z α)(x:α):Int:=rn d λy=>decide<|x=y
theorem CR [DecidableEq α]{d:Z α}(hn:d.Nodup){k:Nat}{x:α}(hk:d[k]? =some x):xe d x=(k:Int):=by
 refine nz hk (by simp) λj y hj hy=>?_;rw[decide_eq_false_iff_not];rintro rfl;have h1:=(bF.1 hk).1;have h2:=(bF.1 hy).1;have:=(List.getElem_inj hn (h₀:=h2) (h₁:=h1)).1 (by grind);omega
theorem CT [DecidableEq α]{d:Z α}{x:α}(hx:x∈d):∃k,k<d.length/\xe d x=((k:Nat):Int)/\d[k]? =some x:=by
 rcases iE d (λy=>decide<|x=y)with⟨h1,h2⟩|⟨k,y,h1,h2,h3,h4⟩
 ·have:=h2 x hx;simp at this
 ·have:=of_decide_eq_true h3;subst this;exact⟨k,(bF.1 h2).1,h1,h2⟩
theorem wc [DecidableEq α](h:ld cf){l d:Z α}(hd:eE cf l d):eE gE (l.map<|xe d) ((List.range d.length).map λ(k:Nat)=>(k:Int)):=by
 refine⟨?_,λx=>?_⟩
 ·unfold SD;rw[List.pairwise_map];refine List.Pairwise.imp (λ{a b}hab=>?_) List.pairwise_lt_range;unfold gE;rw[aK (by omega)];decide
 ·simp only[cE,cO];constructor
  ·rintro⟨k,hk,rfl⟩;exact⟨d[k],(hd.2 _).1<|db hk,CR (hd.1.nodup h)<|aN hk⟩
  ·rintro⟨y,hy,rfl⟩;obtain⟨k,hk,h1,_⟩:=CT<|(hd.2 y).2 hy
   exact⟨k,hk,h1.symm⟩
theorem km:ld gE:=by
 refine⟨λx=>?_,λx y h=>?_,λx y=>?_,λx y z h h2=>?_⟩
 ·unfold gE;split <;> (try split) <;> omega
 ·unfold gE at h;split at h <;> (try split at h) <;> omega
 ·unfold gE;split <;> split <;> (try split) <;> omega
 ·have h3:x<y:=by unfold gE at h;split at h <;> (try split at h) <;> omega
  have h4:y<z:=by unfold gE at h2;split at h2 <;> (try split at h2) <;> omega
  unfold gE;rw[aK (by omega)];omega
def SW(cf:α->α->Int)(d:Z α):Prop:=d.Pairwise λx y=>¬cf y x<0
theorem SW.uniq(h:ld cf){l m:Z α}(hl:SW cf l)(hm:SW cf m)(hp:l.Perm m):l=m:=
 List.Perm.eq_of_pairwise (le:=λa b=>¬cf b a<0) (λa b _ _ h1 h2=>by rcases h.DU a b with e|e|e <;> grind) hl hm hp
theorem ld.sort(h:ld cf){φ:α->α->aW Int}{l:Z α}(hφ:∀x∈l,∀y∈l,φ x y=some (cf x y))(hl:l.length<4611686018427387904):∃m,mT φ l=some m/\m.Perm l/\SW cf m:=
 AF cf hφ (λx _=>λhx=>h.D7 hx) (λx _ y _ z _=>h.trans x y z) (λx _ y _ z _ h1 h2 h3=>by
  rcases h.DU x y with e|e|e
  ·exact h1 e
  ·subst e;exact h2 h3
  ·exact h2 (h.trans _ _ _ e h3)) hl
end
section
variable {α β:Type}[DecidableEq β]{cf:α->α->Int}{cg:β->β->Int}
theorem x4{l:Z α}{m:Z β}{d:Z α}{e:Z β}(hd:eE cf l d)(hc:ld cg)(he:eE cg m e)(f:α->β)(hf:∀y∈m,∃x∈l,f x=y):e.length<=d.length:=by
 have:=fA (m:=d.map f) (he.1.nodup hc) (λy hy=>by
  obtain⟨x,hx,rfl⟩:=hf y<|(he.2 y).1 hy
  exact List.mem_map_of_mem ((hd.2 x).2 hx))
 simpa using this
end
section
variable {N:Nat}
def CU(c:UInt8):Bool:=
 (((decide ((c.toNat:Int)<65)||decide ((c.toNat:Int)>90))&&(decide ((c.toNat:Int)<97)||decide ((c.toNat:Int)>122)))&&(decide ((c.toNat:Int)<48)||decide ((c.toNat:Int)>57)))&&decide (Lib.indexByte [95,43,45,35] c<0)
def isWord(s:aP):Bool:= !s.bK.any CU&&(decide (1<=s.bK.length)&&decide (s.bK.length<=40))
theorem pV(s:aP)(c:UInt8):eA N s (c.toNat:Int)=some (Lib.indexByte s.bK c):=by
 show some (Lib.indexByte s.bK (Int.toNat (c.toNat:Int)).toUInt8)=_;simp
theorem xf{R:Type}(b1:Bool)(c:UInt8)(r:R):
  ((bif b1 then((eA N (⟨[95,43,45,35]⟩) (c.toNat:Int)).bind λx14=>some<|decide<|x14<0)else some false).bind λs12=>bif s12 then some (.rt r)else(some<|.nx ()):aW (Fl Unit R))=some (if(b1&&decide (Lib.indexByte [95,43,45,35] c<0))=true then .rt r else .nx ()):=by
 rw[pV,aA]
 grind
theorem jx{s:aP}(h:s.bK.length<=2097152):eV N s=some (isWord s):=by
 unfold eV
 rw[uM CU false (by omega) (λk x hx=>by
  have hk:=(bF.1 hx).1;have e:yu s ((k:Nat):Int)=some x:=by grind [Ay,aN]
  rw[e,aA]
  exact xf (R:=Bool) _ x false),aA]
 unfold isWord
 grind [CU,Fo.cs,ri,Bool.false_eq_true,Option.some.injEq]
def cutAt(c:UInt8):Z UInt8->Z (Z UInt8)
 | []=>[[]]
 |b::l=>if b==c then []::cutAt c l else match cutAt c l with|h::t=>(b::h)::t| []=>[[b]]
theorem su{c:UInt8}:∀{l:Z UInt8},c∉l->cutAt c l= [l]
 | [],_=>rfl
 |b::l,h=>by
  unfold cutAt;have hb:(b==c)=false:=by rw[beq_eq_false_iff_ne];rintro rfl;exact h (by simp)
  rw[hb,su<|λh'=>h (by simp[h'])];rfl
theorem we{c:UInt8}:∀{a b:Z UInt8},c∉a->cutAt c (a++c::b)=a::cutAt c b
 | [],b,_=>by rw[List.nil_append];show(if(c==c)=true then _ else _)=_;simp
 |x::a,b,h=>by
  have hb:(x==c)=false:=by rw[beq_eq_false_iff_ne];rintro rfl;exact h (by simp)
  have ih:=we (c:=c) (a:=a) (b:=b)<|λh'=>h (by simp[h'])
  show(if(x==c)=true then []::cutAt c (a++c::b)else match cutAt c (a++c::b)with|h::t=>(x::h)::t| []=>[[x]])=_;rw[hb,ih];rfl
theorem nK:∀(l:Z UInt8)(c:UInt8),(Lib.indexByte l c = -1/\c∉l)\/∃a b,l=a++c::b/\c∉a/\Lib.indexByte l c=((a.length:Nat):Int)
 | [],c=> .inl ⟨rfl,by simp⟩
 |x::l,c=>by
  unfold Lib.indexByte
  by_cases hx:x=c
  ·subst hx;exact .inr ⟨[],l,rfl,by simp,by simp⟩
  ·have hb:(x==c)=false:=by rw[beq_eq_false_iff_ne];exact hx
   rcases nK l c with⟨h1,h2⟩|⟨a,b,h1,h2,h3⟩
   ·left;rw[hb,h1];refine⟨by simp,?_⟩;simp[h2];exact λh=>hx h.symm
   ·right;refine⟨x::a,b,by rw[h1];rfl,by grind,?_⟩;rw[hb,h3];have:(((a.length:Nat):Int)== -1)=false:=by rw[beq_eq_false_iff_ne];omega
    rw[this];simp
theorem AG(s:aP)(c:UInt8):gF N s ⟨[c]⟩=some (Lib.indexByte s.bK c):=by
 show(fE N s ⟨[c]⟩).bind _=_;unfold fE
 by_cases h:aP.jg ⟨[c]⟩ s=true
 ·grind [gk,Lib.indexByte]
 ·rw[ig]at h;rw[h];show((d4 N s (c.toNat:Int)).bind _).bind _=_;have:=pV (N:=N) s c
  grind [eA]
theorem AH(s:aP)(c:UInt8):iM N s ⟨[c]⟩=some ((s.bK.count c:Nat):Int):=by
 unfold iM;show(some _:aW Int)=_;simp[Lib.countByte]
theorem yU{s:aP}{k:Nat}(h:k<=s.bK.length):oK s 0 (k:Int)=some ⟨s.bK.take k⟩:=by
 unfold oK;grind
theorem yV{s:aP}{k:Nat}(h:k<=s.bK.length):oK s (k:Int) (s.bK.length:Int)=some ⟨s.bK.drop k⟩:=by
 grind [oK,el,ij,fO]
def mE(s:aP)(c:UInt8):Z aP:=(cutAt c s.bK).map aP.mk
theorem AJ{s:aP}(c:UInt8)(h:s.bK.length<=2097152)(hN:4194304<=N):iN N s ⟨[c]⟩=some (mE s c):=by
 have hc:s.bK.count c<=s.bK.length:=List.count_le_length;unfold iN ir;rw[show((-1:Int)==0)=false by decide,bJ,show aP.jg ⟨[c]⟩ ⟨[]⟩=false by simp[aP.jg],bJ,AH,aA];rw[dF (x:=((s.bK.count c:Nat):Int)+1) (by omega) (by omega),show decide ((-1:Int)<0)=true by decide,bV,aA];rw[dF (x:=(s.bK.length:Int)+1) (by omega) (by omega)];have e1:(if(s.bK.length:Int)+1<((s.bK.count c:Nat):Int)+1 then(s.bK.length:Int)+1 else((s.bK.count c:Nat):Int)+1)=((s.bK.count c+1:Nat):Int):=by
  omega
 rw[e1,pQ _ (by omega),aA];rw[dF (x:=((s.bK.count c+1:Nat):Int) - 1) (by omega) (by omega)];have key:=rm (S:=aP×Z aP×Int) (R:=Empty) (body:=(λ(s7:aP×Z aP×Int)=>(bif decide (s7.2.2<((s.bK.count c+1:Nat):Int) - 1)then((gF N s7.1 ⟨[c]⟩).bind λx23=>bif x23<0 then some (.br (s7.1,s7.2.1,s7.2.2))else((oK s7.1 0<|wrap .i64<|x23+0).bind λx24=>(idx s7.2.1 s7.2.2).bind λx25=>(oK s7.1 (wrap .i64<|x23+(((⟨[c]⟩:aP).bK.length:Nat):Int)) ((s7.1.bK.length:Nat):Int)).bind λx27=>some<|.nx (x27,s7.2.1.set (Int.toNat s7.2.2) x24,wrap .i64<|s7.2.2+1)))else(some<|.br (s7.1,s7.2.1,s7.2.2)):aW (Fl (aP×Z aP×Int) Empty))))
  (λst=>∃ws:Z (Z UInt8),st.2.2=(ws.length:Int)/\cutAt c s.bK=ws++cutAt c st.1.bK/\ws.length+st.1.bK.count c=s.bK.count c/\st.1.bK.length<=s.bK.length/\st.2.1=ws.map aP.mk++List.replicate (s.bK.count c+1 - ws.length) ⟨[]⟩)
  (λst=>s.bK.count c+1 - st.2.2.toNat)
  (λst=>∃ws:Z (Z UInt8),st.2.2=(ws.length:Int)/\cutAt c s.bK=ws++[st.1.bK]/\ws.length=s.bK.count c/\st.2.1=ws.map aP.mk++[⟨[]⟩])
  (λ_=>True) (by
   rintro⟨r,arr,i⟩⟨ws,h1,h2,h3,h4,h5⟩;simp only at h1 h2 h3 h4 h5;subst h1 h5
   by_cases hlt:ws.length<s.bK.count c
   ·have hd:decide ((ws.length:Int)<((s.bK.count c+1:Nat):Int) - 1)=true:=by grind
    simp only[hd,bV,AG,aA]
    rcases nK r.bK c with⟨_,hn⟩|⟨a,b,hr,ha,hi⟩
    ·grind
    ·have hrl:r.bK.length=a.length+(b.length+1):=by rw[hr];simp
     rw[hi,bP (by omega),bJ];rw[show(a.length:Int)+0=(a.length:Int)by omega,dF (x:=(a.length:Int)) (by omega) (by omega),yU (by omega),aA];rw[gV _ _ (by simp;omega),aA];rw[show(a.length:Int)+(((⟨[c]⟩:aP).bK.length:Nat):Int)=((a.length+1:Nat):Int)by simp,dF (x:=((a.length+1:Nat):Int)) (by omega) (by omega),yV (by omega),aA];refine⟨_,rfl,⟨ws++[a],?_,?_,?_,?_,?_⟩,?_⟩
     ·grind [dF]
     ·simp_all[we]
     ·simp only;rw[hr]at h3 ⊢;simp[List.count_eq_zero_of_not_mem ha]at h3 ⊢;omega
     ·simp;omega
     ·simp only[el];rw[List.set_append_right _ _ (by simp)];simp only[cW,Nat.sub_self];obtain⟨d,hd'⟩:∃d,s.bK.count c+1 - ws.length=d+1:=⟨s.bK.count c - ws.length,by omega⟩;rw[hd',List.replicate_succ,List.set_cons_zero,show s.bK.count c+1 -(ws++[a]).length=d by simp;omega];simp[hr]
     ·simp only;rw[dF (by omega) (by omega)];omega
   ·have hd:decide ((ws.length:Int)<((s.bK.count c+1:Nat):Int) - 1)=false:=by rw[decide_eq_false_iff_not];omega
    simp only[hd,bJ];refine⟨_,rfl,ws,rfl,?_,by omega,?_⟩
    ·have h0:r.bK.count c=0:=by omega
     rw[h2,su<|List.count_eq_zero.1 h0]
    ·rw[show s.bK.count c+1 - ws.length=1 by omega];rfl)
  N (s,List.replicate (s.bK.count c+1) ⟨[]⟩,0) ⟨[],rfl,rfl,by simp,aX _,by simp⟩ (by simp only;omega)
 obtain⟨o,ho,hgo⟩:=key;rw[ho,aA]
 cases o with
 |rt r=>exact r.elim
 |go st=>
  obtain⟨r,arr,i⟩:=st;obtain⟨ws,h1,h2,h3,h4⟩:=hgo;simp only at h1 h2 h3 h4;subst h1 h4;simp only[Fo.cs];rw[gV _ _ (by simp),aA,dF (by omega) (by omega)];rw[show(ws.length:Int)+1=((ws.length+1:Nat):Int)by omega,pP _ _ (by simp),aA,aA];unfold mE;rw[h2];rw[el,List.set_append_right _ _ (by simp),ij (by simp)];simp
def mF(s:aP):Bool:=decide (s.bK.length<=200)&&(mE s 47).all isWord
theorem nZ{c:UInt8}:∀{l x:Z UInt8},x∈cutAt c l->x.length<=l.length
 | [],x,h=>by simp[cutAt]at h;subst h;simp
 |b::l,x,h=>by
  unfold cutAt at h;split at h
  ·rcases fB.1 h with h|h
   ·subst h;simp
   ·have:=nZ h;simp;omega
  ·split at h
   ·rename_i t e
    rcases fB.1 h with h|h
    ·subst h;have:=nZ (c:=c) (l:=l) (by rw[e];exact List.mem_cons_self);simp;omega
    ·have:=nZ (c:=c) (l:=l) (by rw[e];exact List.mem_cons_of_mem _ h);simp;omega
   ·simp at h;subst h;simp
theorem tO(c:UInt8):∀(l:Z UInt8),(cutAt c l).length<=l.length+1
 | []=>by simp[cutAt]
 |b::l=>by
  have:=tO c l;unfold cutAt;split
  ·simp;omega
  ·split
   ·rename_i e;rw[e]at this;simp at this ⊢;omega
   ·simp
theorem yW{s x:aP}{c:UInt8}(h:x∈mE s c):x.bK.length<=s.bK.length:=by
 obtain⟨y,hy,rfl⟩:=cE.1 h;exact nZ hy
theorem yX(s:aP)(c:UInt8):(mE s c).length<=s.bK.length+1:=by simp[mE,cW,tO]
theorem lp{s:aP}(h:s.bK.length<=2097152)(hN:4194304<=N):eY N s=some (mF s):=by
 unfold eY mF
 by_cases hl:s.bK.length<=200
 ·rw[dw (by omega),bV,AJ 47 h hN,aA]
  have e:=lV (l:=mE s 47) (φ:=dM N) (λx=> !isWord x) (by have:=yX s 47;omega) (λx hx=>by
   unfold dM
   rw[jx (by have:=yW hx;omega)];rfl)
  have e2:dL N (mE s 47) (dM N)=jU (mE s 47) (dM N):=rfl;rw[e2,e,aA,aA,dw hl,Bool.true_and];congr 1;rw[kq];simp
 ·rw[bP (by omega),bJ,aA,bP hl,Bool.false_and]
end
theorem sw{α:Type}(l:Z α)(a b:Nat)(h:a+b<l.length):qf l (a:Int) (b:Int)=some l[a+b]:=by
 unfold qf;rw[aK (by omega),show(a:Int)+(b:Int)=((a+b:Nat):Int)by omega,gV _ _ h]
section
variable {α:Type}{cf:α->α->Int}{N:Nat}
theorem SD.Cj{l:Z α}{a:α}(h:SD cf l)(hl:∀c∈l,cf c a<0):SD cf (l++[a]):=by
 unfold SD at *;rw[List.pairwise_append];exact⟨h,List.pairwise_singleton _ _,λx hx y hy=>by simp at hy;subst hy;exact hl x hx⟩
theorem SD.last{l:Z α}{a:α}(h:SD cf l)(hl:l.getLast? =some a):∀c∈l,c=a\/cf c a<0:=by
 intro c hc;obtain⟨m,hs⟩:∃m,l=m++[a]:=by
  have:=List.getLast?_eq_some_iff.1 hl;exact this
 subst hs
 rcases jD.1 hc with h1|h1
 ·exact .inr<|(List.pairwise_append.1 h).2.2 c h1 a (by simp)
 ·simp at h1;exact .inl h1
theorem ld.step(hO:ld cf){a b c:α}(h:c=a\/cf c a<0)(h1:¬cf b a<0)(h2:b≠a):cf c b<0:=by
 have h3:cf a b<0:=by
  rcases hO.DU a b with e|e|e
  ·exact e
  ·exact absurd e.symm h2
  ·exact absurd e h1
 rcases h with rfl|h
 ·exact h3
 ·exact hO.trans _ _ _ h h3
def qB(z:α)(N:Nat)(p0:Z α)(p1:α->α->aW Bool):aW (Z α):=
 bif decide ((p0.length:Int)<2)then some p0 else((m8 (λ(s32:Int)=>(bif decide (s32<(p0.length:Int))then((idx p0 s32).bind λx163=>(idx p0<|wrap .i64<|s32 - 1).bind λx164=>(p1 x163 x164).bind λx165=>bif x165 then((qP p0 s32 (p0.length:Int)).bind λx197=>(m8 (λ(s199:Z α×Int×Int)=>(bif decide (s199.2.2<(((s199.1.length - Int.toNat s32):Nat):Int))then((qf s199.1 s32 s199.2.2).bind λx216=>(qf s199.1 s32<|wrap .i64<|s199.2.2 - 1).bind λx217=>(p1 x216 x217).bind λx218=>(bif(!x218)then((qf s199.1 s32 s199.2.2).bind λx222=>(idx s199.1 s199.2.1).bind λx223=>some (s199.1.set (Int.toNat s199.2.1) x222,wrap .i64<|s199.2.1+1))else some (s199.1,s199.2.1)).bind λs221=>some<|.nx (s221.1,s221.2,wrap .i64<|s199.2.2+1))else(some<|.br (s199.1,s199.2.1,s199.2.2)):aW (Fl (Z α×Int×Int) Empty))) N (p0,s32,1)).bind λo227=>o227.cs (λ(s199:Z α×Int×Int)=>(qP s199.1 s199.2.1 (s199.1.length:Int)).bind λx224=>(qP (s199.1.take (Int.toNat s199.2.1)++List.replicate (s199.1.length - Int.toNat s199.2.1) z) 0 s199.2.1).bind λx225=>some<|.rt x225)<|λr=>r.elim)else some (.nx<|wrap .i64<|s32+1))else(some<|.br s32):aW (Fl Int<|Z α))) N 1).bind λo228=>o228.cs (λ(s32:Int)=>some p0)<|λr=>some r)
theorem sy [DecidableEq α](hO:ld cf){z:α}{φ:α->α->aW Bool}{l:Z α}(hφ:∀x∈l,∀y∈l,φ x y=some (decide<|x=y))(hs:SW cf l)(hl:l.length<=4611686018427387000)(hN:l.length<N):
  Ok (qB z N l φ) (λm=>SD cf m/\∀c,c∈m↔c∈l):=by
 unfold qB;refine G2 (λh2=>GG ⟨?_,λc=>Iff.rfl⟩)<|λh2=>?_
 ·have h2:=of_decide_eq_true h2
  match l,h2 with
  | [],_=>exact List.Pairwise.nil
  | [a],_=>exact List.pairwise_singleton _ _
  |a::b::l,h2=>grind
 ·have h2:=of_decide_eq_false h2;have le:∀(i j:Nat)(x y:α),i<j->l[i]? =some x->l[j]? =some y->¬cf y x<0:=λi j x y hij hx hy=>by
   obtain⟨h1,rfl⟩:=bF.1 hx;obtain⟨h2,rfl⟩:=bF.1 hy;exact List.pairwise_iff_getElem.1 hs i j h1 h2 hij
  refine GM (HF (Go:=λ_=>SD cf l) (Rt:=λm=>SD cf m/\∀c,c∈m↔c∈l) (λs=>∃k:Nat,s=(k:Int)/\1<=k/\k<=l.length/\SD cf (l.take k)) (λs=>l.length - s.toNat) ?_ ⟨1,rfl,aX _,by omega,?_⟩ (by simp;omega)) ?_
  ·rintro s⟨k,rfl,hk1,hkl,hinc⟩;refine G2 (λh=>?_)<|λh=>HS ?_
   ·have hk:k<l.length:=by grind
    refine G7 hk ?_;rw[nY hk1 (by omega)];refine G7 (by omega) ?_;refine GH (hφ _ (db _) _<|db _) ?_;refine G2 (λhe=>?_)<|λhe=>?_
    ·have he:l[k]=l[k - 1]:=by grind
     refine GH (v5 l k hkl) ?_
     refine GM (HF (Go:=λs=>∃i:Nat,s.2.1=((i:Nat):Int)/\i<=l.length/\s.1.length=l.length/\SD cf (s.1.take i)/\∀c,c∈s.1.take i↔c∈l) (Rt:=λ_=>True)
      (λs=>∃i j:Nat,s.2.1=((i:Nat):Int)/\s.2.2=((j:Nat):Int)/\1<=j/\k+j<=l.length/\i<=k+j - 1/\s.1.length=l.length/\SD cf (s.1.take i)/\(s.1.take i).getLast? =l[k+j - 1]? /\
       (∀c,c∈s.1.take i↔c∈l.take (k+j))/\∀m,k+j - 1<=m->s.1[m]? =l[m]?) (λs=>l.length - s.2.2.toNat) ?_ ?_ (by simp;omega)) ?_
     ·rintro⟨u,a,b⟩⟨i,j,e1,e2,hj,hjl,hij,hlen,hi,hlast,hmem,hrest⟩;dsimp only at e1 e2 hlen hi hlast hmem hrest ⊢;subst e1;subst e2;rw[el];refine G2 (λh=>?_)<|λh=>HS ?_
      ·have hlt:k+j<l.length:=by have:=of_decide_eq_true h;omega
       have hx:u[k+j]'(by omega)=l[k+j]:=by have:=hrest (k+j) (by omega);rw[aN (by omega),aN hlt]at this;injection this
       have hy:u[k+(j - 1)]'(by omega)=l[k+(j - 1)]:=by have:=hrest (k+(j - 1)) (by omega);rw[aN (by omega),aN (by omega)]at this;injection this
       refine GH (sw u k j (by omega)) ?_;rw[nY hj (by omega)];refine GH (sw u k (j - 1) (by omega)) ?_;rw[hx,hy];refine GH (hφ _ (db _) _<|db _) ?_;have hts:l.take (k+j+1)=l.take (k+j)++[l[k+j]]:=ek hlt;have hlast':(u.take i).getLast? =some l[k+(j - 1)]:=by rw[hlast,show k+j - 1=k+(j - 1)by omega,aN (by omega)]
       have hxy:¬cf l[k+j] l[k+(j - 1)]<0:=le (k+(j - 1)) (k+j) _ _ (by omega) (aN _)<|aN _
       refine GM (P:=λs'=>s'.1.length=l.length/\∃i':Nat,s'.2=(i':Int)/\i'<=k+j/\SD cf (s'.1.take i')/\(s'.1.take i').getLast? =l[k+j]? /\(∀c,c∈s'.1.take i'↔c∈l.take (k+j+1))/\∀m,k+j<=m->s'.1[m]? =l[m]?) ?_ ?_
       ·refine G2 (λhne=>?_)<|λhne=>GG ?_
        ·have hne:l[k+j]≠l[k+(j - 1)]:=by simpa using hne
         refine GH (sw u k j (by omega)) ?_;rw[hx];refine G7 (by omega)<|GG ⟨by simp[hlen],i+1,?_,by omega,?_⟩
         ·rw[jw (by omega)]
         ·dsimp only;rw[el];have ht:(u.set i l[k+j]).take (i+1)=u.take i++[l[k+j]]:=by
           rw[ek (by simp;omega),List.take_set_of_le<|aX _];simp
          rw[ht];refine⟨hi.Cj λc hc=>hO.step (hi.last hlast' c hc) hxy hne,by simp[aN hlt],λc=>?_,λm hm=>?_⟩
          ·rw[hts,jD,jD,hmem]
          ·rw[ff,aL (by omega)];exact hrest m (by omega)
        ·have he:l[k+j]=l[k+(j - 1)]:=by simpa using hne
         refine⟨hlen,i,rfl,by omega,hi,?_,λc=>?_,λm hm=>hrest m (by omega)⟩
         ·dsimp only;rw[hlast',aN hlt,he]
         ·rw[hts,jD,<-hmem];constructor
          ·exact .inl
          ·rintro(h|h)
           ·exact h
           ·simp at h;subst h;rw[he];exact List.mem_of_getLast? hlast'
       ·rintro⟨v,a⟩⟨g1,i',g2,g3,g4,g5,g6,g7⟩;dsimp only at g1 g2 g4 g5 g6 g7 ⊢;refine Hp ⟨⟨i',j+1,g2,?_,by omega,by omega,by omega,g1,g4,?_,g6,λm hm=>g7 m (by omega)⟩,?_⟩
        ·rw[jw (by omega)]
        ·rw[show k+(j+1) - 1=k+j by omega];exact g5
        ·rw[jw (by omega)];simp only[el];omega
      ·have hge:k+j=l.length:=by have:=of_decide_eq_false h;omega
       refine⟨i,rfl,by omega,hlen,hi,λc=>?_⟩;rw[hmem,hge,ee]
     ·refine⟨k,1,rfl,rfl,aX _,by omega,by omega,rfl,hinc,?_,λc=>?_,λm _=>rfl⟩
      ·dsimp only;rw[show k+1 - 1=k by omega,aN hk,he,List.getLast?_eq_getElem?,bX,Nat.min_eq_left hkl,List.getElem?_take_of_lt (by omega),aN (by omega)]
      ·dsimp only;rw[ek hk,jD];constructor
       ·exact .inl
       ·rintro(h|h)
        ·exact h
        ·simp at h;subst h;rw[he];refine dJ (i:=k - 1) ?_;rw[List.getElem?_take_of_lt (by omega),aN (by omega)]
     ·rintro o ho;refine Hy ho ?_<|λr=>r.elim
      rintro⟨u,a,b⟩⟨i,e1,hi,hlen,hinc',hmem⟩;dsimp only at e1 hlen hinc' hmem ⊢;subst e1;refine GH (v5 u i (by omega)) ?_;rw[el];refine GH (pP _ i (by simp;omega))<|HT ?_
      rw[List.take_append_of_le_length (by simp;omega),List.take_take,Nat.min_self];exact⟨hinc',hmem⟩
    ·have he:l[k]≠l[k - 1]:=by simpa using he
     refine Hp ⟨⟨k+1,by rw[jw (by omega)],by omega,by omega,?_⟩,by rw[jw (by omega)];simp only[el];omega⟩;rw[ek hk];refine hinc.Cj λc hc=>?_;have hlast:(l.take k).getLast? =some l[k - 1]:=by
      rw[List.getLast?_eq_getElem?,bX,Nat.min_eq_left hkl,List.getElem?_take_of_lt (by omega),aN (by omega)]
     exact hO.step (hinc.last hlast c hc) (le (k - 1) k _ _ (by omega) (aN (by omega:k - 1<l.length))<|aN hk) he
   ·have hge:k=l.length:=by have:=of_decide_eq_false h;omega
    subst hge;rw[ee]at hinc;exact hinc
  ·match l,h2 with
   | [],h2=>simp at h2
   |a::l,_=>exact List.pairwise_singleton _ _
  ·rintro o ho;exact Hy ho (λs h=>GG ⟨h,λc=>Iff.rfl⟩) (λr h=>GG h)end
section
variable {N:Nat}
theorem yY(a b:Int):gy N a b=some (gE a b):=by
 have e:∀x:Int,gH N x=some false:=λx=>by unfold gH;simp
 unfold gy gE;rw[e,aA,e,aA]
 by_cases h1:a<b
 ·simp[h1]
 ·by_cases h2:b<a <;> simp[h1,h2]
theorem n2:∀(a b:Z Int)(k:Nat),a.take k=b.take k->k<=a.length->k<=b.length->cmpL a b=cmpL (a.drop k) (b.drop k)
 |a,b,0,_,_,_=>by simp
 |x::a,y::b,k+1,h,h1,h2=>by
  simp only[List.take_succ_cons,List.cons.injEq]at h;obtain⟨rfl,h⟩:=h;rw[List.drop_succ_cons,List.drop_succ_cons,<-n2 a b k h (by simpa using h1) (by simpa using h2)]
  conv=>lhs;unfold cmpL
  rw[aL (by omega),aL (by omega)]
 | [],_,k+1,_,h1,_=>by simp at h1
 |_::_,[],k+1,_,_,h2=>by simp at h2
theorem wg{a b:Z Int}(ha:a.length<=4611686018427387904):cY N a b=some (cmpL a b):=by
 refine HE ?_;unfold cY
 refine GM (I0 (Inv:=λk _=>k<=b.length/\a.take k=b.take k) (Go:=λ_=>a.length<=b.length/\a=b.take a.length) (Rt:=λr=>r=cmpL a b) ha ⟨by omega,by simp⟩ (λk s hk hi=>?_) (λs hi=>by
  refine⟨hi.1,?_⟩;have:=hi.2
  rw[ee]at this;exact this)) ?_
 ·obtain⟨h1,h2⟩:=hi;refine G7 hk ?_;refine G2 (λh=>HT ?_)<|λh=>?_
  ·have hb:k=b.length:=by have:=of_decide_eq_true h;omega
   rw[n2 a b k h2 (by omega) (by omega),hb,List.drop_length,<-hb,ku hk];rfl
  ·have hkb:k<b.length:=by have:=of_decide_eq_false h;omega
   refine G7 hkb ?_;refine GH (yY _ _) ?_;have e:cmpL a b=if gE a[k] b[k]≠0 then gE a[k] b[k]else cmpL (a.drop<|k+1) (b.drop<|k+1):=by
    rw[n2 a b k h2 (by omega) (by omega),ku hk,ku hkb]
    conv=>lhs;unfold cmpL
    unfold gE
    by_cases h1:a[k]<b[k]
    ·rw[aK h1,aK h1,aK (by omega)]
    ·rw[aL h1,aL h1]
     by_cases h2:b[k]<a[k]
     ·rw[aK h2,aK h2,aK (by omega)]
     ·rw[aL h2,aL h2,aL (by omega)]
   refine G2 (λhc=>HT ?_)<|λhc=>Hp ⟨by omega,?_⟩
   ·have hc:gE a[k] b[k]≠0:=by simpa using hc
    rw[e,aK hc]
   ·have hc:gE a[k] b[k]=0:=by simpa using hc
    have:=km.eq _ _ hc;rw[ek hk,ek hkb,h2,this]
 ·intro o ho;refine Hy ho (λs hs=>?_)<|λr hr=>GG hr
  obtain⟨h1,h2⟩:=hs;have e:cmpL a b=cmpL [] (b.drop a.length):=by rw[n2 a b a.length (by rw[ee];exact h2) (aX _) h1,List.drop_length]
  refine G2 (λh=>GG ?_)<|λh=>GG ?_
  ·have hlt:a.length<b.length:=by have:=of_decide_eq_true h;omega
   rw[e,ku hlt];rfl
  ·have hge:b.length<=a.length:=by have:=of_decide_eq_false h;omega
   rw[e,List.drop_eq_nil_of_le hge];rfl
def qC(a b:aP):Int:=Lib.compareBytes a.bK b.bK
end
section
variable {α β:Type}
theorem AK{N:Nat}{l:Z α}{s:β}{φ:α->β->aW Int}(c:α->Int)(hφ:∀x∈l,φ x s=some (c x))(hs:∀(i j:Nat)(x y:α),i<j->l[i]? =some x->l[j]? =some y->0<=c x->0<c y)
  (hl:l.length<=1048576) (hN:4194304<=N):∃r,tc N l s φ=some r/\r.2=l.any (λx=>c x==0)/\(r.2=true->r.1=rn l (λx=>c x==0)):=by
 show Ok (tc N l s φ) (λr=>r.2=l.any (λx=>c x==0)/\(r.2=true->r.1=rn l (λx=>c x==0)));unfold tc
 refine GM (HF (Go:=λst:Int×Int=>∃a:Nat,st.1=(a:Int)/\a<=l.length/\(∀j x,j<a->l[j]? =some x->c x<0)/\(∀j x,a<=j->l[j]? =some x->0<=c x)) (Rt:=λ_=>True)
  (λst=>∃a b:Nat,st=((a:Int),(b:Int))/\a<=b/\b<=l.length/\(∀j x,j<a->l[j]? =some x->c x<0)/\(∀j x,b<=j->l[j]? =some x->0<=c x))
  (λst=>(st.2 - st.1).toNat) ?_ ⟨0,l.length,rfl,by omega,aX _,λj x hj=>by omega,λj x hj hx=>by grind⟩ (by omega)) ?_
 ·rintro st⟨a,b,rfl,hab,hb,h1,h2⟩;dsimp only
  by_cases hlt:a<b
  ·have hm:(a+b) / 2<l.length:=by omega
   have hx:l[(a+b) / 2]? =some l[(a+b) / 2]:=aN hm;rw[show decide ((a:Int)<(b:Int))=true by grind,bV,tJ hlt (by omega)];refine Hr hx<|GH (hφ _<|db _) ?_
   by_cases hc:c l[(a+b) / 2]<0
   ·rw[dw hc,bV,aA];refine Hp ⟨⟨(a+b) / 2+1,b,?_,by omega,hb,λj x hj hx'=>?_,h2⟩,?_⟩
    ·rw[jw (by omega)]
    ·by_cases e:j=(a+b) / 2
     ·subst e;rw[hx]at hx';injection hx' with hx';rw[<-hx'];exact hc
     ·by_cases h0:c x<0
      ·exact h0
      ·have:=hs j _ x _ (by omega) hx' hx (by omega);omega
    ·rw[jw (by omega)];simp only;omega
   ·rw[bP hc,bJ,aA];refine Hp ⟨⟨a,(a+b) / 2,rfl,by omega,by omega,h1,λj x hj hx'=>?_⟩,by simp only;omega⟩
    by_cases e:j=(a+b) / 2
    ·subst e;rw[hx]at hx';injection hx' with hx';rw[<-hx'];omega
    ·have:=hs _ j _ x (by omega) hx hx' (by omega);omega
  ·rw[show decide ((a:Int)<(b:Int))=false by rw[decide_eq_false_iff_not];omega,bJ];exact HS ⟨a,rfl,by omega,h1,λj x hj hx=>h2 j x (by omega) hx⟩
 intro o ho;refine Hy ho ?_<|λr hr=>r.elim
 rintro⟨st1,st2⟩⟨a,ha,hle,h1,h2⟩;dsimp only at ha ⊢;subst ha
 by_cases hlt:a<l.length
 ·have hx:l[a]? =some l[a]:=aN hlt;rw[show decide ((a:Int)<((l.length:Nat):Int))=true by rw[fC];omega,bV,du hx,aA,hφ _<|db _,aA,aA];refine GG ?_
  by_cases he:c l[a]=0
  ·have hb:(c l[a]==0)=true:=by rw[beq_iff_eq];exact he
   rw[hb];refine⟨(gU.2 ⟨_,db hlt,hb⟩).symm,λ_=>?_⟩;rw[nz hx hb (λj y hj hy=>by have:=h1 j y hj hy;rw[beq_eq_false_iff_ne];omega)]
  ·have hb:(c l[a]==0)=false:=by rw[beq_eq_false_iff_ne];exact he
   rw[hb];refine⟨?_,λh=>by cases h⟩;symm;rw[List.any_eq_false];intro x hx';obtain⟨j,hj⟩:=fZ hx';rw[ig,beq_eq_false_iff_ne]
   by_cases hja:j<a
   ·have:=h1 j x hja hj;omega
   ·by_cases e:j=a
    ·subst e;rw[hx]at hj;injection hj with hj;rw[<-hj];exact he
    ·have h3:=h2 a _ (aX _) hx;have:=hs a j _ x (by omega) hx hj h3;omega
 ·rw[show decide ((a:Int)<((l.length:Nat):Int))=false by rw[decide_eq_false_iff_not];omega,bJ,aA];refine GG ⟨?_,λh=>by cases h⟩;symm;rw[List.any_eq_false];intro x hx';obtain⟨j,hj⟩:=fZ hx';have:=(bF.1 hj).1;have:=h1 j x (by omega) hj;rw[ig,beq_eq_false_iff_ne];omega
end
section
variable {N:Nat}
def o5(l:Z aU)(k:Nat):aW Int:=
 match l[k]? with
 |none=>none
 |some p=>if isWord p.Name=false then some 5 else if(decide (p.Kind<1)||decide (p.Kind>7))=true then some 4 else if(decide (p.cD<0)||decide (p.cD>200))=true then some 1 else if fx aU.Name l k=true then some 8 else none
def uO(p q:aU):Bool:=decide (p.cD>0)&&(q.cD==p.cD)&&(q.Kind != p.Kind)
def xg(l:Z aU)(k:Nat):aW Int:=
 match l[k]? with
 |none=>none
 |some p=>if(l.take k).any (uO p)=true then some 12 else none
def iH(l:Z aU):Int:=if l.length=0 then 9 else if 200<l.length then 2 else((hG l.length<|o5 l).or<|hG l.length<|xg l).getD 0
def n3(t:Z aC)(k:Nat):aW Int:=
 match t[k]? with
 |none=>none
 |some x=>if isWord x.Name=false then some 5 else if iH x.aV≠0 then some (iH x.aV)else if fx aC.Name t k=true then some 8 else none
def checkTypes(t:Z aC):Int:=if 200<t.length then 2 else(hG t.length<|n3 t).getD 0
theorem x5{R β:Type}(o:aW R)(f:Unit->aW β)(g:R->aW β):(yM o ()).cs f g=o.elim (f ()) g:=by cases o <;> rfl
theorem sA(o:aW Int):(yM o ()).cs (λ_=>some (0:Int)) (λr=>some r)=some (o.getD 0):=by cases o <;> rfl
theorem getD_or(a b:aW Int):(a.elim (some<|b.getD 0) λr=>some r)=some ((a.or b).getD 0):=by cases a <;> rfl
theorem nL{l:Z aU}(h:bk l<=1048576):fD N l=some (iH l):=by
 have hlen:=my l;unfold fD iH
 by_cases h0:l.length=0
 ·rw[aK h0,h0];rfl
 ·have e0:((l.length:Int)==0)=false:=by rw[beq_eq_false_iff_ne];omega
  rw[aL h0,e0,bJ]
  by_cases h1:200<l.length
  ·rw[aK h1,dw (by omega),bV]
  ·rw[aL h1,bP (by omega),bJ]
   rw[kT (o5 l) (by omega) (λk hk _=>by
    have hx:l[k]? =some l[k]:=aN hk;have hb:=sd hx;rw[sg,ki]at hb;rw[du hx,aA,jx (by omega),aA,sf aU.Name hx (by omega)];unfold o5;rw[hx];dsimp only
    cases isWord l[k].Name
    ·rfl
    ·cases decide (l[k].Kind<1)||decide (l[k].Kind>7)
     ·cases decide (l[k].cD<0)||decide (l[k].cD>200)
      ·cases fx aU.Name l k <;> rfl
      ·rfl
     ·rfl),aA]
   rw[x5]
   rw[kT (xg l) (by omega) (λk hk _=>by
    have hx:l[k]? =some l[k]:=aN hk;rw[du hx,aA,pP l k (by omega),aA]
    have e:=lV (l:=l.take k) (φ:=λy0=>dc N y0 l[k]) (uO l[k]) (by rw[bX];omega) (λq _=>by
     unfold dc uO
     cases decide (l[k].cD>0)
     ·rfl
     ·cases q.cD==l[k].cD <;> rfl)
    have e2:dH N (l.take k) (λy0=>dc N y0 l[k])=jU (l.take k) (λy0=>dc N y0 l[k]):=rfl;rw[e2,e,aA];unfold xg;rw[hx];dsimp only
    cases(l.take k).any (uO l[k]) <;> rfl),aA,sA]
   exact getD_or _ _
theorem m6{t:Z aC}(h:bk t<=1048576):eW N t=some (checkTypes t):=by
 have hlen:=my t;unfold eW checkTypes
 by_cases h1:200<t.length
 ·rw[aK h1,dw (by omega),bV]
 ·rw[aL h1,bP (by omega),bJ]
  rw[kT (n3 t) (by omega) (λk hk _=>by
   have hx:t[k]? =some t[k]:=aN hk;have hb:=sd hx;rw[ll]at hb;have hb2:=ki t[k].Name;rw[du hx,aA,jx (by omega),aA,nL (by omega),aA,sf aC.Name hx (by omega)];unfold n3;rw[hx];dsimp only
   cases isWord t[k].Name
   ·rfl
   ·by_cases hc:iH t[k].aV=0
    ·rw[hc];cases fx aC.Name t k <;> rfl
    ·have:(iH t[k].aV != 0)=true:=by rw[bne_iff_ne];exact hc
     rw[this];simp[hc,uI]),aA,sA]
structure uP (t:Z aC):Prop where
 sorted:eu aC.Name t
 pins:∀x∈t,eu aU.Name x.aV
theorem n4{e:Nat->aW Int}{m:Nat}(hz:∀k r,e k=some r->r≠0)(h:(hG m e).getD 0=0):∀k,k<m->e k=none:=by
 cases hx:hG m e with
 |none=>exact iC.1 hx
 |some r=>
  obtain⟨k,_,hk,_⟩:=iD.1 hx;rw[hx]at h;exact absurd h<|hz k r hk
theorem yZ{l:Z aU}{k:Nat}{r:Int}(h:o5 l k=some r):r≠0:=by
 unfold o5 at h
 repeat' split at h
 all_goals first|(injection h with h;omega)|cases h
theorem uQ{l:Z aU}(h:iH l=0):eu aU.Name l:=by
 unfold iH at h;split at h
 ·cases h
 split at h
 ·cases h
 refine iR λk hk=>?_
 cases hx:hG l.length (o5 l)with
 |some r=>
  obtain⟨j,_,hj,_⟩:=iD.1 hx;rw[hx]at h;exact absurd h<|yZ hj
 |none=>
  have:=iC.1 hx k hk;unfold o5 at this;rw[aN hk]at this;dsimp only at this
  repeat' split at this
  all_goals first|(simp at this;done)|simp_all
theorem oD{t:Z aC}(h:checkTypes t=0):uP t:=by
 unfold checkTypes at h;split at h
 ·cases h
 have hz:∀k r,n3 t k=some r->r≠0:=by
  intro k r hk;unfold n3 at hk
  repeat' split at hk
  all_goals first|(injection hk with hk;subst hk;first|assumption|omega)|cases hk
 have hn:=n4 hz h;have key:∀k(hk:k<t.length),iH t[k].aV=0/\fx aC.Name t k=false:=by
  intro k hk;have:=hn k hk;unfold n3 at this;rw[aN hk]at this;dsimp only at this
  repeat' split at this
  all_goals first|(simp at this;done)|simp_all
 refine⟨iR λk hk=>(key k hk).2,λx hx=>?_⟩;obtain⟨k,hk⟩:=fZ hx;obtain⟨hlt,rfl⟩:=bF.1 hk;exact uQ (key k hlt).1
end
section
variable {N:Nat}
theorem n5{t:Z aC}{s:aP}(hs:eu aC.Name t)(ht:bk t<=1048576)(hN:4194304<=N):dd N t s=some (nat? aC.Name t s):=by
 have:=my t;obtain⟨r,h1,h2⟩:=rp (N:=N) (key:=aC.Name) (l:=t) (s:=s) (φ:=eB N) (λx=>rfl) hs (by omega) hN;have e:cB N t s (eB N)=tc N t s (eB N):=rfl;unfold dd;rw[e,h1,aA];exact h2
theorem n7{l:Z Part}{s:aP}(hs:eu Part.Name l)(hl:l.length<=1048576)(hN:4194304<=N):dQ N l s=some (nat? Part.Name l s):=by
 obtain⟨r,h1,h2⟩:=rp (N:=N) (key:=Part.Name) (l:=l) (s:=s) (φ:=eC N) (λx=>rfl) hs (by omega) hN;have e:cU N l s (eC N)=tc N l s (eC N):=rfl;unfold dQ;rw[e,h1,aA];exact h2
theorem wh{y:aC}{s:aP}(hs:eu aU.Name y.aV)(hl:y.aV.length<=1048576)(hN:4194304<=N):gG N y s=some (nat? aU.Name y.aV s):=by
 obtain⟨r,h1,h2⟩:=rp (N:=N) (key:=aU.Name) (l:=y.aV) (s:=s) (φ:=eO N) (λx=>rfl) hs (by omega) hN;have e:cF N y.aV s (eO N)=tc N y.aV s (eO N):=rfl;unfold gG;rw[e,h1,aA];exact h2
theorem gq{α:Type}(key:α->aP)(l:Z α)(s:aP):(nat? key l s = -1/\∀x∈l,key x≠s)\/∃k x,nat? key l s=((k:Nat):Int)/\l[k]? =some x/\key x=s:=by
 rcases iE l (λx=>(key x).jg s)with⟨h1,h2⟩|⟨k,x,h1,h2,h3,_⟩
 ·exact .inl ⟨h1,λx hx=>kI.1<|h2 x hx⟩
 ·exact .inr ⟨k,x,h1,h2,gk.1 h3⟩
theorem rr{α:Type}(key:α->aP)(l:Z α)(s:aP):decide (nat? key l s>=0)=l.any (λx=>(key x).jg s):=xb _ _
def mG(t:Z aC)(l:Z Part)(k:Nat):aW Int:=
 match l[k]? with
 |none=>none
 |some p=>if mF p.Name=false then some 5 else if nat? aC.Name t p.bU<0 then some 9 else if fx Part.Name l k=true then some 8 else none
def eG(t:Z aC)(l:Z Part):Int:=if 1000<l.length then 2 else(hG l.length<|mG t l).getD 0
theorem xh{R:Type}(a:Bool)(z:Int)(b:Bool)(f:Int->R):
  ((bif(!a)then some (.rt<|f 5)else(bif z<0 then some (.rt<|f 9)else((some b).bind λs=>bif s then some (.rt<|f 8)else some (.nx ())))):aW (Fl Unit R)) =
  some (uI ((if a=false then some (5:Int)else if z<0 then some 9 else if b=true then some 8 else none).map f) ()):=by
 cases a
 ·rfl
 ·by_cases hz:z<0
  ·rw[dw hz];simp[uI,hz]
  ·rw[bP hz];cases b <;> simp[uI,hz]
theorem xi(o:aW Int):o.map (λx=>x)=o:=by cases o <;> rfl
theorem sB{t:Z aC}{l:Z Part}(hs:eu aC.Name t)(ht:bk t<=1048576)(hl:l.length<=1048576)(hln:∀p∈l,p.Name.bK.length<=2097152)(hN:4194304<=N):
  eX N t l (eY N)=some (eG t l):=by
 unfold eX eG
 by_cases h1:1000<l.length
 ·rw[aK h1,dw (by omega),bV]
 ·rw[aL h1,bP (by omega),bJ]
  rw[kT (mG t l) (by omega) (λk hk _=>by
   have hx:l[k]? =some l[k]:=aN hk;have hb:=hln _<|db hk
   rw[du hx,aA,lp (by omega) hN,aA,n5 hs ht hN,aA,sf Part.Name hx (by omega)];refine(xh _ _ _ (λx:Int=>x)).trans ?_
   rw[xi];unfold mG;rw[hx]),aA,sA]
def i6(t:Z aC)(l:Z Part)(p:bN):Bool:=
 match l.find? (λx=>x.Name.jg p.Part)with
 |none=>false
 |some x=>match t.find? (λy=>y.Name.jg x.bU)with
  |none=>false
  |some y=>y.aV.any (λq=>q.Name.jg p.bN)
theorem mH{α:Type}{l:Z α}{p:α->Bool}{k:Nat}{x:α}(hk:rn l p=(k:Int))(hx:l[k]? =some x):l.find? p=some x:=by
 rcases iE l p with⟨h1,_⟩|⟨k',x',h1,h2,h3,h4⟩
 ·omega
 ·have:k'=k:=by omega
  subst this;rw[hx]at h2;injection h2 with h2;subst h2
  rw[List.find?_eq_some_iff_getElem];obtain⟨hlt,hxx⟩:=bF.1 hx;exact⟨h3,k',hlt,hxx,λj hj=>by rw[h4 j l[j] hj<|aN (by omega)];rfl⟩
theorem tP{α:Type}{l:Z α}{p:α->Bool}(hk:rn l p = -1):l.find? p=none:=by
 rcases iE l p with⟨_,h⟩|⟨k',x',h1,_⟩
 ·rw[List.find?_eq_none];intro x hx;rw[h x hx];decide
 ·omega
def Typed(t:Z aC)(l:Z Part):Prop:=∀x∈l,0<=nat? aC.Name t x.bU
theorem wi{t:Z aC}{l:Z Part}{p:bN}(htl:Typed t l){fp:aW Int}{ft:aP->aW Int}{fq:aC->aW Int}
  (h1:fp=some (nat? Part.Name l p.Part)) (h2:∀s,ft s=some (nat? aC.Name t s)) (h3:∀y∈t,fq y=some (nat? aU.Name y.aV p.bN)):
  (fp.bind λx2=>(bif x2>=0 then((idx l x2).bind λx18=>(ft x18.bU).bind λx21=>(idx t x21).bind λD3=>(fq D3).bind λx25=>some<|decide<|x25>=0)else some false).bind λs16=>some s16)=some (i6 t l p):=by
 rw[h1,aA];unfold i6
 rcases gq Part.Name l p.Part with⟨h4,_⟩|⟨k,x,h4,h5,h6⟩
 ·rw[tP h4,h4];rfl
 ·rw[mH h4 h5,h4,dw (by omega),bV,du h5,aA,h2,aA];dsimp only;have h7:=htl x<|dJ h5
  rcases gq aC.Name t x.bU with⟨h8,_⟩|⟨j,y,h8,h9,_⟩
  ·omega
  ·rw[mH h8 h9,h8,du h9,aA,h3 y<|dJ h9,aA,aA,rr]
theorem o6{t:Z aC}{l:Z Part}{p:bN}(ht:uP t)(hl:eu Part.Name l)(htl:Typed t l)(hbt:bk t<=1048576)(hbl:l.length<=1048576)(hN:4194304<=N):
  jm N t l p=some (i6 t l p):=by
 exact wi htl (n7 hl (by omega) hN) (λs=>n5 ht.sorted hbt hN) (λy hy=>wh (ht.pins y hy) (by
  have h1:=lC hy;rw[ll]at h1;have h2:=my y.aV;omega) hN)
def lq(a b:bN):Bool:=a.Part.p9 b.Part||(a.Part.jg b.Part&&a.bN.p9 b.bN)
def lJ(l:Z bN)(k:Nat):Bool:=match l[k]?,l[k - 1]? with|some p,some q=>decide (0<k)&& !lq q p|_,_=>false
theorem xj(a b:aP):0<Lib.compareBytes a.bK b.bK↔aP.lt b a:=by
 have h1:=jK a.bK b.bK;have h2:=hZ a.bK b.bK
 rcases aP.v7 a b with h|h|h
 ·have h3:=h1.2 h;exact⟨λh'=>by omega,λh'=>absurd h'<|aP.lt_asymm h⟩
 ·subst h;have h3:=h2.2 rfl;exact⟨λh'=>by omega,λh'=>absurd h'<|aP.lt_irrefl _⟩
 ·refine⟨λ_=>h,λ_=>?_⟩;have h3:¬Lib.compareBytes a.bK b.bK<0:=λh'=>aP.lt_asymm h<|h1.1 h'
  have h4:¬Lib.compareBytes a.bK b.bK=0:=λh'=>aP.ny h (aP.ext'<|h2.1 h').symm;omega
def uR(a b:bN):Int:=if Lib.compareBytes a.Part.bK b.Part.bK=0 then Lib.compareBytes a.bN.bK b.bN.bK else Lib.compareBytes a.Part.bK b.Part.bK
theorem sC(a b:bN):fP N a b=some (uR a b):=by
 show(bif Lib.compareBytes a.Part.bK b.Part.bK != 0 then some (Lib.compareBytes a.Part.bK b.Part.bK)else some (Lib.compareBytes a.bN.bK b.bN.bK))=_;unfold uR
 by_cases h:Lib.compareBytes a.Part.bK b.Part.bK=0
 ·rw[h];rfl
 ·have:(Lib.compareBytes a.Part.bK b.Part.bK != 0)=true:=by rw[bne_iff_ne];exact h
  rw[this,aL h];rfl
theorem y2(a b:bN):decide (uR a b<=0) = !lq b a:=by
 unfold uR lq
 by_cases h:Lib.compareBytes a.Part.bK b.Part.bK=0
 ·have e:a.Part=b.Part:=aP.ext'<|(hZ _ _).1 h
  have e2:b.Part.p9 a.Part=false:=by rw[e,<-ig];exact aP.lt_irrefl _
  rw[aK h,e2,gk.2 e.symm,Bool.false_or,Bool.true_and];have:=xj a.bN b.bN;rw[kq,fC,Bool.not_eq_true',<-ig];constructor
  ·intro h1 h2;have:=this.2 h2;omega
  ·intro h1
   by_cases h3:0<Lib.compareBytes a.bN.bK b.bN.bK
   ·exact absurd (this.1 h3) h1
   ·omega
 ·have e:b.Part≠a.Part:=λe=>h<|(hZ _ _).2 (by rw[e])
  rw[aL h,kI.2 e,Bool.false_and,Bool.or_false];have:=xj a.Part b.Part;rw[kq,fC,Bool.not_eq_true',<-ig];constructor
  ·intro h1 h2;have:=this.2 h2;omega
  ·intro h1
   by_cases h3:0<Lib.compareBytes a.Part.bK b.Part.bK
   ·exact absurd (this.1 h3) h1
   ·omega
theorem y3{l:Z bN}{k:Nat}{x:bN}{f:bN->aW Bool}(hf:∀y,f y=some (!lq y x))(hx:l[k]? =some x)(hl:l.length<=1048576):
  (bif decide ((k:Int)>0)then(idx l<|wrap .i64<|(k:Int) - 1).bind f else some false)=some (lJ l k):=by
 have hk:=(bF.1 hx).1;unfold lJ
 by_cases h0:0<k
 ·rw[dw (by omega),bV,nY h0 (by omega),gV l _ (by omega),aA,hx,aN (by omega:k - 1<l.length),hf];simp[h0]
 ·have:k=0:=by omega
  subst this;rw[hx];simp
def qD(l:Z Net)(p:bN):Bool:=l.any<|λn=>decide<|p∈n.aV
def pW(t:Z aC)(x:aG)(i:Nat)(l:Z bN)(k:Nat):aW Int:=
 match l[k]? with
 |none=>none
 |some p=>if i6 t x.aJ p=false then some 9 else if lJ l k=true then some 8 else if qD (x.aQ.take i) p=true then some 7 else none
def o7(t:Z aC)(x:aG)(i:Nat):aW Int:=
 match x.aQ[i]? with
 |none=>none
 |some n=>if mF n.Name=false then some 5 else if n.aV.length=0 then some 9 else if 500<n.aV.length then some 2 else
   (hG n.aV.length<|pW t x i n.aV).or (if 0<n.mU.length then some 3 else if fx Net.Name x.aQ i=true then some 8 else none)
def qE(t:Z aC)(x:aG):Int:=if 1000<x.aQ.length then 2 else(hG x.aQ.length<|o7 t x).getD 0
def ec(t:Z aC)(x:aG):Int:=
 if checkTypes t≠0 then checkTypes t else if eG t x.aJ≠0 then eG t x.aJ else qE t x
theorem sD{t:Z aC}{l:Z Part}{k:Nat}{r:Int}(h:mG t l k=some r):r≠0:=by
 unfold mG at h
 repeat' split at h
 all_goals first|(injection h with h;omega)|cases h
structure x6 (t:Z aC) (l:Z Part):Prop where
 sorted:eu Part.Name l
 typed:Typed t l
theorem oE{t:Z aC}{l:Z Part}(h:eG t l=0):x6 t l:=by
 unfold eG at h;split at h
 ·cases h
 have hn:=n4 (λk r hk=>sD hk) h;have key:∀k(hk:k<l.length),0<=nat? aC.Name t l[k].bU/\fx Part.Name l k=false:=by
  intro k hk;have:=hn k hk;unfold mG at this;rw[aN hk]at this;dsimp only at this
  repeat' split at this
  all_goals first|(simp at this;done)|simp_all
 refine⟨iR λk hk=>(key k hk).2,λx hx=>?_⟩;obtain⟨k,hk⟩:=fZ hx;obtain⟨hlt,rfl⟩:=bF.1 hk;exact(key k hlt).1
theorem wj{t:Z aC}{x:aG}{i:Nat}{l:Z bN}{k:Nat}{r:Int}(h:pW t x i l k=some r):r≠0:=by
 unfold pW at h
 repeat' split at h
 all_goals first|(injection h with h;omega)|cases h
theorem rf{l:Z bN}{has:bN->aW Bool}{m:Z (bN×Bool)}(hB:bN->Bool)(hh:∀p∈l,has p=some (hB p))(hl:l.length<=1048576):
  er N l has m=some (if 500<l.length then((2:Int),m)else
   (hG l.length (λk=>match l[k]? with
    |none=>none
    |some p=>if hB p=false then some (9:Int)else if lJ l k=true then some 8 else if aZ m p false=true then some 7 else none)).elim ((0:Int),j6 m l true) (λr=>(r,m))):=by
 unfold er
 by_cases h1:500<l.length
 ·rw[aK h1,dw (by omega),bV]
 ·rw[aL h1,bP (by omega),bJ]
  rw[kT (λk=>Option.map (λ(r:Int)=>(r,m)) (match l[k]? with
    |none=>none
    |some p=>if hB p=false then some (9:Int)else if lJ l k=true then some 8 else if aZ m p false=true then some 7 else none)) (by omega) (λk hk _=>by
   have hx:l[k]? =some l[k]:=aN hk;rw[du hx,aA,hh _<|db hk,aA,y3 (λy=>by rw[sC,aA,y2]) hx hl,hx];dsimp only
   cases hB l[k]
   ·rfl
   ·cases lJ l k
    ·cases aZ m l[k] false <;> rfl
    ·rfl),aA,x5,tN true (by omega),aA]
  rw[<-Ax];generalize hG l.length _=o
  cases o <;> rfl
def mI(x:aG)(i:Nat):Z (bN×Bool):=(x.aQ.take i).foldl (λm n=>j6 m n.aV true) []
theorem y4(l:Z Net)(p:bN):∀(m:Z (bN×Bool)),aZ (l.foldl (λm n=>j6 m n.aV true) m) p false=(qD l p||aZ m p false):=by
 induction l with
 |nil=>intro m;rfl
 |cons n l ih=>
  intro m;rw[List.foldl_cons,ih,oZ];unfold qD;rw[List.any_cons]
  by_cases h:p∈n.aV <;> simp[h]
theorem uS(x:aG)(i:Nat)(p:bN):aZ (mI x i) p false=qD (x.aQ.take i) p:=by
 unfold mI;rw[y4];simp[aZ]
theorem uT{x:aG}{i:Nat}{n:Net}(h:x.aQ[i]? =some n):mI x (i+1)=j6 (mI x i) n.aV true:=by
 unfold mI;obtain⟨hlt,rfl⟩:=bF.1 h;rw[ek hlt,List.foldl_append];rfl
structure xk (x:aG):Prop where
 pl:x.aJ.length<=1048576
 pn:∀p∈x.aJ,p.Name.bK.length<=2097152
 nl:x.aQ.length<=1048576
 nn:∀n∈x.aQ,n.Name.bK.length<=2097152
 np:∀n∈x.aQ,n.aV.length<=1048576
theorem uU{x:aG}(h:bk x<=1048576):xk x:=by
 rw[kU]at h;have h1:=my x.aJ;have h2:=my x.aQ;refine⟨by omega,λp hp=>?_,by omega,λn hn=>?_,λn hn=>?_⟩
 ·have:=lC hp;rw[rq]at this;have h3:=ki p.Name;omega
 ·have:=lC hn;rw[qq,ki]at this;omega
 ·have:=lC hn;rw[qq]at this;have h3:=my n.aV;omega
theorem fk{t:Z aC}{x:aG}(hbt:bk t<=1048576)(hbx:xk x)(hN:4194304<=N):cV N t x=some (ec t x):=by
 have hpl:=hbx.pl;have hln:=hbx.nl;unfold cV ec;rw[m6 hbt,aA]
 by_cases h1:checkTypes t≠0
 ·have e:(checkTypes t != 0)=true:=by rw[bne_iff_ne];exact h1
  rw[e,bV,aK h1]
 replace h1:=Decidable.not_not.1 h1
 have ht:=oD h1;have e:(checkTypes t != 0)=false:=by rw[h1];rfl
 rw[e,bJ,aL<|λh=>h h1,sB ht.sorted hbt hbx.pl hbx.pn hN,aA]
 by_cases h2:eG t x.aJ≠0
 ·have e:(eG t x.aJ != 0)=true:=by rw[bne_iff_ne];exact h2
  rw[e,bV,aK h2]
 replace h2:=Decidable.not_not.1 h2
 have hp:=oE h2;have e:(eG t x.aJ != 0)=false:=by rw[h2];rfl
 rw[e,bJ,aL<|λh=>h h2];unfold qE
 by_cases h3:1000<x.aQ.length
 ·rw[aK h3,dw (by omega),bV]
 ·rw[aL h3,bP (by omega),bJ]
  rw[uJ (s:=([]:Z (bN×Bool))) (mI x) (o7 t x) (by omega) rfl (λi hi _=>by
   have hx:x.aQ[i]? =some x.aQ[i]:=aN hi;have hb2:=hbx.nn _<|db hi
   have hlp:=hbx.np _<|db hi
   rw[uT hx]
   rw[du hx,aA,lp (by omega) hN,aA,rf (i6 t x.aJ) (λp _=>by
    unfold fF
    rw[o6 ht hp.sorted hp.typed hbt hpl hN,aA]) (by omega),aA,sf Net.Name hx (by omega)]
   unfold o7;rw[hx];dsimp only
   cases mF x.aQ[i].Name
   ·rfl
   simp only[Bool.not_true,bJ,Bool.true_eq_false,if_false]
   by_cases h4:x.aQ[i].aV.length=0
   ·rw[aK h4,h4];rfl
   have e4:(((x.aQ[i].aV.length:Nat):Int)==0)=false:=by rw[beq_eq_false_iff_ne];omega
   rw[aL h4,e4,bJ]
   by_cases h5:500<x.aQ[i].aV.length
   ·rw[aK h5,aK h5];rfl
   rw[aL h5,aL h5]
   have e5:(hG x.aQ[i].aV.length (λk=>match x.aQ[i].aV[k]? with
    |none=>none
    |some p=>if i6 t x.aJ p=false then some (9:Int)else if lJ x.aQ[i].aV k=true then some 8 else if aZ (mI x i) p false=true then some 7 else none))=hG x.aQ[i].aV.length (pW t x i x.aQ[i].aV):=by
    congr 1;funext k;unfold pW;split
    ·rfl
    ·rw[uS]
   rw[e5]
   cases h6:hG x.aQ[i].aV.length (pW t x i x.aQ[i].aV)with
   |some r=>
    obtain⟨j,_,hj,_⟩:=iD.1 h6;have e6:(r != 0)=true:=by rw[bne_iff_ne];exact wj hj
    simp only[Option.elim_some,e6,bV];rfl
   |none=>
    simp only[Option.elim_none,bne_self_eq_false,bJ,Option.none_or]
    by_cases h7:0<x.aQ[i].mU.length
    ·rw[aK h7,dw (by omega)];rfl
    ·rw[aL h7,bP (by omega)]
     cases fx Net.Name x.aQ i <;> rfl),aA]
  cases hG x.aQ.length (o7 t x) <;> rfl
theorem nM{t:Z aC}{x:aG}(hbt:bk t<=1048576)(hbx:bk x<=1048576)(hN:4194304<=N):cV N t x=some (ec t x):=fk hbt (uU hbx) hN
end
theorem pX:ld qC:=⟨λx=>(hZ _ _).2 rfl,λx y h=>aP.ext' ((hZ _ _).1 h),λx y=>by
 unfold qC;rw[xj,jK];rfl,λx y z h h2=>by
 unfold qC at *;rw[jK]at *
 exact aP.lt_trans (a:=x) (b:=y) (c:=z) h h2⟩
section
variable {α:Type}{cf:α->α->Int}{N:Nat}
theorem AL{β:Type}(l:Z α)(f:α->β)(z:β)(k:Nat)(hk:k<l.length):((l.take k).map f++List.replicate (l.length - k) z).set k (f l[k])=(l.take<|k+1).map f++List.replicate (l.length -(k+1)) z:=by
 have e1:((l.take k).map f).length=k:=by rw[cW,bX];omega
 rw[List.set_append_right _ _ (by omega),e1,Nat.sub_self,show l.length - k=(l.length -(k+1))+1 by omega,List.replicate_succ,List.set_cons_zero,ek hk,fN];simp
noncomputable def AM(z:α)(b N:Nat)(φ:α->α->aW Int)(p0:Z α):aW (Z Int×Int):=
 ((app b ([]:Z α) p0).bind λx32=>some x32).bind λx32=>(mT φ x32).bind λx34=>(qB z N x34<|λy0 y1=>(φ y0 y1).bind λx31=>some<|x31==0).bind λx35=>(mk 8 (0:Int) (p0.length:Int)).bind λx37=>(j8 p0.length (λ(k39:Nat)(s40:Z α×Z Int)=>((idx p0 (k39:Int)).bind λx54=>(tc N s40.1 x54 φ).bind λx56=>(idx s40.2 (k39:Int)).bind λx57=>some (s40.1,s40.2.set (Int.toNat (k39:Int)) x56.1):aW (Z α×Z Int))) (x35,x37)).bind λs40=>some (s40.2,(s40.1.length:Int))
theorem tQ [DecidableEq α](hO:ld cf){z:α}{b:Nat}{φ:α->α->aW Int}{l:Z α}(hφ:∀x∈l,∀y∈l,φ x y=some (cf x y))(hl:l.length<=1048576)(hb:b<=1000)(hN:4194304<=N):
  Ok (AM z b N φ l) (λr=>∃d,eE cf l d/\r=(l.map<|xe d,(d.length:Int))):=by
 unfold AM
 rw[gC (by
  have:l.length*b<=1048576*1000:=Nat.mul_le_mul hl hb
  simpa using by omega),aA,aA,List.nil_append]
 obtain⟨m,hm,hp,hw⟩:=hO.sort hφ (by omega);refine GH hm ?_;have hmm:∀x,x∈m↔x∈l:=λx=>hp.mem_iff;have hml:m.length=l.length:=hp.length_eq
 refine GM (sy hO (λx hx y hy=>by
  rw[hφ x ((hmm x).1 hx) y<|(hmm y).1 hy,aA];congr 1
  by_cases e:x=y
  ·subst e;rw[hO.refl];simp
  ·rw[bP e];exact beq_eq_false_iff_ne.2 λh=>e (hO.eq _ _ h)) hw (by omega) (by omega)) (λd hd=>?_)
 have hD:eE cf l d:=⟨hd.1,λx=>(hd.2 x).trans<|hmm x⟩;have hdl:=hD.len hO;refine GH (pQ _ (by omega)) ?_;refine GM (Hq (λk s=>s=(d,(l.take k).map (xe d)++List.replicate (l.length - k) (0:Int))) (by omega) (by simp)<|λk s hk hs=>?_)<|λs hs=>GG ⟨d,hD,?_⟩
 ·subst hs;refine G7 hk ?_;have hx:l[k]∈l:=db hk
  obtain⟨r,h1,h2,h3⟩:=AK (N:=N) (l:=d) (s:=l[k]) (φ:=φ) (λy=>cf y l[k]) (λy hy=>hφ y ((hD.2 y).1 hy) _ hx) (λi j x y hij hxi hyj hc=>by
   obtain⟨g1,rfl⟩:=bF.1 hxi;obtain⟨g2,rfl⟩:=bF.1 hyj;have h0:=List.pairwise_iff_getElem.1 hD.1 i j g1 g2 hij;have h4:=hO.DT l[k] d[j]
   rcases hO.DU d[j] l[k]with e|e|e
   ·have:=hO.trans _ _ _ h0 e;omega
   ·rw[e]at h0;omega
   ·omega) (by omega) hN
  refine GH h1 ?_;have e:(λy=>cf y l[k]==0)=λy=>decide (l[k]=y):=by
   funext y
   by_cases e:l[k]=y
   ·subst e;rw[hO.refl];simp
   ·rw[bP e];exact beq_eq_false_iff_ne.2 λh=>e (hO.eq _ _ h).symm
  rw[e]at h2 h3;have ht:r.2=true:=by
   rw[h2,gU];exact⟨l[k],(hD.2 _).2 hx,by simp⟩
  have h3:=h3 ht;refine G7 (by simp;omega)<|GG ?_
  rw[h3,el];congr 1;exact AL l (xe d) 0 k hk
 ·subst hs;simp
end
section
variable {N:Nat}
theorem y5{l:Z aP}(hl:l.length<=1048576)(hN:4194304<=N):Ok (cC N l) (λr=>∃d,eE qC l d/\r=(l.map<|xe d,(d.length:Int))):=
 tQ (z:=⟨[]⟩) (b:=16) (φ:=cQ N) pX (λx _ y _=>rfl) hl (by omega) hN
theorem tR{l:Z (Z Int)}(hl:l.length<=1048576)(h:∀x∈l,x.length<=4611686018427387904)(hN:4194304<=N):Ok (bR N l) (λr=>∃d,eE cmpL l d/\r=(l.map<|xe d,(d.length:Int))):=
 tQ (z:=[]) (b:=24) (φ:=cY N) qA (λx hx y _=>wg<|h x hx) hl (by omega) hN
end
section
variable {α:Type}{cf:α->α->Int}{N:Nat}
theorem td{all:Z α}{k j:Nat}{x:α}(h:x∈all.take k):∃j,∃hj:j<all.length,j<k/\all[j]=x:=by
 obtain⟨j,hj,rfl⟩:=List.mem_iff_getElem.1 h;rw[bX]at hj;exact⟨j,by omega,by omega,by rw[List.getElem_take]⟩
end
section
variable {N:Nat}
theorem ru{α:Type}{L:Z (Z α)}{i:Nat}(hi:i<L.length):(L.take<|i+1).flatten=(L.take i).flatten++L[i]:=by
 rw[ek hi,List.flatten_append,List.flatten_singleton]
theorem AN{α:Type}{L:Z (Z α)}{i:Nat}:(L.take i).flatten.length<=L.flatten.length:=by
 conv=>rhs;rw[<-List.take_append_drop i L,List.flatten_append,dh]
 omega
end
section
variable {N:Nat}
structure ey (t:Z aC) (x:aG):Prop where
 types:uP t
 parts:x6 t x.aJ
 wk:x.aJ.length<=1000
 iI:x.aQ.length<=1000
 x8:∀n∈x.aQ,0<n.aV.length/\n.aV.length<=500
 D8:∀n∈x.aQ,n.mU= []
 mJ:eu Net.Name x.aQ
 path:∀n∈x.aQ,mF n.Name=true
 F0:∀p∈x.aJ,mF p.Name=true
 D9:∀n∈x.aQ,∀p∈n.aV,i6 t x.aJ p=true
 CV:∀n∈x.aQ,∀(i j:Nat)(p q:bN),i<j->n.aV[i]? =some p->n.aV[j]? =some q->lq p q=true
 once:∀(i j:Nat)(n m:Net)(p:bN),x.aQ[i]? =some n->x.aQ[j]? =some m->p∈n.aV->p∈m.aV->i=j
theorem uV(a:bN):lq a a=false:=by
 unfold lq;have h1:a.Part.p9 a.Part=false:=by rw[<-ig];exact aP.lt_irrefl _
 have h2:a.bN.p9 a.bN=false:=by rw[<-ig];exact aP.lt_irrefl _
 rw[h1,h2];simp
theorem wm{a b c:bN}(h1:lq a b=true)(h2:lq b c=true):lq a c=true:=by
 unfold lq at *;simp only[dK,bY,gk]at *
 rcases h1 with h1|⟨e1,h1⟩
 ·rcases h2 with h2|⟨e2,_⟩
  ·exact .inl<|aP.lt_trans h1 h2
  ·rw[<-e2];exact .inl h1
 ·rcases h2 with h2|⟨e2,h2⟩
  ·rw[e1];exact .inl h2
  ·exact .inr ⟨e1.trans e2,aP.lt_trans h1 h2⟩
theorem y6{l:Z bN}(h:∀k,k<l.length->lJ l k=false):∀(i j:Nat)(p q:bN),i<j->l[i]? =some p->l[j]? =some q->lq p q=true:=by
 intro i j
 induction j with
 |zero=>intro p q hij;omega
 |succ j ih=>
  intro p q hij hp hq;have hj:=(bF.1 hq).1;have h1:=h (j+1) hj;unfold lJ at h1;rw[hq,Nat.add_sub_cancel,aN (by omega:j<l.length)]at h1;simp at h1
  by_cases e:i=j
  ·subst e;rw[aN (by omega:i<l.length)]at hp;injection hp with hp;subst hp;exact h1
  ·exact wm (ih p l[j] (by omega) hp<|aN (by omega)) h1
theorem y7{t:Z aC}{x:aG}{k:Nat}{r:Int}(h:o7 t x k=some r):r≠0:=by
 unfold o7 at h;split at h
 ·cases h
 split at h
 ·injection h with h;omega
 split at h
 ·injection h with h;omega
 split at h
 ·injection h with h;omega
 cases hx:hG _ (pW t x k _)with
 |some r'=>
  rw[hx]at h;injection h with h
  subst h;obtain⟨j,_,hj,_⟩:=iD.1 hx;exact wj hj
 |none=>
  rw[hx]at h;simp only[Option.none_or]at h;split at h
  ·injection h with h;omega
  split at h
  ·injection h with h;omega
  ·cases h
theorem kE{t:Z aC}{x:aG}(h:ec t x=0):ey t x:=by
 unfold ec at h
 by_cases h1:checkTypes t≠0
 ·rw[aK h1]at h;exact absurd h h1
 rw[aL h1]at h
 by_cases h2:eG t x.aJ≠0
 ·rw[aK h2]at h;exact absurd h h2
 rw[aL h2]at h
 replace h1:=Decidable.not_not.1 h1
 replace h2:=Decidable.not_not.1 h2
 unfold qE at h
 by_cases h3:1000<x.aQ.length
 ·rw[aK h3]at h;cases h
 rw[aL h3]at h;have hn:=n4 (λk r hk=>y7 hk) h;have key:∀i(hi:i<x.aQ.length),mF x.aQ[i].Name=true/\0<x.aQ[i].aV.length/\x.aQ[i].aV.length<=500/\x.aQ[i].mU= []/\fx Net.Name x.aQ i=false/\
   ∀k(hk:k<x.aQ[i].aV.length),i6 t x.aJ x.aQ[i].aV[k]=true/\lJ x.aQ[i].aV k=false/\qD (x.aQ.take i) x.aQ[i].aV[k]=false:=by
  intro i hi;have h4:=hn i hi;unfold o7 at h4;rw[aN hi]at h4;dsimp only at h4;split at h4
  ·cases h4
  split at h4
  ·cases h4
  split at h4
  ·cases h4
  cases h5:hG x.aQ[i].aV.length (pW t x i x.aQ[i].aV)with
  |some r=>rw[h5]at h4;cases h4
  |none=>
   rw[h5]at h4;simp only[Option.none_or]at h4;split at h4
   ·cases h4
   split at h4
   ·cases h4
   rename_i h6 h7 h8 h9 h10;refine⟨by simpa using h6,by omega,by omega,List.length_eq_zero_iff.1 (by omega),by simpa using h10,λk hk=>?_⟩;have h11:=iC.1 h5 k hk;unfold pW at h11;rw[aN hk]at h11;dsimp only at h11
   repeat' split at h11
   all_goals first|(simp at h11;done)|simp_all
 have hpe:∀k(hk:k<x.aJ.length),mF x.aJ[k].Name=true:=by
  intro k hk;have h5:=h2;unfold eG at h5;split at h5
  ·cases h5
  have h4:=n4 (λk r hk=>sD hk) h5 k hk;unfold mG at h4;rw[aN hk]at h4;dsimp only at h4;split at h4
  ·cases h4
  ·rename_i h6;simpa using h6
 have mem:∀n∈x.aQ,∃i,∃hi:i<x.aQ.length,n=x.aQ[i]:=λn hn=>by
  obtain⟨i,hi⟩:=fZ hn;obtain⟨hlt,rfl⟩:=bF.1 hi;exact⟨i,hlt,rfl⟩
 refine⟨oD h1,oE h2,?_,by omega,λn hn=>?_,λn hn=>?_,iR λi hi=>(key i hi).2.2.2.2.1,λn hn=>?_,λp hp=>?_,λn hn p hp=>?_,λn hn=>?_,?_⟩
 ·unfold eG at h2;split at h2
  ·cases h2
  ·omega
 ·obtain⟨i,hi,rfl⟩:=mem n hn;exact⟨(key i hi).2.1,(key i hi).2.2.1⟩
 ·obtain⟨i,hi,rfl⟩:=mem n hn;exact(key i hi).2.2.2.1
 ·obtain⟨i,hi,rfl⟩:=mem n hn;exact(key i hi).1
 ·obtain⟨k,hk⟩:=fZ hp;obtain⟨hlt,rfl⟩:=bF.1 hk;exact hpe k hlt
 ·obtain⟨i,hi,rfl⟩:=mem n hn;obtain⟨k,hk⟩:=fZ hp;obtain⟨hlt,rfl⟩:=bF.1 hk;exact((key i hi).2.2.2.2.2 k hlt).1
 ·obtain⟨i,hi,rfl⟩:=mem n hn;exact y6 λk hk=>((key i hi).2.2.2.2.2 k hk).2.1
 ·have one:∀(i j:Nat)(n m:Net)(p:bN),i<j->x.aQ[i]? =some n->x.aQ[j]? =some m->p∈n.aV->p∈m.aV->False:=by
   intro i j n m p hij hn hm hpn hpm;obtain⟨hj,rfl⟩:=bF.1 hm;obtain⟨k,hk⟩:=fZ hpm;obtain⟨hlt,rfl⟩:=bF.1 hk;have h5:=((key j hj).2.2.2.2.2 k hlt).2.2;unfold qD at h5;rw[List.any_eq_false]at h5;refine h5 n (dJ (i:=i) (by rw[List.getElem?_take_of_lt hij];exact hn)) ?_;simpa using hpn
  intro i j n m p hn hm hpn hpm
  rcases Nat.lt_trichotomy i j with h5|h5|h5
  ·exact(one i j n m p h5 hn hm hpn hpm).elim
  ·exact h5
  ·exact(one j i m n p h5 hm hn hpm hpn).elim
def fI(x:aG)(p:bN):Int:=rn x.aQ<|λn=>decide<|p∈n.aV
def jy(x:aG)(i:Nat):Z (bN×Int):=(List.range i).foldl (λm k=>j6 m ((x.aQ[k]?.map Net.aV).getD []) ((k:Nat):Int)) []
theorem nO{x:aG}{i:Nat}{n:Net}(h:x.aQ[i]? =some n):jy x (i+1)=j6 (jy x i) n.aV (i:Int):=by
 unfold jy;rw[List.range_succ,List.foldl_append,List.foldl_cons,List.foldl_nil,h];rfl
theorem AO{x:aG}(hb:xk x):iu N x=some (jy x x.aQ.length):=by
 have:=hb.nl;unfold iu
 rw[jT (s:=([]:Z (bN×Int))) (jy x) (by omega) rfl (λk hk=>by
  have hx:x.aQ[k]? =some x.aQ[k]:=aN hk;have:=hb.np _<|db hk
  rw[du hx,aA,tN _ (by omega),aA,nO hx]),aA]
theorem qV{x:aG}{p:bN}:∀(i:Nat),i<=x.aQ.length->fM (jy x i) p=(x.aQ.take i).any (λn=>decide<|p∈n.aV)
 | 0,_=>by simp[jy,fM]
 |i+1,h=>by
  have hx:x.aQ[i]? =some x.aQ[i]:=aN (by omega);rw[nO hx,xd,qV i (by omega),ek (by omega),List.any_append];simp[Bool.or_comm]
theorem qW{x:aG}{p:bN}{j:Nat}(hj:∀k n,x.aQ[k]? =some n->p∈n.aV->k=j)(z:Int):∀(i:Nat),i<=x.aQ.length->aZ (jy x i) p z=if(x.aQ.take i).any (λn=>decide<|p∈n.aV)=true then(j:Int)else z
 | 0,_=>by simp[jy,aZ]
 |i+1,h=>by
  have hx:x.aQ[i]? =some x.aQ[i]:=aN (by omega);rw[nO hx,oZ,qW hj z i (by omega),ek (by omega),List.any_append]
  by_cases hp:p∈x.aQ[i].aV
  ·have hji:=hj i _ hx hp;rw[aK hp,aK (by simp[hp])];omega
  ·rw[aL hp];simp[hp]
theorem y8{t:Z aC}{x:aG}(h:ey t x)(p:bN):
  fM (jy x x.aQ.length) p=decide (fI x p>=0)/\(0<=fI x p->∀z,aZ (jy x x.aQ.length) p z=fI x p):=by
 have e:fM (jy x x.aQ.length) p=x.aQ.any (λn=>decide<|p∈n.aV):=by rw[qV _<|aX _,ee]
 unfold fI;refine⟨by rw[e,xb],λh0 z=>?_⟩
 rcases iE x.aQ (λn=>decide<|p∈n.aV)with⟨h1,_⟩|⟨k,n,h1,h2,h3,_⟩
 ·rw[h1]at h0;omega
 ·have h3':p∈n.aV:=by simpa using h3
  rw[qW (j:=k) (λi m hm hp=>h.once i k m n p hm h2 hp h3') z _<|aX _,ee,h1,aK];exact gU.2 ⟨n,dJ h2,h3⟩
def dW(t:Z aC)(p:Part):aC:=(t.find?<|λy=>y.Name.jg p.bU).getD default
theorem mK{t:Z aC}{p:Part}(h:0<=nat? aC.Name t p.bU):∃k:Nat,nat? aC.Name t p.bU=(k:Int)/\t[k]? =some (dW t p):=by
 rcases gq aC.Name t p.bU with⟨h1,_⟩|⟨k,y,h1,h2,_⟩
 ·omega
 ·refine⟨k,h1,?_⟩;unfold dW;rw[mH h1 h2];exact h2
theorem wo{α β:Type}{l:Z α}{body:Nat->Z β->aW (Z β)}{s0:Z β}(f:α->Z β)(hl:l.length<=4611686018427387904)
  (h:∀k y,l[k]? =some y->body k (s0++(l.take k).flatMap f)=some (s0++(l.take k).flatMap f++f y)):j8 l.length body s0=some (s0++l.flatMap f):=by
 rw[jT (s:=s0) (λk=>s0++(l.take k).flatMap f) hl (by simp) (λk hk=>by
  rw[h k l[k] (aN hk),ek hk,List.flatMap_append,jO];simp),ee]
theorem qX{α β:Type}(f:α->Z β)(b:Nat):∀(l:Z α),(∀x∈l,(f x).length<=b)->(l.flatMap f).length<=l.length*b
 | [],_=>by simp
 |x::l,h=>by
  have h1:=h x (by simp);have h2:=qX f b l<|λy hy=>h y (by simp[hy])
  rw[List.flatMap_cons,dh,gT,Nat.succ_mul];omega
theorem kF{t:Z aC}{p:Part}(hbt:bk t<=1048576)(h:0<=nat? aC.Name t p.bU):(dW t p).aV.length<=1048576:=by
 obtain⟨k,_,h2⟩:=mK h;have h3:=sd h2;rw[ll]at h3;have:=my (dW t p).aV;omega
theorem sE(hN:4194304<=N):eI N=some true:=by
 obtain⟨M,rfl⟩:∃M,N=M+64:=⟨N - 64,by omega⟩;rfl
end
section
variable {N:Nat}
theorem pY{x:aG}{s:aP}(hs:eu Net.Name x.aQ)(hl:x.aQ.length<=1048576)(hN:4194304<=N):fJ N x s=some (nat? Net.Name x.aQ s):=by
 obtain⟨r,h1,h2⟩:=rp (N:=N) (key:=Net.Name) (l:=x.aQ) (s:=s) (φ:=fR N) (λy=>rfl) hs hl hN;unfold fJ;rw[<-h2];show(tc N x.aQ s<|fR N).bind _=_;rw[h1];rfl
section
variable {α:Type}
theorem sF{key:α->aP}{l:Z α}:eu key l↔l.Pairwise (λa b=>aP.lt (key a)<|key b):=by
 rw[List.pairwise_iff_getElem];constructor
 ·intro h i j hi hj hij;exact h i j _ _ hij (aN hi)<|aN hj
 ·intro h i j x y hij hx hy;obtain⟨hi,rfl⟩:=bF.1 hx;obtain⟨hj,rfl⟩:=bF.1 hy;exact h i j hi hj hij
def x9(l:Z bN):Prop:=l.Pairwise<|λa b=>lq a b=true
theorem xl{l:Z bN}:(∀(i j:Nat)(p q:bN),i<j->l[i]? =some p->l[j]? =some q->lq p q=true)↔x9 l:=by
 unfold x9;rw[List.pairwise_iff_getElem];constructor
 ·intro h i j hi hj hij;exact h i j _ _ hij (aN hi)<|aN hj
 ·intro h i j x y hij hx hy;obtain⟨hi,rfl⟩:=bF.1 hx;obtain⟨hj,rfl⟩:=bF.1 hy;exact h i j hi hj hij
theorem eu.fx{key:α->aP}{l:Z α}(h:eu key l){k:Nat}(hk:k<l.length):Gk.fx key l k=false:=by
 unfold Gk.fx;rw[aN hk,aN (by omega:k - 1<l.length)];dsimp only
 by_cases h0:0<k
 ·rw[x0.2<|h (k - 1) k _ _ (by omega) (aN (by omega))<|aN hk];simp
 ·rw[bP h0];simp
end
end
section
variable {N:Nat}
def nQ(y:aC)(s:aP):Int:=
 match y.aV[(nat? aU.Name y.aV s).toNat]? with
 |some p=>if 0<p.cD then rn y.aV (λq=>q.cD==p.cD)else nat? aU.Name y.aV s
 |none=>nat? aU.Name y.aV s
theorem ya{y:aC}{s:aP}(hs:eu aU.Name y.aV)(hl:y.aV.length<=1048576)(h0:0<=nat? aU.Name y.aV s)(hN:4194304<=N):fG N y s=some (nQ y s):=by
 unfold fG nQ;rw[wh hs hl hN,aA]
 rcases gq aU.Name y.aV s with⟨h,_⟩|⟨k,p,h,hp,_⟩
 ·omega
 rw[h,el,du hp,aA,hp];dsimp only
 by_cases hg:0<p.cD
 ·have e:dA N y.aV (λy0=>fz N y0 p.cD)=mz y.aV (λy0=>fz N y0 p.cD):=rfl;rw[dw hg,bV,aK hg,e,oB (φ:=λy0=>fz N y0 p.cD) (λq:aU=>q.cD==p.cD) (by omega)<|λx _=>rfl,aA]
 ·rw[bP hg,bJ,aL hg]
def je(x:aG)(s:aP):Part:=(x.aJ.find?<|λp=>p.Name.jg s).getD default
def C3(t:Z aC)(x:aG)(p:bN):Int:=nQ (dW t<|je x p.Part) p.bN
theorem pZ{x:aG}{s:aP}(h:0<=nat? Part.Name x.aJ s):∃k:Nat,nat? Part.Name x.aJ s=(k:Int)/\x.aJ[k]? =some (je x s):=by
 rcases gq Part.Name x.aJ s with⟨h1,_⟩|⟨k,y,h1,h2,_⟩
 ·omega
 ·refine⟨k,h1,?_⟩;unfold je;rw[mH h1 h2];exact h2
theorem nR{t:Z aC}{l:Z Part}{p:bN}(h:i6 t l p=true):0<=nat? Part.Name l p.Part:=by
 rcases gq Part.Name l p.Part with⟨h1,_⟩|⟨k,y,h1,h2,_⟩
 ·unfold i6 at h;rw[tP h1]at h;cases h
 ·omega
theorem sG{t:Z aC}{x:aG}{p:bN}(h:i6 t x.aJ p=true):0<=nat? aU.Name (dW t<|je x p.Part).aV p.bN:=by
 unfold i6 at h;have e1:je x p.Part=(x.aJ.find?<|λq=>q.Name.jg p.Part).getD default:=rfl;split at h
 ·cases h
 rename_i q hq;rw[hq]at e1;simp only[Option.getD_some]at e1;have e2:dW t q=(t.find?<|λy=>y.Name.jg q.bU).getD default:=rfl;split at h
 ·cases h
 rename_i y hy;rw[hy]at e2;simp only[Option.getD_some]at e2;rw[e1,e2];have:=rr aU.Name y.aV p.bN;rw[h]at this;exact of_decide_eq_true this
theorem xm{t:Z aC}{x:aG}(hbt:bk t<=1048576)(ok:ey t x){s:aP}(h:0<=nat? Part.Name x.aJ s):
  ∃k:Nat,nat? aC.Name t (je x s).bU=(k:Int)/\t[k]? =some (dW t<|je x s)/\eu aU.Name (dW t<|je x s).aV/\(dW t<|je x s).aV.length<=1048576:=by
 obtain⟨k,_,hk⟩:=pZ h;have h1:=ok.parts.typed _<|dJ hk
 obtain⟨i,h2,h3⟩:=mK h1;exact⟨i,h2,h3,ok.types.pins _<|dJ h3,kF hbt h1⟩
end
section
variable {κ:Type}[DecidableEq κ]
def wq(m:Z (κ×Int))(k:κ):Z (κ×Int):=cP m k<|aZ m k 0+1
def lK(ks:Z κ):Z (κ×Int):=ks.foldl wq []
theorem sH(k:κ):∀(ks:Z κ)(m:Z (κ×Int)),aZ (ks.foldl wq m) k 0=aZ m k 0+((ks.count k:Nat):Int)
 | [],m=>by simp
 |a::ks,m=>by
  rw[List.foldl_cons,sH k ks,List.count_cons];unfold wq;rw[mc]
  by_cases h:k=a
  ·subst h;simp;omega
  ·have:(a==k)=false:=by simp;exact λe=>h e.symm
   simp[h,this]
theorem nS(ks:Z κ)(k:κ):aZ (lK ks) k 0=((ks.count k:Nat):Int):=by
 unfold lK;rw[sH];simp[aZ]
theorem jV(k a:κ)(x:Int):∀(m:Z (κ×Int)),a∈(cP m k x).map Prod.fst↔a=k\/a∈m.map Prod.fst
 | []=>by simp[cP]
 |p::m=>by
  have ih:=jV k a x m;unfold cP
  by_cases h:k=p.1
  ·rw[aK h];simp only[ef,fB,h];constructor
   ·rintro(h|h)
    ·exact .inl h
    ·exact .inr<|.inr h
   ·rintro(h|h|h)
    ·exact .inl h
    ·exact .inl h
    ·exact .inr h
  ·rw[aL h];simp only[ef,fB,ih];constructor
   ·rintro(h|h|h)
    ·exact .inr<|.inl h
    ·exact .inl h
    ·exact .inr<|.inr h
   ·rintro(h|h|h)
    ·exact .inr<|.inl h
    ·exact .inl h
    ·exact .inr<|.inr h
theorem uW(k:κ)(x:Int):∀{m:Z (κ×Int)},(m.map Prod.fst).Nodup->((cP m k x).map Prod.fst).Nodup
 | [],_=>by simp[cP]
 |p::m,h=>by
  rw[ef,List.nodup_cons]at h;unfold cP
  by_cases hk:k=p.1
  ·rw[aK hk,ef,List.nodup_cons];exact⟨hk▸h.1,h.2⟩
  ·rw[aL hk,ef,List.nodup_cons];refine⟨λhm=>?_,uW k x h.2⟩
   rcases(jV k _ x m).1 hm with e|e
   ·exact hk e.symm
   ·exact h.1 e
theorem tS(a:κ):∀(ks:Z κ)(m:Z (κ×Int)),a∈(ks.foldl wq m).map Prod.fst↔a∈ks\/a∈m.map Prod.fst
 | [],m=>by simp
 |k::ks,m=>by
  rw[List.foldl_cons,tS a ks];unfold wq;rw[jV,fB];constructor
  ·rintro(h|h|h)
   ·exact .inl<|.inr h
   ·exact .inl<|.inl h
   ·exact .inr h
  ·rintro((h|h)|h)
   ·exact .inr<|.inl h
   ·exact .inl h
   ·exact .inr<|.inr h
theorem yb:∀(ks:Z κ)(m:Z (κ×Int)),(m.map Prod.fst).Nodup->((ks.foldl wq m).map Prod.fst).Nodup
 | [],m,h=>h
 |k::ks,m,h=>yb ks _ (uW k _ h)
theorem sI(ks:Z κ):((lK ks).map Prod.fst).Nodup:=yb ks [] List.nodup_nil
theorem jz(ks:Z κ)(a:κ):a∈(lK ks).map Prod.fst↔a∈ks:=by
 unfold lK;rw[tS];simp
theorem j7:∀{m:Z (κ×Int)}{e:κ×Int},(m.map Prod.fst).Nodup->e∈m->aZ m e.1 0=e.2
 |p::m,e,hn,h=>by
  rw[ef,List.nodup_cons]at hn;unfold aZ;rw[List.find?_cons]
  rcases fB.1 h with rfl|h
  ·simp
  ·have hne:¬e.1=p.1:=λhe=>hn.1<|he▸List.mem_map_of_mem h
   rw[bP hne];exact j7 hn.2 h
theorem y9{ka kb:Z κ}:((lK ka).length=(lK kb).length/\∀e∈lK ka,aZ (lK kb) e.1 0=e.2)↔ka.Perm kb:=by
 have na:=sI ka;have nb:=sI kb;rw[List.perm_iff_count];constructor
 ·rintro⟨hl,h⟩k;have hA:∀a,a∈ka->ka.count a=kb.count a:=λa ha=>by
   obtain⟨e,he,rfl⟩:=cE.1<|(jz ka a).2 ha
   have h1:=h e he;rw[<-j7 na he,nS,nS]at h1;omega
  by_cases hk:k∈ka
  ·exact hA k hk
  ·rw[List.count_eq_zero_of_not_mem hk]
   by_cases hb:k∈kb
   ·exfalso
    have:=fA (l:=k::(lK ka).map Prod.fst) (m:=(lK kb).map Prod.fst) (List.nodup_cons.2 ⟨λh=>hk ((jz ka k).1 h),na⟩) (λx hx=>by
     rcases fB.1 hx with rfl|hx
     ·exact(jz kb _).2 hb
     ·have h1:=(jz ka x).1 hx;have h2:=hA x h1;have h3:=List.count_pos_iff.2 h1
      exact(jz kb x).2 (List.count_pos_iff.1 (by omega)))
    simp only[gT,cW]at this;omega
   ·exact(List.count_eq_zero_of_not_mem hb).symm
 ·intro h;have hm:∀x,x∈ka↔x∈kb:=λx=>by rw[<-List.count_pos_iff,<-List.count_pos_iff,h]
  refine⟨?_,λe he=>?_⟩
  ·have h1:=fA na<|λx hx=>(jz kb x).2<|(hm x).1<|(jz ka x).1 hx
   have h2:=fA nb<|λx hx=>(jz ka x).2<|(hm x).2<|(jz kb x).1 hx
   simp only[cW]at h1 h2;omega
  ·rw[<-j7 na he,nS,nS,h]
end
section
variable {κ ν:Type}
theorem tT(f:κ×ν->Bool):∀p:Z (κ×ν),mS (λe(_:Unit)=>(bif f e then some (.rt 12)else(some<|.nx ()):aW (Fl Unit Int))) p ()=some (if p.any f=true then .rt 12 else .go ())
 | []=>rfl
 |e::p=>by
  unfold mS;rw[List.any_cons]
  cases h:f e
  ·simp only[bJ,aA,Bool.false_or];exact tT f p
  ·simp
theorem AP{m:Z (κ×ν)}(f:κ×ν->Bool):
  qZ m (λe(_:Unit)=>(bif f e then some (.rt 12)else(some<|.nx ()):aW (Fl Unit Int))) () (λ_=>(some (.nx ()):aW (Fl Unit Int))) (λr=>some<|.rt r)=some (if m.any f=true then .rt 12 else .nx ()):=
 xP λp hp=>by
  rw[tT,hp.any_eq]
  cases m.any f <;> rfl
end
def oF(l:Z Int):Z Int:=l.mergeSort λx y=>decide<|x<=y
theorem mL(l:Z Int):(oF l).Perm l:=List.mergeSort_perm _ _
theorem wt{l m:Z Int}:oF l=oF m↔l.Perm m:=by
 constructor
 ·intro h;exact(mL l).symm.trans<|h▸mL m
 ·intro h;have srt:∀l:Z Int,(oF l).Pairwise (λa b=>a<=b):=λl=>by
   have:=List.pairwise_mergeSort (le:=λx y:Int=>decide (x<=y)) (λa b c h h'=>by
    rw[fC]at h h' ⊢;omega) (λa b=>by
    rw[dK,fC,fC];omega) l
   exact this.imp λh=>by simpa using h
  exact List.Perm.eq_of_pairwise (le:=λa b=>a<=b) (λa b _ _ h h'=>by omega) (srt l) (srt m)<|(mL l).trans<|h.trans (mL m).symm
section
variable {N:Nat}
structure UF (n:Nat) (up:Z Int) (r:Nat->Nat):Prop where
 len:up.length=n
 rt:∀i,i<n->∃u:Nat,up[i]? =some (u:Int)/\u<=i/\r u=r i/\(u=i↔r i=i)
theorem UF.le{n:Nat}{up:Z Int}{r:Nat->Nat}(h:UF n up r):∀i,i<n->r i<=i:=by
 intro i
 induction i using Nat.strongRecOn with
 |ind i ih=>
  intro hi;obtain⟨u,_,h2,h3,h4⟩:=h.rt i hi
  grind
def th(r:Nat->Nat)(a b:Nat):Nat->Nat:=λx=>if r x=max a b then min a b else r x
def sJ(r:Nat->Nat)(E:Z (Nat×Nat)):Prop:=∀p∈E,r p.1=r p.2
def AQ(n:Nat)(r:Nat->Nat)(E:Z (Nat×Nat)):Prop:=∀S:Nat->Prop,(∀p∈E,S p.1↔S p.2)->∀i j,i<n->j<n->r i=r j->S i->S j
theorem sJ.join{r:Nat->Nat}{E:Z (Nat×Nat)}(h:sJ r E)(i k:Nat)(_h2:r (r i)=r i):sJ (th r (r i)<|r k) (E++[(i,k)]):=λp hp=>by
 rcases jD.1 hp with hp|hp
 ·unfold th;rw[h p hp]
 ·simp at hp;subst hp;unfold th;dsimp only;split <;> split <;> omega
theorem AQ.join{n:Nat}{r:Nat->Nat}{E:Z (Nat×Nat)}(h:AQ n r E){i k:Nat}(hi:i<n)(hk:k<n):AQ n (th r (r i)<|r k) (E++[(i,k)]):=λS hS x y hx hy hr hSx=>by
 have hE:∀p∈E,S p.1↔S p.2:=λp hp=>hS p<|List.mem_append_left _ hp
 have hik:S i↔S k:=hS (i,k) (by simp);have key:=h S hE;unfold th at hr
 by_cases h1:r x=r y
 ·exact key x y hx hy h1 hSx
 ·have:(r x=r i/\r y=r k)\/(r x=r k/\r y=r i):=by
   split at hr <;> split at hr <;> omega
  rcases this with⟨e1,e2⟩|⟨e1,e2⟩
  ·exact key k y hk hy e2.symm<|hik.1<|key x i hx hi e1 hSx
  ·exact key i y hi hy e2.symm<|hik.2<|key x k hx hk e1 hSx
theorem AQ.id(n:Nat):AQ n (λi=>i) []:=λS _ i j _ _ h hs=>by
 have h:i=j:=h;subst h;exact hs
theorem sJ.id:sJ (λi=>i) []:=λp hp=>by simp at hp
end
def za(a b:aB):Int:=cmpL [a.e0,a.e1] [b.e0,b.e1]
theorem qF:ld za:=⟨λx=>qy _,λx y h=>by
 have:=cmpL_eq _ _ h
 cases x;cases y;simp_all,λx y=>qz _ _,λx y z=>o4 _ _ _⟩
def wu(l:Z aB):Z Int:=l.flatMap λp=>[p.e0,p.e1]
theorem tU(l:Z aB):(wu l).length=2*l.length:=by
 induction l with
 |nil=>rfl
 |cons a l ih=>simp only[wu,List.flatMap_cons,dh,gT,List.length_nil]at *;omega
def uX(l:Z aB):Z aB:=l.mergeSort λa b=>decide<|¬za b a<0
theorem qG(l:Z aB):(uX l).Perm l:=List.mergeSort_perm _ _
theorem yc(l:Z aB):SW za (uX l):=by
 have:=List.pairwise_mergeSort (le:=λa b:aB=>decide (¬za b a<0)) (λa b c h h'=>by
  rw[fC]at h h' ⊢;intro h3
  rcases qF.DU a b with e|e|e
  ·exact h'<|qF.trans _ _ _ h3 e
  ·subst e;exact h' h3
  ·exact h e) (λa b=>by
  rw[dK,fC,fC]
  by_cases h:za b a<0
  ·exact .inr λh2=>qF.D7<|qF.trans _ _ _ h h2
  ·exact .inl h) l
 exact this.imp λh=>by simpa using h
theorem yd{l m:Z aB}(hp:m.Perm l)(hm:SW za m):m=uX l:=SW.uniq qF hm (yc l)<|hp.trans (qG l).symm
theorem xn{l m:Z aB}(h:l.Perm m):uX l=uX m:=yd ((qG l).trans h)<|yc l
theorem wv(l:Z aB):(uX l).length=l.length:=(qG l).length_eq
section
variable {N:Nat}
theorem zb{row:Z aB}{s0:Z Int}(hl:row.length<=1048576)(h0:s0.length<=1048576):
  j8 row.length (λ(k145:Nat)(s146:Z Int)=>((idx row (k145:Int)).bind λx164=>(app 8 s146 ([x164.e0,x164.e1]:Z Int)).bind λx168=>some x168:aW (Z Int))) s0=some (s0++wu row):=by
 refine wo (λp:aB=>[p.e0,p.e1]) (by omega)<|λk y hy=>?_
 have hk:=(bF.1 hy).1;have h1:=tU<|row.take k
 unfold wu at h1;rw[du hy,aA,gC (by simp only[dh,gT,List.length_nil];rw[h1,bX];omega),aA]
def AR(c:Int)(r:Z aB):Z Int:=c::wu (uX r)
theorem ye(c:Int)(r:Z aB):(AR c r).length=2*r.length+1:=by unfold AR;rw[gT,tU,wv]
theorem xo{r:Z aB}(hr:r.length<=1048576):mT (eT N) r=some (uX r):=by
 obtain⟨m,h1,h2,h3⟩:=qF.sort (φ:=eT N) (l:=r) (λx _ y _=>by
  unfold eT
  rw[wg (by simp),aA];rfl) (by omega)
 rw[h1,yd h2 h3]
theorem wx{cs:Z Int}{rows:Z (Z aB)}(hc:rows.length=cs.length)(hl:cs.length<=1048576)(hr:∀r∈rows,r.length<=1048576):eL N cs rows=some (List.zipWith AR cs rows):=by
 refine HE ?_;unfold eL;refine GM (Hq (λk s=>(s.1.length=rows.length/\∀j,k<=j->s.1[j]? =rows[j]?)/\s.2=(List.zipWith AR cs rows).take k) (by omega) ⟨⟨rfl,λ_ _=>rfl⟩,rfl⟩<|λk s hk hs=>?_)<|λs hs=>GG ?_
 ·obtain⟨⟨h1,h2⟩,h3⟩:=hs;have hkr:k<rows.length:=by omega
  have hx:s.1[k]? =some rows[k]:=by rw[h2 k<|aX _,aN hkr]
  have hrl:=hr _<|db hkr
  refine G7 hk<|Hr hx<|GH (xo hrl) ?_
  rw[el];refine Hr (x:=uX rows[k]) (by rw[ff];simp;omega) ?_;rw[zb (by rw[wv];exact hrl) (by simp),aA,h3,gC (by simp only[bX,List.length_zipWith,List.length_singleton];omega),aA];refine GG ⟨⟨by simp[h1],λj hj=>?_⟩,?_⟩
  ·rw[ff,aL (by omega),ff,aL (by omega)];exact h2 j (by omega)
  ·have hz:k<(List.zipWith AR cs rows).length:=by rw[List.length_zipWith];omega
   rw[ek hz,List.getElem_zipWith];rfl
 ·rw[hs.2,ij (by rw[List.length_zipWith];omega)]
def typesOf(ls:Z aG):Z aP:=ls.flatMap λx=>x.aJ.map Part.bU
def uY(d:Z aP)(x:aG):Z Int:=x.aJ.map λp=>xe d p.bU
def xp(x:aG):Z Int:=List.replicate x.aQ.length 0
end
section
variable {N:Nat}
def mM(t:Z aC)(x:aG)(a b k:Nat)(p:Part)(z:aU):aD:=
 ⟨((a+k:Nat):Int),if 0<=fI x ⟨p.Name,z.Name⟩then(b:Int)+fI x ⟨p.Name,z.Name⟩else -1,nQ (dW t p) z.Name⟩
def mZ(t:Z aC)(x:aG)(a b k:Nat):Z aD:=(dW t<|x.aJ.getD k default).aV.map<|mM t x a b k<|x.aJ.getD k default
def kp(t:Z aC)(x:aG)(a b:Nat):Z aD:=(List.range x.aJ.length).flatMap<|mZ t x a b
theorem uZ{α:Type}(l:Z α)(p:α->Bool):rn l p<(l.length:Int):=by
 rcases iE l p with⟨h,_⟩|⟨k,x,h,h2,_⟩
 ·omega
 ·have:=(bF.1 h2).1;omega
theorem me{α:Type}{key:α->aP}{l:Z α}(hs:eu key l){k:Nat}{x:α}(hx:l[k]? =some x):nat? key l (key x)=(k:Int):=by
 refine nz hx (by rw[gk]) λj y hj hy=>?_;rw[Bool.eq_false_iff];intro h;rw[gk]at h;exact aP.ny (hs j k y x hj hy hx) h
theorem zc{t:Z aC}{x:aG}(hbt:bk t<=1048576)(ok:ey t x)(a b:Nat){k:Nat}(hk:k<x.aJ.length):(mZ t x a b k).length<=1048576:=by
 unfold mZ;rw[cW,List.getD_eq_getElem?_getD,aN hk];exact kF hbt<|ok.parts.typed _<|db hk
theorem kZ{α:Type}(f:Nat->Z α)(b:Nat):∀(n:Nat),(∀k,k<n->(f k).length<=b)->((List.range n).flatMap f).length<=n*b
 | 0,_=>by simp
 |n+1,h=>by
  have:=kZ f b n λk hk=>h k (by omega);have:=h n (by omega);rw[List.range_succ,List.flatMap_append,dh,Nat.add_mul,Nat.one_mul];simp only[List.flatMap_cons,List.flatMap_nil,fY];omega
theorem qH{t:Z aC}{x:aG}(hbt:bk t<=1048576)(ok:ey t x)(a b:Nat){n:Nat}(hn:n<=x.aJ.length):((List.range n).flatMap<|mZ t x a b).length<=1048576000:=by
 have h1:=kZ (mZ t x a b) 1048576 n λk hk=>zc hbt ok a b (by omega);have h2:n*1048576<=1000*1048576:=Nat.mul_le_mul_right _ (by have:=ok.wk;omega);omega
theorem tV{t:Z aC}{x:aG}{ty:Z aP}{ti:Z aD}{a b:Nat}(hbt:bk t<=1048576)(hx:xk x)(ok:ey t x)(hty:ty.length<=1048576)(hti:ti.length<=1048576000)(ha:a<=1048576)(hb:b<=1048576)(hN:4194304<=N):
  eF N ty ti (a:Int) (b:Int) t x=some (ty++x.aJ.map Part.bU,ti++kp t x a b,((a+x.aJ.length:Nat):Int),((b+x.aQ.length:Nat):Int)):=by
 have hfew:=ok.wk;have hfn:=ok.iI;unfold eF;rw[AO hx,aA]
 rw[jT (s:=(ty,ti)) (λk=>(ty++(x.aJ.take k).map Part.bU,ti++(List.range k).flatMap (mZ t x a b))) (by omega) (by simp) (λk hk=>by
  have hp:x.aJ[k]? =some x.aJ[k]:=aN hk;have hd:x.aJ.getD k default=x.aJ[k]:=by rw[List.getD_eq_getElem?_getD,hp];rfl
  have htyp:=ok.parts.typed _<|db hk
  obtain⟨i,h1,h2⟩:=mK htyp;have hpl:=kF hbt htyp;have hlen:=qH hbt ok a b<|Nat.le_of_lt hk
  have hsp:=ok.types.pins _<|dJ h2
  rw[du hp,aA,n5 ok.types.sorted hbt hN,aA,h1,du h2,aA,gC (by simp only[dh,cW,bX,List.length_singleton];omega),aA]
  rw[wo (λz:aU=>[mM t x a b k x.aJ[k] z]) (by omega) (λj z hz=>by
   have hj:=(bF.1 hz).1;have hm:=y8 ok ⟨x.aJ[k].Name,z.Name⟩;have hnl:fI x ⟨x.aJ[k].Name,z.Name⟩<(x.aQ.length:Int):=uZ _ _;have e:(bif fM (jy x x.aQ.length) (⟨x.aJ[k].Name,z.Name⟩:bN)then some (wrap .i64<|(b:Int)+ aZ (jy x x.aQ.length) (⟨x.aJ[k].Name,z.Name⟩:bN) (0:Int))else some (-1))=some (if 0<=fI x ⟨x.aJ[k].Name,z.Name⟩then(b:Int)+fI x ⟨x.aJ[k].Name,z.Name⟩else -1):=by
    rw[hm.1]
    by_cases h0:0<=fI x ⟨x.aJ[k].Name,z.Name⟩
    ·rw[dw h0,bV,hm.2 h0,aK h0,dF (by omega) (by omega)]
    ·rw[bP h0,bJ,aL h0]
   have h4:=qX (λz:aU=>[mM t x a b k x.aJ[k] z]) 1 ((dW t x.aJ[k]).aV.take j) (λ_ _=>by simp);rw[bX]at h4;rw[du hz,aA,e,aA,ya hsp hpl (by rw[me hsp hz];omega) hN,aA,gC (by simp only[dh,List.length_singleton];omega),aA,wrap_add (by omega)]
   rfl),aA]
  congr 2
  ·rw[ek hk,fN,<-jO];rfl
  ·rw[List.range_succ,List.flatMap_append,<-jO];congr 1;unfold mZ
   rw[List.flatMap_singleton,hd,<-List.map_eq_flatMap]),aA]
 rw[ee,wrap_add (by omega),wrap_add (by omega)];rfl
def u3(Q:Z Int)(n:Int):Int:=if 0<=n then Q.getD n.toNat 0 else -1
def Ck(Q:Z Int)(z:aD):aB:=⟨z.mark,u3 Q z.iJ⟩
def yf(P:Z Int)(z:aD):aB:=⟨P.getD z.part.toNat 0,z.mark⟩
def mf(T:Z aD)(Q:Z Int)(j:Nat):Z aB:=(T.filter λz=>z.part==(j:Int)).map<|Ck Q
def oq(T:Z aD)(P:Z Int)(j:Nat):Z aB:=(T.filter λz=>z.iJ==(j:Int)).map<|yf P
theorem tW{α:Type}(f:Nat->α)(n j:Nat)(v:α):((List.range n).map f).set j v=(List.range n).map (λi=>if i=j then v else f i):=by
 apply List.ext_getElem?;intro i;rw[ff,fX,fX]
 by_cases h:j=i
 ·subst h;rw[aK rfl]
  by_cases hl:j<n
  ·rw[aK (by simpa using hl),List.getElem?_range hl];simp
  ·rw[aL (by simpa using hl),List.getElem?_eq_none (by simpa using hl)];rfl
 ·rw[aL h]
  by_cases hl:i<n
  ·have h':¬i=j:=λe=>h e.symm;rw[List.getElem?_range hl];simp[h']
  ·rw[List.getElem?_eq_none (by simpa using hl)];rfl
def Cl(np nn:Nat)(z:aD):Prop:=(0<=z.part/\z.part<(np:Int))/\(0<=z.iJ/\z.iJ<(nn:Int)\/z.iJ = -1)
theorem zd{T:Z aD}{P Q:Z Int}{np nn:Nat}(hP:P.length=np)(hQ:Q.length=nn)(hT:∀z∈T,Cl np nn z)(hl:T.length<=4194304000):
  j8 T.length (λ(k633:Nat)(s634:Z (Z aB)×Z (Z aB))=>((idx T (k633:Int)).bind λx815=>(bif x815.iJ>=0 then((idx Q x815.iJ).bind λx848=>(idx s634.2 x815.iJ).bind λx849=>(idx P x815.part).bind λx854=>(app 16 x849 ([(⟨x854,x815.mark⟩:aB)]:Z aB)).bind λx857=>(idx s634.2 x815.iJ).bind λx859=>some (s634.2.set (Int.toNat x815.iJ) x857,x848))else some (s634.2,(-1))).bind λs846=>(idx s634.1 x815.part).bind λx875=>(app 16 x875 ([(⟨x815.mark,s846.2⟩:aB)]:Z aB)).bind λx882=>(idx s634.1 x815.part).bind λx884=>some (s634.1.set (Int.toNat x815.part) x882,s846.1):aW (Z (Z aB)×Z (Z aB)))) (List.replicate np [],List.replicate nn [])=some ((List.range np).map<|mf T Q,(List.range nn).map<|oq T P):=by
 refine(jT (λk=>((List.range np).map (mf (T.take k) Q),(List.range nn).map (oq (T.take k) P))) (by omega) (by
  have:∀(f:Nat->Z aB)(n:Nat),(∀j,f j= [])->(List.range n).map f=List.replicate n []:=λf n h=>by
   rw[List.map_congr_left (g:=λ_=>[])<|λj _=>h j,List.map_const',List.length_range]
  show((List.range np).map<|mf [] Q,(List.range nn).map<|oq [] P)=_
  rw[this (mf [] Q) np (λ_=>rfl),this (oq [] P) nn (λ_=>rfl)]) (λk hk=>?_)).trans (by rw[ee])
 have hz:=hT _<|db hk
 obtain⟨⟨p0,p1⟩,hn⟩:=hz;rw[gV _ _ hk,aA];obtain⟨j,hj⟩:∃j:Nat,T[k].part=(j:Int):=⟨T[k].part.toNat,by omega⟩;have hjn:j<np:=by omega
 have hrl:∀(p:aD->Bool)(f:aD->aB),(((T.take k).filter p).map f).length<=4194304000:=λp f=>by
  rw[cW];have:=mi p<|T.take k
  rw[bX]at this;omega
 have hfil:∀(p:aD->Bool)(f:aD->aB),((T.take<|k+1).filter p).map f=((T.take k).filter p).map f++(if p T[k]=true then [f T[k]]else []):=λp f=>by
  rw[ek hk,List.filter_append,fN];congr 1
  cases h:p T[k] <;> simp[h]
 have eP:∀c:Int,c=u3 Q T[k].iJ->((idx ((List.range np).map<|mf (T.take k) Q) T[k].part).bind λx875=>(app 16 x875 ([(⟨T[k].mark,c⟩:aB)]:Z aB)).bind λx882=>(idx ((List.range np).map<|mf (T.take k) Q) T[k].part).bind λx884=>some<|((List.range np).map<|mf (T.take k) Q).set (Int.toNat T[k].part) x882)=some ((List.range np).map<|mf (T.take<|k+1) Q):=by
  intro c hc;have hg:((List.range np).map<|mf (T.take k) Q)[j]? =some (mf (T.take k) Q j):=by rw[fX,List.getElem?_range hjn];rfl
  rw[hj,du hg,aA,gC (by have:=hrl (λz=>z.part==(j:Int))<|Ck Q;simp only[List.length_singleton];unfold mf;omega),aA,aA,el,tW];congr 1;refine List.map_congr_left λi _=>?_;unfold mf;rw[hfil]
  by_cases e:i=j
  ·subst e;rw[aK rfl,aK (by rw[hj];simp),hc];rfl
  ·rw[aL e,aL (by rw[hj,beq_iff_eq];omega),fY]
 have fin:∀(c:Int)(s2:Z (Z aB)),c=u3 Q T[k].iJ->s2=(List.range nn).map (oq (T.take<|k+1) P)->((idx ((List.range np).map<|mf (T.take k) Q) T[k].part).bind λx875=>(app 16 x875 ([(⟨T[k].mark,c⟩:aB)]:Z aB)).bind λx882=>(idx ((List.range np).map<|mf (T.take k) Q) T[k].part).bind λx884=>some (((List.range np).map<|mf (T.take k) Q).set (Int.toNat T[k].part) x882,s2))=some ((List.range np).map<|mf (T.take<|k+1) Q,(List.range nn).map<|oq (T.take<|k+1) P):=by
  intro c s2 hc h2;have:=eP c hc;subst h2;generalize hA:idx ((List.range np).map<|mf (T.take k) Q) T[k].part=A at this ⊢
  cases A with
  |none=>cases this
  |some r=>
   rw[aA]at this ⊢;generalize hB:app 16 r [(⟨T[k].mark,c⟩:aB)]=B at this ⊢
   cases B with
   |none=>cases this
   |some r2=>
    rw[aA,aA]at this ⊢;injection this with this
    rw[this]
 dsimp only
 rcases hn with⟨n0,n1⟩|hn
 ·obtain⟨i,hi⟩:∃i:Nat,T[k].iJ=(i:Int):=⟨T[k].iJ.toNat,by omega⟩;have hin:i<nn:=by omega
  have hg:((List.range nn).map<|oq (T.take k) P)[i]? =some (oq (T.take k) P i):=by rw[fX,List.getElem?_range hin];rfl
  have hq:Q[i]? =some Q[i]:=aN (by omega);have hp:P[j]? =some P[j]:=aN (by omega);rw[dw n0,bV];have e1:idx Q T[k].iJ=some Q[i]:=by rw[hi];exact du hq
  have e2:idx ((List.range nn).map<|oq (T.take k) P) T[k].iJ=some (oq (T.take k) P i):=by rw[hi];exact du hg
  have e3:idx P T[k].part=some P[j]:=by rw[hj];exact du hp
  rw[e1,aA,e2,aA,e3,aA,gC (by have:=hrl (λz=>z.iJ==(i:Int))<|yf P;simp only[List.length_singleton];unfold oq;omega),aA,aA,aA];refine fin _ _ ?_ ?_
  ·unfold u3;rw[aK n0,hi,el,List.getD_eq_getElem?_getD,hq];rfl
  ·rw[hi,el,tW];refine List.map_congr_left λm _=>?_;unfold oq;rw[hfil]
   by_cases e:m=i
   ·subst e;rw[aK rfl,aK (by rw[hi];simp)];congr 1;unfold yf;rw[hj,el,List.getD_eq_getElem?_getD,hp];rfl
   ·rw[aL e,aL (by rw[hi,beq_iff_eq];omega),fY]
 ·rw[bP (by omega),bJ,aA];refine fin _ _ ?_ ?_
  ·unfold u3;rw[aL (by omega)]
  ·refine List.map_congr_left λm _=>?_;unfold oq;rw[hfil,aL (by rw[hn,beq_iff_eq];omega),fY]
end
def off(len:Nat->Nat):Nat->Nat
 | 0=>0
 |i+1=>off len i+len i
theorem AU{len:Nat->Nat}{i j:Nat}(h:i<=j):off len i<=off len j:=by
 obtain⟨d,rfl⟩:∃d,j=i+d:=⟨j - i,by omega⟩;clear h
 induction d with
 |zero=>exact aX _
 |succ d ih=>
  have e:off len (i+(d+1))=off len (i+d)+len (i+d):=rfl;omega
theorem qI{len:Nat->Nat}{i j:Nat}(h:i<j):off len i+len i<=off len j:=AU (len:=len) (i:=i+1) h
theorem range_add{α:Type}(f:Nat->α)(a b:Nat):(List.range<|a+b).map f=(List.range a).map f++(List.range b).map (λk=>f<|a+k):=by
 rw[List.range_add,fN,List.map_map];rfl
theorem k6{α:Type}(f:Nat->α)(len:Nat->Nat):∀n,(List.range<|off len n).map f=((List.range n).map<|λi=>(List.range<|len i).map<|λk=>f<|off len i+k).flatten
 | 0=>by simp[off]
 |n+1=>by
  rw[List.range_succ,fN,List.flatten_append,<-k6 f len n];simp only[off,ef,List.map_nil,List.flatten_cons,List.flatten_nil,fY];exact range_add f _ _
theorem sK{α:Type}(l:Z α)(d:α):l=(List.range l.length).map (λj=>l.getD j d):=by
 apply List.ext_getElem?;intro i;rw[fX]
 by_cases h:i<l.length
 ·rw[List.getElem?_range h,aN h,Option.map_some,List.getD_eq_getElem?_getD,aN h];rfl
 ·rw[List.getElem?_eq_none (by omega),List.getElem?_eq_none (by simpa using h)];rfl
theorem tX{α β γ:Type}(f:α->β->γ)(a:Nat->α)(b:Nat->β)(n:Nat):List.zipWith f ((List.range n).map a) ((List.range n).map b)=(List.range n).map (λj=>f (a j)<|b j):=by
 rw[List.zipWith_map,List.zipWith_self]
theorem xq{α β:Type}{f g:α->Z β}{l:Z α}(h:∀a∈l,f a=g a):l.flatMap f=l.flatMap g:=by
 unfold List.flatMap;rw[List.map_congr_left h]
theorem nT{α:Type}{g:Nat->Z α}:∀{n:Nat},(∀j,j<n->g j= [])->(List.range n).flatMap g= []
 | 0,_=>by simp
 |n+1,h=>by
  rw[List.range_succ,List.flatMap_append,nT λj hj=>h j (by omega)];simp[h n (by omega)]
theorem iX{α:Type}{g:Nat->Z α}{i:Nat}:∀{n:Nat},i<n->(∀j,j<n->j≠i->g j= [])->(List.range n).flatMap g=g i
 | 0,h,_=>by omega
 |n+1,hi,h=>by
  rw[List.range_succ,List.flatMap_append]
  by_cases e:i=n
  ·subst e;rw[nT λj hj=>h j (by omega) (by omega)];simp
  ·rw[iX (i:=i) (by omega) λj hj hne=>h j (by omega) hne];have:=h n (by omega) (by omega);simp[this]
def sL{α:Type}(len:Nat->Nat)(n:Nat)(L:Z (Z α)):Prop:=L.length=n/\∀i,i<n->(L.getD i []).length=len i
theorem sL.flat{α:Type}{len:Nat->Nat}{n:Nat}{L:Z (Z α)}(h:sL len n L):∀i,i<=n->(L.take i).flatten.length=off len i
 | 0,_=>by simp[off]
 |i+1,hi=>by
  have hl:i<L.length:=by rw[h.1];omega
  have h2:=h.2 i (by omega);rw[List.getD_eq_getElem?_getD,aN hl]at h2;rw[ru hl,dh,h.flat i (by omega)];simp only[off];simpa using h2
theorem sL.len{α:Type}{len:Nat->Nat}{n:Nat}{L:Z (Z α)}(h:sL len n L):L.flatten.length=off len n:=by
 have:=h.flat n<|aX _
 rwa[ij (by rw[h.1];omega)]at this
theorem sL.get{α:Type}{len:Nat->Nat}{n:Nat}{L:Z (Z α)}(h:sL len n L){i k:Nat}(hi:i<n)(hk:k<len i)(d:α):L.flatten.getD (off len i+k) d=(L.getD i []).getD k d:=by
 have hl:i<L.length:=by rw[h.1];omega
 have h2:=h.2 i hi;have e:L.getD i []=L[i]:=by rw[List.getD_eq_getElem?_getD,aN hl];rfl
 rw[e]at h2 ⊢
 conv=>lhs;rw[<-List.take_append_drop i L,List.flatten_append]
 rw[List.getD_eq_getElem?_getD,gS (by rw[h.flat i (by omega)];omega),h.flat i (by omega),show off len i+k - off len i=k by omega,ku hl,List.flatten_cons,gR (by omega),List.getD_eq_getElem?_getD]
def nth(ls:Z aG)(i:Nat):aG:=ls.getD i default
def gQ(ls:Z aG)(i:Nat):Nat:=(nth ls i).aJ.length
def fm(ls:Z aG)(i:Nat):Nat:=(nth ls i).aQ.length
def o8(t:Z aC)(ls:Z aG)(n:Nat):Z aD:=(List.range n).flatMap λi=>kp t (nth ls i) (off (gQ ls) i)<|off (fm ls) i
structure jf (t:Z aC) (ls:Z aG):Prop where
 bt:bk t<=1048576
 ok:∀i,i<ls.length->ey t (nth ls i)
 wk:ls.length<=2
section
variable {t:Z aC}{ls:Z aG}
theorem jf.DV(h:jf t ls):∀i,i<=ls.length->off (gQ ls) i<=i*1000
 | 0,_=>by simp[off]
 |i+1,hi=>by
  have:=h.DV i (by omega);have:=(h.ok i (by omega)).wk;simp only[off,gQ];omega
theorem jf.DW(h:jf t ls):∀i,i<=ls.length->off (fm ls) i<=i*1000
 | 0,_=>by simp[off]
 |i+1,hi=>by
  have:=h.DW i (by omega);have:=(h.ok i (by omega)).iI;simp only[off,fm];omega
theorem jf.nP(h:jf t ls):off (gQ ls) ls.length<=2000:=by have:=h.DV _<|aX _;have:=h.wk;omega
theorem jf.nN(h:jf t ls):off (fm ls) ls.length<=2000:=by have:=h.DW _<|aX _;have:=h.wk;omega
theorem qJ{x:aG}{a b:Nat}{z:aD}:z∈kp t x a b↔∃k,k<x.aJ.length/\∃y∈(dW t<|x.aJ.getD k default).aV,z=mM t x a b k (x.aJ.getD k default) y:=by
 unfold kp mZ;simp only[List.mem_flatMap,cO,cE];constructor
 ·rintro⟨k,hk,y,hy,rfl⟩;exact⟨k,hk,y,hy,rfl⟩
 ·rintro⟨k,hk,y,hy,rfl⟩;exact⟨k,hk,y,hy,rfl⟩
theorem wy(x:aG)(a b k:Nat)(p:Part)(y:aU):(mM t x a b k p y).iJ = -1\/∃n:Nat,n<x.aQ.length/\fI x ⟨p.Name,y.Name⟩=(n:Int)/\(mM t x a b k p y).iJ=((b+n:Nat):Int):=by
 unfold mM;dsimp only;split
 ·have:fI x ⟨p.Name,y.Name⟩<(x.aQ.length:Int):=uZ _ _;exact .inr ⟨(fI x ⟨p.Name,y.Name⟩).toNat,by omega,by omega,by omega⟩
 ·exact .inl rfl
theorem BP{n:Nat}(hn:n<=ls.length):∀z∈o8 t ls n,Cl (off (gQ ls) ls.length) (off (fm ls) ls.length) z:=by
 intro z hz;obtain⟨i,hi,hz⟩:=List.mem_flatMap.1 hz;have hi:=cO.1 hi;obtain⟨k,hk,y,_,rfl⟩:=qJ.1 hz;have h1:=qI (len:=gQ ls) (i:=i) (j:=ls.length) (by omega);have h2:=qI (len:=fm ls) (i:=i) (j:=ls.length) (by omega);unfold gQ at h1;unfold fm at h2;refine⟨⟨by unfold mM;dsimp only;omega,by unfold mM;dsimp only;unfold gQ;omega⟩,?_⟩
 rcases wy (nth ls i) (off (gQ ls) i) (off (fm ls) i) k ((nth ls i).aJ.getD k default) y with e|⟨m,hm,_,e⟩
 ·exact .inr e
 ·rw[e];unfold fm at *;exact .inl ⟨by omega,by omega⟩
theorem AV(h:jf t ls){n:Nat}(hn:n<=ls.length):(o8 t ls n).length<=n*1048576000:=
 kZ _ _ n λi hi=>qH h.bt (h.ok i (by omega)) _ _<|aX _
theorem wz{x:aG}{a b k:Nat}(hk:k<x.aJ.length):(kp t x a b).filter (λz=>z.part==((a+k:Nat):Int))=mZ t x a b k:=by
 unfold kp;rw[List.filter_flatMap,iX hk<|λj hj hne=>?_]
 ·rw[List.filter_eq_self];intro z hz;obtain⟨y,_,rfl⟩:=cE.1 hz;exact beq_iff_eq.2 rfl
 ·rw[List.filter_eq_nil_iff];intro z hz;obtain⟨y,_,rfl⟩:=cE.1 hz;rw[beq_iff_eq];unfold mM;dsimp only;omega
theorem BQ{i k:Nat}(hi:i<ls.length)(hk:k<gQ ls i):(o8 t ls ls.length).filter (λz=>z.part==((off (gQ ls) i+k:Nat):Int))=mZ t (nth ls i) (off (gQ ls) i) (off (fm ls) i) k:=by
 unfold o8;rw[List.filter_flatMap,iX hi<|λj hj hne=>?_,wz hk];rw[List.filter_eq_nil_iff];intro z hz;obtain⟨m,hm,y,_,rfl⟩:=qJ.1 hz;rw[beq_iff_eq];unfold mM;dsimp only
 rcases Nat.lt_or_gt_of_ne hne with h|h
 ·have:=qI (len:=gQ ls) h;unfold gQ at *;omega
 ·have:=qI (len:=gQ ls) h;unfold gQ at *;omega
theorem BR{i n:Nat}(hi:i<ls.length)(hn:n<fm ls i):(o8 t ls ls.length).filter (λz=>z.iJ==((off (fm ls) i+n:Nat):Int))=(kp t (nth ls i) (off (gQ ls) i)<|off (fm ls) i).filter (λz=>z.iJ==((off (fm ls) i+n:Nat):Int)):=by
 unfold o8;rw[List.filter_flatMap,iX hi<|λj hj hne=>?_];rw[List.filter_eq_nil_iff];intro z hz;obtain⟨m,hm,y,_,rfl⟩:=qJ.1 hz;rw[beq_iff_eq]
 rcases wy (t:=t) (nth ls j) (off (gQ ls) j) (off (fm ls) j) m ((nth ls j).aJ.getD m default) y with e|⟨q,hq,_,e⟩
 ·rw[e];omega
 ·rw[e]
  rcases Nat.lt_or_gt_of_ne hne with h|h
  ·have:=qI (len:=fm ls) h;unfold fm at *;omega
  ·have:=qI (len:=fm ls) h;unfold fm at *;omega
def kG(t:Z aC)(x:aG):Z bN:=(List.range x.aJ.length).flatMap λk=>(dW t<|x.aJ.getD k default).aV.map λz=>⟨(x.aJ.getD k default).Name,z.Name⟩
def gN(t:Z aC)(x:aG)(P:Z Int)(q:bN):aB:=⟨P.getD (nat? Part.Name x.aJ q.Part).toNat 0,C3 t x q⟩
theorem o9{x:aG}(hs:eu Part.Name x.aJ){k:Nat}{p:Part}(hp:x.aJ[k]? =some p):je x p.Name=p:=by
 unfold je;rw[mH (me hs hp) hp];rfl
theorem k7{x:aG}{k:Nat}(hk:k<x.aJ.length):x.aJ[k]? =some (x.aJ.getD k default):=by rw[List.getD_eq_getElem?_getD,aN hk];rfl
theorem AW{x:aG}(ok:ey t x)(a b n:Nat)(P Pl:Z Int)(hP:∀k,k<x.aJ.length->P.getD (a+k) 0=Pl.getD k 0):
  ((kp t x a b).filter<|λz=>z.iJ==((b+n:Nat):Int)).map (yf P)=((kG t x).filter<|λq=>fI x q==(n:Int)).map (gN t x Pl):=by
 unfold kp kG mZ;rw[List.filter_flatMap,List.filter_flatMap,List.map_flatMap,List.map_flatMap];refine xq λk hk=>?_;have hk:=cO.1 hk;have hp:=k7 hk;generalize x.aJ.getD k default=p at hp;rw[List.filter_map,List.filter_map,List.map_map,List.map_map];have e:((λz:aD=>z.iJ==((b+n:Nat):Int))∘mM t x a b k p)=((λq=>fI x q==(n:Int))∘λz:aU=>(⟨p.Name,z.Name⟩:bN)):=by
  funext y;show((mM t x a b k p y).iJ==((b+n:Nat):Int))=(fI x ⟨p.Name,y.Name⟩==(n:Int));unfold mM;dsimp only;rw[kq,beq_iff_eq,beq_iff_eq];split <;> omega
 rw[e];refine List.map_congr_left λy hy=>?_;show(⟨P.getD (mM t x a b k p y).part.toNat 0,(mM t x a b k p y).mark⟩:aB)= ⟨Pl.getD (nat? Part.Name x.aJ p.Name).toNat 0,nQ (dW t<|je x p.Name) y.Name⟩;rw[me ok.parts.sorted hp,o9 ok.parts.sorted hp];unfold mM;dsimp only;rw[el,el,hP k hk]
theorem te{x:aG}(ok:ey t x):(kG t x).Nodup:=by
 unfold kG List.Nodup;rw[List.pairwise_flatMap];refine⟨λk hk=>?_,?_⟩
 ·have hk:=cO.1 hk;obtain⟨i,_,h2⟩:=mK<|ok.parts.typed _<|dJ<|k7 hk
  rw[List.pairwise_map];refine(sF.1<|ok.types.pins _<|dJ h2).imp λ{a b}h e=>?_;injection e with _ e
  exact aP.ny h e
 ·refine List.Pairwise.imp_of_mem (λ{a b}ha hb hab y hy z hz=>?_) List.pairwise_lt_range;have ha:=cO.1 ha;have hb:=cO.1 hb;obtain⟨u,_,rfl⟩:=cE.1 hy;obtain⟨v,_,rfl⟩:=cE.1 hz;intro e;injection e with e _
  exact aP.ny (ok.parts.sorted a b _ _ hab (k7 ha)<|k7 hb) e
theorem wA{x:aG}(ok:ey t x){q:bN}(h:i6 t x.aJ q=true):q∈kG t x:=by
 have h1:=nR h;have h2:=sG h;unfold kG;rw[List.mem_flatMap]
 rcases gq Part.Name x.aJ q.Part with⟨g1,_⟩|⟨k,p,g1,g2,g3⟩
 ·omega
 have hk:=(bF.1 g2).1;have hp:=k7 hk;rw[g2]at hp;injection hp with hp
 refine⟨k,cO.2 hk,?_⟩;rw[<-hp];have e:je x q.Part=p:=by rw[<-g3];exact o9 ok.parts.sorted g2
 rw[e]at h2
 rcases gq aU.Name (dW t p).aV q.bN with⟨f1,_⟩|⟨j,z,f1,f2,f3⟩
 ·omega
 refine cE.2 ⟨z,dJ f2,?_⟩
 cases q;simp_all
theorem ze{x:aG}{n:Nat}{q:bN}(ok:ey t x)(hn:n<x.aQ.length):fI x q=(n:Int)↔q∈x.aQ[n].aV:=by
 unfold fI;constructor
 ·intro h
  rcases iE x.aQ (λm=>decide<|q∈m.aV)with⟨h1,_⟩|⟨k,m,h1,h2,h3,_⟩
  ·omega
  ·have:k=n:=by omega
   subst this;rw[aN hn]at h2;injection h2 with h2
   rw[h2];exact of_decide_eq_true h3
 ·intro h;refine nz (aN hn) (dw h) λj m hj hm=>?_;rw[decide_eq_false_iff_not];intro h2;have:=ok.once j n m _ q hm (aN hn) h2 h;omega
theorem AX{x:aG}(ok:ey t x){n:Nat}(hn:n<x.aQ.length):((kG t x).filter<|λq=>fI x q==(n:Int)).Perm x.aQ[n].aV:=by
 have h1:((kG t x).filter<|λq=>fI x q==(n:Int)).Nodup:=(te ok).sublist List.filter_sublist;have h2:x.aQ[n].aV.Nodup:=(xl.1<|ok.CV _<|db hn).imp λ{a b}h e=>by subst e;rw[uV]at h;cases h
 have hm:∀q,q∈(kG t x).filter (λq=>fI x q==(n:Int))↔q∈x.aQ[n].aV:=λq=>by
  rw[ji,beq_iff_eq,ze ok hn];exact⟨λh=>h.2,λh=>⟨wA ok<|ok.D9 _ (db hn) q h,h⟩⟩
 rw[List.perm_iff_count];intro q;have a1:=List.nodup_iff_count.1 h1 q;have a2:=List.nodup_iff_count.1 h2 q
 by_cases hq:q∈x.aQ[n].aV
 ·have:=List.count_pos_iff.2 hq;have:=List.count_pos_iff.2<|(hm q).2 hq
  omega
 ·rw[List.count_eq_zero_of_not_mem hq,List.count_eq_zero_of_not_mem<|λh=>hq<|(hm q).1 h]
end
def qK(t:Z aC)(x:aG)(Q:Z Int)(k:Nat):Z aB:=
 (dW t<|x.aJ.getD k default).aV.map λz=>⟨nQ (dW t<|x.aJ.getD k default) z.Name,u3 Q<|fI x ⟨(x.aJ.getD k default).Name,z.Name⟩⟩
def qL(t:Z aC)(x:aG)(P:Z Int)(n:Nat):Z aB:=(x.aQ.getD n default).aV.map<|gN t x P
def Bc(t:Z aC)(x:aG)(P Q:Z Int)(k:Nat):Z Int:=AR (P.getD k 0)<|qK t x Q k
def Bd(t:Z aC)(x:aG)(P Q:Z Int)(n:Nat):Z Int:=AR (Q.getD n 0)<|qL t x P n
def SP(t:Z aC)(ls:Z aG)(Pn Qn:Z (Z Int)):Z (Z<|Z Int):=(List.range ls.length).map λi=>(List.range<|gQ ls i).map<|Bc t (nth ls i) (Pn.getD i [])<|Qn.getD i []
def SN(t:Z aC)(ls:Z aG)(Pn Qn:Z (Z Int)):Z (Z<|Z Int):=(List.range ls.length).map λi=>(List.range<|fm ls i).map<|Bd t (nth ls i) (Pn.getD i [])<|Qn.getD i []
section
variable {t:Z aC}{ls:Z aG}{Pn Qn:Z (Z Int)}{N:Nat}
theorem yg(hQ:sL (fm ls) ls.length Qn){i k:Nat}(hi:i<ls.length)(hk:k<gQ ls i):mf (o8 t ls ls.length) Qn.flatten (off (gQ ls) i+k)=qK t (nth ls i) (Qn.getD i []) k:=by
 unfold mf qK;rw[BQ hi hk];unfold mZ;rw[List.map_map];refine List.map_congr_left λy _=>?_;show(⟨_,u3 Qn.flatten (mM t (nth ls i) _ _ k _ y).iJ⟩:aB)=_;unfold mM;dsimp only;congr 1
 by_cases h:0<=fI (nth ls i) ⟨((nth ls i).aJ.getD k default).Name,y.Name⟩
 ·have hl:fI (nth ls i) ⟨((nth ls i).aJ.getD k default).Name,y.Name⟩<((nth ls i).aQ.length:Int):=uZ _ _;rw[aK h];unfold u3;rw[aK (by omega),aK h,show((off (fm ls) i:Int)+fI (nth ls i) ⟨((nth ls i).aJ.getD k default).Name,y.Name⟩).toNat=off (fm ls) i+(fI (nth ls i) ⟨((nth ls i).aJ.getD k default).Name,y.Name⟩).toNat by omega];exact hQ.get hi (by unfold fm;omega) 0
 ·rw[aL h];unfold u3;rw[aL (by omega),aL h]
theorem yh(h:jf t ls)(hP:sL (gQ ls) ls.length Pn){i n:Nat}(hi:i<ls.length)(hn:n<fm ls i):(oq (o8 t ls ls.length) Pn.flatten<|off (fm ls) i+n).Perm (qL t (nth ls i) (Pn.getD i []) n):=by
 have ok:=h.ok i hi;unfold oq qL;rw[BR hi hn,AW ok _ _ n _ (Pn.getD i [])<|λk hk=>hP.get hi hk 0];have hn':n<(nth ls i).aQ.length:=hn;have e:(nth ls i).aQ.getD n default=(nth ls i).aQ[n]:=by rw[List.getD_eq_getElem?_getD,aN hn'];rfl
 rw[e];exact(AX ok hn').map _
theorem zf{c:Int}{r s:Z aB}(h:r.Perm s):AR c r=AR c s:=by unfold AR;rw[xn h]
theorem sM(h:jf t ls){i k:Nat}(hi:i<ls.length)(hk:k<gQ ls i)(Q:Z Int):(qK t (nth ls i) Q k).length<=1048576:=by
 have ok:=h.ok i hi;unfold qK;rw[cW];exact kF h.bt<|ok.parts.typed _<|dJ<|k7 hk
theorem sN(h:jf t ls){i n:Nat}(hi:i<ls.length)(hn:n<fm ls i)(P:Z Int):(qL t (nth ls i) P n).length<=500:=by
 have ok:=h.ok i hi;have hn':n<(nth ls i).aQ.length:=hn;unfold qL;rw[cW,List.getD_eq_getElem?_getD,aN hn'];exact(ok.x8 _<|db hn').2
theorem CW(h:jf t ls)(hP:sL (gQ ls) ls.length Pn)(hQ:sL (fm ls) ls.length Qn):
  eL N Pn.flatten ((List.range<|off (gQ ls) ls.length).map<|mf (o8 t ls ls.length) Qn.flatten)=some (SP t ls Pn Qn).flatten:=by
 have hl:=hP.len;have h2000:=h.nP;rw[wx (by rw[cW,List.length_range,hl]) (by omega)<|λr hr=>?_]
 ·congr 1
  conv=>lhs;rw[sK Pn.flatten 0,hl]
  rw[tX,k6];unfold SP;congr 1;refine List.map_congr_left λi hi=>List.map_congr_left λk hk=>?_;have hi:=cO.1 hi;have hk:=cO.1 hk;rw[hP.get hi hk,yg hQ hi hk];rfl
 ·rw[k6]at hr;obtain⟨l,hl,hr⟩:=List.mem_flatten.1 hr;obtain⟨i,hi,rfl⟩:=cE.1 hl;obtain⟨k,hk,rfl⟩:=cE.1 hr;have hi:=cO.1 hi;have hk:=cO.1 hk;rw[yg hQ hi hk];exact sM h hi hk _
theorem CX(h:jf t ls)(hP:sL (gQ ls) ls.length Pn)(hQ:sL (fm ls) ls.length Qn):
  eL N Qn.flatten ((List.range<|off (fm ls) ls.length).map<|oq (o8 t ls ls.length) Pn.flatten)=some (SN t ls Pn Qn).flatten:=by
 have hl:=hQ.len;have h2000:=h.nN;rw[wx (by rw[cW,List.length_range,hl]) (by omega)<|λr hr=>?_]
 ·congr 1
  conv=>lhs;rw[sK Qn.flatten 0,hl]
  rw[tX,k6];unfold SN;congr 1;refine List.map_congr_left λi hi=>List.map_congr_left λk hk=>?_;have hi:=cO.1 hi;have hk:=cO.1 hk;rw[hQ.get hi hk,zf<|yh h hP hi hk];rfl
 ·rw[k6]at hr;obtain⟨l,hl,hr⟩:=List.mem_flatten.1 hr;obtain⟨i,hi,rfl⟩:=cE.1 hl;obtain⟨k,hk,rfl⟩:=cE.1 hr;have hi:=cO.1 hi;have hk:=cO.1 hk;have:=(yh h hP hi hk).length_eq;have:=sN h hi hk<|Pn.getD i []
  omega
theorem CY{i:Nat}(hi:i<ls.length):ls[i]? =some (nth ls i):=by unfold nth;rw[List.getD_eq_getElem?_getD,aN hi];rfl
end
noncomputable def dO{α:Type}(cf:α->α->Int)(l:Z α):Z α:=Classical.epsilon λd=>eE cf l d
theorem eE.dO{α:Type}{cf:α->α->Int}(hO:ld cf){l d:Z α}(h:eE cf l d):Gk.dO cf l=d:=by
 have h2:eE cf l (Gk.dO cf l):=Classical.epsilon_spec (p:=λd=>eE cf l d) ⟨d,h⟩;exact h2.uniq hO h λ_=>Iff.rfl
abbrev CS:=Z (Z Int)×Z (Z Int)
noncomputable def Cm(S:Z (Z<|Z Int)):Z (Z Int):=S.map λl=>l.map<|xe<|dO cmpL S.flatten
noncomputable def CZ(t:Z aC)(ls:Z aG)(s:CS):CS:=(Cm<|SP t ls s.1 s.2,Cm<|SN t ls s.1 s.2)
def yi(t:Z aC)(ls:Z aG)(s:CS):Prop:=
 (dO cmpL (SP t ls s.1 s.2).flatten).length=(dO gE s.1.flatten).length/\(dO cmpL (SN t ls s.1 s.2).flatten).length=(dO gE s.2.flatten).length
inductive rh (t:Z aC) (ls:Z aG):CS->CS->Prop
 |stop {s:CS}:yi t ls s->rh t ls s s
 |step {s r:CS}:¬yi t ls s->rh t ls (CZ t ls s) r->rh t ls s r
theorem rh.uniq{t:Z aC}{ls:Z aG}{s r r':CS}(h:rh t ls s r)(h':rh t ls s r'):r=r':=by
 induction h with
 |stop hs=>cases h' with
  |stop _=>rfl
  |step hn _=>exact absurd hs hn
 |step hn _ ih=>cases h' with
  |stop hs=>exact absurd hs hn
  |step _ h2=>exact ih h2
structure oG (ls:Z aG) (s:CS):Prop where
 sp:sL (gQ ls) ls.length s.1
 sn:sL (fm ls) ls.length s.2
 dp:∃e,eE gE s.1.flatten e
 dn:∃e,eE gE s.2.flatten e
theorem tY{α:Type}(len:Nat->Nat)(n:Nat)(f:Nat->Nat->α):sL len n ((List.range n).map λi=>(List.range<|len i).map<|f i):=by
 refine⟨by simp,λi hi=>?_⟩;rw[List.getD_eq_getElem?_getD,fX,List.getElem?_range hi];simp
theorem sL.map{α β:Type}{len:Nat->Nat}{n:Nat}{L:Z (Z α)}(h:sL len n L)(f:α->β):sL len n (L.map λl=>l.map f):=by
 refine⟨by rw[cW,h.1],λi hi=>?_⟩;have:=h.2 i hi;rw[List.getD_eq_getElem?_getD]at this ⊢;rw[fX];rw[aN (by rw[h.1];exact hi)]at this ⊢;simpa using this
theorem AY(t:Z aC)(ls:Z aG)(P Q:Z (Z Int)):sL (gQ ls) ls.length (SP t ls P Q):=tY _ _ _
theorem AZ(t:Z aC)(ls:Z aG)(P Q:Z (Z Int)):sL (fm ls) ls.length (SN t ls P Q):=tY _ _ _
theorem wB{α β:Type}(L:Z (Z α))(f:α->β):(L.map λl=>l.map f).flatten=L.flatten.map f:=by rw[List.map_flatten]
section
variable {t:Z aC}{ls:Z aG}{N:Nat}
theorem sO{S:Z (Z<|Z Int)}{d:Z (Z Int)}(h:eE cmpL S.flatten d):eE gE (Cm S).flatten ((List.range d.length).map λ(k:Nat)=>(k:Int)):=by
 unfold Cm;rw[wB,h.dO qA];exact wc qA h
theorem ry{S:Z (Z<|Z Int)}{d:Z (Z Int)}(h:eE cmpL S.flatten d):(dO gE (Cm S).flatten).length=d.length:=by
 rw[(sO h).dO km,cW,List.length_range]
theorem u4{s:CS}{dP dN:Z (Z Int)}(hP:eE cmpL (SP t ls s.1 s.2).flatten dP)(hN:eE cmpL (SN t ls s.1 s.2).flatten dN):oG ls (CZ t ls s):=
 ⟨(AY t ls s.1 s.2).map _,(AZ t ls s.1 s.2).map _,⟨_,sO hP⟩,⟨_,sO hN⟩⟩
theorem DX{s:CS}(h:oG ls s){d:Z (Z Int)}(hd:eE cmpL (SP t ls s.1 s.2).flatten d):(dO gE s.1.flatten).length<=d.length:=by
 obtain⟨e,he⟩:=h.dp;rw[he.dO km];refine x4 hd km he (λl=>l.headD 0) λy hy=>?_;obtain⟨l,hl,hy⟩:=List.mem_flatten.1 hy;obtain⟨i,hi,rfl⟩:=List.mem_iff_getElem.1 hl;obtain⟨k,hk,rfl⟩:=List.mem_iff_getElem.1 hy;have hi':i<ls.length:=by rw[<-h.sp.1];exact hi
 have e2:s.1.getD i []=s.1[i]:=by rw[List.getD_eq_getElem?_getD,aN hi];rfl
 have hk':k<gQ ls i:=by rw[<-h.sp.2 i hi',e2];exact hk
 refine⟨Bc t (nth ls i) (s.1.getD i []) (s.2.getD i []) k,List.mem_flatten.2 ⟨_,cE.2 ⟨i,cO.2 hi',rfl⟩,cE.2 ⟨k,cO.2 hk',rfl⟩⟩,?_⟩;show(s.1.getD i []).getD k 0=_;rw[e2,List.getD_eq_getElem?_getD,aN hk];rfl
theorem DY{s:CS}(h:oG ls s){d:Z (Z Int)}(hd:eE cmpL (SN t ls s.1 s.2).flatten d):(dO gE s.2.flatten).length<=d.length:=by
 obtain⟨e,he⟩:=h.dn;rw[he.dO km];refine x4 hd km he (λl=>l.headD 0) λy hy=>?_;obtain⟨l,hl,hy⟩:=List.mem_flatten.1 hy;obtain⟨i,hi,rfl⟩:=List.mem_iff_getElem.1 hl;obtain⟨k,hk,rfl⟩:=List.mem_iff_getElem.1 hy;have hi':i<ls.length:=by rw[<-h.sn.1];exact hi
 have e2:s.2.getD i []=s.2[i]:=by rw[List.getD_eq_getElem?_getD,aN hi];rfl
 have hk':k<fm ls i:=by rw[<-h.sn.2 i hi',e2];exact hk
 refine⟨Bd t (nth ls i) (s.1.getD i []) (s.2.getD i []) k,List.mem_flatten.2 ⟨_,cE.2 ⟨i,cO.2 hi',rfl⟩,cE.2 ⟨k,cO.2 hk',rfl⟩⟩,?_⟩;show(s.2.getD i []).getD k 0=_;rw[e2,List.getD_eq_getElem?_getD,aN hk];rfl
theorem DZ(h:jf t ls)(P Q:Z (Z Int)):(SP t ls P Q).flatten.length<=2000/\∀x∈(SP t ls P Q).flatten,x.length<=4611686018427387904:=by
 refine⟨by rw[(AY t ls P Q).len];exact h.nP,λx hx=>?_⟩;obtain⟨l,hl,hx⟩:=List.mem_flatten.1 hx;obtain⟨i,hi,rfl⟩:=cE.1 hl;obtain⟨k,hk,rfl⟩:=cE.1 hx;have:=sM h (cO.1 hi) (cO.1 hk)<|Q.getD i []
 unfold Bc;rw[ye];omega
theorem D0(h:jf t ls)(P Q:Z (Z Int)):(SN t ls P Q).flatten.length<=2000/\∀x∈(SN t ls P Q).flatten,x.length<=4611686018427387904:=by
 refine⟨by rw[(AZ t ls P Q).len];exact h.nN,λx hx=>?_⟩;obtain⟨l,hl,hx⟩:=List.mem_flatten.1 hx;obtain⟨i,hi,rfl⟩:=cE.1 hl;obtain⟨k,hk,rfl⟩:=cE.1 hx;have:=sN h (cO.1 hi) (cO.1 hk)<|P.getD i []
 unfold Bd;rw[ye];omega
theorem zg{s:CS}(h:jf t ls)(g:oG ls s):(dO gE s.1.flatten).length<=2000:=by
 obtain⟨e,he⟩:=g.dp;have:=he.len km;rw[g.sp.len]at this;rw[he.dO km];exact jk this h.nP
theorem zh{s:CS}(h:jf t ls)(g:oG ls s):(dO gE s.2.flatten).length<=2000:=by
 obtain⟨e,he⟩:=g.dn;have:=he.len km;rw[g.sn.len]at this;rw[he.dO km];exact jk this h.nN
theorem A0{s:CS}{dP dN:Z (Z Int)}(hP:eE cmpL (SP t ls s.1 s.2).flatten dP)(hN:eE cmpL (SN t ls s.1 s.2).flatten dN):
  yi t ls s↔dP.length=(dO gE s.1.flatten).length/\dN.length=(dO gE s.2.flatten).length:=by
 unfold yi;rw[hP.dO qA,hN.dO qA]
theorem wC{S:Z (Z<|Z Int)}{d:Z (Z Int)}(h:eE cmpL S.flatten d):S.flatten.map (xe d)=(Cm S).flatten:=by
 unfold Cm;rw[wB,h.dO qA]
noncomputable def mN(ls:Z aG):CS:=(ls.map<|uY<|dO qC<|typesOf ls,ls.map xp)
theorem u5{α:Type}{len:Nat->Nat}(f:aG->Z α)(hf:∀i,i<ls.length->(f<|nth ls i).length=len i):sL len ls.length (ls.map f):=by
 refine⟨by rw[cW],λi hi=>?_⟩;rw[List.getD_eq_getElem?_getD,fX,CY hi];exact hf i hi
theorem qM(d:Z aP):(ls.map<|uY d).flatten=(typesOf ls).map (xe d):=by
 unfold typesOf uY;rw[List.map_flatMap];unfold List.flatMap;congr 1;refine List.map_congr_left λx _=>?_;rw[List.map_map];rfl
theorem qN:∀ls:Z aG,(ls.map xp).flatten=List.replicate (ls.map xp).flatten.length 0
 | []=>rfl
 |x::ls=>by
  have ih:=qN ls;rw[ef,List.flatten_cons,dh,<-List.replicate_append_replicate,<-ih];congr 1;unfold xp;rw[mh]
theorem zi(n:Nat):eE gE (List.replicate n 0) (if n=0 then []else [0]):=by
 by_cases h:n=0
 ·subst h;exact⟨List.Pairwise.nil,λx=>by simp⟩
 ·rw[aL h];refine⟨List.pairwise_singleton _ _,λx=>?_⟩;rw[List.mem_replicate];simp[h]
theorem zj{d:Z aP}(h:eE qC (typesOf ls) d):oG ls (mN ls)/\(dO gE (mN ls).1.flatten).length=d.length/\(dO gE (mN ls).2.flatten).length=(if 1<off (fm ls) ls.length then 1 else off (fm ls) ls.length):=by
 have hp:eE gE (mN ls).1.flatten ((List.range d.length).map λ(k:Nat)=>(k:Int)):=by
  unfold mN;rw[qM,h.dO pX];exact wc pX h
 have sn:sL (fm ls) ls.length (mN ls).2:=u5 xp λi hi=>by unfold xp fm;rw[mh]
 have hn:eE gE (mN ls).2.flatten (if off (fm ls) ls.length=0 then []else [0]):=by
  have e:(mN ls).2.flatten=List.replicate (off (fm ls) ls.length) 0:=by
   rw[<-sn.len];exact qN ls
  rw[e];exact zi _
 refine⟨⟨u5 (uY _) λi hi=>by unfold uY gQ;rw[cW],sn,⟨_,hp⟩,⟨_,hn⟩⟩,?_,?_⟩
 ·rw[hp.dO km,cW,List.length_range]
 ·rw[hn.dO km];split <;> split <;> simp <;> omega
theorem wD(ls:Z aG):(typesOf ls).length=off (gQ ls) ls.length:=by
 have:sL (gQ ls) ls.length (ls.map<|uY []):=u5 (uY []) λi hi=>by unfold uY gQ;rw[cW]
 rw[<-this.len,qM,cW]
theorem u6(h:jf t ls)(hN:4194304<=N):
  Ok (eJ N (typesOf ls) (o8 t ls ls.length) ((off (gQ ls) ls.length:Nat):Int) ((off (fm ls) ls.length:Nat):Int)) (λr=>∃s,oG ls s/\rh t ls (mN ls) s/\r=(s.1.flatten,s.2.flatten)):=by
 have hnP:=h.nP;have hnN:=h.nN;unfold eJ;refine GM (y5 (by rw[wD];omega) hN) ?_;rintro x31⟨d,hd,rfl⟩;obtain⟨hg,hc1,hc2⟩:=zj hd;refine GH (pQ _ (by omega)) ?_;have e1:(typesOf ls).map (xe d)=(mN ls).1.flatten:=by unfold mN;rw[qM,hd.dO pX]
 have e2:List.replicate (off (fm ls) ls.length) (0:Int)=(mN ls).2.flatten:=by
  rw[<-hg.sn.len];exact(qN ls).symm
 have e3:(if 1<((off (fm ls) ls.length:Nat):Int)then(1:Int)else((off (fm ls) ls.length:Nat):Int))=(((dO gE (mN ls).2.flatten).length:Nat):Int):=by
  rw[hc2];split <;> split <;> omega
 dsimp only;rw[e1,e2,e3,<-hc1];have hwl:=AV h<|aX ls.length
 have hwl:(o8 t ls ls.length).length<=4194304000:=by have:=h.wk;omega
 refine GM (HF (λs=>∃c,oG ls c/\(∀r,rh t ls c r->rh t ls (mN ls) r)/\s=(c.1.flatten,c.2.flatten,(((dO gE c.1.flatten).length:Nat):Int),(((dO gE c.2.flatten).length:Nat):Int)))
  (λs=>4001 -(s.2.2.1.toNat+s.2.2.2.toNat)) (Go:=λ_=>False) (Rt:=λr=>∃s,oG ls s/\rh t ls (mN ls) s/\r=(s.1.flatten,s.2.flatten)) ?_ ⟨mN ls,hg,λr hr=>hr,rfl⟩ (by omega)) (λo ho=>Hy ho (λs hs=>hs.elim) (λr hr=>GG hr))
 rintro s⟨c,g,hf,rfl⟩;dsimp only;refine GH (pQ _ (by omega))<|GH (pQ _ (by omega)) ?_
 refine GH (zd g.sp.len g.sn.len (BP<|aX _) hwl) ?_;dsimp only;obtain⟨l1,l2⟩:=DZ h c.1 c.2;obtain⟨l3,l4⟩:=D0 h c.1 c.2;refine GH (CW h g.sp g.sn)<|GM (tR (by omega) l2 hN) ?_
 rintro x904⟨dP,hdP,rfl⟩;refine GH (CX h g.sp g.sn)<|GM (tR (by omega) l4 hN) ?_
 rintro x908⟨dN,hdN,rfl⟩;dsimp only;have hst:=A0 hdP hdN;have gp:=DX g hdP;have gn:=DY g hdN;refine G2 (λhb=>HT ⟨c,g,hf _<|.stop<|hst.2 ?_,rfl⟩)<|λhb=>Hp ⟨⟨CZ t ls c,u4 hdP hdN,λr hr=>hf r<|.step (λhs=>?_) hr,?_⟩,?_⟩
 ·rw[bY,beq_iff_eq,beq_iff_eq]at hb;exact⟨by omega,by omega⟩
 ·have:=hst.1 hs;rw[this.1,this.2]at hb;simp at hb
 ·rw[wC hdP,wC hdN];unfold CZ;dsimp only;rw[ry hdP,ry hdN]
 ·have q1:=zg h<|u4 hdP hdN
  have q2:=zh h<|u4 hdP hdN
  unfold CZ at q1 q2;dsimp only at q1 q2;rw[ry hdP]at q1;rw[ry hdN]at q2;have:¬(dP.length=(dO gE c.1.flatten).length/\dN.length=(dO gE c.2.flatten).length):=λhs=>by
   rw[hs.1,hs.2]at hb;simp at hb
  simp only[el];omega
end
section
variable {κ ν:Type}
theorem wE(f:κ×ν->Bool):∀p:Z (κ×ν),mS (λe(_:Unit)=>(bif f e then some (.rt false)else(some<|.nx ()):aW (Fl Unit Bool))) p ()=some (if p.any f=true then .rt false else .go ())
 | []=>rfl
 |e::p=>by
  unfold mS;rw[List.any_cons]
  cases h:f e
  ·simp only[bJ,aA,Bool.false_or];exact wE f p
  ·simp
theorem BS{m:Z (κ×ν)}(f:κ×ν->Bool):
  qZ m (λe(_:Unit)=>(bif f e then some (.rt false)else(some<|.nx ()):aW (Fl Unit Bool))) () (λ_=>some true) (λr=>some r)=some (!m.any f):=
 xP λp hp=>by
  rw[wE,hp.any_eq]
  cases m.any f <;> rfl
end
section
variable {N:Nat}
theorem yj{l:Z Int}{f:Nat}(hl:l.length<=1048576):iw N l (f:Int)=some (decide<|(l.take f).Perm<|l.drop f):=by
 refine HE ?_;unfold iw;refine GM (Hq (λk m=>(m.map Prod.fst).Nodup/\(∀c,c∈m.map Prod.fst↔c∈l.take k)/\∀c,aZ m c 0=((((l.take f).take k).count c:Nat):Int) -((((l.drop f).take<|k - f).count c:Nat):Int)) (by omega) ⟨by simp,by simp,λc=>by simp[aZ]⟩<|λk m hk hm=>?_)<|λm hm=>?_
 ·obtain⟨h1,h2,h3⟩:=hm;have hc1:=λc=>List.count_le_length (a:=c) (l:=(l.take f).take k);have hc2:=λc=>List.count_le_length (a:=c) (l:=(l.drop f).take<|k - f);simp only[bX,fO]at hc1 hc2;refine G7 hk ?_;have key:∀d:Int,(∀c,((((l.take f).take<|k+1).count c:Nat):Int) -((((l.drop f).take<|k+1 - f).count c:Nat):Int)=((((l.take f).take k).count c:Nat):Int) -((((l.drop f).take<|k - f).count c:Nat):Int)+(if c=l[k]then d else 0))->
    Ok (some<|cP m l[k]<|aZ m l[k] 0+d) (λm=>(m.map Prod.fst).Nodup/\(∀c,c∈m.map Prod.fst↔c∈l.take (k+1))/\∀c,aZ m c 0=((((l.take f).take<|k+1).count c:Nat):Int) -((((l.drop f).take<|k+1 - f).count c:Nat):Int)):=by
   intro d hd;refine GG ⟨uW _ _ h1,λc=>?_,λc=>?_⟩
   ·rw[jV,h2,ek hk,jD];simp only[List.mem_singleton];exact Or.comm
   ·rw[mc,hd c]
    by_cases e:c=l[k]
    ·rw[aK e,aK e,h3,<-e]
    ·rw[aL e,aL e,h3];omega
  have a1:=hc1 l[k];have a2:=hc2 l[k];have a3:=h3 l[k];refine GM (P:=λm=>(m.map Prod.fst).Nodup/\(∀c,c∈m.map Prod.fst↔c∈l.take (k+1))/\∀c,aZ m c 0=((((l.take f).take<|k+1).count c:Nat):Int) -((((l.drop f).take<|k+1 - f).count c:Nat):Int)) (G2 (λhb=>?_)<|λhb=>?_)<|λm hm=>GG hm
  ·have hb:k<f:=by have:=of_decide_eq_true hb;omega
   rw[dF (by omega) (by omega)];refine key 1 λc=>?_;have hkf:k<(l.take f).length:=by rw[bX];omega
   rw[ek hkf,List.count_append,List.getElem_take,show k+1 - f=0 by omega,show k - f=0 by omega]
   by_cases e:c=l[k]
   ·subst e;simp
   ·have e':¬l[k]=c:=λh=>e h.symm;simp[e,e',List.count_cons]
  ·have hb:f<=k:=by have:=of_decide_eq_false hb;omega
   rw[dF (by omega) (by omega)];refine key (-1) λc=>?_;have hkf:k - f<(l.drop f).length:=by rw[fO];omega
   rw[ij (l:=l.take f) (i:=k+1) (by rw[bX];omega),ij (l:=l.take f) (i:=k) (by rw[bX];omega),show k+1 - f=(k - f)+1 by omega,ek hkf,List.count_append,List.getElem_drop];have e0:f+(k - f)=k:=by omega
   simp only[e0]
   by_cases e:c=l[k]
   ·subst e;simp;omega
   ·have e':¬l[k]=c:=λh=>e h.symm;simp[e,e',List.count_cons]
 ·obtain⟨h1,h2,h3⟩:=hm;rw[BS (λx44:Int×Int=>x44.2 != 0)];refine GG ?_;rw[ee]at h2;have h3:∀c,aZ m c 0=(((l.take f).count c:Nat):Int) -(((l.drop f).count c:Nat):Int):=λc=>by
   rw[h3,ij (l:=l.take f) (by rw[bX];omega),ij (l:=l.drop f) (by rw[fO];omega)]
  rw[kq,Bool.not_eq_true',List.any_eq_false,decide_eq_true_iff,List.perm_iff_count];constructor
  ·intro h c;have hc:=h3 c
   by_cases hm:c∈l
   ·obtain⟨e,he,rfl⟩:=cE.1<|(h2 c).2 hm
    have:=h e he;rw[<-j7 h1 he]at this;simp only[bne_iff_ne,ne_eq,Decidable.not_not]at this;omega
   ·rw[List.count_eq_zero_of_not_mem λh=>hm<|List.mem_of_mem_take h,List.count_eq_zero_of_not_mem λh=>hm<|List.mem_of_mem_drop h]
  ·intro h e he;have:=h3 e.1;rw[j7 h1 he,h e.1]at this;simp only[bne_iff_ne,ne_eq,Decidable.not_not];omega
def rA(l:Z Int)(c:Int):Z Nat:=(List.range l.length).filter λi=>l.getD i 0==c
theorem pb(a b:Z Int)(c:Int):rA (a++b) c=rA a c++(rA b c).map (λj=>a.length+j):=by
 unfold rA;rw[dh,List.range_add,List.filter_append,List.filter_map];congr 1
 ·refine List.filter_congr λi hi=>?_;have hi:=cO.1 hi;rw[List.getD_eq_getElem?_getD,List.getD_eq_getElem?_getD,gR hi]
 ·congr 1;refine List.filter_congr λi hi=>?_;show((a++b).getD (a.length+i) 0==c)=(b.getD i 0==c);rw[List.getD_eq_getElem?_getD,List.getD_eq_getElem?_getD,gS (by omega),show a.length+i - a.length=i by omega]
theorem rB{l:Z Int}{c:Int}{i:Nat}:i∈rA l c↔l[i]? =some c:=by
 unfold rA;rw[ji,cO,beq_iff_eq,List.getD_eq_getElem?_getD];constructor
 ·rintro⟨h,e⟩;rw[aN h]at e ⊢;simpa using e
 ·intro h;exact⟨(bF.1 h).1,by rw[h];rfl⟩
def g0(l:Z Int)(c:Int):Int:=match rA l c with| [j]=>(j:Int)|_=> -1
end
section
variable {N:Nat}
def pc(t:Z aC)(a b:aG):Int:=if ec t a≠0 then ec t a else ec t b
theorem p5{t:Z aC}{a b:aG}(hbt:bk t<=1048576)(hba:xk a)(hbb:xk b)(hN:4194304<=N):eR N t a b=some (pc t a b):=by
 unfold eR pc;rw[fk hbt hba hN,aA,fk hbt hbb hN,aA]
 by_cases h:ec t a=0
 ·rw[h];rfl
 ·have e:(ec t a != 0)=true:=by rw[bne_iff_ne];exact h
  rw[e,bV,aK h]
def gr(bad same:aH->Bool)(l:Z aH)(k:Nat):aW Int:=
 match l[k]? with
 |none=>none
 |some p=>if bad p=true then some 9 else if same p=false then some 6 else if fx aH.A l k=true then some 8 else if(l.take k).any (λq=>q.B.jg p.B)=true then some 7 else none
theorem xr{bad same:aH->Bool}{l:Z aH}{k:Nat}{r:Int}(h:gr bad same l k=some r):r≠0:=by
 unfold gr at h
 repeat' split at h
 all_goals (cases h;try decide)
def tZ(l:Z aH)(k:Nat):Z (aP×Bool):=j6 [] ((l.take k).map aH.B) true
theorem xt{l:Z aH}{k:Nat}{p:aH}(h:l[k]? =some p):cP (tZ l k) p.B true=tZ l (k+1):=by
 unfold tZ j6;rw[List.take_add_one,h];simp
theorem zk(l:Z aH)(k:Nat)(s:aP):aZ (tZ l k) s false=(l.take k).any (λq=>q.B.jg s):=by
 unfold tZ;rw[oZ,kq,gU];simp only[cE,gk];split
 ·rename_i h;simpa using h
 ·rename_i h;simpa[aZ]using h
theorem oH{l:Z aH}{f g:aP->aW Int}{h:Int->Int->aW Bool}{fa ga:aP->Int}{same:aH->Bool}(hl:l.length<=1048576)(hf:∀s,f s=some (fa s))(hg:∀s,g s=some (ga s))
  (hh:∀p∈l,(decide (fa p.A<0)||decide (ga p.B<0))=false->h (fa p.A) (ga p.B)=some (same p)):
  d9 N l f g h=some ((hG l.length<|gr (λp=>decide (fa p.A<0)||decide (ga p.B<0)) same l).getD 0):=by
 unfold d9
 rw[uJ (s:=([]:Z (aP×Bool))) (tZ l) (gr (λp=>decide (fa p.A<0)||decide (ga p.B<0)) same l) (by omega) rfl (λk hk _=>by
  have hx:l[k]? =some l[k]:=aN hk;rw[du hx,aA,hf,aA,hg,aA,<-xt hx];unfold gr;rw[hx];dsimp only
  rcases Bool.eq_false_or_eq_true (decide (fa l[k].A<0)||decide (ga l[k].B<0))with e1|e1
  ·simp only[e1];rfl
  ·simp only[e1];rw[bJ,hh _ (db hk) e1,aA,sf aH.A hx (by omega),aA,zk]
   cases same l[k]
   ·rfl
   ·cases fx aH.A l k
    ·cases(l.take k).any (λq=>q.B.jg l[k].B) <;> rfl
    ·rfl),aA]
 cases hG l.length (gr (λp=>decide (fa p.A<0)||decide (ga p.B<0)) same l) <;> rfl
def qY(t:Z aC)(x:aG)(num:Z (aP×Int))(p:bN):aD:=⟨aZ num p.Part 0,0,C3 t x p⟩
def fe(t:Z aC)(x:aG)(num:Z (aP×Int))(l:Z bN):Z aD:=(l.filter<|λp=>fM num p.Part).map<|qY t x num
theorem yk{t:Z aC}{x:aG}(hbt:bk t<=1048576)(ok:ey t x)(hN:4194304<=N){n:Net}(hn:n∈x.aQ)(num:Z (aP×Int)):
  j8 n.aV.length (λ(k43:Nat)(s44:Z (aD×Int))=>((idx n.aV (k43:Int)).bind λx179=>(bif fM num x179.Part then((dQ N x.aJ x179.Part).bind λx221=>(idx x.aJ x221).bind λx222=>(dd N t x222.bU).bind λx225=>(idx t x225).bind λx226=>(fG N x226 x179.bN).bind λx242=>some<|cP s44 (⟨aZ num x179.Part (0:Int),0,x242⟩:aD)<|wrap .i64<|aZ s44 (⟨aZ num x179.Part (0:Int),0,x242⟩:aD) (0:Int)+1)else some s44).bind λs214=>some s214:aW (Z<|aD×Int))) ([]:Z (aD×Int))
  = some (lK<|fe t x num n.aV):=by
 have hpl:=(ok.x8 n hn).2;have hxp:=ok.wk
 rw[jT (s:=([]:Z (aD×Int))) (λk=>lK (fe t x num (n.aV.take k))) (by omega) rfl (λk hk=>by
  have hx:n.aV[k]? =some n.aV[k]:=aN hk;rw[du hx,aA];have e:n.aV.take (k+1)=n.aV.take k++[n.aV[k]]:=by rw[List.take_add_one,hx];rfl
  rw[e];have hp:=ok.D9 n hn _<|db hk
  generalize n.aV[k]=p at hp ⊢
  cases hm:fM num p.Part
  ·rw[bJ,aA];unfold fe;rw[List.filter_append];simp[hm]
  ·have h0:=nR hp;obtain⟨j,j1,j2⟩:=pZ h0;obtain⟨i,i1,i2,i3,i4⟩:=xm hbt ok h0;rw[bV,n7 ok.parts.sorted (by omega) hN,aA,j1,du j2,aA,n5 ok.types.sorted hbt hN,aA,i1,du i2,aA,ya i3 i4 (sG hp) hN,aA,aA];have e2:fe t x num (n.aV.take k++[p])=fe t x num (n.aV.take k)++[qY t x num p]:=by
    unfold fe;rw[List.filter_append,fN];simp[hm]
   rw[e2];have e3:lK (fe t x num (n.aV.take k)++[qY t x num p])=wq (lK<|fe t x num<|n.aV.take k) (qY t x num p):=by
    unfold lK;rw[List.foldl_append];rfl
   rw[e3];unfold wq;have e4:(⟨aZ num p.Part 0,0,nQ (dW t<|je x p.Part) p.bN⟩:aD)=qY t x num p:=rfl;rw[e4,nS];have hc:(fe t x num<|n.aV.take k).count (qY t x num p)<=500:=by
    refine jk List.count_le_length ?_;unfold fe;rw[cW];refine jk (mi _ _) ?_;rw[bX];omega
   rw[jw (by omega)];rfl),ee]
def fS(x:aG)(s:aP):Net:=(x.aQ.find?<|λn=>n.Name.jg s).getD default
theorem t3{x:aG}{s:aP}(h:0<=nat? Net.Name x.aQ s):∃k:Nat,nat? Net.Name x.aQ s=(k:Int)/\x.aQ[k]? =some (fS x s):=by
 rcases gq Net.Name x.aQ s with⟨h1,_⟩|⟨k,y,h1,h2,_⟩
 ·omega
 ·refine⟨k,h1,?_⟩;unfold fS;rw[mH h1 h2];exact h2
theorem zm{t:Z aC}{x:aG}(hbt:bk t<=1048576)(ok:ey t x)(hN:4194304<=N){s:aP}(h:0<=nat? Net.Name x.aQ s)(A B:Z (aP×Int)):
  de N x s A B t=some (lK<|fe t x A (fS x s).aV):=by
 obtain⟨k,h1,h2⟩:=t3 h;have hf:=ok.iI;unfold de;rw[pY ok.mJ (by omega) hN,aA,h1,du h2,aA,yk hbt ok hN (dJ h2) A,aA]
theorem zn{t:Z aC}{x:aG}(hbt:bk t<=1048576)(ok:ey t x)(hN:4194304<=N){s:aP}(h:0<=nat? Net.Name x.aQ s)(A B:Z (aP×Int)):
  df N x s A B t=some (lK<|fe t x B (fS x s).aV):=by
 obtain⟨k,h1,h2⟩:=t3 h;have hf:=ok.iI;unfold df;rw[pY ok.mJ (by omega) hN,aA,h1,du h2,aA,yk hbt ok hN (dJ h2) B,aA]
def k8(t:Z aC)(x:aG)(n:Net)(s:aP):Z Int:=(n.aV.filter<|λp=>p.Part.jg s).map<|C3 t x
def mO(key:aH->aP)(l:Z aH):Nat->Z (aP×Int)
 | 0=>[]
 |k+1=>match l[k]? with|some p=>cP (mO key l k) (key p) (k:Int)|none=>mO key l k
theorem n8{key:aH->aP}{l:Z aH}{k:Nat}{p:aH}(h:l[k]? =some p):mO key l (k+1)=cP (mO key l k) (key p) (k:Int):=by
 conv=>lhs;unfold mO
 rw[h]
theorem sP{key:aH->aP}{l:Z aH}(s:aP):∀k,k<=l.length->(fM (mO key l k) s=true↔∃j p,j<k/\l[j]? =some p/\key p=s)
 | 0,_=>by simp[mO,fM]
 |k+1,hk=>by
  have hx:l[k]? =some l[k]:=aN (by omega);rw[n8 hx,tM,dK,sP s k (by omega),fC];constructor
  ·rintro(h|⟨j,p,h1,h2,h3⟩)
   ·exact⟨k,_,by omega,hx,h.symm⟩
   ·exact⟨j,p,by omega,h2,h3⟩
  ·rintro⟨j,p,h1,h2,h3⟩
   by_cases hj:j=k
   ·subst hj;rw[hx]at h2;injection h2 with h2;subst h2;exact .inl h3.symm
   ·exact .inr ⟨j,p,by omega,h2,h3⟩
def xu(key:aH->aP)(l:Z aH):Prop:=∀(i j:Nat)(p q:aH),l[i]? =some p->l[j]? =some q->key p=key q->i=j
theorem p6{key:aH->aP}{l:Z aH}(hi:xu key l){j:Nat}{p:aH}(hp:l[j]? =some p):∀k,k<=l.length->j<k->aZ (mO key l k) (key p) 0=(j:Int)
 | 0,_,h=>by omega
 |k+1,hk,h=>by
  have hx:l[k]? =some l[k]:=aN (by omega);rw[n8 hx,mc]
  by_cases e:key p=key l[k]
  ·rw[aK e,hi _ _ _ _ hp hx e]
  ·rw[aL e];have:j≠k:=λh=>by subst h;rw[hx]at hp;injection hp with hp;exact e (by rw[<-hp])
   exact p6 hi hp k (by omega) (by omega)
theorem mP{t:Z aC}{x:aG}{l:Z aH}{key:aH->aP}(hi:xu key l){j:Nat}{p:aH}(hp:l[j]? =some p)(m:Int)(n:Net):
  (fe t x (mO key l l.length) n.aV).count ⟨(j:Int),0,m⟩=(k8 t x n<|key p).count m:=by
 unfold fe k8;rw[List.count_eq_countP,List.count_eq_countP,List.countP_map,List.countP_map,List.countP_filter,List.countP_filter];refine List.countP_congr λq _=>?_;simp only[Function.comp,bY,beq_iff_eq];rw[sP q.Part l.length<|aX _,gk];unfold qY;constructor
 ·rintro⟨h1,i,p',h2,h3,h4⟩;injection h1 with h1 _ h5
  rw[<-h4,p6 hi h3 _ (aX _) h2]at h1;have:i=j:=by omega
  subst this;rw[hp]at h3;injection h3 with h3;subst h3
  exact⟨h5,h4.symm⟩
 ·rintro⟨h1,h2⟩;have hj:=(bF.1 hp).1;refine⟨?_,j,p,hj,hp,h2.symm⟩;rw[h2,p6 hi hp _ (aX _) hj,h1]
theorem wF{t:Z aC}{x:aG}{l:Z aH}{key:aH->aP}(hi:xu key l){n:Net}{z:aD}(h:z∈fe t x (mO key l l.length) n.aV):∃(j:Nat)(p:aH),l[j]? =some p/\z= ⟨(j:Int),0,z.mark⟩:=by
 unfold fe at h;obtain⟨q,hq,rfl⟩:=cE.1 h;obtain⟨j,p,h1,h2,h3⟩:=(sP q.Part l.length<|aX _).1 (ji.1 hq).2;refine⟨j,p,h2,?_⟩;unfold qY;rw[<-h3,p6 hi h2 _ (aX _) h1]
theorem zo{t:Z aC}{a b:aG}{l:Z aH}(hA:xu aH.A l)(hB:xu aH.B l)(n m:Net):
  (fe t a (mO aH.A l l.length) n.aV).Perm (fe t b (mO aH.B l l.length) m.aV)↔∀p∈l,oF (k8 t a n p.A)=oF (k8 t b m p.B):=by
 rw[List.perm_iff_count];constructor
 ·intro h p hp;obtain⟨j,hj⟩:=fZ hp;rw[wt,List.perm_iff_count];intro c;rw[<-mP hA hj c n,<-mP hB hj c m];exact h _
 ·intro h z
  by_cases hz:∃(j:Nat)(p:aH),l[j]? =some p/\z= ⟨(j:Int),0,z.mark⟩
  ·obtain⟨j,p,hp,e⟩:=hz;rw[e,mP hA hp,mP hB hp];exact List.perm_iff_count.1 (wt.1<|h p<|dJ hp) _
  ·rw[List.count_eq_zero_of_not_mem λhm=>hz<|wF hA hm,List.count_eq_zero_of_not_mem λhm=>hz<|wF hB hm]
end
def nU(p1 p2:Z Int)(k:Nat):aW aB:=
 if 0<=g0 p2 (p1.getD k 0)/\0<=g0 p1 (p1.getD k 0)then some ⟨(k:Int),g0 p2<|p1.getD k 0⟩else none
def gu(p1 p2:Z Int):Z aB:=(List.range p1.length).filterMap<|nU p1 p2
theorem wG(l:Z Int)(c:Int):g0 l c<(l.length:Int):=by
 unfold g0;split
 ·rename_i j h;have:j∈rA l c:=by rw[h];simp
  have:=(bF.1<|rB.1 this).1;omega
 ·omega
theorem xv{p1 p2:Z Int}{z:aB}(h:z∈gu p1 p2):∃k j:Nat,z= ⟨(k:Int),(j:Int)⟩/\k<p1.length/\j<p2.length:=by
 unfold gu at h;obtain⟨k,hk,h⟩:=List.mem_filterMap.1 h;have hk:=cO.1 hk;unfold nU at h;split at h
 ·rename_i hc;injection h with h
  have:=wG p2<|p1.getD k 0
  exact⟨k,(g0 p2<|p1.getD k 0).toNat,by rw[<-h,Int.toNat_of_nonneg hc.1],hk,by omega⟩
 ·cases h
theorem xw(p1 p2:Z Int):(gu p1 p2).length<=p1.length:=by
 unfold gu;have:=List.length_filterMap_le (nU p1 p2)<|List.range p1.length
 rwa[List.length_range]at this
theorem BT{p1 p2:Z Int}{i:Nat}(hi:i<p1.length):((((rA (p1++p2)<|p1.getD i 0).length:Nat):Int)==2)=true/\(∃j:Nat,(rA (p1++p2)<|p1.getD i 0)[1]? =some j/\p1.length<=j)↔0<=g0 p2 (p1.getD i 0)/\0<=g0 p1 (p1.getD i 0):=by
 have hm:i∈rA p1 (p1.getD i 0):=rB.2 (by rw[List.getD_eq_getElem?_getD,aN hi];rfl);rw[pb];unfold g0;generalize hA:rA p1 (p1.getD i 0)=A at hm;have hlt:∀a∈A,a<p1.length:=λa ha=>by rw[<-hA]at ha;exact(bF.1<|rB.1 ha).1
 generalize rA p2 (p1.getD i 0)=B
 match A,hm,hlt with
 | [a],_,_=>
  match B with
  | []=>simp
  | [j]=>simp
  |j::j2::B=>simp;omega
 |a::b::A,_,hlt=>
  have hb:=hlt b (by simp);simp;intro _;omega
theorem xx{p1 p2:Z Int}{i j:Nat}(hi:i<p1.length)(h:0<=g0 p2 (p1.getD i 0)/\0<=g0 p1 (p1.getD i 0))(hj:(rA (p1++p2)<|p1.getD i 0)[1]? =some j):(j:Int)=(p1.length:Int)+g0 p2 (p1.getD i 0):=by
 rw[pb]at hj;unfold g0 at h ⊢;generalize rA p1 (p1.getD i 0)=A at h hj;generalize rA p2 (p1.getD i 0)=B at h hj ⊢
 match A,B with
 | [a],[b]=>simp at hj;dsimp only;omega
 | [],_=>simp at h
 | [a],[]=>simp at h
 | [a],_::_::_=>simp at h
 |_::_::_,_=>simp at h
section
variable {N:Nat}
theorem wH{p1 p2:Z Int}(h1:p1.length<=1048576)(h2:p2.length<=1048576)(hN:4194304<=N):gI N (p1++p2) (p1.length:Int)=some (gu p1 p2):=by
 refine HE ?_;unfold gI;have hll:(p1++p2).length<=2097152:=by rw[dh];omega
 generalize hl:p1++p2=l at hll;have hpl:∀k c,(rA (l.take k) c).length<=2097152:=λk c=>by
  refine jk (mi _ _) ?_;rw[List.length_range,bX];omega
 refine GM (Hq (λk m=>∀c,aZ m c []=(rA (l.take k) c).map λ(j:Nat)=>(j:Int)) (by omega) (λc=>by simp[aZ,rA])<|λk m hk hm=>?_)<|λm hm=>?_
 ·refine G7 hk ?_;have:=hpl k l[k];rw[gC (by rw[hm,cW,List.length_singleton];omega),aA];refine GG λc=>?_;rw[mc,ek hk,pb,bX,Nat.min_eq_left (by omega)]
  by_cases e:c=l[k]
  ·rw[aK e,hm,e,fN];congr 1;unfold rA;simp[List.range_succ]
  ·have e':¬l[k]=c:=λh=>e h.symm;rw[aL e,hm];unfold rA;simp[List.range_succ,e']
 ·rw[ee]at hm;refine GM (HF (λs=>∃i:Nat,s=((List.range i).filterMap<|nU p1 p2,(i:Int))/\i<=p1.length) (λs=>p1.length - s.2.toNat) (Go:=λs=>s.1=gu p1 p2) (Rt:=λ_=>True) ?_ ⟨0,by simp,by omega⟩ (by simp;omega))<|λo ho=>Hy ho (λs hs=>GG hs)<|λr=>r.elim
  rintro s⟨i,rfl,hi⟩;dsimp only;refine G2 (λhb=>?_)<|λhb=>HS ?_
  ·have hb:i<p1.length:=by have:=of_decide_eq_true hb;omega
   have hx:l[i]? =some (p1.getD i 0):=by rw[<-hl,gR hb,List.getD_eq_getElem?_getD,aN hb];rfl
   refine Hr hx ?_;rw[hm,<-hl];have htwo:=BT (p2:=p2) hb;have htw2:=λj=>xx (p2:=p2) (j:=j) hb;generalize hX:rA (p1++p2) (p1.getD i 0)=X at htwo htw2;have hfl:((List.range i).filterMap<|nU p1 p2).length<=1048576:=by
    have:=List.length_filterMap_le (nU p1 p2)<|List.range i
    rw[List.length_range]at this;omega
   have hnext:∀out:Z aB,out=(List.range i).filterMap (nU p1 p2)++(match nU p1 p2 i with|some z=>[z] |none=>[])->Ok (some (Fl.nx (out,wrap .i64<|(i:Int)+1):Fl (Z aB×Int) Empty)) (CQ (λs'=>(∃i:Nat,s'=((List.range i).filterMap<|nU p1 p2,(i:Int))/\i<=p1.length)/\p1.length - s'.2.toNat<p1.length - Int.toNat (i:Int)) (λs=>s.1=gu p1 p2)<|λ_=>True):=by
    intro out ho;rw[jw (by omega)];refine Hp ⟨⟨i+1,?_,by omega⟩,by simp only[el];omega⟩;have eg:List.filterMap (nU p1 p2) [i]=match nU p1 p2 i with|some z=>[z] |none=>[]:=by
     simp only[List.filterMap_cons,List.filterMap_nil]
     cases nU p1 p2 i <;> rfl
    rw[ho,List.range_succ,List.filterMap_append,eg]
   have hno:¬(0<=g0 p2 (p1.getD i 0)/\0<=g0 p1 (p1.getD i 0))->Ok (some (Fl.nx ((List.range i).filterMap (nU p1 p2),wrap .i64 ((i:Int)+1)):Fl (Z aB×Int) Empty)) (CQ (λs'=>(∃i:Nat,s'=((List.range i).filterMap (nU p1 p2),(i:Int))/\i<=p1.length)/\p1.length - s'.2.toNat<p1.length - Int.toNat (i:Int)) (λs=>s.1=gu p1 p2) (λ_=>True)):=λhn=>hnext _ (by
    unfold nU
    rw[aL hn,fY])
   rw[cW]
   by_cases hlen:((X.length:Int)==2)=true
   ·rw[hlen,bV];have hl2:X.length=2:=by rw[beq_iff_eq]at hlen;omega
    have hj:X[1]? =some X[1]:=aN (by omega);have hjx:(X.map λ(j:Nat)=>(j:Int))[1]? =some ((X[1]:Nat):Int):=by rw[fX,hj];rfl
    have e1:idx (X.map λ(j:Nat)=>(j:Int)) 1=some ((X[1]:Nat):Int):=du (k:=1) hjx;rw[e1,aA,aA]
    by_cases hge:p1.length<=X[1]
    ·have hc:=htwo.1 ⟨hlen,X[1],hj,hge⟩;have hv:=htw2 X[1] hc hj;have hlt:=wG p2<|p1.getD i 0
     rw[dw (by omega),bV,aA,gC (by simp only[List.length_singleton];omega),aA,aA,dF (by omega) (by omega)];refine hnext _ ?_;unfold nU;rw[aK hc];show _++[_]=_++[_];rw[hv];congr 3;omega
    ·rw[bP (by omega),bJ,aA];refine hno λhc=>?_;obtain⟨_,j,hj2,hj3⟩:=htwo.2 hc;rw[hj]at hj2;injection hj2 with hj2
     omega
   ·rw[ig]at hlen;rw[hlen,bJ,aA,bJ,aA];refine hno λhc=>?_;have:=(htwo.2 hc).1;rw[hlen]at this;cases this
  ·have hb:i=p1.length:=by have:=of_decide_eq_false hb;omega
   subst hb;rfl
def Cn{α:Type}[Inhabited α](na:α->aP)(A B:Z α)(z:aB):aH:=⟨na<|A.getD z.e0.toNat default,na<|B.getD z.e1.toNat default⟩
theorem sQ{α:Type}[Inhabited α](na:α->aP){A B:Z α}{p1 p2:Z Int}(hA:A.length=p1.length)(hB:B.length=p2.length)(h1:p1.length<=1048576):
  j8 (gu p1 p2).length (λ(k41:Nat)(s42:Z aH)=>((idx (gu p1 p2) (k41:Int)).bind λx78=>(idx A x78.e0).bind λx82=>(idx B x78.e1).bind λz9=>(app 32 s42 ([(⟨na x82,na z9⟩:aH)]:Z aH)).bind λx91=>some x91:aW (Z aH))) ([]:Z aH)=some ((gu p1 p2).map<|Cn na A B):=by
 have hl:=xw p1 p2;refine(jT (λk=>((gu p1 p2).take k).map<|Cn na A B) (by omega) (by simp)<|λk hk=>?_).trans (by rw[ee]);obtain⟨i,j,e,hi,hj⟩:=xv<|db hk
 rw[gV _ _ hk,aA,e];dsimp only;have ea:A[i]? =some (A.getD i default):=by rw[List.getD_eq_getElem?_getD,aN (by omega)];rfl
 have eb:B[j]? =some (B.getD j default):=by rw[List.getD_eq_getElem?_getD,aN (by omega)];rfl
 rw[du ea,aA,du eb,aA,gC (by simp only[cW,bX,List.length_singleton];omega),aA,ek hk,fN];congr 2;rw[e];unfold Cn;simp
end
section
variable {t:Z aC}{a b:aG}{N:Nat}
theorem zp(hbt:bk t<=1048576)(oka:ey t a)(okb:ey t b):jf t [a,b]:=⟨hbt,λi hi=>by
 match i,hi with
 | 0,_=>exact oka
 | 1,_=>exact okb
 |i+2,hi=>simp at hi;omega,by simp⟩
theorem wI:typesOf [a,b]=([]++a.aJ.map Part.bU)++b.aJ.map Part.bU:=by unfold typesOf;simp
theorem A1:o8 t [a,b] 2=([]++kp t a 0 0)++kp t b (0+a.aJ.length) (0+a.aQ.length):=by
 unfold o8;simp[List.range_succ,off,nth,gQ,fm]
theorem pd{t:Z aC}{a b:aG}(h:pc t a b=0):ey t a/\ey t b:=by
 unfold pc at h;split at h
 ·rename_i h1;exact absurd h h1
 ·rename_i h1;exact⟨kE<|Decidable.not_not.1 h1,kE h⟩
structure BU (t:Z aC) (a b:aG) (p1 p2 q1 q2:Z Int):Prop where
 fin:rh t [a,b] (mN [a,b]) ([p1,p2],[q1,q2])
 FJ:p1.length=a.aJ.length
 F1:p2.length=b.aJ.length
 FK:q1.length=a.aQ.length
 F2:q2.length=b.aQ.length
theorem A2{s:CS}(g:oG [a,b] s):∃p1 p2 q1 q2:Z Int,s=([p1,p2],[q1,q2])/\p1.length=a.aJ.length/\p2.length=b.aJ.length/\q1.length=a.aQ.length/\q2.length=b.aQ.length:=by
 obtain⟨s1,s2⟩:=s;obtain⟨g1,g2,_,_⟩:=g;dsimp only at g1 g2;have l1:=g1.1;have l2:=g2.1
 match s1,s2,l1,l2 with
 | [p1,p2],[q1,q2],_,_=>exact⟨p1,p2,q1,q2,rfl,g1.2 0 (by simp),g1.2 1 (by simp),g2.2 0 (by simp),g2.2 1 (by simp)⟩
theorem u7(hbt:bk t<=1048576)(ha:xk a)(hb:xk b)(h0:pc t a b=0)(hN:4194304<=N):
  ∃p1 p2 q1 q2,BU t a b p1 p2 q1 q2/\iv N t a b=some (p1++p2,q1++q2,0):=by
 obtain⟨oka,okb⟩:=pd h0;have h:=zp hbt oka okb;obtain⟨_,hr,s,g,f,rfl⟩:=u6 (N:=N) h hN;obtain⟨p1,p2,q1,q2,rfl,l1,l2,l3,l4⟩:=A2 g;refine⟨p1,p2,q1,q2,⟨f,l1,l2,l3,l4⟩,?_⟩;have hfa:=oka.wk;have hna:=oka.iI;have hta:(kp t a 0 0).length<=1048576000:=qH hbt oka 0 0<|aX _
 have hput:eF N ([]:Z aP) ([]:Z aD) 0 0 t a=some ([]++a.aJ.map Part.bU,[]++kp t a 0 0,((0+a.aJ.length:Nat):Int),((0+a.aQ.length:Nat):Int)):=
  tV (a:=0) (b:=0) hbt ha oka (by simp) (by simp) (by omega) (by omega) hN
 have hput2:=tV (N:=N) (ty:=[]++a.aJ.map Part.bU) (ti:=[]++kp t a 0 0) (a:=0+a.aJ.length) (b:=0+a.aQ.length) hbt hb okb (by simp;omega) (by simpa using hta) (by omega) (by omega) hN;have e3:off (gQ [a,b]) [a,b].length=0+a.aJ.length+b.aJ.length:=rfl;have e4:off (fm [a,b]) [a,b].length=0+a.aQ.length+b.aQ.length:=rfl;have e2:o8 t [a,b] [a,b].length=([]++kp t a 0 0)++kp t b (0+a.aJ.length) (0+a.aQ.length):=A1;rw[wI,e2,e3,e4]at hr;unfold iv;rw[p5 hbt ha hb hN,aA,h0,show((0:Int) != 0)=false from rfl,bJ,hput,aA];dsimp only;rw[hput2,aA];dsimp only;rw[hr,aA];simp
theorem A3(hbt:bk t<=1048576)(ha:xk a)(hb:xk b)(h0:pc t a b=0)(hN:4194304<=N){p1 p2 q1 q2:Z Int}(hc:BU t a b p1 p2 q1 q2):
  iO N t a b=some (decide (p1.Perm p2)&&decide (q1.Perm q2),0):=by
 obtain⟨oka,okb⟩:=pd h0;have hfa:=oka.wk;have hfb:=okb.wk;have hna:=oka.iI;have hnb:=okb.iI;obtain⟨p1',p2',q1',q2',hc',hr⟩:=u7 hbt ha hb h0 hN;have e:=hc.fin.uniq hc'.fin;simp only[Prod.mk.injEq,List.cons.injEq,and_true]at e;obtain⟨⟨rfl,rfl⟩,rfl,rfl⟩:=e;have l1:=hc.FJ;have l2:=hc.F1;have l3:=hc.FK;have l4:=hc.F2;unfold iO;rw[hr,aA];dsimp only;rw[show((0:Int) != 0)=false from rfl,bJ,yj (by rw[dh];omega),aA,<-l1,List.take_left',List.drop_left',yj (by rw[dh];omega),<-l3,List.take_left',List.drop_left']
 all_goals try rfl
 by_cases g:p1.Perm p2
 ·rw[dw g,bV,aA,aA];rfl
 ·rw[bP g,bJ,aA];rfl
theorem xy(hbt:bk t<=1048576)(ha:xk a)(hb:xk b)(h0:pc t a b=0)(hN:4194304<=N){p1 p2 q1 q2:Z Int}(hc:BU t a b p1 p2 q1 q2):
  gz N t a b=some ((gu p1 p2).map<|Cn Part.Name a.aJ b.aJ,(gu q1 q2).map<|Cn Net.Name a.aQ b.aQ,0):=by
 obtain⟨oka,okb⟩:=pd h0;have hfa:=oka.wk;have hfb:=okb.wk;have hna:=oka.iI;have hnb:=okb.iI;obtain⟨p1',p2',q1',q2',hc',hr⟩:=u7 hbt ha hb h0 hN;have e:=hc.fin.uniq hc'.fin;simp only[Prod.mk.injEq,List.cons.injEq,and_true]at e;obtain⟨⟨rfl,rfl⟩,rfl,rfl⟩:=e;have l1:=hc.FJ;have l2:=hc.F1;have l3:=hc.FK;have l4:=hc.F2;unfold gz;rw[hr,aA];dsimp only;rw[show((0:Int) != 0)=false from rfl,bJ,<-l1,wH (by omega) (by omega) hN,aA,sQ Part.Name l1.symm l2.symm (by omega),aA,<-l3,wH (by omega) (by omega) hN,aA,sQ Net.Name l3.symm l4.symm (by omega),aA]
end
end Go.Gk
namespace Go.Gk
open Go IntKind Classical
def pre(b s:aP):aP:=⟨b.bK++s.bK⟩
def p7(b:aP)(p:Part):Part:=⟨pre b p.Name,p.bU⟩
def ot(b:aP)(p:bN):bN:=⟨pre b p.Part,p.bN⟩
def tf(b:aP)(n:Net):Net:=⟨pre b n.Name,n.aV.map<|ot b,[]⟩
def fT(b:aP)(x:aG):aG:=⟨x.aJ.map<|p7 b,x.aQ.map<|tf b⟩
theorem u9{b s u:aP}(h:pre b s=pre b u):s=u:=by
 unfold pre at h;injection h with h
 exact aP.ext'<|List.append_cancel_left h
theorem p8(b s u:aP):(pre b s).jg (pre b u)=s.jg u:=by
 rw[xZ,xZ,kq,fC,fC];exact⟨u9,λh=>by rw[h]⟩
theorem A4{b:aP}{p q:bN}(h:ot b p=ot b q):p=q:=by
 cases p;cases q
 unfold ot at h;injection h with h1 h2
 simp only at h1 h2;rw[u9 h1,h2]
theorem A5{b:aP}{p:bN}{l:Z bN}:ot b p∈l.map (ot b)↔p∈l:=by
 rw[cE];exact⟨λ⟨q,h1,h2⟩=>by rwa[<-A4 h2],λh=>⟨p,h,rfl⟩⟩
theorem zq(b:aP)(x:aG)(p:bN):fI (fT b x) (ot b p)=fI x p:=by
 unfold fI rn;have e:(fT b x).aQ.findIdx? (λn=>decide<|ot b p∈n.aV)=x.aQ.findIdx? (λn=>decide<|p∈n.aV):=by
  show(x.aQ.map<|tf b).findIdx? _=_;rw[List.findIdx?_map];congr 1;funext n;show decide (ot b p∈n.aV.map (ot b))=decide (p∈n.aV);rw[decide_eq_decide];exact A5
 rw[e]
section
variable {N:Nat}
theorem nV{b s:aP}(h:b.bK.length+s.bK.length<=9223372036854775807):pw b s=some (pre b s):=by unfold pw pre;rw[aK h]
theorem xz{x:aG}{b:aP}(hx:bk x<=1048576)(hb:bk b<=1048576):dZ N x b=some (fT b x):=by
 have hsm:=uU hx;have h1:=hsm.pl;have h2:=hsm.nl;rw[ki]at hb;rw[kU]at hx;refine HE ?_;unfold dZ;refine GM (Hq (λk s=>s=(x.aJ.take k).map (p7 b)) (by omega) rfl<|λk s hk e=>?_) ?_
 ·subst e;have hp:x.aJ[k]? =some x.aJ[k]:=aN hk;have hn:=hsm.pn _<|db hk
  refine Hr hp<|GH (nV (by omega))<|H6 (by simp only[cW,bX,gT,List.length_nil];omega)<|GG ?_
  rw[ek hk,fN];rfl
 rintro _ rfl;rw[ee];refine GM (Hq (λk s=>s=(x.aQ.take k).map (tf b)) (by omega) rfl<|λk s hk e=>?_) ?_
 ·subst e;have hn:x.aQ[k]? =some x.aQ[k]:=aN hk;have hnn:=hsm.nn _<|db hk
  have hnp:=hsm.np _<|db hk
  refine Hr hn<|GH (nV (by omega)) ?_
  refine GM (Hq (λj s=>s=(x.aQ[k].aV.take j).map (ot b)) (by omega) rfl<|λj s hj e=>?_) ?_
  ·subst e;have hq:x.aQ[k].aV[j]? =some x.aQ[k].aV[j]:=aN hj;have hs:x.aQ[k].aV[j].Part.bK.length<=1048576:=by
    have a1:=lC<|db hk
    rw[qq]at a1;have a2:=lC<|db hj
    rw[AD,ki]at a2;omega
   refine Hr hq<|GH (nV (by omega))<|H6 (by simp only[cW,bX,gT,List.length_nil];omega)<|GG ?_
   rw[ek hj,fN];rfl
  ·rintro _ rfl;rw[ee];refine H6 (by simp only[cW,bX,gT,List.length_nil];omega)<|GG ?_
   rw[ek hk,fN];rfl
 rintro _ rfl;rw[ee];exact GG rfl
end
end Go.Gk
namespace Go.Gk
open Go IntKind
section
variable {N:Nat}
def BV(a b:aG)(p:aH):Bool:=decide (nat? Part.Name a.aJ p.A<0)||decide (nat? Part.Name b.aJ p.B<0)
def BW(a b:aG)(p:aH):Bool:=decide (nat? Net.Name a.aQ p.A<0)||decide (nat? Net.Name b.aQ p.B<0)
def yl(a b:aG)(p:aH):Bool:=(je a p.A).bU.jg (je b p.B).bU
def pe(t:Z aC)(a b:aG)(parts:Z aH)(w:aH):Bool:=parts.any λp=>decide<|¬oF (k8 t a (fS a w.A) p.A)=oF (k8 t b (fS b w.B) p.B)
def va(t:Z aC)(a b:aG)(parts mJ:Z aH):Int:=
 if pc t a b≠0 then pc t a b else if(decide (1000<parts.length)||decide (1000<mJ.length))=true then 2 else
 ((hG parts.length<|gr (BV a b) (yl a b) parts).or<|(hG mJ.length<|gr (BW a b) (λ_=>true) mJ).or (if mJ.any (pe t a b parts)=true then some 12 else none)).getD 0
theorem vc{t:Z aC}{a b:aG}(h:pc t a b=0):ey t a/\ey t b:=by
 unfold pc at h
 by_cases h1:ec t a=0
 ·rw[aL<|λh=>h h1]at h;exact⟨kE h1,kE h⟩
 ·rw[aK h1]at h;exact absurd h h1
theorem wJ{bad same:aH->Bool}{l:Z aH}(h:hG l.length (gr bad same l)=none):
  (∀p∈l,bad p=false/\same p=true)/\xu aH.A l/\xu aH.B l:=by
 have h1:=iC.1 h;have h2:∀k p,l[k]? =some p->bad p=false/\same p=true/\fx aH.A l k=false/\(l.take k).any (λq=>q.B.jg p.B)=false:=λk p hp=>by
  have:=h1 k (bF.1 hp).1;unfold gr at this;rw[hp]at this;dsimp only at this
  cases e1:bad p
  ·cases e2:same p
   ·simp[e1,e2]at this
   ·cases e3:fx aH.A l k
    ·cases e4:(l.take k).any (λq=>q.B.jg p.B)
     ·exact⟨rfl,rfl,rfl,rfl⟩
     ·simp[e1,e2,e3,e4]at this
    ·simp[e1,e2,e3]at this
  ·simp[e1]at this
 refine⟨λp hp=>?_,λi j p q hp hq e=>?_,?_⟩
 ·obtain⟨k,hk⟩:=fZ hp;exact⟨(h2 k p hk).1,(h2 k p hk).2.1⟩
 ·exact(iR (key:=aH.A) λk hk=>(h2 k l[k]<|aN hk).2.2.1).inj hp hq e
 ·have key:∀(i j:Nat)(p q:aH),i<j->l[i]? =some p->l[j]? =some q->p.B=q.B->False:=λi j p q hij hp hq e=>by
   have:=(h2 j q hq).2.2.2;rw[List.any_eq_false]at this;exact this p (dJ (by rw[List.getElem?_take_of_lt hij];exact hp))<|gk.2 e
  intro i j p q hp hq e
  rcases Nat.lt_trichotomy i j with h|h|h
  ·exact(key i j p q h hp hq e).elim
  ·exact h
  ·exact(key j i q p h hq hp e.symm).elim
theorem t4{x y:Int}(h:(decide (x<0)||decide (y<0))=false):0<=x/\0<=y:=by
 rw[Bool.or_eq_false_iff,decide_eq_false_iff_not,decide_eq_false_iff_not]at h;omega
theorem A6{m n:Nat}:(bif decide ((m:Int)>1000)then some true else some (decide<|(n:Int)>1000))=some (decide (1000<m)||decide (1000<n)):=by
 have e1:decide ((m:Int)>1000)=decide (1000<m):=decide_eq_decide.2 (by omega);have e2:decide ((n:Int)>1000)=decide (1000<n):=decide_eq_decide.2 (by omega);rw[e1,e2]
 cases decide (1000<m) <;> rfl
theorem mQ{x:Int}(h:x≠0):(x != 0)=true:=by rw[bne_iff_ne];exact h
theorem getD_none{e:aW Int}(h:∀r,e=some r->r≠0)(h0:e.getD 0=0):e=none:=by
 cases e with
 |none=>rfl
 |some r=>exact absurd h0 (h r rfl)
theorem wK{bad same:aH->Bool}{l:Z aH}{r:Int}(h:hG l.length (gr bad same l)=some r):r≠0:=by
 obtain⟨k,_,hk,_⟩:=iD.1 h;exact xr hk
theorem sR{t:Z aC}{a b:aG}{parts mJ:Z aH}(hbt:bk t<=1048576)(hba:xk a)(hbb:xk b)(hN:4194304<=N):
  eZ N t a b parts mJ=some (va t a b parts mJ):=by
 unfold eZ va;rw[p5 hbt hba hbb hN,aA]
 by_cases h0:pc t a b=0
 case neg=>rw[mQ h0,bV,aK h0]
 obtain⟨oka,okb⟩:=vc h0;have fa:=oka.wk;have fb:=okb.wk;have fan:=oka.iI;have fbn:=okb.iI;rw[h0,aL<|λh=>h rfl,A6,aA];simp only[bne_self_eq_false,bJ]
 cases hl:(decide (1000<parts.length)||decide (1000<mJ.length))
 case true=>rfl
 rw[Bool.or_eq_false_iff,decide_eq_false_iff_not,decide_eq_false_iff_not]at hl;simp only[bJ,Bool.false_eq_true,if_false];rw[show dy N a=some a from rfl,aA,show dy N b=some b from rfl,aA]
 rw[oH (fa:=λs=>nat? Part.Name a.aJ s) (ga:=λs=>nat? Part.Name b.aJ s) (same:=yl a b) (by omega) (λs=>by
   unfold c7;rw[n7 oka.parts.sorted (by omega) hN,aA]) (λs=>by
   unfold c7;rw[n7 okb.parts.sorted (by omega) hN,aA]) (λp _ hb=>by
   obtain⟨h1,h2⟩:=t4 hb;obtain⟨j,j1,j2⟩:=pZ h1;obtain⟨i,i1,i2⟩:=pZ h2;unfold fi
   rw[j1,i1,du j2,aA,du i2,aA];rfl),aA]
 rw[show(λp:aH=>decide (nat? Part.Name a.aJ p.A<0)||decide (nat? Part.Name b.aJ p.B<0))=BV a b from rfl]
 cases hp:hG parts.length (gr (BV a b) (yl a b) parts)with
 |some r=>
  have:=wK hp;simp only[Option.getD_some,mQ this,bV,Option.some_or]
 |none=>
 simp only[Option.getD_none,bne_self_eq_false,bJ,Option.none_or];obtain⟨p1,pA,pB⟩:=wJ hp;rw[show dz N a=some a from rfl,aA,show dz N b=some b from rfl,aA]
 rw[oH (fa:=λs=>nat? Net.Name a.aQ s) (ga:=λs=>nat? Net.Name b.aQ s) (same:=λ_=>true) (by omega) (λs=>by
   unfold c8;rw[pY oka.mJ (by omega) hN,aA]) (λs=>by
   unfold c8;rw[pY okb.mJ (by omega) hN,aA]) (λp _ hb=>rfl),aA]
 rw[show(λp:aH=>decide (nat? Net.Name a.aQ p.A<0)||decide (nat? Net.Name b.aQ p.B<0))=BW a b from rfl]
 cases hn:hG mJ.length (gr (BW a b) (λ_=>true) mJ)with
 |some r=>
  have:=wK hn;simp only[Option.getD_some,mQ this,bV,Option.some_or]
 |none=>
 simp only[Option.getD_none,bne_self_eq_false,bJ,Option.none_or];obtain⟨n1,_,_⟩:=wJ hn
 rw[jT (s:=(([]:(Z (aP×Int))),([]:(Z (aP×Int))))) (λk=>(mO aH.A parts k,mO aH.B parts k)) (by omega) rfl (λk hk=>by
  have hx:parts[k]? =some parts[k]:=aN hk
  rw[du hx,aA,n8 hx,n8 hx]),aA]
 rw[uM (l:=mJ) (pe t a b parts) 12 (by omega) (λk w hw=>by
  have hm:=dJ hw;obtain⟨h1,h2⟩:=t4 (n1 w hm).1;rw[du hw,aA,zm hbt oka hN h1,aA,zn hbt okb hN h2,aA];dsimp only;rw[AP<|λ(e:aD×Int)=>aZ (lK<|fe t b (mO aH.B parts parts.length) (fS b w.B).aV) e.1 0 != e.2];have hp:=zo (t:=t) (a:=a) (b:=b) pA pB (fS a w.A)<|fS b w.B
  have hs:=y9 (ka:=fe t a (mO aH.A parts parts.length) (fS a w.A).aV) (kb:=fe t b (mO aH.B parts parts.length) (fS b w.B).aV);rw[hp]at hs;generalize lK (fe t a (mO aH.A parts parts.length) (fS a w.A).aV)=x at hs ⊢;generalize lK (fe t b (mO aH.B parts parts.length) (fS b w.B).aV)=y at hs ⊢;have hc:pe t a b parts w=false↔∀p∈parts,oF (k8 t a (fS a w.A) p.A)=oF (k8 t b (fS b w.B) p.B):=by
   unfold pe;rw[List.any_eq_false];simp
  cases hcl:pe t a b parts w
  ·obtain⟨h3,h4⟩:=hs.2<|hc.1 hcl
   have e1:(((x.length:Nat):Int) != (y.length:Int))=false:=by rw[h3];exact bne_self_eq_false _
   have e2:x.any (λe=>aZ y e.1 0 != e.2)=false:=by
    rw[List.any_eq_false];intro e he;rw[h4 e he];simp
   rw[e1,e2];rfl
  ·have hno:¬(x.length=y.length/\∀e∈x,aZ y e.1 0=e.2):=λh=>by
    rw[hc.2<|hs.1 h]at hcl;cases hcl
   by_cases h3:x.length=y.length
   ·have e1:(((x.length:Nat):Int) != (y.length:Int))=false:=by rw[h3];exact bne_self_eq_false _
    have e2:x.any (λe=>aZ y e.1 0 != e.2)=true:=by
     cases hx:x.any (λe=>aZ y e.1 0 != e.2)
     ·exfalso;rw[List.any_eq_false]at hx;exact hno ⟨h3,λe he=>by simpa using hx e he⟩
     ·rfl
    rw[e1,e2];rfl
   ·have e1:(((x.length:Nat):Int) != (y.length:Int))=true:=by rw[bne_iff_ne];omega
    rw[e1];rfl),aA]
 cases mJ.any (pe t a b parts) <;> rfl
end
section
variable {t:Z aC}{x:aG}{b:aP}{N:Nat}
theorem ym{α β:Type}(l:Z α)(f:α->β)(p:β->Bool):rn (l.map f) p=rn l (λx=>p<|f x):=by
 unfold rn;rw[List.findIdx?_map];rfl
theorem sS(b:aP)(x:aG)(s:aP):nat? Part.Name (fT b x).aJ (pre b s)=nat? Part.Name x.aJ s:=by
 unfold nat?;show rn (x.aJ.map<|p7 b) _=_;rw[ym];congr 1;funext p;exact p8 b p.Name s
theorem zu(b:aP)(x:aG)(s:aP):nat? Net.Name (fT b x).aQ (pre b s)=nat? Net.Name x.aQ s:=by
 unfold nat?;show rn (x.aQ.map<|tf b) _=_;rw[ym];congr 1;funext p;exact p8 b p.Name s
theorem wL{α β:Type}[Inhabited α][Inhabited β](l:Z α)(f:α->β)(p:β->Bool)(q:α->Bool)(h:∀x,p (f x)=q x)(hs:l.any q=true):((l.map f).find? p).getD default=f ((l.find? q).getD default):=by
 rw[List.find?_map];have e:(p∘f)=q:=funext h;rw[e]
 cases hf:l.find? q with
 |none=>
  rw[List.find?_eq_none]at hf;obtain⟨y,hy,hq⟩:=gU.1 hs;exact absurd hq<|hf y hy
 |some y=>rfl
theorem t5{s:aP}(h:0<=nat? Part.Name x.aJ s):je (fT b x) (pre b s)=p7 b (je x s):=by
 unfold je;refine wL x.aJ (p7 b) _ _ (λp=>p8 b p.Name s) ?_;have:=rr Part.Name x.aJ s;rw[<-this];exact dw h
theorem xA{s:aP}(h:0<=nat? Net.Name x.aQ s):fS (fT b x) (pre b s)=tf b (fS x s):=by
 unfold fS;refine wL x.aQ (tf b) _ _ (λp=>p8 b p.Name s) ?_;have:=rr Net.Name x.aQ s;rw[<-this];exact dw h
theorem yn{q:bN}(h:i6 t x.aJ q=true):C3 t (fT b x) (ot b q)=C3 t x q:=by
 unfold C3;show nQ (dW t<|je (fT b x)<|pre b q.Part) q.bN=_;rw[t5<|nR h];rfl
theorem C0{q:bN}(h:i6 t x.aJ q=true)(P:Z Int):gN t (fT b x) P (ot b q)=gN t x P q:=by
 unfold gN;rw[yn h];show(⟨P.getD (nat? Part.Name (fT b x).aJ<|pre b q.Part).toNat 0,_⟩:aB)=_;rw[sS]
theorem zv{k:Nat}(hk:k<x.aJ.length):(fT b x).aJ.getD k default=p7 b (x.aJ.getD k default):=by
 show(x.aJ.map<|p7 b).getD k default=_;rw[List.getD_eq_getElem?_getD,fX,k7 hk];rfl
theorem BX{k:Nat}(hk:k<x.aJ.length)(P Q:Z Int):Bc t (fT b x) P Q k=Bc t x P Q k:=by
 unfold Bc qK;rw[zv hk];congr 1;refine List.map_congr_left λz _=>?_;congr 2;exact zq b x ⟨(x.aJ.getD k default).Name,z.Name⟩
theorem BZ(ok:ey t x){n:Nat}(hn:n<x.aQ.length)(P Q:Z Int):Bd t (fT b x) P Q n=Bd t x P Q n:=by
 unfold Bd qL;have e:x.aQ[n]? =some (x.aQ.getD n default):=by rw[List.getD_eq_getElem?_getD,aN hn];rfl
 have e2:(fT b x).aQ.getD n default=tf b (x.aQ.getD n default):=by
  show(x.aQ.map<|tf b).getD n default=_;rw[List.getD_eq_getElem?_getD,fX,e];rfl
 rw[e2];show AR _ (((x.aQ.getD n default).aV.map<|ot b).map _)=_;rw[List.map_map];congr 1;exact List.map_congr_left λq hq=>C0 (ok.D9 _ (dJ e) q hq) P
def xB(s:CS):Prop:=s.1.getD 0 []=s.1.getD 1 []/\s.2.getD 0 []=s.2.getD 1 []
theorem yo(A B:Z (Z Int)):Cm [A,B]= [A.map<|xe<|dO cmpL [A,B].flatten,B.map<|xe<|dO cmpL [A,B].flatten]:=rfl
theorem C1(ok:ey t x){s:CS}(h:xB s):xB (CZ t [x,fT b x] s):=by
 have eP:SP t [x,fT b x] s.1 s.2= [(List.range x.aJ.length).map<|Bc t x (s.1.getD 0 [])<|s.2.getD 0 [],(List.range (fT b x).aJ.length).map<|Bc t (fT b x) (s.1.getD 1 [])<|s.2.getD 1 []]:=by
  unfold SP;simp[List.range_succ,gQ,nth]
 have eN:SN t [x,fT b x] s.1 s.2= [(List.range x.aQ.length).map<|Bd t x (s.1.getD 0 [])<|s.2.getD 0 [],(List.range (fT b x).aQ.length).map<|Bd t (fT b x) (s.1.getD 1 [])<|s.2.getD 1 []]:=by
  unfold SN;simp[List.range_succ,fm,nth]
 have hP:(List.range (fT b x).aJ.length).map (Bc t (fT b x) (s.1.getD 1 [])<|s.2.getD 1 [])=(List.range x.aJ.length).map (Bc t x (s.1.getD 0 [])<|s.2.getD 0 []):=by
  rw[show(fT b x).aJ.length=x.aJ.length from cW _,<-h.1,<-h.2];exact List.map_congr_left λk hk=>BX (cO.1 hk) _ _
 have hN:(List.range (fT b x).aQ.length).map (Bd t (fT b x) (s.1.getD 1 [])<|s.2.getD 1 [])=(List.range x.aQ.length).map (Bd t x (s.1.getD 0 [])<|s.2.getD 0 []):=by
  rw[show(fT b x).aQ.length=x.aQ.length from cW _,<-h.1,<-h.2];exact List.map_congr_left λk hk=>BZ ok (cO.1 hk) _ _
 unfold xB CZ;dsimp only;rw[eP,eN,hP,hN,yo,yo];exact⟨rfl,rfl⟩
theorem B0(ok:ey t x){s r:CS}(h:rh t [x,fT b x] s r)(hs:xB s):xB r:=by
 induction h with
 |stop _=>exact hs
 |step _ _ ih=>exact ih (C1 ok hs)
theorem B1:xB (mN [x,fT b x]):=by
 unfold xB mN uY xp fT;simp[p7]
theorem B2(ok:ey t x){p1 p2 q1 q2:Z Int}(h:BU t x (fT b x) p1 p2 q1 q2):p1=p2/\q1=q2:=B0 ok h.fin B1
def ie(p:Z Int):Z Nat:=(List.range p.length).filter λk=>decide<|0<=g0 p (p.getD k 0)
theorem zw{p:Z Int}{k:Nat}(hk:k<p.length)(h:0<=g0 p (p.getD k 0)):g0 p (p.getD k 0)=(k:Int):=by
 have hm:k∈rA p (p.getD k 0):=rB.2 (by rw[List.getD_eq_getElem?_getD,aN hk];rfl);unfold g0 at h ⊢;generalize rA p (p.getD k 0)=A at h hm ⊢
 match A,hm with
 | [a],hm=>simp at hm;subst hm;rfl
 |_::_::_,_=>simp at h
theorem mg{α β:Type}{f g:α->aW β}:∀{l:Z α},(∀a∈l,f a=g a)->l.filterMap f=l.filterMap g
 | [],_=>rfl
 |a::l,h=>by
  rw[List.filterMap_cons,List.filterMap_cons,h a (by simp),mg λb hb=>h b (by simp[hb])]
theorem wM(p:Z Int):gu p p=(ie p).map λ(k:Nat)=>(⟨(k:Int),(k:Int)⟩:aB):=by
 unfold gu ie;rw[<-List.filterMap_eq_map,List.filterMap_filter];refine mg λk hk=>?_;have hk:=cO.1 hk;unfold nU
 by_cases h:0<=g0 p (p.getD k 0)
 ·rw[aK ⟨h,h⟩,zw hk h];simp
 ·rw[aL λg=>h g.1,aL (by rw[bP h];decide)]
theorem rC{p:Z Int}{k:Nat}(h:k∈ie p):k<p.length:=cO.1 (ji.1 h).1
theorem A7(p:Z Int):(ie p).Pairwise (· < ·):=List.pairwise_lt_range.sublist List.filter_sublist
def rD{α:Type}[Inhabited α](na:α->aP)(b:aP)(A:Z α)(K:Z Nat):Z aH:=K.map λk=>⟨na<|A.getD k default,pre b<|na<|A.getD k default⟩
theorem A8{α:Type}[Inhabited α](na:α->aP)(f:α->α)(hf:∀a,na (f a)=pre b (na a))(A:Z α)(p:Z Int)(hA:A.length=p.length):(gu p p).map (Cn na A<|A.map f)=rD na b A (ie p):=by
 rw[wM,List.map_map];refine List.map_congr_left λk hk=>?_;have hk:=rC hk;show(⟨na<|A.getD (Int.toNat (k:Int)) default,na<|(A.map f).getD (Int.toNat (k:Int)) default⟩:aH)=_;rw[el];have e:(A.map f).getD k default=f (A.getD k default):=by
  rw[List.getD_eq_getElem?_getD,List.getD_eq_getElem?_getD,fX,aN (by omega)];rfl
 rw[e,hf]
theorem n9{α:Type}[Inhabited α]{na:α->aP}{A:Z α}{p:Z Int}(hA:A.length=p.length){w:aH}(h:w∈rD na b A (ie p)):∃(k:Nat)(a:α),A[k]? =some a/\w= ⟨na a,pre b<|na a⟩:=by
 obtain⟨k,hk,rfl⟩:=cE.1 h;have hk:=rC hk;exact⟨k,A.getD k default,by rw[List.getD_eq_getElem?_getD,aN (by omega)];rfl,rfl⟩
theorem xC{α:Type}[Inhabited α]{na:α->aP}{A:Z α}(hs:eu na A){p:Z Int}(hA:A.length=p.length):eu aH.A (rD na b A<|ie p):=by
 rw[sF];unfold rD;rw[List.pairwise_map];refine(A7 p).imp_of_mem λ{i j}hi hj hij=>?_;have hi:=rC hi;have hj:=rC hj;have e:∀k,k<A.length->A[k]? =some (A.getD k default):=λk hk=>by rw[List.getD_eq_getElem?_getD,aN hk];rfl
 exact hs i j _ _ hij (e i (by omega))<|e j (by omega)
theorem yp{α:Type}[Inhabited α]{na:α->aP}{A:Z α}(hs:eu na A){p:Z Int}(hA:A.length=p.length){bad same:aH->Bool}(h1:∀w∈rD na b A (ie p),bad w=false)(h2:∀w∈rD na b A (ie p),same w=true):
  hG (rD na b A<|ie p).length (gr bad same<|rD na b A<|ie p)=none:=by
 rw[iC];intro k hk;have hsort:=xC (b:=b) hs hA;have hm:=db hk;unfold gr;rw[aN hk];dsimp only;rw[aL (by rw[h1 _ hm];decide),aL (by rw[h2 _ hm];decide),aL (by rw[hsort.fx hk];decide),aL];intro hany;obtain⟨q,hq,he⟩:=gU.1 hany;rw[gk]at he;obtain⟨j,hj,hjk,rfl⟩:=td (j:=0) hq;obtain⟨_,a1,_,e1⟩:=n9 hA<|db hj
 obtain⟨_,a2,_,e2⟩:=n9 hA hm;have hlt:=hsort j k _ _ hjk (aN hj)<|aN hk
 rw[e1,e2]at he hlt;exact aP.ny hlt<|u9 he
theorem zx(ok:ey t x){n:Net}(hn:n∈x.aQ)(s:aP):k8 t (fT b x) (tf b n) (pre b s)=k8 t x n s:=by
 unfold k8;show((n.aV.map<|ot b).filter _).map _=_;rw[List.filter_map,List.map_map];have e:((λp:bN=>p.Part.jg<|pre b s)∘ot b)=λp=>p.Part.jg s:=funext λp=>p8 b p.Part s;rw[e];exact List.map_congr_left λq hq=>yn<|ok.D9 n hn q (ji.1 hq).1
theorem xD(h0:pc t x (fT b x)=0){p q:Z Int}(hp:x.aJ.length=p.length)(hq:x.aQ.length=q.length):
  va t x (fT b x) (rD Part.Name b x.aJ<|ie p) (rD Net.Name b x.aQ<|ie q)=0:=by
 obtain⟨ok,oky⟩:=vc h0;have hf:=ok.wk;have hfn:=ok.iI;have hk1:(ie p).length<=p.length:=by
  have:=mi (λk=>decide<|0<=g0 p (p.getD k 0))<|List.range p.length
  rwa[List.length_range]at this
 have hk2:(ie q).length<=q.length:=by
  have:=mi (λk=>decide<|0<=g0 q (q.getD k 0))<|List.range q.length
  rwa[List.length_range]at this
 have hl1:(rD Part.Name b x.aJ<|ie p).length=(ie p).length:=cW _;have hl2:(rD Net.Name b x.aQ<|ie q).length=(ie q).length:=cW _;have hP:∀w∈rD Part.Name b x.aJ (ie p),∃(k:Nat)(a:Part),x.aJ[k]? =some a/\w= ⟨a.Name,pre b a.Name⟩/\nat? Part.Name x.aJ a.Name=(k:Int):=λw hw=>by
  obtain⟨k,a,h1,h2⟩:=n9 hp hw;exact⟨k,a,h1,h2,me ok.parts.sorted h1⟩
 have hQ:∀w∈rD Net.Name b x.aQ (ie q),∃(k:Nat)(a:Net),x.aQ[k]? =some a/\w= ⟨a.Name,pre b a.Name⟩/\nat? Net.Name x.aQ a.Name=(k:Int):=λw hw=>by
  obtain⟨k,a,h1,h2⟩:=n9 hq hw;exact⟨k,a,h1,h2,me ok.mJ h1⟩
 unfold va;rw[aL<|λh=>h h0,aL (by rw[bP (by omega),bP (by omega)];decide)];rw[yp ok.parts.sorted hp (λw hw=>?_)<|λw hw=>?_,yp ok.mJ hq (λw hw=>?_)<|λ_ _=>rfl,aL]
 ·rfl
 ·rw[ig,List.any_eq_false];intro w hw;obtain⟨k,n,h1,rfl,h2⟩:=hQ w hw;unfold pe;rw[ig,List.any_eq_false];intro u hu;obtain⟨j,a,g1,rfl,g2⟩:=hP u hu;dsimp only;have hn:fS x n.Name=n:=by unfold fS;rw[mH h2 h1];rfl
  rw[xA (by rw[h2];omega),hn,zx ok<|dJ h1];simp
 ·obtain⟨k,n,h1,rfl,h2⟩:=hQ w hw;unfold BW;dsimp only;rw[zu,h2,bP (by omega)];rfl
 ·obtain⟨k,a,h1,rfl,h2⟩:=hP w hw;unfold BV;dsimp only;rw[sS,h2,bP (by omega)];rfl
 ·obtain⟨k,a,h1,rfl,h2⟩:=hP w hw;unfold yl;dsimp only;rw[t5 (by rw[h2];omega),o9 ok.parts.sorted h1,gk];rfl
theorem zy{n:Nat}(hn:n<=1048576):dE N (n:Int)=some []:=by
 unfold dE;rw[bP (by omega),bJ];have e1:wrap .i64 ((n:Int) -(wrap .i64<|((0:Nat):Int) -((0:Nat):Int)))=(n:Int):=by
  have:wrap .i64 (((0:Nat):Int) -((0:Nat):Int))=0:=by rw[dF (by omega) (by omega)];rfl
  rw[this,dF (by omega) (by omega)];omega
 rw[e1]
 by_cases h:0<n
 ·rw[dw (by omega),bV];have:zS 32 (⟨⟨[]⟩,⟨[]⟩⟩:aH) (n:Int)=some (List.replicate n ⟨⟨[]⟩,⟨[]⟩⟩):=by
   unfold zS;rw[aK (by omega)];rfl
  rw[this,aA,pP _ _ (by omega),aA,aA];rfl
 ·rw[bP (by omega),bJ,aA]
theorem wN{L:Z (Z aH)}(h1:L.length<=1048576)(h2:L.flatten.length<=1048576):d5 N L=some L.flatten:=by
 unfold d5;have hlen:∀k,(L.take k).flatten.length<=1048576:=λk=>jk AN h2
 rw[jT (s:=(0:Int)) (λk=>(((L.take k).flatten.length:Nat):Int)) (by omega) rfl (λk hk=>by
  have h3:=hlen<|k+1
  rw[ru hk,dh]at h3 ⊢;rw[gV _ _ hk,aA];have e:wrap .i64 ((((L.take k).flatten.length:Nat):Int)+((L[k].length:Nat):Int))=(((L.take k).flatten.length+L[k].length:Nat):Int):=by rw[dF (by omega) (by omega)];omega
  rw[e,bP (by omega),bJ]),aA,ee,zy h2,aA]
 rw[jT (s:=([]:Z aH)) (λk=>(L.take k).flatten) (by omega) rfl (λk hk=>by
  have h3:=hlen<|k+1
  rw[ru hk,dh]at h3
  rw[gV _ _ hk,aA,gC (by omega),aA,ru hk]),aA,ee]
theorem B3(hx:bk x<=1048576)(hb:bk b<=1048576):xk (fT b x):=by
 have hs:=uU hx;rw[ki]at hb;rw[kU]at hx;refine⟨by show(x.aJ.map _).length<=_;rw[cW];exact hs.pl,λp hp=>?_,by show(x.aQ.map _).length<=_;rw[cW];exact hs.nl,λn hn=>?_,λn hn=>?_⟩
 ·obtain⟨u,hu,rfl⟩:=cE.1 hp;have a1:=lC hu;rw[rq,ki]at a1;show(b.bK++u.Name.bK).length<=_;rw[dh];omega
 ·obtain⟨u,hu,rfl⟩:=cE.1 hn;have a1:=lC hu;rw[qq,ki]at a1;show(b.bK++u.Name.bK).length<=_;rw[dh];omega
 ·obtain⟨u,hu,rfl⟩:=cE.1 hn;show(u.aV.map _).length<=_;rw[cW];exact hs.np u hu
theorem k9(hbt:bk t<=1048576)(hbx:bk x<=1048576)(hb:bk b<=1048576)(hN:4194304<=N):cK N t x b=some true:=by
 have hx:=uU hbx;have hy:=B3 hbx hb;unfold cK;rw[xz hbx hb,aA,nM hbt hbx hN,aA,fk hbt hy hN]
 by_cases h1:ec t x=0
 case neg=>
  have e:(ec t x != 0)=true:=by rw[bne_iff_ne];exact h1
  rw[e,bV,aA,bV,sE hN];rfl
 by_cases h2:ec t (fT b x)=0
 case neg=>
  have e:(ec t (fT b x) != 0)=true:=by rw[bne_iff_ne];exact h2
  rw[h1,bne_self_eq_false,bJ,aA,aA,e,bV,sE hN];rfl
 have h0:pc t x (fT b x)=0:=by unfold pc;rw[aL<|λh=>h h1];exact h2
 obtain⟨ok,oky⟩:=vc h0;obtain⟨p,p2,q,q2,hc,_⟩:=u7 (N:=N) hbt hx hy h0 hN;obtain⟨rfl,rfl⟩:=B2 ok hc;have hp:=hc.FJ.symm;have hq:=hc.FK.symm;have hf:=ok.wk;have hfn:=ok.iI;have eP:(gu p p).map (Cn Part.Name x.aJ (fT b x).aJ)=rD Part.Name b x.aJ (ie p):=A8 Part.Name (p7 b) (λ_=>rfl) x.aJ p hp;have eQ:(gu q q).map (Cn Net.Name x.aQ (fT b x).aQ)=rD Net.Name b x.aQ (ie q):=A8 Net.Name (tf b) (λ_=>rfl) x.aQ q hq;have hk1:(rD Part.Name b x.aJ<|ie p).length<=1000:=by
  have:=mi (λk=>decide<|0<=g0 p (p.getD k 0))<|List.range p.length
  rw[List.length_range]at this;show((ie p).map _).length<=_;rw[cW];unfold ie;omega
 have hk2:(rD Net.Name b x.aQ<|ie q).length<=1000:=by
  have:=mi (λk=>decide<|0<=g0 q (q.getD k 0))<|List.range q.length
  rw[List.length_range]at this;show((ie q).map _).length<=_;rw[cW];unfold ie;omega
 rw[h1,h2,bne_self_eq_false,bJ,aA,aA,bne_self_eq_false,bJ,A3 hbt hx hy h0 hN hc,aA];dsimp only;rw[dw<|List.Perm.refl p,dw<|List.Perm.refl q,show((0:Int) != 0|| !(true&&true))=false from rfl,bJ,xy hbt hx hy h0 hN hc,aA];dsimp only;rw[eP,eQ,show((0:Int) != 0)=false from rfl,bJ,sR hbt hx hy hN,xD h0 hp hq,aA,aA];dsimp only;rw[show((0:Int) != 0)=false from rfl,bJ,wN (by simp) (by simp;omega),aA];have hall:∀w∈[rD Part.Name b x.aJ<|ie p,rD Net.Name b x.aQ<|ie q].flatten,pw b w.A=some w.B:=by
  intro w hw;rw[ki]at hb;rw[kU]at hbx;simp only[List.flatten_cons,List.flatten_nil,fY,jD]at hw
  rcases hw with hw|hw
  ·obtain⟨k,a,g1,rfl⟩:=n9 hp hw;have a1:=sd g1;rw[rq,ki]at a1;exact nV (by dsimp only;omega)
  ·obtain⟨k,a,g1,rfl⟩:=n9 hq hw;have a1:=sd g1;rw[qq,ki]at a1;exact nV (by dsimp only;omega)
 have hfl: [rD Part.Name b x.aJ<|ie p,rD Net.Name b x.aQ<|ie q].flatten.length<=4611686018427387904:=by simp;omega
 generalize [rD Part.Name b x.aJ<|ie p,rD Net.Name b x.aQ<|ie q].flatten=W at hall hfl
 rw[uM (l:=W) (λ_=>false) false hfl (λk w hw=>by
  rw[du hw,aA,hall w<|dJ hw,aA];have e:w.B.jg w.B=true:=by rw[gk]
  rw[e];rfl),aA]
 have e:W.any (λ_=>false)=false:=by rw[List.any_eq_false];simp
 rw[e,sE hN];rfl
end
end Go.Gk
