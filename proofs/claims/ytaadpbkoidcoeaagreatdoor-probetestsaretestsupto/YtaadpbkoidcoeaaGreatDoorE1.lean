/-
  Helping texts: plain functions and plain laws. No statement of the seed is proved here.
-/
import Derived.Test.YtaadpbkoidcoeaaGreatDoorA1
import Derived.ChangeShapes
import Derived.ChangeSame
import Derived.Carry
import Derived.RowKit
import Derived.Test.YtaadpbkoidcoeaaGreatDoorA2
set_option linter.unusedVariables false
set_option linter.unusedSimpArgs false
set_option linter.unusedSectionVars false
namespace Go.Gk
open Go IntKind
noncomputable section
structure dG where
 Name:cN
 Kind:Int
 bM:Int
 deriving DecidableEq,Inhabited
structure aY where
 Name:cN
 aZ:aL dG
 deriving DecidableEq,Inhabited
structure Part where
 Name:cN
 pT:cN
 deriving DecidableEq,Inhabited
structure bZ where
 Part:cN
 bZ:cN
 deriving DecidableEq,Inhabited
structure Net where
 Name:cN
 aZ:aL bZ
 ux:aL cN
 deriving DecidableEq,Inhabited
structure cB where
 kN:aL Part
 cF:aL Net
 deriving DecidableEq,Inhabited
structure aK where
 X0:Int
 Y0:Int
 X1:Int
 Y1:Int
 deriving DecidableEq,Inhabited
structure eR where
 X:Int
 Y:Int
 deriving DecidableEq,Inhabited
structure cL where
 At:eR
 gG:Int
 cQ:Int
 To:Int
 jo:Bool
 deriving DecidableEq,Inhabited
structure cW where
 Part:cN
 bZ:cN
 dI:Int
 At:eR
 deriving DecidableEq,Inhabited
structure iE where
 aS:aL (aL aK)
 dU:aL aK
 bQ:aL cL
 bX:aL cW
 deriving DecidableEq,Inhabited
structure aB where
 Y0:Int
 Y1:Int
 Xs:aL Int
 deriving DecidableEq,Inhabited
structure aI where
 dI:Int
 Set:aL aB
 iU:aL aK
 deriving DecidableEq,Inhabited
structure bM where
 oD:aL Int
 bQ:aL Int
 aZ:aL bZ
 deriving DecidableEq,Inhabited
structure fN where
 cL:Bool
 Number:Int
 deriving DecidableEq,Inhabited
structure aC where
 B7:Int
 i:Int
 k:Int
 deriving DecidableEq,Inhabited
structure Test where
 A:bZ
 B:bZ
 Joined:Bool
 deriving DecidableEq,Inhabited
structure bA where
 e0:Int
 e1:Int
 deriving DecidableEq,Inhabited
def bA.st(x:bA)(k:Fin 2)(y:Int):bA:=if k.val=0 then{x with e0:=y}else{x with e1:=y}
structure u6 where
 A:Int
 B:Int
 gz:Int
 cQ:eR
 To:eR
 deriving DecidableEq,Inhabited
structure mn where
 Open:Bool
 fN:fN
 A:Int
 B:Int
 deriving DecidableEq,Inhabited
def iL(N:Nat)(p0:cN)(p1:Int):aU Int:=
 some (Lib.indexByte p0.dA (Int.toNat p1).toUInt8)
def i9(N:Nat)(p0:cN)(p1:Int):aU Int:=
 (iL N p0 p1).bind λj=>some j
def gI(N:Nat)(p0:cN):aU Bool:=
 (qp p0.dA.length (λ(o:Nat)(aa:Unit)=>((Kk p0 (o:Int)).bind λj=>(bif((decide ((j.toNat:Int)<65)||decide ((j.toNat:Int)>90))&&(decide ((j.toNat:Int)<97)||decide ((j.toNat:Int)>122)))&&(decide ((j.toNat:Int)<48)||decide ((j.toNat:Int)>57))then((i9 N (⟨[95,43,45,35]⟩) (j.toNat:Int)).bind λab=>some<|decide<|ab<0)else some false).bind λad=>bif ad then some (.rt false)else(some<|.nx ()):aU (Fl Unit Bool))) ()).bind λae=>ae.cs (λ(aa:Unit)=>some<|decide ((p0.dA.length:Int)>=1)&&decide ((p0.dA.length:Int)<=40))<|λr=>some r
def gh(N:Nat)(p0 p1:dG):aU Bool:=
 (bif p1.bM>0 then(bif p0.bM==p1.bM then some (p0.Kind != p1.Kind)else some false)else some false).bind λj=>some j
def kF(N:Nat)(p0:aL dG)(p1:dG->aU Bool):aU Int:=
 (qp p0.length (λ(j:Nat)(o:Unit)=>((idx p0 (j:Int)).bind λaa=>(p1 aa).bind λab=>bif ab then some (.rt (j:Int))else(some<|.nx ()):aU (Fl Unit Int))) ()).bind λad=>ad.cs (λ(o:Unit)=>some<|-1)<|λr=>some r
def g9(N:Nat)(p0:aL dG)(p1:dG->aU Bool):aU Bool:=
 (kF N p0 p1).bind λj=>some<|decide<|j>=0
def kn(N:Nat)(p0:aL dG):aU Int:=
 bif(p0.length:Int)==0 then some 9 else(bif decide ((p0.length:Int)>200)then some 2 else((qp p0.length (λ(o:Nat)(ab:Unit)=>((idx p0 (o:Int)).bind λj=>(gI N j.Name).bind λad=>bif(!ad)then some (.rt 5)else(bif decide (j.Kind<1)||decide (j.Kind>7)then some (.rt 4)else(bif decide (j.bM<0)||decide (j.bM>200)then some (.rt 1)else((bif decide ((o:Int)>0)then((idx p0<|wrap .i64<|(o:Int) - 1).bind λB8=>some<|j.Name.BV B8.Name||j.Name.u5 B8.Name)else some false).bind λae=>bif ae then some (.rt 8)else some (.nx ())))):aU (Fl Unit Int))) ()).bind λaf=>af.cs (λ(ab:Unit)=>(qp p0.length (λ(aa:Nat)(ag:Unit)=>((idx p0 (aa:Int)).bind λah=>(xd p0 0 (aa:Int)).bind λai=>(g9 N ai<|λy0=>gh N y0 ah).bind λaj=>bif aj then some (.rt 12)else(some<|.nx ()):aU (Fl Unit Int))) ()).bind λak=>ak.cs (λ(ag:Unit)=>some 0)<|λr=>some r)<|λr=>some r))
def jR(N:Nat)(p0:aL aY):aU Int:=
 bif decide ((p0.length:Int)>200)then some 2 else((qp p0.length (λ(o:Nat)(ad:Unit)=>((idx p0 (o:Int)).bind λj=>(gI N j.Name).bind λae=>bif(!ae)then some (.rt 5)else((kn N j.aZ).bind λaa=>bif aa != 0 then some (.rt aa)else((bif decide ((o:Int)>0)then((idx p0<|wrap .i64<|(o:Int) - 1).bind λab=>some<|j.Name.BV ab.Name||j.Name.u5 ab.Name)else some false).bind λaf=>bif af then some (.rt 8)else some (.nx ()))):aU (Fl Unit Int))) ()).bind λag=>ag.cs (λ(ad:Unit)=>some 0)<|λr=>some r)
def eI(N:Nat)(p0:aL aY)(p1:cN)(p2:aY->cN->aU Int):aU (Int×Bool):=
 (kb (λ(j:Int×Int)=>(bif j.1<j.2 then((idx p0<|wrap .i64<|Int.fdiv (wrap .u64<|wrap .i64<|j.1+j.2) 2).bind λaa=>(p2 aa p1).bind λab=>(bif ab<0 then some (wrap .i64<|wrap .i64 (Int.fdiv (wrap .u64<|wrap .i64<|j.1+j.2) 2)+1,j.2)else some (j.1,wrap .i64<|Int.fdiv (wrap .u64<|wrap .i64<|j.1+j.2) 2)).bind λo=>some<|.nx (o.1,o.2))else(some<|.br (j.1,j.2)):aU (Fl (Int×Int) Empty))) N (0,(p0.length:Int))).bind λad=>ad.cs (λ(j:Int×Int)=>(bif decide (j.1<(p0.length:Int))then((idx p0 j.1).bind λae=>(p2 ae p1).bind λaf=>some<|af==0)else some false).bind λag=>some (j.1,ag))<|λr=>r.elim
def l6(N:Nat)(p0 p1:cN):aU Int:=
 some (Lib.compareBytes p0.dA p1.dA)
def jq(N:Nat)(p0 p1:cN):aU Int:=
 (l6 N p0 p1).bind λj=>some j
def ja(N:Nat)(p0:aY)(p1:cN):aU Int:=
 (jq N p0.Name p1).bind λj=>some j
def kS(N:Nat)(p0:aL aY)(p1:cN):aU Int:=
 (eI N p0 p1<|ja N).bind λj=>bif(!j.2)then some (-1)else some j.1
def jS(N:Nat)(p0:aL aY)(p1:aL Part)(p2:cN->aU Bool):aU Int:=
 bif decide ((p1.length:Int)>1000)then some 2 else((qp p1.length (λ(o:Nat)(ab:Unit)=>((idx p1 (o:Int)).bind λj=>(p2 j.Name).bind λad=>bif(!ad)then some (.rt 5)else((kS N p0 j.pT).bind λae=>bif ae<0 then some (.rt 9)else((bif decide ((o:Int)>0)then((idx p1<|wrap .i64<|(o:Int) - 1).bind λaa=>some<|j.Name.BV aa.Name||j.Name.u5 aa.Name)else some false).bind λaf=>bif af then some (.rt 8)else some (.nx ()))):aU (Fl Unit Int))) ()).bind λag=>ag.cs (λ(ab:Unit)=>some 0)<|λr=>some r)
def ko(N:Nat)(p0 p1:cN):aU Int:=
 bif((p1.dA.length:Int)==0)||p1.u5 p0 then some 0 else(bif(p1.dA.length:Int)==1 then((Kk p1 0).bind λj=>(iL N p0 (j.toNat:Int)).bind λo=>some o)else(bif decide ((p1.dA.length:Int)>=(p0.dA.length:Int))then some (-1)else none))
def lT(N:Nat)(p0 p1:cN):aU Int:=
 (ko N p0 p1).bind λj=>some j
def nr(N:Nat)(p0 p1:cN):aU Int:=
 bif(p1.dA.length:Int)==0 then none else(bif(p1.dA.length:Int)==1 then((Kk p1 0).bind λaa=>some ((Lib.countByte p0.dA (Int.toNat (aa.toNat:Int)).toUInt8:Nat):Int))else((kb (λ(j:cN×Int)=>((lT N j.1 p1).bind λo=>bif o==(-1)then some (.rt j.2)else((x9 j.1 (wrap .i64<|o+(p1.dA.length:Int)) (j.1.dA.length:Int)).bind λab=>some<|.nx (ab,wrap .i64<|j.2+1)):aU (Fl (cN×Int) Int))) N (p0,0)).bind λad=>ad.cs (λ(j:cN×Int)=>some 0)<|λr=>some r))
def mR(N:Nat)(p0 p1:cN)(p2 p3:Int):aU (aL cN):=
 bif p3==0 then some ([]:aL cN)else(bif p1.u5 (⟨[]⟩)then none else((bif p3<0 then((nr N p0 p1).bind λab=>some<|wrap .i64<|ab+1)else some p3).bind λo=>(mk 16 (⟨[]⟩:cN) (if wrap .i64 ((p0.dA.length:Int)+1)<o then wrap .i64 ((p0.dA.length:Int)+1)else o)).bind λad=>(kb (λ(j:cN×aL cN×Int)=>(bif decide (j.2.2< wrap .i64 ((if wrap .i64 ((p0.dA.length:Int)+1)<o then wrap .i64 ((p0.dA.length:Int)+1)else o) - 1))then((lT N j.1 p1).bind λaa=>bif aa<0 then some (.br (j.1,j.2.1,j.2.2))else((x9 j.1 0<|wrap .i64<|aa+p2).bind λae=>(idx j.2.1 j.2.2).bind λai=>(x9 j.1 (wrap .i64<|aa+(p1.dA.length:Int)) (j.1.dA.length:Int)).bind λaf=>some<|.nx (af,j.2.1.set (Int.toNat j.2.2) ae,wrap .i64<|j.2.2+1)))else(some<|.br (j.1,j.2.1,j.2.2)):aU (Fl (cN×aL cN×Int) Empty))) N (p0,ad,0)).bind λag=>ag.cs (λ(j:cN×aL cN×Int)=>(idx j.2.1 j.2.2).bind λaj=>(xd (j.2.1.set (Int.toNat j.2.2) j.1) 0<|wrap .i64<|j.2.2+1).bind λah=>some ah)<|λr=>r.elim))
def nu(N:Nat)(p0 p1:cN):aU (aL cN):=
 (mR N p0 p1 0<|-1).bind λj=>some j
def kT(N:Nat)(p0:aL cN)(p1:cN->aU Bool):aU Int:=
 (qp p0.length (λ(j:Nat)(o:Unit)=>((idx p0 (j:Int)).bind λaa=>(p1 aa).bind λab=>bif ab then some (.rt (j:Int))else(some<|.nx ()):aU (Fl Unit Int))) ()).bind λad=>ad.cs (λ(o:Unit)=>some<|-1)<|λr=>some r
def il(N:Nat)(p0:aL cN)(p1:cN->aU Bool):aU Bool:=
 (kT N p0 p1).bind λj=>some<|decide<|j>=0
def iq(N:Nat)(p0:cN):aU Bool:=
 (gI N p0).bind λj=>some<|!j
def iV(N:Nat)(p0:cN):aU Bool:=
 (bif decide ((p0.dA.length:Int)<=200)then((nu N p0<|⟨[47]⟩).bind λj=>(il N j<|iq N).bind λo=>some<|!o)else some false).bind λaa=>some aa
def fu(N:Nat)(p0:aL Part)(p1:cN)(p2:Part->cN->aU Int):aU (Int×Bool):=
 (kb (λ(j:Int×Int)=>(bif j.1<j.2 then((idx p0<|wrap .i64<|Int.fdiv (wrap .u64<|wrap .i64<|j.1+j.2) 2).bind λaa=>(p2 aa p1).bind λab=>(bif ab<0 then some (wrap .i64<|wrap .i64 (Int.fdiv (wrap .u64<|wrap .i64<|j.1+j.2) 2)+1,j.2)else some (j.1,wrap .i64<|Int.fdiv (wrap .u64<|wrap .i64<|j.1+j.2) 2)).bind λo=>some<|.nx (o.1,o.2))else(some<|.br (j.1,j.2)):aU (Fl (Int×Int) Empty))) N (0,(p0.length:Int))).bind λad=>ad.cs (λ(j:Int×Int)=>(bif decide (j.1<(p0.length:Int))then((idx p0 j.1).bind λae=>(p2 ae p1).bind λaf=>some<|af==0)else some false).bind λag=>some (j.1,ag))<|λr=>r.elim
def jc(N:Nat)(p0:Part)(p1:cN):aU Int:=
 (jq N p0.Name p1).bind λj=>some j
def mz(N:Nat)(p0:aL Part)(p1:cN):aU Int:=
 (fu N p0 p1<|jc N).bind λj=>bif(!j.2)then some (-1)else some j.1
def eM(N:Nat)(p0:aL dG)(p1:cN)(p2:dG->cN->aU Int):aU (Int×Bool):=
 (kb (λ(j:Int×Int)=>(bif j.1<j.2 then((idx p0<|wrap .i64<|Int.fdiv (wrap .u64<|wrap .i64<|j.1+j.2) 2).bind λaa=>(p2 aa p1).bind λab=>(bif ab<0 then some (wrap .i64<|wrap .i64 (Int.fdiv (wrap .u64<|wrap .i64<|j.1+j.2) 2)+1,j.2)else some (j.1,wrap .i64<|Int.fdiv (wrap .u64<|wrap .i64<|j.1+j.2) 2)).bind λo=>some<|.nx (o.1,o.2))else(some<|.br (j.1,j.2)):aU (Fl (Int×Int) Empty))) N (0,(p0.length:Int))).bind λad=>ad.cs (λ(j:Int×Int)=>(bif decide (j.1<(p0.length:Int))then((idx p0 j.1).bind λae=>(p2 ae p1).bind λaf=>some<|af==0)else some false).bind λag=>some (j.1,ag))<|λr=>r.elim
def jK(N:Nat)(p0:dG)(p1:cN):aU Int:=
 (jq N p0.Name p1).bind λj=>some j
def nv(N:Nat)(p0:aY)(p1:cN):aU Int:=
 (eM N p0.aZ p1<|jK N).bind λj=>bif(!j.2)then some (-1)else some j.1
def oE(N:Nat)(p0:aL aY)(p1:aL Part)(p2:bZ):aU Bool:=
 (mz N p1 p2.Part).bind λj=>(bif j>=0 then((idx p1 j).bind λo=>(kS N p0 o.pT).bind λaa=>(idx p0 aa).bind λab=>(nv N ab p2.bZ).bind λad=>some<|decide<|ad>=0)else some false).bind λae=>some ae
def kp(N:Nat)(p0:bZ)(p1:aL aY)(p2:cB):aU Bool:=
 (oE N p1 p2.kN p0).bind λj=>some j
def cO(N:Nat)(p0 p1:bZ):aU Int:=
 (jq N p0.Part p1.Part).bind λj=>bif j != 0 then some j else((jq N p0.bZ p1.bZ).bind λo=>some o)
def iW(N:Nat)(p0:aL bZ)(p1:bZ->aU Bool)(p2:aL (bZ×Bool)):aU (Int×aL (bZ×Bool)):=
 bif decide ((p0.length:Int)>500)then some (2,p2)else((qp p0.length (λ(j:Nat)(ab:Unit)=>((idx p0 (j:Int)).bind λo=>(p1 o).bind λad=>bif(!ad)then some (.rt (9,p2))else((bif decide ((j:Int)>0)then((idx p0<|wrap .i64<|(j:Int) - 1).bind λae=>(cO N o ae).bind λaf=>some<|decide<|af<=0)else some false).bind λag=>bif ag then some (.rt (8,p2))else(bif dE p2 o (false:Bool)then some (.rt (7,p2))else some (.nx ()))):aU (Fl Unit<|Int×aL (bZ×Bool)))) ()).bind λah=>ah.cs (λ(ab:Unit)=>(jy p0.length (λ(ai:Nat)(aa:aL (bZ×Bool))=>((idx p0 (ai:Int)).bind λaj=>some (lf aa aj true):aU (aL<|bZ×Bool))) p2).bind λaa=>some (0,aa))<|λr=>some r)
def jd(N:Nat)(p0:aL aY)(p1:cB):aU Int:=
 (jR N p0).bind λab=>bif ab != 0 then some ab else((jS N p0 p1.kN<|iV N).bind λad=>bif ad != 0 then some ad else(bif decide ((p1.cF.length:Int)>1000)then some 2 else((qp p1.cF.length (λ(o:Nat)(ae:aL (bZ×Bool))=>((idx p1.cF (o:Int)).bind λj=>(iV N j.Name).bind λag=>bif(!ag)then some (.rt 5)else(bif(j.aZ.length:Int)==0 then some (.rt 9)else((iW N j.aZ (λy0=>kp N y0 p0 p1) ae).bind λaa=>bif aa.1 != 0 then some (.rt aa.1)else(bif decide ((j.ux.length:Int)>0)then some (.rt 3)else((bif decide ((o:Int)>0)then((idx p1.cF<|wrap .i64<|(o:Int) - 1).bind λaf=>some<|j.Name.BV af.Name||j.Name.u5 af.Name)else some false).bind λah=>bif ah then some (.rt 8)else some (.nx aa.2))))):aU (Fl (aL<|bZ×Bool) Int))) ([]:aL (bZ×Bool))).bind λai=>ai.cs (λ(ae:aL (bZ×Bool))=>some 0)<|λr=>some r)))
def tN(N:Nat)(p0 p1 p2:Int):aU Bool:=
 some (decide (p0>=p1)&&decide (p0<=p2))
def lu(N:Nat)(p0:Int):aU Bool:=
 (tN N p0 (-1000000) 1000000).bind λj=>some j
def mS(N:Nat)(p0:aK):aU Bool:=
 ((lu N p0.X0).bind λj=>bif j then((lu N p0.Y0).bind λo=>bif o then((lu N p0.X1).bind λaa=>bif aa then((lu N p0.Y1).bind λab=>some ab)else some false)else some false)else some false).bind λad=>some ad
def kU(N:Nat)(p0:aL aK):aU Int:=
 bif decide ((p0.length:Int)>2000)then some 2 else((qp p0.length (λ(o:Nat)(aa:Unit)=>((idx p0 (o:Int)).bind λj=>(mS N j).bind λab=>bif(!ab)then some (.rt 1)else(bif decide (j.X1<=j.X0)||decide (j.Y1<=j.Y0)then some (.rt 13)else some (.nx ())):aU (Fl Unit Int))) ()).bind λad=>ad.cs (λ(aa:Unit)=>some 0)<|λr=>some r)
def je(N:Nat)(p0:aL aK):aU (aL aK):=
 (app 32 ([]:aL aK) p0).bind λj=>some j
def jT(N:Nat)(p0 p1:aK):aU Int:=
 some (wrap .i64<|p0.Y0 - p1.Y0)
def gO(N:Nat)(p0:aL Int):aU (aL Int):=
 bif decide ((p0.length:Int)<2)then some p0 else((kb (λ(o:Int)=>(bif decide (o<(p0.length:Int))then((idx p0 o).bind λab=>(idx p0<|wrap .i64<|o - 1).bind λad=>bif ab==ad then((xd p0 o (p0.length:Int)).bind λak=>(kb (λ(j:aL Int×Int×Int)=>(bif decide (j.2.2<(((j.1.length - Int.toNat o):Nat):Int))then((HY j.1 o j.2.2).bind λae=>(HY j.1 o<|wrap .i64<|j.2.2 - 1).bind λaf=>(bif ae != af then((HY j.1 o j.2.2).bind λag=>(idx j.1 j.2.1).bind λal=>some (j.1.set (Int.toNat j.2.1) ag,wrap .i64<|j.2.1+1))else some (j.1,j.2.1)).bind λaa=>some<|.nx (aa.1,aa.2,wrap .i64<|j.2.2+1))else(some<|.br (j.1,j.2.1,j.2.2)):aU (Fl (aL Int×Int×Int) Empty))) N (p0,o,1)).bind λah=>ah.cs (λ(j:aL Int×Int×Int)=>(xd j.1 j.2.1 (j.1.length:Int)).bind λan=>(xd (j.1.take (Int.toNat j.2.1)++List.replicate (j.1.length - Int.toNat j.2.1) (0:Int)) 0 j.2.1).bind λai=>some<|.rt ai)<|λr=>r.elim)else some (.nx<|wrap .i64<|o+1))else(some<|.br o):aU (Fl Int<|aL Int))) N 1).bind λaj=>aj.cs (λ(o:Int)=>some p0)<|λr=>some r)
def oF(N:Nat)(p0:aK)(p1:aL Int)(p2:Int):aU Bool:=
 (idx p1 p2).bind λj=>some<|decide<|p0.Y1<=j
def l7(N:Nat)(p0:aL aK)(p1:aK->aU Bool):aU Int:=
 (qp p0.length (λ(j:Nat)(o:Unit)=>((idx p0 (j:Int)).bind λaa=>(p1 aa).bind λab=>bif ab then some (.rt (j:Int))else(some<|.nx ()):aU (Fl Unit Int))) ()).bind λad=>ad.cs (λ(o:Unit)=>some<|-1)<|λr=>some r
def kG(N:Nat)(p0:aL aK)(p1:aK->aU Bool):aU Int:=
 (qp p0.length (λ(j:Nat)(o:Unit)=>((idx p0 (j:Int)).bind λaa=>(p1 aa).bind λab=>bif ab then some (.rt (j:Int))else(some<|.nx ()):aU (Fl Unit Int))) ()).bind λad=>ad.cs (λ(o:Unit)=>some<|-1)<|λr=>some r
def ir(N:Nat)(p0:aL aK)(p1:aK->aU Bool):aU (aL aK):=
 (kG N p0 p1).bind λo=>bif o==(-1)then some p0 else((kb (λ(j:aL aK×Int×Int)=>(bif decide (j.2.2<(j.1.length:Int))then((idx j.1 j.2.2).bind λaa=>(p1 aa).bind λad=>(bif(!ad)then((idx j.1 j.2.1).bind λag=>some (j.1.set (Int.toNat j.2.1) aa,wrap .i64<|j.2.1+1))else some (j.1,j.2.1)).bind λab=>some<|.nx (ab.1,ab.2,wrap .i64<|j.2.2+1))else(some<|.br (j.1,j.2.1,j.2.2)):aU (Fl (aL aK×Int×Int) Empty))) N (p0,o,wrap .i64<|o+1)).bind λae=>ae.cs (λ(j:aL aK×Int×Int)=>(xd j.1 j.2.1 (j.1.length:Int)).bind λah=>(xd (j.1.take (Int.toNat j.2.1)++List.replicate (j.1.length - Int.toNat j.2.1) (⟨0,0,0,0⟩:aK)) 0 j.2.1).bind λaf=>some af)<|λr=>r.elim)
def gQ(N:Nat)(p0 p1:aK):aU Int:=
 some (wrap .i64<|p0.X0 - p1.X0)
def jr(N:Nat)(p0:aL aK):aU (aL Int×aL aK):=
 (r9 (gQ N) p0).bind λaa=>(jy aa.length (λ(ad:Nat)(j:aL Int)=>((idx aa (ad:Int)).bind λo=>(bif decide (wrap .i64 ((j.length:Int) - 1)>=0)then((idx j<|wrap .i64<|(j.length:Int) - 1).bind λae=>some<|decide<|o.X0<=ae)else some false).bind λaf=>(bif af then((idx j<|wrap .i64<|(j.length:Int) - 1).bind λab=>(idx j<|wrap .i64<|(j.length:Int) - 1).bind λai=>some<|j.set (Int.toNat<|wrap .i64<|(j.length:Int) - 1) (if ab<o.X1 then o.X1 else ab))else((app 8 j ([o.X0,o.X1]:aL Int)).bind λag=>some ag)).bind λah=>some ah:aU (aL Int))) ([]:aL Int)).bind λj=>some (j,aa)
def mT(N:Nat)(p0:aL Int)(p1:aL Int):aU Bool:=
 bif(p0.length:Int) != (p1.length:Int)then some false else((qp p0.length (λ(j:Nat)(o:Unit)=>((idx p0 (j:Int)).bind λaa=>(idx p1 (j:Int)).bind λab=>bif aa != ab then some (.rt false)else(some<|.nx ()):aU (Fl Unit Bool))) ()).bind λad=>ad.cs (λ(o:Unit)=>some true)<|λr=>some r)
def iX(N:Nat)(p0:aL aB)(p1:aB):aU (aL aB):=
 bif((p1.Xs.length:Int)==0)||decide (p1.Y1<=p1.Y0)then some p0 else((bif decide (wrap .i64 ((p0.length:Int) - 1)>=0)then((idx p0<|wrap .i64<|(p0.length:Int) - 1).bind λj=>bif j.Y1==p1.Y0 then((idx p0<|wrap .i64<|(p0.length:Int) - 1).bind λo=>(mT N o.Xs p1.Xs).bind λaa=>some aa)else some false)else some false).bind λab=>bif ab then((idx p0<|wrap .i64<|(p0.length:Int) - 1).bind λad=>some<|p0.set (Int.toNat<|wrap .i64<|(p0.length:Int) - 1)<|{ad with Y1:=p1.Y1})else((app 40 p0 ([p1]:aL aB)).bind λae=>some ae))
def gS(N:Nat)(p0:aL aK):aU (aL aB):=
 (je N p0).bind λag=>(r9 (jT N) ag).bind λaa=>(jy aa.length (λ(ah:Nat)(ad:aL Int)=>((idx aa (ah:Int)).bind λae=>(app 8 ad ([ae.Y0,ae.Y1]:aL Int)).bind λai=>some ai:aU (aL Int))) ([]:aL Int)).bind λad=>(vn ad).bind λaj=>(gO N aj).bind λab=>(kb (λ(j:aL aB×aL aK×Int×Int)=>(bif decide (wrap .i64 (j.2.2.2+1)<(ab.length:Int))then((ir N j.2.1<|λy0=>oF N y0 ab j.2.2.2).bind λak=>(kb (λ(o:aL aK×Int)=>((bif decide (o.2<(aa.length:Int))then((idx aa o.2).bind λal=>(idx ab j.2.2.2).bind λan=>some<|decide<|al.Y0<=an)else some false).bind λao=>bif ao then((idx aa o.2).bind λaq=>(app 32 o.1 ([aq]:aL aK)).bind λar=>some<|.nx (ar,wrap .i64<|o.2+1))else(some<|.br (o.1,o.2)):aU (Fl (aL aK×Int) Empty))) N (ak,j.2.2.1)).bind λau=>au.cs (λ(o:aL aK×Int)=>(idx ab j.2.2.2).bind λav=>(idx ab<|wrap .i64<|j.2.2.2+1).bind λaw=>(jr N o.1).bind λaf=>(iX N j.1 (⟨av,aw,af.1⟩:aB)).bind λax=>some<|.nx (ax,af.2,o.2,wrap .i64<|j.2.2.2+1))<|λr=>r.elim)else(some<|.br (j.1,j.2.1,j.2.2.1,j.2.2.2)):aU (Fl (aL aB×aL aK×Int×Int) Empty))) N (([]:aL aB),([]:aL aK),0,0)).bind λay=>ay.cs (λ(j:aL aB×aL aK×Int×Int)=>some j.1)<|λr=>r.elim
def jt(N:Nat)(p0:aL aB):aU (aL aK):=
 (jy p0.length (λ(ab:Nat)(aa:aL aK)=>((idx p0 (ab:Int)).bind λo=>(kb (λ(j:aL aK×Int)=>(bif decide (j.2<(o.Xs.length:Int))then((idx o.Xs j.2).bind λad=>(idx o.Xs<|wrap .i64<|j.2+1).bind λae=>(app 32 j.1 ([(⟨ad,o.Y0,ae,o.Y1⟩:aK)]:aL aK)).bind λaf=>some<|.nx (af,wrap .i64<|j.2+2))else(some<|.br (j.1,j.2)):aU (Fl (aL aK×Int) Empty))) N (aa,0)).bind λag=>ag.cs (λ(j:aL aK×Int)=>some j.1) (λr=>r.elim):aU (aL aK))) ([]:aL aK)).bind λaa=>some aa
def kq(N:Nat)(p0:aL aK)(p1:aL aK):aU Bool:=
 bif(p0.length:Int) != (p1.length:Int)then some false else((qp p0.length (λ(j:Nat)(o:Unit)=>((idx p0 (j:Int)).bind λaa=>(idx p1 (j:Int)).bind λab=>bif(!(decide<|aa=ab))then some (.rt false)else(some<|.nx ()):aU (Fl Unit Bool))) ()).bind λad=>ad.cs (λ(o:Unit)=>some true)<|λr=>some r)
def jf(N:Nat)(p0:aL aK):aU Int:=
 (kU N p0).bind λab=>bif ab != 0 then some ab else((kb (λ(j:Int)=>(bif decide (j<(p0.length:Int))then((idx p0<|wrap .i64<|j - 1).bind λo=>(idx p0 j).bind λaa=>bif decide (aa.Y0<o.Y0)||((aa.Y0==o.Y0)&&decide (aa.X0<=o.X0))then some (.rt 8)else some (.nx<|wrap .i64<|j+1))else(some<|.br j):aU (Fl Int Int))) N 1).bind λad=>ad.cs (λ(j:Int)=>(gS N p0).bind λae=>(jt N ae).bind λaf=>(kq N af p0).bind λag=>bif(!ag)then some 3 else some 0)<|λr=>some r)
def ig(N:Nat)(p0 p1 p2:Int):aU Bool:=
 some (decide (p0>=p1)&&decide (p0<=p2))
def jF(N:Nat)(p0:eR):aU Bool:=
 ((lu N p0.X).bind λj=>bif j then((lu N p0.Y).bind λo=>some o)else some false).bind λaa=>some aa
def gq(N:Nat)(p0:cL):aU aK:=
 some (⟨wrap .i64<|p0.At.X -(wrap .i64<|Int.tdiv p0.gG 2),wrap .i64<|p0.At.Y -(wrap .i64<|Int.tdiv p0.gG 2),wrap .i64<|wrap .i64 (p0.At.X -(wrap .i64<|Int.tdiv p0.gG 2))+p0.gG,wrap .i64<|wrap .i64 (p0.At.Y -(wrap .i64<|Int.tdiv p0.gG 2))+p0.gG⟩:aK)
def mU(N:Nat)(p0:aL aB):aU aK:=
 (idx p0 0).bind λad=>(idx ad.Xs 0).bind λae=>(idx p0 0).bind λaf=>(idx p0 0).bind λag=>(idx ag.Xs 1).bind λah=>(idx p0<|wrap .i64<|(p0.length:Int) - 1).bind λai=>(jy p0.length (λ(aj:Nat)(j:aK)=>((idx p0 (aj:Int)).bind λo=>(idx o.Xs 0).bind λaa=>(idx o.Xs<|wrap .i64<|(o.Xs.length:Int) - 1).bind λab=>some ({{j with X0:=(if aa<j.X0 then aa else j.X0)}with X1:=(if j.X1<ab then ab else j.X1)}):aU aK)) (⟨ae,af.Y0,ah,ai.Y1⟩:aK)).bind λj=>some j
def mA(N:Nat)(p0:aL aB):aU Bool:=
 (bif(p0.length:Int)==0 then some true else((mU N p0).bind λj=>(mS N j).bind λo=>some o)).bind λaa=>some aa
def lU(N:Nat)(p0:cL):aU (aK×Int):=
 ((ig N p0.gG 1 10000).bind λo=>bif(!o)then some true else((jF N p0.At).bind λaa=>some<|!aa)).bind λab=>bif ab then some ((⟨0,0,0,0⟩:aK),1)else((gq N p0).bind λj=>(gS N ([j]:aL aK)).bind λad=>(mA N ad).bind λae=>bif(!ae)then some ((⟨0,0,0,0⟩:aK),1)else some (j,0))
def ku(N:Nat)(p0:iE):aU Int:=
 bif decide ((p0.bQ.length:Int)>500)then some 2 else((qp p0.bQ.length (λ(aa:Nat)(ab:Unit)=>((idx p0.bQ (aa:Int)).bind λj=>(lU N j).bind λo=>bif o.2 != 0 then some (.rt o.2)else(((ig N j.cQ 0<|wrap .i64<|(p0.aS.length:Int) - 1).bind λad=>bif(!ad)then some true else((ig N j.To j.cQ<|wrap .i64<|(p0.aS.length:Int) - 1).bind λae=>some<|!ae)).bind λaf=>bif af then some (.rt 1)else some (.nx ())):aU (Fl Unit Int))) ()).bind λag=>ag.cs (λ(ab:Unit)=>some 0)<|λr=>some r)
def lx(N:Nat)(p0:cW):aU bZ:=
 some (⟨p0.Part,p0.bZ⟩:bZ)
def kx(N:Nat)(p0:iE):aU Int:=
 bif decide ((p0.bX.length:Int)>1000)then some 2 else((qp p0.bX.length (λ(o:Nat)(aa:Unit)=>((idx p0.bX (o:Int)).bind λj=>((iV N j.Part).bind λab=>bif(!ab)then some true else((gI N j.bZ).bind λad=>some<|!ad)).bind λae=>bif ae then some (.rt 5)else(((ig N j.dI 0<|wrap .i64<|(p0.aS.length:Int) - 1).bind λaf=>bif(!af)then some true else((jF N j.At).bind λag=>some<|!ag)).bind λah=>bif ah then some (.rt 1)else((bif decide ((o:Int)>0)then((idx p0.bX<|wrap .i64<|(o:Int) - 1).bind λai=>(lx N j).bind λaj=>(lx N ai).bind λak=>(cO N aj ak).bind λal=>some<|decide<|al<=0)else some false).bind λan=>bif an then some (.rt 8)else some (.nx ()))):aU (Fl Unit Int))) ()).bind λao=>ao.cs (λ(aa:Unit)=>some 0)<|λr=>some r)
def jG(N:Nat)(p0 p1:Int)(p2 p3:Int):aU Int:=
 some (if(if 0<(wrap .i64<|wrap .i64 (p2 - p1)+1)then wrap .i64 (wrap .i64 (p2 - p1)+1)else 0)<(wrap .i64<|wrap .i64 (p0 - p3)+1)then wrap .i64 (wrap .i64 (p0 - p3)+1)else(if 0<(wrap .i64<|wrap .i64 (p2 - p1)+1)then wrap .i64 (wrap .i64 (p2 - p1)+1)else 0))
def kV(N:Nat)(p0 p1:aK):aU Int:=
 (jG N p0.X0 p0.X1 p1.X0 p1.X1).bind λj=>(jG N p0.Y0 p0.Y1 p1.Y0 p1.Y1).bind λo=>some (if j<o then o else j)
def kW(N:Nat)(p0:cL)(p1:Int):aU Bool:=
 some (decide (p0.cQ<=p1)&&decide (p1<=p0.To))
def mV(N:Nat)(p0:aL aB)(p1 p2:Int):aU (aL Int×Int):=
 bif(p0.length:Int)==0 then some (([]:aL Int),p2)else((idx p0 0).bind λaa=>bif p1<aa.Y0 then((idx p0 0).bind λj=>some (([]:aL Int),(if j.Y0<p2 then j.Y0 else p2)))else((idx p0 0).bind λab=>(idx p0 0).bind λo=>some (ab.Xs,(if o.Y1<p2 then o.Y1 else p2))))
def ru(N:Nat)(p0:aL Int)(p1:aL Int)(p2:Bool->Bool->aU Bool):aU (aL Int):=
 (kb (λ(j:aL Int×aL Int×aL Int×Bool×Bool×Bool)=>((bif decide ((j.1.length:Int)>0)then some true else some (decide<|(j.2.1.length:Int)>0)).bind λaf=>bif af then((bif(j.2.1.length:Int)==0 then some true else(bif decide ((j.1.length:Int)>0)then((idx j.1 0).bind λDw=>(idx j.2.1 0).bind λag=>some<|decide<|Dw<=ag)else some false)).bind λah=>(bif ah then((idx j.1 0).bind λai=>some ai)else((idx j.2.1 0).bind λaj=>some aj)).bind λo=>(bif decide ((j.1.length:Int)>0)then((idx j.1 0).bind λak=>some<|ak==o)else some false).bind λal=>(bif al then((xd j.1 1 (j.1.length:Int)).bind λan=>some (an,(!j.2.2.2.1)))else some (j.1,j.2.2.2.1)).bind λaa=>(bif decide ((j.2.1.length:Int)>0)then((idx j.2.1 0).bind λao=>some<|ao==o)else some false).bind λaq=>(bif aq then((xd j.2.1 1 (j.2.1.length:Int)).bind λar=>some (ar,(!j.2.2.2.2.1)))else some (j.2.1,j.2.2.2.2.1)).bind λab=>(p2 aa.2 ab.2).bind λad=>(bif ad != j.2.2.2.2.2 then((app 8 j.2.2.1 ([o]:aL Int)).bind λau=>some (au,ad))else some (j.2.2.1,j.2.2.2.2.2)).bind λae=>some<|.nx (aa.1,ab.1,ae.1,aa.2,ab.2,ae.2))else(some<|.br (j.1,j.2.1,j.2.2.1,j.2.2.2.1,j.2.2.2.2.1,j.2.2.2.2.2)):aU (Fl (aL Int×aL Int×aL Int×Bool×Bool×Bool) Empty))) N (p0,p1,([]:aL Int),false,false,false)).bind λav=>av.cs (λ(j:aL Int×aL Int×aL Int×Bool×Bool×Bool)=>some j.2.2.1)<|λr=>r.elim
def pU(N:Nat)(p0:aL aB)(p1:aL aB)(p2:Bool->Bool->aU Bool):aU (aL aB):=
 bif wrap .i64 ((p0.length:Int)+(p1.length:Int))==0 then some ([]:aL aB)else((jy (([p0,p1]:aL (aL aB)).length) (λ(ah:Nat)(o:Int×Int)=>((idx ([p0,p1]:aL (aL aB)) (ah:Int)).bind λad=>(bif decide ((ad.length:Int)>0)then((bif(ah:Int)==0 then some true else some ((p0.length:Int)==0)).bind λal=>(bif al then((idx ad 0).bind λan=>(idx ad<|wrap .i64<|(ad.length:Int) - 1).bind λao=>some (an.Y0,ao.Y1))else some (o.1,o.2)).bind λag=>(idx ad 0).bind λai=>(idx ad<|wrap .i64<|(ad.length:Int) - 1).bind λaj=>some ((if ai.Y0<ag.1 then ai.Y0 else ag.1),(if ag.2<aj.Y1 then aj.Y1 else ag.2)))else some (o.1,o.2)).bind λak=>some (ak.1,ak.2):aU (Int×Int))) (0,0)).bind λo=>(kb (λ(j:aL aB×aL aB×aL aB×Int)=>(bif j.2.2.2<o.2 then((kb (λ(aa:aL aB)=>((bif decide ((aa.length:Int)>0)then((idx aa 0).bind λaq=>some<|decide<|aq.Y1<=j.2.2.2)else some false).bind λar=>bif ar then((xd aa 1 (aa.length:Int)).bind λau=>some<|.nx au)else(some<|.br aa):aU (Fl (aL aB) Empty))) N j.1).bind λav=>av.cs (λ(aa:aL aB)=>(kb (λ(ab:aL aB)=>((bif decide ((ab.length:Int)>0)then((idx ab 0).bind λaw=>some<|decide<|aw.Y1<=j.2.2.2)else some false).bind λax=>bif ax then((xd ab 1 (ab.length:Int)).bind λay=>some<|.nx ay)else(some<|.br ab):aU (Fl (aL aB) Empty))) N j.2.1).bind λaz=>az.cs (λ(ab:aL aB)=>(mV N aa j.2.2.2 o.2).bind λae=>(mV N ab j.2.2.2 o.2).bind λaf=>(ru N ae.1 af.1 p2).bind λa0=>(iX N j.2.2.1 (⟨j.2.2.2,(if af.2<ae.2 then af.2 else ae.2),a0⟩:aB)).bind λa1=>some<|.nx (aa,ab,a1,(if af.2<ae.2 then af.2 else ae.2)))<|λr=>r.elim)<|λr=>r.elim)else(some<|.br (j.1,j.2.1,j.2.2.1,j.2.2.2)):aU (Fl (aL aB×aL aB×aL aB×Int) Empty))) N (p0,p1,([]:aL aB),o.1)).bind λa2=>a2.cs (λ(j:aL aB×aL aB×aL aB×Int)=>some j.2.2.1)<|λr=>r.elim)
def oG(N:Nat)(p0 p1:Bool):aU Bool:=
 some (p0&&(!p1))
def kX(N:Nat)(p0:aL aB)(p1:aL aB):aU (aL aB):=
 (pU N p0 p1<|oG N).bind λj=>some j
def mB(N:Nat)(p0:aL aB):aU Int:=
 (jy p0.length (λ(o:Nat)(j:Int)=>((idx p0 (o:Int)).bind λaa=>some (wrap .i64<|j+ wrap .i64 (Int.tdiv (aa.Xs.length:Int) 2)):aU Int)) 0).bind λj=>some j
def fD(N:Nat)(p0:Int)(p1_0:aL Int):aU (Int×aL Int):=
 (kb (λ(j:Int×aL Int)=>((idx j.2 j.1).bind λaa=>bif aa != j.1 then((idx j.2 j.1).bind λab=>(idx j.2 ab).bind λo=>(idx j.2 j.1).bind λaf=>(idx (j.2.set (Int.toNat j.1) o) j.1).bind λad=>some<|.nx (ad,j.2.set (Int.toNat j.1) o))else(some<|.br (j.1,j.2)):aU (Fl (Int×aL Int) Empty))) N (p0,p1_0)).bind λae=>ae.cs (λ(j:Int×aL Int)=>some (j.1,j.2))<|λr=>r.elim
def lL(N:Nat)(p0:aL aB):aU (aL<|aL aB):=
 (jt N p0).bind λab=>(mk 8 (0:Int) (ab.length:Int)).bind λan=>(jy an.length (λ(ai:Nat)(ag:aL Int)=>((idx ag (ai:Int)).bind λbd=>some (ag.set (Int.toNat (ai:Int)) (ai:Int)):aU (aL Int))) an).bind λag=>(jy p0.length (λ(aj:Nat)(aa:aL Int×Int×Int)=>((idx p0 (aj:Int)).bind λak=>(bif decide ((aj:Int)>0)then((idx p0<|wrap .i64<|(aj:Int) - 1).bind λar=>some<|ar.Y1==ak.Y0)else some false).bind λau=>(bif au then((kb (λ(j:aL Int×Int×Int)=>(bif decide (j.2.1<aa.2.1)&&decide (j.2.2< wrap .i64 (aa.2.1+ wrap .i64 (Int.tdiv (ak.Xs.length:Int) 2)))then(((idx ab j.2.1).bind λav=>(idx ab j.2.2).bind λaw=>bif av.X0<aw.X1 then((idx ab j.2.2).bind λax=>(idx ab j.2.1).bind λay=>some<|decide<|ax.X0<ay.X1)else some false).bind λaz=>(bif az then((fD N j.2.1 j.1).bind λae=>(fD N j.2.2 ae.2).bind λad=>(idx ad.2 (if ae.1<ad.1 then ad.1 else ae.1)).bind λbf=>some<|ad.2.set (Int.toNat (if ae.1<ad.1 then ad.1 else ae.1)) (if ad.1<ae.1 then ad.1 else ae.1))else some j.1).bind λa0=>(idx ab j.2.1).bind λa1=>(idx ab j.2.2).bind λa2=>(bif a1.X1<a2.X1 then some (wrap .i64<|j.2.1+1,j.2.2)else some (j.2.1,wrap .i64<|j.2.2+1)).bind λao=>some<|.nx (a0,ao.1,ao.2))else(some<|.br (j.1,j.2.1,j.2.2)):aU (Fl (aL Int×Int×Int) Empty))) N (aa.1,aa.2.2,aa.2.1)).bind λa3=>a3.cs (λ(j:aL Int×Int×Int)=>some j.1)<|λr=>r.elim)else some aa.1).bind λa4=>some (a4,wrap .i64<|aa.2.1+ wrap .i64 (Int.tdiv (ak.Xs.length:Int) 2),aa.2.1):aU (aL Int×Int×Int))) (ag,0,0)).bind λaa=>(jy ab.length (λ(aq:Nat)(o:aL Int×aL (Int×Int)×aL (aL aK))=>((idx ab (aq:Int)).bind λa5=>(fD N (aq:Int) o.1).bind λah=>(bif(!(iD o.2.1 ah.1))then((app 24 o.2.2 [([]:aL aK)]).bind λa6=>some (lf o.2.1 ah.1 (o.2.2.length:Int),a6,(o.2.2.length:Int)))else some (o.2.1,o.2.2,dE o.2.1 ah.1 (0:Int))).bind λaf=>(idx af.2.1 af.2.2).bind λa7=>(app 32 a7 ([a5]:aL aK)).bind λa8=>(idx af.2.1 af.2.2).bind λbg=>some (ah.2,af.1,af.2.1.set (Int.toNat af.2.2) a8):aU (aL Int×aL (Int×Int)×aL (aL aK)))) (aa.1,([]:aL (Int×Int)),([]:aL (aL aK)))).bind λo=>(jy o.2.2.length (λ(a9:Nat)(al:aL (aL aB))=>((idx o.2.2 (a9:Int)).bind λba=>(gS N ba).bind λbb=>(app 24 al ([bb]:aL (aL aB))).bind λbc=>some bc:aU (aL<|aL aB))) ([]:aL (aL aB))).bind λal=>some al
def jU(N:Nat)(p0_0:aL (aL aK))(p0_2:aL cL)(p0_4:aL (aL aB))(p0_5:aL aI):aU (Bool×aL (aL aB)×aL aI):=
 (jy p0_0.length (λ(aa:Nat)(j:aL (aL aB)×aL aI×Bool)=>((idx p0_0 (aa:Int)).bind λai=>(jy p0_2.length (λ(aj:Nat)(o:aL aK)=>((idx p0_2 (aj:Int)).bind λaf=>(kW N af (aa:Int)).bind λak=>(bif ak then((gq N af).bind λal=>(app 32 o ([al]:aL aK)).bind λan=>some an)else some o).bind λao=>some ao:aU (aL aK))) ([]:aL aK)).bind λo=>(gS N ai).bind λaq=>(gS N o).bind λar=>(kX N aq ar).bind λab=>(bif j.2.2 then((mB N ab).bind λau=>some (decide<|au<=2000,ab))else some (false,ab)).bind λad=>(app 24 j.1 ([ad.2]:aL (aL aB))).bind λav=>(lL N ad.2).bind λag=>(jy ag.length (λ(aw:Nat)(ae:aL aI)=>((idx ag (aw:Int)).bind λah=>(jt N ah).bind λax=>(app 56 ae ([(⟨(aa:Int),ah,ax⟩:aI)]:aL aI)).bind λay=>some ay:aU (aL aI))) j.2.1).bind λae=>some (av,ae,ad.1):aU (aL (aL aB)×aL aI×Bool))) (p0_4,p0_5,true)).bind λj=>(bif j.2.2 then some (decide<|(j.2.1.length:Int)<=2000)else some false).bind λaz=>some (az,j.1,j.2.1)
def sG(N:Nat)(p0 p1:aK):aU Bool:=
 some (((decide (p0.X0<p1.X1)&&decide (p1.X0<p0.X1))&&((p0.Y1==p1.Y0)||(p1.Y1==p0.Y0)))||((decide (p0.Y0<p1.Y1)&&decide (p1.Y0<p0.Y1))&&((p0.X1==p1.X0)||(p1.X1==p0.X0))))
def j9(N:Nat)(p0:aK)(p1:cL):aU Bool:=
 (gq N p1).bind λj=>(sG N p0 j).bind λo=>some o
def gJ(N:Nat)(p0:aL aK)(p1:aK->aU Bool):aU Bool:=
 (l7 N p0 p1).bind λj=>some<|decide<|j>=0
def jV(N:Nat)(p0_2:aL cL)(p0_5:aL aI)(p0_6:aL (aL Int)):aU (aL<|aL Int):=
 (jy p0_2.length (λ(ae:Nat)(o:aL (aL Int))=>((idx p0_2 (ae:Int)).bind λaa=>(jy p0_5.length (λ(ab:Nat)(j:aL Int)=>((idx p0_5 (ab:Int)).bind λad=>(bif aa.jo then((kW N aa ad.dI).bind λaf=>bif af then((gJ N ad.iU<|λy0=>j9 N y0 aa).bind λag=>some ag)else some false)else some false).bind λah=>(bif ah then((app 8 j ([(ab:Int)]:aL Int)).bind λai=>some ai)else some j).bind λaj=>some aj:aU (aL Int))) ([]:aL Int)).bind λj=>(app 24 o ([j]:aL (aL Int))).bind λak=>some ak:aU (aL<|aL Int))) p0_6).bind λo=>some o
def iN(N:Nat)(p0:Int):aU (aL Int):=
 (mk 8 (0:Int) p0).bind λaa=>(jy aa.length (λ(o:Nat)(j:aL Int)=>((idx j (o:Int)).bind λab=>some (j.set (Int.toNat (o:Int)) (o:Int)):aU (aL Int))) aa).bind λj=>some j
def dH(N:Nat)(p0_0:aL Int)(p1:Int):aU (Int×aL Int):=
 (kb (λ(j:aL Int×Int)=>((idx j.1 j.2).bind λaa=>bif aa != j.2 then((idx j.1 j.2).bind λab=>(idx j.1 ab).bind λo=>(idx j.1 j.2).bind λaf=>(idx (j.1.set (Int.toNat j.2) o) j.2).bind λad=>some<|.nx (j.1.set (Int.toNat j.2) o,ad))else(some<|.br (j.1,j.2)):aU (Fl (aL Int×Int) Empty))) N (p0_0,p1)).bind λae=>ae.cs (λ(j:aL Int×Int)=>some (j.2,j.1))<|λr=>r.elim
def dS(N:Nat)(p0_0:aL Int)(p1 p2:Int):aU (aL Int):=
 (dH N p0_0 p1).bind λo=>(dH N o.2 p2).bind λj=>(idx j.2 (if o.1<j.1 then j.1 else o.1)).bind λaa=>some<|j.2.set (Int.toNat (if o.1<j.1 then j.1 else o.1)) (if j.1<o.1 then j.1 else o.1)
def jW(N:Nat)(p0_0:aL Int):aU (aL (aL Int)×aL Int):=
 (jy p0_0.length (λ(ab:Nat)(j:aL Int×aL (aL Int)×aL (Int×Int))=>((dH N j.1 (ab:Int)).bind λaa=>(bif aa.1==(ab:Int)then((app 24 j.2.1 [([]:aL Int)]).bind λad=>some (ad,lf j.2.2 (ab:Int) (j.2.1.length:Int)))else some (j.2.1,j.2.2)).bind λo=>(idx o.1<|dE o.2 aa.1 (0:Int)).bind λae=>(app 8 ae ([(ab:Int)]:aL Int)).bind λaf=>(idx o.1<|dE o.2 aa.1 (0:Int)).bind λag=>some (aa.2,o.1.set (Int.toNat<|dE o.2 aa.1 (0:Int)) af,o.2):aU (aL Int×aL (aL Int)×aL (Int×Int)))) (p0_0,([]:aL (aL Int)),([]:aL (Int×Int)))).bind λj=>some (j.2.1,j.1)
def ly(N:Nat)(p0:aK)(p1:eR):aU Bool:=
 (bif p1.X>=p0.X0 then(bif p1.X<p0.X1 then(bif p1.Y>=p0.Y0 then some (decide<|p1.Y<p0.Y1)else some false)else some false)else some false).bind λj=>some j
def kh(N:Nat)(p0:aL aK)(p1:eR):aU Bool:=
 (gJ N p0<|λy0=>ly N y0 p1).bind λj=>some j
def jX(N:Nat)(p0_2:aL cL)(p0_5:aL aI)(p1:cW):aU (fN×Bool):=
 (qp p0_2.length (λ(o:Nat)(ad:Unit)=>((idx p0_2 (o:Int)).bind λj=>(bif j.jo then((kW N j p1.dI).bind λae=>bif ae then((gq N j).bind λaf=>(kh N ([af]:aL aK) p1.At).bind λag=>some ag)else some false)else some false).bind λah=>bif ah then some (.rt ((⟨true,(o:Int)⟩:fN),true))else(some<|.nx ()):aU (Fl Unit<|fN×Bool))) ()).bind λai=>ai.cs (λ(ad:Unit)=>(qp p0_5.length (λ(aa:Nat)(aj:Unit)=>((idx p0_5 (aa:Int)).bind λab=>(bif ab.dI==p1.dI then((kh N ab.iU p1.At).bind λak=>some ak)else some false).bind λal=>bif al then some (.rt ((⟨false,(aa:Int)⟩:fN),true))else(some<|.nx ()):aU (Fl Unit<|fN×Bool))) ()).bind λan=>an.cs (λ(aj:Unit)=>some ((⟨false,0⟩:fN),false))<|λr=>some r)<|λr=>some r
def gU(N:Nat)(p0_8:aL Int)(p0_9:aL Int)(p1:fN):aU Int:=
 bif p1.cL then((idx p0_9 p1.Number).bind λj=>some j)else((idx p0_8 p1.Number).bind λo=>some o)
def gl(N:Nat)(p0_2:aL cL)(p0_3:aL cW)(p0_5:aL aI)(p0_6:aL (aL Int))(p0_8:aL Int)(p0_9:aL Int)(p0_10:aL Int)(p0_11:aL fN):aU (aL bM×aL Int×aL Int×aL Int×aL fN):=
 (iN N<|wrap .i64<|(p0_5.length:Int)+(p0_2.length:Int)).bind λar=>(jy p0_6.length (λ(ai:Nat)(af:aL Int)=>((idx p0_6 (ai:Int)).bind λaj=>(jy aj.length (λ(au:Nat)(ag:aL Int)=>((idx aj (au:Int)).bind λav=>(dS N ag av<|wrap .i64<|(p0_5.length:Int)+(ai:Int)).bind λaw=>some aw:aU (aL Int))) af).bind λag=>some ag:aU (aL Int))) ar).bind λaf=>(mk 8 (0:Int) (p0_5.length:Int)).bind λax=>(mk 8 (0:Int) (p0_2.length:Int)).bind λay=>(jW N af).bind λak=>(jy ak.1.length (λ(az:Nat)(aa:aL bM×aL Int×aL Int)=>((idx ak.1 (az:Int)).bind λal=>(jy al.length (λ(a0:Nat)(j:aL Int×aL Int×aL Int×aL Int)=>((idx al (a0:Int)).bind λab=>(bif decide (ab<(p0_5.length:Int))then((idx j.1 ab).bind λbd=>(app 8 j.2.2.1 ([ab]:aL Int)).bind λa1=>some (j.1.set (Int.toNat ab) (aa.1.length:Int),j.2.1,a1,j.2.2.2))else((idx p0_2<|wrap .i64<|ab -(p0_5.length:Int)).bind λa2=>(bif a2.jo then((idx j.2.1<|wrap .i64<|ab -(p0_5.length:Int)).bind λbf=>(app 8 j.2.2.2 ([wrap .i64<|ab -(p0_5.length:Int)]:aL Int)).bind λa3=>some (j.2.1.set (Int.toNat<|wrap .i64<|ab -(p0_5.length:Int)) (aa.1.length:Int),a3))else((idx j.2.1<|wrap .i64<|ab -(p0_5.length:Int)).bind λbg=>some (j.2.1.set (Int.toNat<|wrap .i64<|ab -(p0_5.length:Int))<|-1,j.2.2.2))).bind λan=>some (j.1,an.1,j.2.2.1,an.2))).bind λad=>some (ad.1,ad.2.1,ad.2.2.1,ad.2.2.2):aU (aL Int×aL Int×aL Int×aL Int))) (aa.2.1,aa.2.2,([]:aL Int),([]:aL Int))).bind λj=>(bif decide (wrap .i64 ((j.2.2.1.length:Int)+(j.2.2.2.length:Int))>0)then((app 72 aa.1 [(⟨j.2.2.1,j.2.2.2,([]:aL bZ)⟩:bM)]).bind λa4=>some a4)else some aa.1).bind λa5=>some (a5,j.1,j.2.1):aU (aL bM×aL Int×aL Int))) (([]:aL bM),ax,ay)).bind λaa=>(jy p0_3.length (λ(a6:Nat)(o:aL bM×aL Int×aL Int×aL Int×aL fN)=>((idx p0_3 (a6:Int)).bind λao=>(jX N p0_2 p0_5 ao).bind λah=>(bif ah.2 then((gU N o.2.1 o.2.2.1 ah.1).bind λae=>(idx o.1 ae).bind λa7=>(lx N ao).bind λa8=>(app 32 a7.aZ ([a8]:aL bZ)).bind λa9=>(idx o.1 ae).bind λba=>some (o.1.set (Int.toNat ae) {ba with aZ:=a9},ae))else some (o.1,(-1))).bind λaq=>(app 8 o.2.2.2.1 ([aq.2]:aL Int)).bind λbb=>(app 16 o.2.2.2.2 ([ah.1]:aL fN)).bind λbc=>some (aq.1,o.2.1,o.2.2.1,bb,bc):aU (aL bM×aL Int×aL Int×aL Int×aL fN))) (aa.1,aa.2.1,aa.2.2,p0_10,p0_11)).bind λo=>some (o.1,o.2.1,o.2.2.1,o.2.2.2.1,o.2.2.2.2)
def gE(N:Nat)(p0:iE):aU (aU (aL (aL aK)×aL aK×aL cL×aL cW×aL (aL aB)×aL aI×aL (aL Int)×aL bM×aL Int×aL Int×aL Int×aL fN)×Int):=
 bif(p0.aS.length:Int)==0 then some (none,9)else(bif decide ((p0.aS.length:Int)>16)then some (none,2)else((qp p0.aS.length (λ(an:Nat)(aa:Int)=>((idx p0.aS (an:Int)).bind λae=>(jf N ae).bind λaf=>bif af != 0 then some (.rt (none,af))else(some<|.nx<|wrap .i64<|aa+(ae.length:Int)):aU (Fl Int<|aU (aL (aL aK)×aL aK×aL cL×aL cW×aL (aL aB)×aL aI×aL (aL Int)×aL bM×aL Int×aL Int×aL Int×aL fN)×Int))) (p0.dU.length:Int)).bind λao=>ao.cs (λ(aa:Int)=>(jf N p0.dU).bind λag=>bif ag != 0 then some (none,ag)else(bif aa>2000 then some (none,2)else((ku N p0).bind λah=>bif ah != 0 then some (none,ah)else((kx N p0).bind λai=>bif ai != 0 then some (none,ai)else((qp p0.bQ.length (λ(aj:Nat)(aq:Unit)=>((idx p0.bQ (aj:Int)).bind λab=>(xd p0.bQ 0 (aj:Int)).bind λak=>(qp ak.length (λ(ar:Nat)(au:Unit)=>((idx ak (ar:Int)).bind λad=>(bif decide (ab.cQ<=ad.To)&&decide (ad.cQ<=ab.To)then((gq N ab).bind λav=>(gq N ad).bind λaw=>(kV N av aw).bind λax=>some<|ax==0)else some false).bind λay=>bif ay then some (.rt (none,12))else(some<|.nx ()):aU (Fl Unit<|aU (aL (aL aK)×aL aK×aL cL×aL cW×aL (aL aB)×aL aI×aL (aL Int)×aL bM×aL Int×aL Int×aL Int×aL fN)×Int))) ()).bind λaz=>az.cs (λ(au:Unit)=>some<|.nx ()) (λr=>some<|.rt r):aU (Fl Unit<|aU (aL (aL aK)×aL aK×aL cL×aL cW×aL (aL aB)×aL aI×aL (aL Int)×aL bM×aL Int×aL Int×aL Int×aL fN)×Int))) ()).bind λa0=>a0.cs (λ(aq:Unit)=>(jU N p0.aS p0.bQ ([]:aL (aL aB)) ([]:aL aI)).bind λj=>bif(!j.1)then some (none,2)else((jV N p0.bQ j.2.2 ([]:aL (aL Int))).bind λal=>(gl N p0.bQ p0.bX j.2.2 al ([]:aL Int) ([]:aL Int) ([]:aL Int) ([]:aL fN)).bind λo=>some (some (p0.aS,p0.dU,p0.bQ,p0.bX,j.2.1,j.2.2,al,o.1,o.2.1,o.2.2.1,o.2.2.2.1,o.2.2.2.2),0)))<|λr=>some r)))))<|λr=>some r))
def eK(N:Nat)(p0:aL aY)(p1:cB)(p2:iE):aU (aU (aL (aL aK)×aL aK×aL cL×aL cW×aL (aL aB)×aL aI×aL (aL Int)×aL bM×aL Int×aL Int×aL Int×aL fN)×Int):=
 (jd N p0 p1).bind λaa=>bif aa != 0 then some (none,aa)else((gE N p2).bind λo=>B6 o.1 (some (none,o.2))<|λ(j:(aL (aL aK)×aL aK×aL cL×aL cW×aL (aL aB)×aL aI×aL (aL Int)×aL bM×aL Int×aL Int×aL Int×aL fN))=>some (some (j.1,j.2.1,j.2.2.1,j.2.2.2.1,j.2.2.2.2.1,j.2.2.2.2.2.1,j.2.2.2.2.2.2.1,j.2.2.2.2.2.2.2.1,j.2.2.2.2.2.2.2.2.1,j.2.2.2.2.2.2.2.2.2.1,j.2.2.2.2.2.2.2.2.2.2.1,j.2.2.2.2.2.2.2.2.2.2.2),o.2))
def lz(N:Nat)(p0 p1 p2:Int):aU Bool:=
 some (decide (p0>=p1)&&decide (p0<=p2))
def eW(N:Nat)(p0:aL aY)(p1:cB)(p2:iE)(p3:Int):aU (aU (aL (aL aK)×aL aK×aL cL×aL cW×aL (aL aB)×aL aI×aL (aL Int)×aL bM×aL Int×aL Int×aL Int×aL fN)×Int):=
 (eK N p0 p1 p2).bind λo=>B6 o.1 (bif o.2 != 0 then some (none,o.2)else((lz N p3 0 100000).bind λaa=>bif(!aa)then some (none,1)else some (none,0))) (λ(j:(aL (aL aK)×aL aK×aL cL×aL cW×aL (aL aB)×aL aI×aL (aL Int)×aL bM×aL Int×aL Int×aL Int×aL fN))=>bif o.2 != 0 then some (none,o.2)else((lz N p3 0 100000).bind λab=>bif(!ab)then some (none,1)else some (some (j.1,j.2.1,j.2.2.1,j.2.2.2.1,j.2.2.2.2.1,j.2.2.2.2.2.1,j.2.2.2.2.2.2.1,j.2.2.2.2.2.2.2.1,j.2.2.2.2.2.2.2.2.1,j.2.2.2.2.2.2.2.2.2.1,j.2.2.2.2.2.2.2.2.2.2.1,j.2.2.2.2.2.2.2.2.2.2.2),0)))
def fS(N:Nat)(p0:aL cW)(p1:bZ)(p2:cW->bZ->aU Int):aU (Int×Bool):=
 (kb (λ(j:Int×Int)=>(bif j.1<j.2 then((idx p0<|wrap .i64<|Int.fdiv (wrap .u64<|wrap .i64<|j.1+j.2) 2).bind λaa=>(p2 aa p1).bind λab=>(bif ab<0 then some (wrap .i64<|wrap .i64 (Int.fdiv (wrap .u64<|wrap .i64<|j.1+j.2) 2)+1,j.2)else some (j.1,wrap .i64<|Int.fdiv (wrap .u64<|wrap .i64<|j.1+j.2) 2)).bind λo=>some<|.nx (o.1,o.2))else(some<|.br (j.1,j.2)):aU (Fl (Int×Int) Empty))) N (0,(p0.length:Int))).bind λad=>ad.cs (λ(j:Int×Int)=>(bif decide (j.1<(p0.length:Int))then((idx p0 j.1).bind λae=>(p2 ae p1).bind λaf=>some<|af==0)else some false).bind λag=>some (j.1,ag))<|λr=>r.elim
def iO(N:Nat)(p0:cW)(p1:bZ):aU Int:=
 (lx N p0).bind λj=>(cO N j p1).bind λo=>some o
def eP(N:Nat)(p0:iE)(p1:bZ):aU Int:=
 (fS N p0.bX p1<|iO N).bind λj=>bif(!j.2)then some (-1)else some j.1
def lh(N:Nat)(p0 p1:Int):aU Int:=
 some (if wrap .i64 (p0 - p1)<(wrap .i64<|p1 - p0)then wrap .i64 (p1 - p0)else wrap .i64 (p0 - p1))
def cY(N:Nat)(p0:aL aC)(p1 p2:Int)(p3:aC->aC->aU Int):aU (aL aC):=
 (kb (λ(o:aL aC×Int)=>(bif o.2<p2 then((kb (λ(j:aL aC×Int)=>((bif j.2>p1 then((idx j.1 j.2).bind λab=>(idx j.1<|wrap .i64<|j.2 - 1).bind λad=>(p3 ab ad).bind λae=>some<|decide<|ae<0)else some false).bind λaf=>bif af then((idx j.1<|wrap .i64<|j.2 - 1).bind λaa=>(idx j.1 j.2).bind λag=>(idx j.1 j.2).bind λaj=>(idx (j.1.set (Int.toNat j.2) aa)<|wrap .i64<|j.2 - 1).bind λak=>some<|.nx ((j.1.set (Int.toNat j.2) aa).set (Int.toNat<|wrap .i64<|j.2 - 1) ag,wrap .i64<|j.2 - 1))else(some<|.br (j.1,j.2)):aU (Fl (aL aC×Int) Empty))) N (o.1,o.2)).bind λah=>ah.cs (λ(j:aL aC×Int)=>some<|.nx (j.1,wrap .i64<|o.2+1))<|λr=>r.elim)else(some<|.br (o.1,o.2)):aU (Fl (aL aC×Int) Empty))) N (p0,wrap .i64<|p1+1)).bind λai=>ai.cs (λ(o:aL aC×Int)=>some o.1)<|λr=>r.elim
def dT(N:Nat)(p0:aL aC)(p1 p2 p3:Int)(p4:aC->aC->aU Int):aU (aL aC):=
 (kb (λ(j:aL aC×Int)=>(bif j.2<p3 then((idx j.1<|wrap .i64<|p2+j.2).bind λo=>(idx j.1<|wrap .i64<|p1+j.2).bind λaa=>(idx j.1<|wrap .i64<|p1+j.2).bind λad=>(idx (j.1.set (Int.toNat<|wrap .i64<|p1+j.2) o)<|wrap .i64<|p2+j.2).bind λae=>some<|.nx ((j.1.set (Int.toNat<|wrap .i64<|p1+j.2) o).set (Int.toNat<|wrap .i64<|p2+j.2) aa,wrap .i64<|j.2+1))else(some<|.br (j.1,j.2)):aU (Fl (aL aC×Int) Empty))) N (p0,0)).bind λab=>ab.cs (λ(j:aL aC×Int)=>some j.1)<|λr=>r.elim
def fz(N:Nat)(p0:aL aC)(p1 p2 p3:Int)(p4:aC->aC->aU Int):aU (aL aC):=
 (kb (λ(j:aL aC×Int×Int)=>(bif j.2.1 != j.2.2 then((bif j.2.1>j.2.2 then((dT N j.1 (wrap .i64<|p2 - j.2.1) p2 j.2.2 p4).bind λaa=>some (aa,wrap .i64<|j.2.1 - j.2.2,j.2.2))else((dT N j.1 (wrap .i64<|p2 - j.2.1) (wrap .i64<|wrap .i64 (p2+j.2.2) - j.2.1) j.2.1 p4).bind λab=>some (ab,j.2.1,wrap .i64<|j.2.2 - j.2.1))).bind λo=>some<|.nx (o.1,o.2.1,o.2.2))else(some<|.br (j.1,j.2.1,j.2.2)):aU (Fl (aL aC×Int×Int) Empty))) N (p0,wrap .i64<|p2 - p1,wrap .i64<|p3 - p2)).bind λad=>ad.cs (λ(j:aL aC×Int×Int)=>(dT N j.1 (wrap .i64<|p2 - j.2.1) p2 j.2.1 p4).bind λae=>some ae)<|λr=>r.elim
def cZ(N:Nat)(rc:aL aC->Int->Int->Int->(aC->aC->aU Int)->aU (aL aC))(p0:aL aC)(p1 p2 p3:Int)(p4:aC->aC->aU Int):aU (aL aC):=
 bif wrap .i64 (p2 - p1)==1 then((kb (λ(ab:Int×Int)=>(bif ab.1<ab.2 then((idx p0<|wrap .i64<|Int.fdiv (wrap .u64<|wrap .i64<|ab.1+ab.2) 2).bind λan=>(idx p0 p1).bind λao=>(p4 an ao).bind λaq=>(bif aq<0 then some (wrap .i64<|wrap .i64 (Int.fdiv (wrap .u64<|wrap .i64<|ab.1+ab.2) 2)+1,ab.2)else some (ab.1,wrap .i64<|Int.fdiv (wrap .u64<|wrap .i64<|ab.1+ab.2) 2)).bind λae=>some<|.nx (ae.1,ae.2))else(some<|.br (ab.1,ab.2)):aU (Fl (Int×Int) Empty))) N (p2,p3)).bind λar=>ar.cs (λ(ab:Int×Int)=>(kb (λ(o:aL aC×Int)=>(bif o.2<(wrap .i64<|ab.1 - 1)then((idx o.1<|wrap .i64<|o.2+1).bind λaf=>(idx o.1 o.2).bind λau=>(idx o.1 o.2).bind λba=>(idx (o.1.set (Int.toNat o.2) af)<|wrap .i64<|o.2+1).bind λbb=>some<|.nx ((o.1.set (Int.toNat o.2) af).set (Int.toNat<|wrap .i64<|o.2+1) au,wrap .i64<|o.2+1))else(some<|.br (o.1,o.2)):aU (Fl (aL aC×Int) Empty))) N (p0,p1)).bind λav=>av.cs (λ(o:aL aC×Int)=>some o.1)<|λr=>r.elim)<|λr=>r.elim)else(bif wrap .i64 (p3 - p2)==1 then((kb (λ(ad:Int×Int)=>(bif ad.1<ad.2 then((idx p0 p2).bind λaw=>(idx p0<|wrap .i64<|Int.fdiv (wrap .u64<|wrap .i64<|ad.1+ad.2) 2).bind λax=>(p4 aw ax).bind λay=>(bif(!(decide<|ay<0))then some (wrap .i64<|wrap .i64 (Int.fdiv (wrap .u64<|wrap .i64<|ad.1+ad.2) 2)+1,ad.2)else some (ad.1,wrap .i64<|Int.fdiv (wrap .u64<|wrap .i64<|ad.1+ad.2) 2)).bind λag=>some<|.nx (ag.1,ag.2))else(some<|.br (ad.1,ad.2)):aU (Fl (Int×Int) Empty))) N (p1,p2)).bind λaz=>az.cs (λ(ad:Int×Int)=>(kb (λ(aa:aL aC×Int)=>(bif aa.2>ad.1 then((idx aa.1<|wrap .i64<|aa.2 - 1).bind λah=>(idx aa.1 aa.2).bind λa0=>(idx aa.1 aa.2).bind λbc=>(idx (aa.1.set (Int.toNat aa.2) ah)<|wrap .i64<|aa.2 - 1).bind λbd=>some<|.nx ((aa.1.set (Int.toNat aa.2) ah).set (Int.toNat<|wrap .i64<|aa.2 - 1) a0,wrap .i64<|aa.2 - 1))else(some<|.br (aa.1,aa.2)):aU (Fl (aL aC×Int) Empty))) N (p0,p2)).bind λa1=>a1.cs (λ(aa:aL aC×Int)=>some aa.1)<|λr=>r.elim)<|λr=>r.elim)else((bif p2>(wrap .i64<|Int.fdiv (wrap .u64<|wrap .i64<|p1+p3) 2)then some (wrap .i64<|wrap .i64 (wrap .i64 (Int.fdiv (wrap .u64<|wrap .i64<|p1+p3) 2)+p2) - p3,wrap .i64<|Int.fdiv (wrap .u64<|wrap .i64<|p1+p3) 2)else some (p1,p2)).bind λai=>(kb (λ(j:Int×Int)=>(bif j.1<j.2 then((idx p0<|wrap .i64<|wrap .i64 (wrap .i64 (wrap .i64 (Int.fdiv (wrap .u64<|wrap .i64<|p1+p3) 2)+p2) - 1) -(wrap .i64<|Int.fdiv (wrap .u64<|wrap .i64<|j.1+j.2) 2)).bind λa2=>(idx p0<|wrap .i64<|Int.fdiv (wrap .u64<|wrap .i64<|j.1+j.2) 2).bind λa3=>(p4 a2 a3).bind λa4=>(bif(!(decide<|a4<0))then some (wrap .i64<|wrap .i64 (Int.fdiv (wrap .u64<|wrap .i64<|j.1+j.2) 2)+1,j.2)else some (j.1,wrap .i64<|Int.fdiv (wrap .u64<|wrap .i64<|j.1+j.2) 2)).bind λaj=>some<|.nx (aj.1,aj.2))else(some<|.br (j.1,j.2)):aU (Fl (Int×Int) Empty))) N (ai.1,ai.2)).bind λa5=>a5.cs (λ(j:Int×Int)=>(bif decide (j.1<p2)&&decide (p2< wrap .i64 (wrap .i64 (wrap .i64 (Int.fdiv (wrap .u64<|wrap .i64<|p1+p3) 2)+p2) - j.1))then((fz N p0 j.1 p2 (wrap .i64<|wrap .i64 (wrap .i64 (Int.fdiv (wrap .u64<|wrap .i64<|p1+p3) 2)+p2) - j.1) p4).bind λa6=>some a6)else some p0).bind λak=>(bif decide (p1<j.1)&&decide (j.1< wrap .i64 (Int.fdiv (wrap .u64<|wrap .i64<|p1+p3) 2))then((rc ak p1 j.1 (wrap .i64<|Int.fdiv (wrap .u64<|wrap .i64<|p1+p3) 2) p4).bind λa7=>some a7)else some ak).bind λal=>(bif decide (wrap .i64 (Int.fdiv (wrap .u64<|wrap .i64<|p1+p3) 2)< wrap .i64 (wrap .i64 (wrap .i64 (Int.fdiv (wrap .u64<|wrap .i64<|p1+p3) 2)+p2) - j.1))&&decide (wrap .i64 (wrap .i64 (wrap .i64 (Int.fdiv (wrap .u64<|wrap .i64<|p1+p3) 2)+p2) - j.1)<p3)then((rc al (wrap .i64<|Int.fdiv (wrap .u64<|wrap .i64<|p1+p3) 2) (wrap .i64<|wrap .i64 (wrap .i64 (Int.fdiv (wrap .u64<|wrap .i64<|p1+p3) 2)+p2) - j.1) p3 p4).bind λa8=>some a8)else some al).bind λa9=>some a9)<|λr=>r.elim))
def gF(N:Nat):Nat->aL aC->Int->Int->Int->(aC->aC->aU Int)->aU (aL aC)
 | 0=>λ_ _ _ _ _=>none
 |d+1=>cZ N (gF N d)
def dV(N:Nat)(p0:aL aC)(p1 p2 p3:Int)(p4:aC->aC->aU Int):aU (aL aC):=gF N N p0 p1 p2 p3 p4
def iJ(N:Nat)(p0:aL aC)(p1:Int)(p2:aC->aC->aU Int):aU (aL aC):=
 (kb (λ(o:aL aC×Int×Int)=>(bif o.2.2<=p1 then((cY N o.1 o.2.1 o.2.2 p2).bind λab=>some<|.nx (ab,o.2.2,wrap .i64<|o.2.2+20))else(some<|.br (o.1,o.2.1,o.2.2)):aU (Fl (aL aC×Int×Int) Empty))) N (p0,0,20)).bind λad=>ad.cs (λ(o:aL aC×Int×Int)=>(cY N o.1 o.2.1 p1 p2).bind λae=>(kb (λ(aa:aL aC×Int)=>(bif aa.2<p1 then((kb (λ(j:aL aC×Int×Int)=>(bif j.2.2<=p1 then((dV N j.1 j.2.1 (wrap .i64<|j.2.1+aa.2) j.2.2 p2).bind λaf=>some<|.nx (af,j.2.2,wrap .i64<|j.2.2+ wrap .i64 (2*aa.2)))else(some<|.br (j.1,j.2.1,j.2.2)):aU (Fl (aL aC×Int×Int) Empty))) N (aa.1,0,wrap .i64<|2*aa.2)).bind λag=>ag.cs (λ(j:aL aC×Int×Int)=>(bif wrap .i64 (j.2.1+aa.2)<p1 then((dV N j.1 j.2.1 (wrap .i64<|j.2.1+aa.2) p1 p2).bind λah=>some ah)else some j.1).bind λai=>some<|.nx (ai,wrap .i64<|aa.2*2))<|λr=>r.elim)else(some<|.br (aa.1,aa.2)):aU (Fl (aL aC×Int) Empty))) N (ae,20)).bind λaj=>aj.cs (λ(aa:aL aC×Int)=>some aa.1)<|λr=>r.elim)<|λr=>r.elim
def eE(N:Nat)(p0:aL aC)(p1:aC->aC->aU Int):aU (aL aC):=
 (iJ N p0 (p0.length:Int) p1).bind λj=>some j
def ny(N:Nat)(p0:Int):aU Bool:=
 some (p0 != p0)
def nN(N:Nat)(p0 p1:Int):aU Int:=
 (ny N p0).bind λo=>(ny N p1).bind λj=>bif o then(bif j then some 0 else some (-1))else(bif j then some 1 else(bif p0<p1 then some (-1)else(bif p0>p1 then some 1 else some 0)))
def jY(N:Nat)(p0 p1:aC):aU Int:=
 (nN N p0.B7 p1.B7).bind λj=>some j
def ry(N:Nat)(p0:aL Int):aU Int:=
 (qp p0.length (λ(o:Nat)(aa:Unit)=>((idx p0 (o:Int)).bind λj=>bif j != 0 then some (.rt j)else(some<|.nx ()):aU (Fl Unit Int))) ()).bind λab=>ab.cs (λ(aa:Unit)=>some 0)<|λr=>some r
def dC(N:Nat)(p0 p1:Test):aU Int:=
 (cO N p0.A p1.A).bind λj=>(cO N p0.B p1.B).bind λo=>(ry N ([j,o]:aL Int)).bind λaa=>some aa
def jH(N:Nat)(p0:cB)(p1:iE):aU (aL Test):=
 (jy p0.cF.length (λ(au:Nat)(ad:aL Test)=>((idx p0.cF (au:Int)).bind λah=>(jy ah.aZ.length (λ(av:Nat)(j:aL cW)=>((idx ah.aZ (av:Int)).bind λaw=>(eP N p1 aw).bind λai=>(bif ai>=0 then((idx p1.bX ai).bind λax=>(app 56 j ([ax]:aL cW)).bind λay=>some ay)else some j).bind λaz=>some az:aU (aL cW))) ([]:aL cW)).bind λj=>(jy j.length (λ(ae:Nat)(af:aL aC)=>((idx j (ae:Int)).bind λaj=>(kb (λ(o:aL aC×Int)=>(bif decide (o.2<(j.length:Int))then((idx j o.2).bind λak=>(lh N aj.At.X ak.At.X).bind λa0=>(lh N aj.At.Y ak.At.Y).bind λa1=>(app 24 o.1 ([(⟨wrap .i64<|a0+a1,(ae:Int),o.2⟩:aC)]:aL aC)).bind λa2=>some<|.nx (a2,wrap .i64<|o.2+1))else(some<|.br (o.1,o.2)):aU (Fl (aL aC×Int) Empty))) N (af,wrap .i64<|(ae:Int)+1)).bind λa3=>a3.cs (λ(o:aL aC×Int)=>some o.1) (λr=>r.elim):aU (aL aC))) ([]:aL aC)).bind λaf=>(eE N af<|jY N).bind λal=>(iN N (j.length:Int)).bind λa4=>(jy al.length (λ(a5:Nat)(ab:aL Test×aL Int)=>((idx al (a5:Int)).bind λaa=>(dH N ab.2 aa.i).bind λan=>(dH N an.2 aa.k).bind λag=>(bif an.1 != ag.1 then((dS N ag.2 aa.i aa.k).bind λa6=>(idx j aa.i).bind λao=>(idx j aa.k).bind λaq=>(app 72 ab.1 ([(⟨(⟨ao.Part,ao.bZ⟩:bZ),(⟨aq.Part,aq.bZ⟩:bZ),true⟩:Test)]:aL Test)).bind λa7=>some (a7,a6))else some (ab.1,ag.2)).bind λar=>some (ar.1,ar.2):aU (aL Test×aL Int))) (ad,a4)).bind λab=>some ab.1:aU (aL Test))) ([]:aL Test)).bind λad=>(r9 (dC N) ad).bind λa8=>some a8
def lA(N:Nat)(p0:cB):aU (aL<|bZ×Int):=
 (jy p0.cF.length (λ(aa:Nat)(j:aL (bZ×Int))=>((idx p0.cF (aa:Int)).bind λab=>(jy ab.aZ.length (λ(ad:Nat)(o:aL (bZ×Int))=>((idx ab.aZ (ad:Int)).bind λae=>some (lf o ae (aa:Int)):aU (aL<|bZ×Int))) j).bind λo=>some o:aU (aL<|bZ×Int))) ([]:aL (bZ×Int))).bind λj=>some j
def rA(N:Nat)(p0 p1:aK)(p2:Int):aU eR:=
 some (⟨(if p0.X0<(wrap .i64<|p1.X0 - p2)then wrap .i64 (p1.X0 - p2)else p0.X0),(if p0.Y0<(wrap .i64<|p1.Y0 - p2)then wrap .i64 (p1.Y0 - p2)else p0.Y0)⟩:eR)
def rB(N:Nat)(p0 p1:eR):aU Bool:=
 some (decide (p0.Y<p1.Y)||((p0.Y==p1.Y)&&decide (p0.X<p1.X)))
def ky(N:Nat)(p0:aL aK)(p1:aL aK):aU u6:=
 (jy p0.length (λ(an:Nat)(aa:Int)=>((idx p0 (an:Int)).bind λao=>(jy p1.length (λ(aq:Nat)(ad:Int)=>((idx p1 (aq:Int)).bind λar=>(kV N ao ar).bind λae=>(bif decide (ad<0)||decide (ae<ad)then some ae else some ad).bind λau=>some au:aU Int)) aa).bind λad=>some ad:aU Int))<|-1).bind λaa=>(jy p0.length (λ(av:Nat)(j:u6×Bool)=>((idx p0 (av:Int)).bind λaf=>(jy p1.length (λ(aw:Nat)(o:u6×Bool)=>((idx p1 (aw:Int)).bind λag=>(rA N af ag aa).bind λah=>((kV N af ag).bind λax=>bif ax==aa then(bif(!o.2)then some true else((rB N ah o.1.cQ).bind λay=>some ay))else some false).bind λaz=>(bif az then some ({o.1 with cQ:=ah},true)else some (o.1,o.2)).bind λai=>some (ai.1,ai.2):aU (u6×Bool))) (j.1,j.2)).bind λo=>some (o.1,o.2):aU (u6×Bool))) ((⟨0,0,wrap .i64<|aa - 1,⟨0,0⟩,⟨0,0⟩⟩:u6),false)).bind λj=>(jy p1.length (λ(a0:Nat)(ab:u6×Bool)=>((idx p1 (a0:Int)).bind λaj=>(rA N aj (⟨j.1.cQ.X,j.1.cQ.Y,wrap .i64<|j.1.cQ.X+1,wrap .i64<|j.1.cQ.Y+1⟩:aK) aa).bind λak=>((kV N aj (⟨j.1.cQ.X,j.1.cQ.Y,wrap .i64<|j.1.cQ.X+1,wrap .i64<|j.1.cQ.Y+1⟩:aK)).bind λa1=>bif a1==aa then(bif(!ab.2)then some true else((rB N ak ab.1.To).bind λa2=>some a2))else some false).bind λa3=>(bif a3 then some ({ab.1 with To:=ak},true)else some (ab.1,ab.2)).bind λal=>some (al.1,al.2):aU (u6×Bool))) (j.1,false)).bind λab=>some ab.1
def jz(N:Nat)(p1:Int):aU (aL bZ):=
 bif p1<0 then none else((bif decide (wrap .i64 (p1 -(wrap .i64<|((0:Nat):Int) -((0:Nat):Int)))>0)then((HW 32 (⟨⟨[]⟩,⟨[]⟩⟩:bZ)<|wrap .i64<|p1 -(wrap .i64<|((0:Nat):Int) -((0:Nat):Int))).bind λj=>(xd j 0 ((0:Nat):Int)).bind λo=>some o)else some ([]:aL bZ)).bind λaa=>some aa)
def iu(N:Nat)(p0:aL (aL bZ)):aU (aL bZ):=
 (jy p0.length (λ(ab:Nat)(j:Int)=>((idx p0 (ab:Int)).bind λaa=>bif decide (wrap .i64 (j+(aa.length:Int))<0)then none else(some<|wrap .i64<|j+(aa.length:Int)):aU Int)) 0).bind λj=>(jz N j).bind λad=>(jy p0.length (λ(ae:Nat)(o:aL bZ)=>((idx p0 (ae:Int)).bind λaf=>(app 32 o af).bind λag=>some ag:aU (aL bZ))) ad).bind λo=>some o
def lM(N:Nat)(p0:bZ)(p1_0:aL (bZ×Int))(p2:Int):aU Bool:=
 (bif(!(iD p1_0 p0))then some true else some (dE p1_0 p0 (0:Int) != p2)).bind λj=>some j
def fW(N:Nat)(p0:aL bZ)(p1c0_0:aL (bZ×Int))(p1c1:Int):aU Int:=
 (qp p0.length (λ(j:Nat)(o:Unit)=>((idx p0 (j:Int)).bind λaa=>(lM N aa p1c0_0 p1c1).bind λab=>bif ab then some (.rt (j:Int))else(some<|.nx ()):aU (Fl Unit Int))) ()).bind λad=>ad.cs (λ(o:Unit)=>some<|-1)<|λr=>some r
def dW(N:Nat)(p0:aL bZ)(p1c0_0:aL (bZ×Int))(p1c1:Int):aU Bool:=
 (fW N p0 p1c0_0 p1c1).bind λj=>some<|decide<|j>=0
def lB(N:Nat)(p0:aL (bZ×Int))(p1:aL bZ):aU (Bool×aL (bZ×Int)):=
 (idx p1 0).bind λj=>(bif iD p0 j then((dW N p1 p0<|dE p0 j (0:Int)).bind λo=>some<|!o)else some false).bind λaa=>some (aa,p0)
def kz(N:Nat)(p0:cB)(p1_5:aL aI)(p1_7:aL bM)(p1_8:aL Int)(p2:Int):aU (aL Test):=
 (lA N p0).bind λar=>(jy p1_5.length (λ(ah:Nat)(ai:aL (bA×Bool))=>((idx p1_5 (ah:Int)).bind λan=>(kb (λ(j:aL (bA×Bool)×Int)=>((bif decide (j.2<(p1_5.length:Int))then((idx p1_5 j.2).bind λau=>some<|au.dI==an.dI)else some false).bind λav=>bif av then((idx p1_8 (ah:Int)).bind λaa=>(idx p1_8 j.2).bind λab=>(idx p1_8 (ah:Int)).bind λad=>(idx p1_8 j.2).bind λae=>(bif(if ab<aa then ab else aa) != (if ad<ae then ae else ad)then(bif(!(dE j.1 (⟨(if ab<aa then ab else aa),(if ad<ae then ae else ad)⟩:bA) (false:Bool)))then((idx p1_5 j.2).bind λaw=>(ky N an.iU aw.iU).bind λax=>some<|decide<|ax.gz<p2)else some false)else some false).bind λay=>(bif ay then some (lf j.1 (⟨(if ab<aa then ab else aa),(if ad<ae then ae else ad)⟩:bA) true)else some j.1).bind λaz=>some<|.nx (az,wrap .i64<|j.2+1))else(some<|.br (j.1,j.2)):aU (Fl (aL (bA×Bool)×Int) Empty))) N (ai,wrap .i64<|(ah:Int)+1)).bind λa0=>a0.cs (λ(j:aL (bA×Bool)×Int)=>some j.1) (λr=>r.elim):aU (aL<|bA×Bool))) ([]:aL (bA×Bool))).bind λai=>Dv ai (λ(ao:bA×Bool)(o:aL (bZ×Int)×aL Test)=>((idx p1_7 ao.1.e0).bind λaj=>(idx p1_7 ao.1.e1).bind λak=>(bif(aj.aZ.length:Int)==0 then some (o.1,true)else(bif(ak.aZ.length:Int)==0 then some (o.1,true)else((iu N ([aj.aZ,ak.aZ]:aL (aL bZ))).bind λa1=>(lB N o.1 a1).bind λaq=>some (aq.2,aq.1)))).bind λal=>bif al.2 then some (.nx (al.1,o.2))else((idx aj.aZ 0).bind λaf=>(idx ak.aZ 0).bind λag=>(cO N ((⟨af,ag,false⟩:Test).B)<|(⟨af,ag,false⟩:Test).A).bind λa2=>(bif a2<0 then some {{(⟨af,ag,false⟩:Test)with A:=(⟨af,ag,false⟩:Test).B}with B:=(⟨af,ag,false⟩:Test).A}else some (⟨af,ag,false⟩:Test)).bind λa3=>(app 72 o.2 ([a3]:aL Test)).bind λa4=>some<|.nx (al.1,a4)):aU (Fl (aL (bZ×Int)×aL Test) Empty))) (ar,([]:aL Test)) (λ(o:aL (bZ×Int)×aL Test)=>(r9 (dC N) o.2).bind λa5=>some a5)<|λr=>r.elim
def gV(N:Nat)(p1:Int):aU (aL Test):=
 bif p1<0 then none else((bif decide (wrap .i64 (p1 -(wrap .i64<|((0:Nat):Int) -((0:Nat):Int)))>0)then((HW 72 (⟨⟨⟨[]⟩,⟨[]⟩⟩,⟨⟨[]⟩,⟨[]⟩⟩,false⟩:Test)<|wrap .i64<|p1 -(wrap .i64<|((0:Nat):Int) -((0:Nat):Int))).bind λj=>(xd j 0 ((0:Nat):Int)).bind λo=>some o)else some ([]:aL Test)).bind λaa=>some aa)
def jZ(N:Nat)(p0:aL (aL Test)):aU (aL Test):=
 (jy p0.length (λ(ab:Nat)(j:Int)=>((idx p0 (ab:Int)).bind λaa=>bif decide (wrap .i64 (j+(aa.length:Int))<0)then none else(some<|wrap .i64<|j+(aa.length:Int)):aU Int)) 0).bind λj=>(gV N j).bind λad=>(jy p0.length (λ(ae:Nat)(o:aL Test)=>((idx p0 (ae:Int)).bind λaf=>(app 72 o af).bind λag=>some ag:aU (aL Test))) ad).bind λo=>some o
def nT(N:Nat)(p0:aL Test):aU (aL Test×Int):=
 bif decide ((p0.length:Int)>2000)then some (([]:aL Test),2)else some (p0,0)
def lC(N:Nat)(p0:cB)(p1_5:aL aI)(p1_7:aL bM)(p1_8:aL Int)(p2:Int):aU (aL Test):=
 (lA N p0).bind λar=>(jy p1_5.length (λ(ah:Nat)(ai:aL (bA×Bool))=>((idx p1_5 (ah:Int)).bind λan=>(kb (λ(j:aL (bA×Bool)×Int)=>((bif decide (j.2<(p1_5.length:Int))then((idx p1_5 j.2).bind λau=>some<|au.dI==an.dI)else some false).bind λav=>bif av then((idx p1_8 (ah:Int)).bind λaa=>(idx p1_8 j.2).bind λab=>(idx p1_8 (ah:Int)).bind λad=>(idx p1_8 j.2).bind λae=>(bif(if ab<aa then ab else aa) != (if ad<ae then ae else ad)then(bif(!(dE j.1 (⟨(if ab<aa then ab else aa),(if ad<ae then ae else ad)⟩:bA) (false:Bool)))then((idx p1_5 j.2).bind λaw=>(ky N an.iU aw.iU).bind λax=>some<|decide<|ax.gz<p2)else some false)else some false).bind λay=>(bif ay then some (lf j.1 (⟨(if ab<aa then ab else aa),(if ad<ae then ae else ad)⟩:bA) true)else some j.1).bind λaz=>some<|.nx (az,wrap .i64<|j.2+1))else(some<|.br (j.1,j.2)):aU (Fl (aL (bA×Bool)×Int) Empty))) N (ai,wrap .i64<|(ah:Int)+1)).bind λa0=>a0.cs (λ(j:aL (bA×Bool)×Int)=>some j.1) (λr=>r.elim):aU (aL<|bA×Bool))) ([]:aL (bA×Bool))).bind λai=>Dv ai (λ(ao:bA×Bool)(o:aL (bZ×Int)×aL Test)=>((idx p1_7 ao.1.e0).bind λaj=>(idx p1_7 ao.1.e1).bind λak=>(bif(aj.aZ.length:Int)==0 then some (o.1,true)else(bif(ak.aZ.length:Int)==0 then some (o.1,true)else((iu N ([aj.aZ,ak.aZ]:aL (aL bZ))).bind λa1=>(lB N o.1 a1).bind λaq=>some (aq.2,aq.1)))).bind λal=>bif al.2 then some (.nx (al.1,o.2))else((idx aj.aZ 0).bind λaf=>(idx ak.aZ 0).bind λag=>(cO N ((⟨af,ag,false⟩:Test).B)<|(⟨af,ag,false⟩:Test).A).bind λa2=>(bif a2<0 then some {{(⟨af,ag,false⟩:Test)with A:=(⟨af,ag,false⟩:Test).B}with B:=(⟨af,ag,false⟩:Test).A}else some (⟨af,ag,false⟩:Test)).bind λa3=>(app 72 o.2 ([a3]:aL Test)).bind λa4=>some<|.nx (al.1,a4)):aU (Fl (aL (bZ×Int)×aL Test) Empty))) (ar,([]:aL Test)) (λ(o:aL (bZ×Int)×aL Test)=>(r9 (dC N) o.2).bind λa5=>some a5)<|λr=>r.elim
def pM(N:Nat)(p0:aL Test):aU (Unit×Int):=
 bif decide ((p0.length:Int)>2000)then some ((),2)else some ((),0)
def kA(N:Nat)(p0:aL aY)(p1:cB)(p2:iE)(p3:Int):aU (aL Test×Int):=
 (eW N p0 p1 p2 p3).bind λo=>B6 o.1 (bif o.2 != 0 then some (([]:aL Test),o.2)else none) (λ(ab:(aL (aL aK)×aL aK×aL cL×aL cW×aL (aL aB)×aL aI×aL (aL Int)×aL bM×aL Int×aL Int×aL Int×aL fN))=>bif o.2 != 0 then some (([]:aL Test),o.2)else((jH N p1 p2).bind λaf=>(lC N p1 ab.2.2.2.2.2.1 ab.2.2.2.2.2.2.2.1 ab.2.2.2.2.2.2.2.2.1 p3).bind λag=>(jZ N ([af,ag]:aL (aL Test))).bind λad=>(pM N ad).bind λae=>bif ae.2 != 0 then some (([]:aL Test),ae.2)else((r9 (dC N) ad).bind λaa=>(kb (λ(j:Int)=>(bif decide (j<(aa.length:Int))then((idx aa j).bind λah=>(idx aa<|wrap .i64<|j - 1).bind λai=>(dC N ah ai).bind λaj=>bif aj==0 then some (.rt (([]:aL Test),12))else some (.nx<|wrap .i64<|j+1))else(some<|.br j):aU (Fl Int<|aL Test×Int))) N 1).bind λak=>ak.cs (λ(j:Int)=>some (aa,0))<|λr=>some r)))
def jA(N:Nat)(p0:Int)(p1h_5:aL aI):aU Bool:=
 (lz N p0 0<|wrap .i64<|(p1h_5.length:Int) - 1).bind λj=>some j
def oH(N:Nat)(p0:aL mn)(p1:mn):aU Int:=
 (qp p0.length (λ(j:Nat)(o:Unit)=>((idx p0 (j:Int)).bind λaa=>bif p1=aa then some (.rt (j:Int))else(some<|.nx ()):aU (Fl Unit Int))) ()).bind λab=>ab.cs (λ(o:Unit)=>some<|-1)<|λr=>some r
def mC(N:Nat)(p0:aL mn)(p1:mn):aU Bool:=
 (oH N p0 p1).bind λj=>some<|decide<|j>=0
def mW(N:Nat)(p0_0:aL (aL aK))(p0_1:aL aK)(p0_2:aL cL)(p0_3:aL cW)(p0_4:aL (aL aB))(p0_5:aL aI)(p0_6:aL (aL Int))(p0_7:aL bM)(p0_8:aL Int)(p0_9:aL Int)(p0_10:aL Int)(p0_11:aL fN)(p1:aL mn):aU Int:=
 bif decide ((p1.length:Int)>20)then some 2 else((qp p1.length (λ(o:Nat)(aa:Unit)=>((idx p1 (o:Int)).bind λj=>(bif j.Open&&((j.A != 0)||(j.B != 0))then some true else(bif(!j.Open)then some (!(decide<|j.fN=(⟨false,0⟩:fN)))else some false)).bind λab=>bif ab then some (.rt 3)else(((jA N j.A p0_5).bind λad=>bif ad then((jA N j.B p0_5).bind λKm=>some Km)else some false).bind λae=>(bif j.Open then((jA N j.fN.Number p0_5).bind λaf=>some af)else some ae).bind λag=>(bif j.Open&&j.fN.cL then(((lz N j.fN.Number 0<|wrap .i64<|(p0_2.length:Int) - 1).bind λah=>bif ah then((idx p0_2 j.fN.Number).bind λai=>some ai.jo)else some false).bind λaj=>some aj)else some ag).bind λak=>bif(!ak)then some (.rt 9)else(bif(!j.Open)&&decide (j.B<=j.A)then some (.rt 8)else((xd p1 0 (o:Int)).bind λal=>(mC N al j).bind λan=>bif an then some (.rt 7)else some (.nx ())))):aU (Fl Unit Int))) ()).bind λao=>ao.cs (λ(aa:Unit)=>some 0)<|λr=>some r)
def jL(N:Nat)(p0:fN)(p1:Int):aU Int:=
 bif p0.cL then some (wrap .i64<|p1+p0.Number)else some p0.Number
def kY(N:Nat)(p0 p1:Int)(p2_0:aL (Int×Bool))(p3h_0:aL Int):aU (aL Int):=
 (bif(!(dE p2_0 p0 (false:Bool)))then some (!(dE p2_0 p1 (false:Bool)))else some false).bind λj=>(bif j then((dS N p3h_0 p0 p1).bind λo=>some o)else some p3h_0).bind λaa=>some aa
def lV(N:Nat)(p0_2:aL cL)(p0_3:aL cW)(p0_5:aL aI)(p0_6:aL (aL Int))(p0_10:aL Int)(p0_11:aL fN)(p1:aL mn):aU (aL Int):=
 (jy p1.length (λ(aq:Nat)(aa:aL (Int×Bool))=>((idx p1 (aq:Int)).bind λaj=>(bif aj.Open then((jL N aj.fN (p0_5.length:Int)).bind λar=>some<|lf aa ar true)else some aa).bind λau=>some au:aU (aL<|Int×Bool))) ([]:aL (Int×Bool))).bind λaa=>(iN N<|wrap .i64<|(p0_5.length:Int)+(p0_2.length:Int)).bind λav=>(jy p0_6.length (λ(ak:Nat)(ae:aL Int)=>((idx p0_6 (ak:Int)).bind λal=>(jy al.length (λ(aw:Nat)(af:aL Int)=>((idx al (aw:Int)).bind λax=>(kY N ax (wrap .i64<|(p0_5.length:Int)+(ak:Int)) aa af).bind λay=>some ay:aU (aL Int))) ae).bind λaf=>some af:aU (aL Int))) av).bind λae=>(jy p1.length (λ(az:Nat)(ab:aL Int)=>((idx p1 (az:Int)).bind λag=>(bif(!ag.Open)then((kY N ag.A ag.B aa ab).bind λa0=>some a0)else some ab).bind λa1=>some a1:aU (aL Int))) ae).bind λab=>(mk 8 (0:Int) (p0_3.length:Int)).bind λa2=>(jy p0_11.length (λ(o:Nat)(j:aL Int×aL (Int×Int)×aL Int)=>((idx p0_11 (o:Int)).bind λa3=>(jL N a3 (p0_5.length:Int)).bind λad=>((idx p0_10 (o:Int)).bind λa4=>bif a4<0 then some true else some (dE aa ad (false:Bool))).bind λa5=>bif a5 then((idx j.2.2 (o:Int)).bind λa6=>some (j.1,j.2.1,j.2.2.set (Int.toNat (o:Int))<|-1))else((dH N j.1 ad).bind λah=>(bif(!(iD j.2.1 ah.1))then((dH N ah.2 ad).bind λan=>some (an.2,lf j.2.1 an.1 (o:Int)))else some (ah.2,j.2.1)).bind λai=>(dH N ai.1 ad).bind λao=>(idx j.2.2 (o:Int)).bind λa7=>some (ao.2,ai.2,j.2.2.set (Int.toNat (o:Int))<|dE ai.2 ao.1 (0:Int))):aU (aL Int×aL (Int×Int)×aL Int))) (ab,([]:aL (Int×Int)),a2)).bind λj=>some j.2.2
def ju(N:Nat)(p0:iE)(p1:aL mn)(p2 p3:bZ):aU (Bool×Int):=
 (gE N p0).bind λo=>B6 o.1 (bif o.2 != 0 then some (false,o.2)else none) (λ(j:(aL (aL aK)×aL aK×aL cL×aL cW×aL (aL aB)×aL aI×aL (aL Int)×aL bM×aL Int×aL Int×aL Int×aL fN))=>bif o.2 != 0 then some (false,o.2)else((mW N j.1 j.2.1 j.2.2.1 j.2.2.2.1 j.2.2.2.2.1 j.2.2.2.2.2.1 j.2.2.2.2.2.2.1 j.2.2.2.2.2.2.2.1 j.2.2.2.2.2.2.2.2.1 j.2.2.2.2.2.2.2.2.2.1 j.2.2.2.2.2.2.2.2.2.2.1 j.2.2.2.2.2.2.2.2.2.2.2 p1).bind λad=>bif ad != 0 then some (false,ad)else((eP N p0 p2).bind λaa=>(eP N p0 p3).bind λae=>bif decide (aa<0)||decide (ae<0)then some (false,9)else((lV N j.2.2.1 j.2.2.2.1 j.2.2.2.2.2.1 j.2.2.2.2.2.2.1 j.2.2.2.2.2.2.2.2.2.2.1 j.2.2.2.2.2.2.2.2.2.2.2 p1).bind λab=>((idx ab aa).bind λaf=>bif af>=0 then((idx ab aa).bind λag=>(idx ab ae).bind λah=>some<|ag==ah)else some false).bind λai=>some (ai,0)))))
def gW(N:Nat):aU Bool:=
 (ju N (⟨([([(⟨0,0,1,1⟩:aK)]:aL aK)]:aL (aL aK)),([]:aL aK),([]:aL cL),([(⟨⟨[97]⟩,⟨[49]⟩,0,⟨0,0⟩⟩:cW)]:aL cW)⟩:iE) ([]:aL mn) (⟨⟨[97]⟩,⟨[49]⟩⟩:bZ) (⟨⟨[97]⟩,⟨[49]⟩⟩:bZ)).bind λj=>some<|(j.2==0)&&j.1
def pV(N:Nat)(p0:aL aY)(p1:cB)(p2:iE):aU (aL Test×Int):=
 (eK N p0 p1 p2).bind λj=>B6 j.1 (bif j.2 != 0 then some (([]:aL Test),j.2)else((jH N p1 p2).bind λab=>(nT N ab).bind λo=>some (o.1,o.2))) (λ(ae:(aL (aL aK)×aL aK×aL cL×aL cW×aL (aL aB)×aL aI×aL (aL Int)×aL bM×aL Int×aL Int×aL Int×aL fN))=>bif j.2 != 0 then some (([]:aL Test),j.2)else((jH N p1 p2).bind λad=>(nT N ad).bind λaa=>some (aa.1,aa.2)))
def oI(N:Nat)(p0:aL aY)(p1:cB)(p2:iE)(p3:Int):aU (aL Test×Int):=
 (eW N p0 p1 p2 p3).bind λj=>B6 j.1 (bif j.2 != 0 then some (([]:aL Test),j.2)else none) (λ(o:(aL (aL aK)×aL aK×aL cL×aL cW×aL (aL aB)×aL aI×aL (aL Int)×aL bM×aL Int×aL Int×aL Int×aL fN))=>bif j.2 != 0 then some (([]:aL Test),j.2)else((kz N p1 o.2.2.2.2.2.1 o.2.2.2.2.2.2.2.1 o.2.2.2.2.2.2.2.2.1 p3).bind λab=>(nT N ab).bind λaa=>some (aa.1,aa.2)))
def oJ(N:Nat)(p0:aL Test)(p1:Test):aU Int:=
 (qp p0.length (λ(j:Nat)(o:Unit)=>((idx p0 (j:Int)).bind λaa=>bif p1=aa then some (.rt (j:Int))else(some<|.nx ()):aU (Fl Unit Int))) ()).bind λab=>ab.cs (λ(o:Unit)=>some<|-1)<|λr=>some r
def gX(N:Nat)(p0:aL Test)(p1:Test):aU Bool:=
 (oJ N p0 p1).bind λj=>some<|decide<|j>=0
def nU(N:Nat)(p0:iE)(p1:aL Test):aU (aU (aL (aL aK)×aL aK×aL cL×aL cW×aL (aL aB)×aL aI×aL (aL Int)×aL bM×aL Int×aL Int×aL Int×aL fN)×Int):=
 (gE N p0).bind λo=>B6 o.1 (bif o.2 != 0 then some (none,o.2)else(bif decide ((p1.length:Int)>2000)then some (none,2)else((qp p1.length (λ(ad:Nat)(af:Unit)=>((idx p1 (ad:Int)).bind λaa=>((eP N p0 aa.A).bind λag=>bif ag<0 then some true else((eP N p0 aa.B).bind λah=>some<|decide<|ah<0)).bind λai=>bif ai then some (.rt (none,9))else((cO N aa.B aa.A).bind λaj=>bif aj<=0 then some (.rt (none,8))else((bif decide ((ad:Int)>0)then((idx p1<|wrap .i64<|(ad:Int) - 1).bind λak=>(dC N aa ak).bind λal=>some<|decide<|al<=0)else some false).bind λan=>bif an then some (.rt (none,8))else some (.nx ()))):aU (Fl Unit<|aU (aL (aL aK)×aL aK×aL cL×aL cW×aL (aL aB)×aL aI×aL (aL Int)×aL bM×aL Int×aL Int×aL Int×aL fN)×Int))) ()).bind λao=>ao.cs (λ(af:Unit)=>some (none,0))<|λr=>some r))) (λ(j:(aL (aL aK)×aL aK×aL cL×aL cW×aL (aL aB)×aL aI×aL (aL Int)×aL bM×aL Int×aL Int×aL Int×aL fN))=>bif o.2 != 0 then some (none,o.2)else(bif decide ((p1.length:Int)>2000)then some (none,2)else((qp p1.length (λ(ae:Nat)(aq:Unit)=>((idx p1 (ae:Int)).bind λab=>((eP N p0 ab.A).bind λar=>bif ar<0 then some true else((eP N p0 ab.B).bind λau=>some<|decide<|au<0)).bind λav=>bif av then some (.rt (none,9))else((cO N ab.B ab.A).bind λaw=>bif aw<=0 then some (.rt (none,8))else((bif decide ((ae:Int)>0)then((idx p1<|wrap .i64<|(ae:Int) - 1).bind λax=>(dC N ab ax).bind λay=>some<|decide<|ay<=0)else some false).bind λaz=>bif az then some (.rt (none,8))else some (.nx ()))):aU (Fl Unit<|aU (aL (aL aK)×aL aK×aL cL×aL cW×aL (aL aB)×aL aI×aL (aL Int)×aL bM×aL Int×aL Int×aL Int×aL fN)×Int))) ()).bind λa0=>a0.cs (λ(aq:Unit)=>some (some (j.1,j.2.1,j.2.2.1,j.2.2.2.1,j.2.2.2.2.1,j.2.2.2.2.2.1,j.2.2.2.2.2.2.1,j.2.2.2.2.2.2.2.1,j.2.2.2.2.2.2.2.2.1,j.2.2.2.2.2.2.2.2.2.1,j.2.2.2.2.2.2.2.2.2.2.1,j.2.2.2.2.2.2.2.2.2.2.2),0))<|λr=>some r)))
def jM(N:Nat)(p0:iE)(p1:aL Test):aU Int:=
 (nU N p0 p1).bind λj=>B6 j.1 (some j.2)<|λ(o:(aL (aL aK)×aL aK×aL cL×aL cW×aL (aL aB)×aL aI×aL (aL Int)×aL bM×aL Int×aL Int×aL Int×aL fN))=>some j.2
def dO(N:Nat)(p0:aL aY)(p1:cB)(p2:iE)(p3:Int):aU Bool:=
 (kA N p0 p1 p2 p3).bind λj=>bif j.2 != 0 then((bif(j.1.length:Int)==0 then((gW N).bind λad=>some ad)else some false).bind λae=>some ae)else((pV N p0 p1 p2).bind λaa=>(oI N p0 p1 p2 p3).bind λab=>(bif(aa.2 != 0)||(ab.2 != 0)then some true else some (wrap .i64 ((aa.1.length:Int)+(ab.1.length:Int)) != (j.1.length:Int))).bind λaf=>bif af then some false else((kb (λ(o:Int)=>(bif decide (o<(j.1.length:Int))then(((idx j.1 o).bind λag=>(idx j.1 o).bind λah=>(gX N aa.1 ag).bind λai=>bif ai != ah.Joined then some true else((idx j.1 o).bind λaj=>(idx j.1 o).bind λak=>(gX N ab.1 aj).bind λal=>some<|al==ak.Joined)).bind λan=>bif an then some (.rt false)else some (.nx<|wrap .i64<|o+1))else(some<|.br o):aU (Fl Int Bool))) N 0).bind λao=>ao.cs (λ(o:Int)=>((jM N p2 j.1).bind λaq=>bif aq==0 then((gW N).bind λar=>some ar)else some false).bind λau=>some au)<|λr=>some r))
end
def l8{R:Type}(m:Nat)(e:Nat->aU R):aU R:=(List.range m).findSome? e
theorem ki{R:Type}{m:Nat}{e:Nat->aU R}:l8 m e=none↔∀k,k<m->e k=none:=by
 simp[l8]
theorem kj{R:Type}{m:Nat}{e:Nat->aU R}{r:R}:l8 m e=some r↔∃k,k<m/\e k=some r/\∀j,j<k->e j=none:=by
 constructor
 ·intro h;obtain⟨l1,a,l2,hl,ha,hn⟩:=List.findSome?_eq_some_iff.1 h;have hlen:l1.length<m:=by have:=congrArg List.length hl;grind
  have hget:∀i,i<l1.length->l1[i]? =some i:=λi hi=>by
   have:=congrArg (·[i]?) hl
   grind
  have hat:a=l1.length:=by
   have:=congrArg (·[l1.length]?) hl
   grind
  grind
 ·rintro⟨k,hk,he,hn⟩;refine List.findSome?_eq_some_iff.2 ⟨List.range k,k,(List.range<|m - k - 1).map (· +(k+1)),?_,he,λx hx=>hn x<|ov.1 hx⟩;refine List.ext_getElem? λi=>?_
  by_cases h1:i<k
  ·grind
  ·rw[fZ (by grind),List.length_range]
   by_cases h2:i=k
   all_goals grind
theorem GX{R R':Type}{m:Nat}{e:Nat->aU R}(f:R->R'):(l8 m e).map f=l8 m (λk=>(e k).map f):=by
 cases hx:l8 m e with
 |none=>grind [ki]
 |some r=>
  grind [kj]
section
variable {S R:Type}
def DE(o:aU R)(s:S):Fl S R:=match o with|some r=> .rt r|none=> .nx s
def Ft(o:aU R)(s:S):Fo S R:=match o with|some r=> .rt r|none=> .go s
theorem GY{body:Nat->S->aU (Fl S R)}(F:Nat->S)(e:Nat->aU R)(m:Nat):∀(n k:Nat),k+n=m->
  (∀j,k<=j->j<m->(∀i,k<=i->i<j->e i=none)->body j (F j)=some (DE (e j)<|F<|j+1))->
  ∃o,EP body n k (F k)=some o/\((∀j,k<=j->j<m->e j=none)/\o = .go (F m)\/∃j r,k<=j/\j<m/\e j=some r/\(∀i,k<=i->i<j->e i=none)/\o = .rt r)
 | 0,k,hk,_=>⟨_,rfl, .inl ⟨λj h1 h2=>by omega,by grind⟩⟩
 |n+1,k,hk,h=>by
  have hb:=h k (bW _) (by omega) (λi h1 h2=>by omega);unfold EP;rw[hb]
  cases hx:e k with
  |some r=>exact⟨_,rfl, .inr ⟨k,r,bW _,by omega,hx,λi h1 h2=>by omega,rfl⟩⟩
  |none=>
   obtain⟨o,ho,hc⟩:=GY F e m n (k+1) (by omega) (λj h1 h2 h3=>h j (by omega) h2 λi h4 h5=>by
    grind)
   refine⟨o,ho,?_⟩
   rcases hc with⟨h1,h2⟩|⟨j,r,h1,h2,h3,h4,h5⟩
   ·refine .inl ⟨λj h3 h4=>?_,h2⟩
    by_cases h6:j=k
    ·subst h6;exact hx
    ·exact h1 j (by omega) h4
   ·refine .inr ⟨j,r,by omega,h2,h3,λi h6 h7=>?_,h5⟩
    by_cases h8:i=k
    ·subst h8;exact hx
    ·exact h4 i (by omega) h7
theorem JF{body:Nat->S->aU (Fl S R)}{m:Nat}{s:S}(F:Nat->S)(e:Nat->aU R)(hm:m<=4611686018427387904)(hs:F 0=s)
  (h:∀k,k<m->(∀i,i<k->e i=none)->body k (F k)=some (DE (e k)<|F<|k+1)):qp m body s=some (Ft (l8 m e)<|F m):=by
 subst hs;unfold qp;rw[aH hm];obtain⟨o,ho,hc⟩:=GY F e m m 0 (by omega)<|λj _ h2 h3=>h j h2 λi hi=>h3 i (ox _) hi
 rw[ho]
 rcases hc with⟨h1,h2⟩|⟨j,r,_,h2,h3,h4,h5⟩
 ·rw[ki.2 λk hk=>h1 k (ox _) hk,h2];rfl
 ·rw[kj.2 ⟨j,h2,h3,λi hi=>h4 i (ox _) hi⟩,h5];rfl
theorem lN{body:Nat->Unit->aU (Fl Unit R)}{m:Nat}(e:Nat->aU R)(hm:m<=4611686018427387904)
  (h:∀k,k<m->(∀i,i<k->e i=none)->body k ()=some (DE (e k) ())):qp m body ()=some (Ft (l8 m e) ()):=
 JF (λ_=>()) e hm rfl h
theorem GZ{body:Nat->S->aU S}(F:Nat->S):∀(n k:Nat),(∀j,k<=j->j<k+n->body j (F j)=some (F<|j+1))->HT body n k (F k)=some (F<|k+n)
 | 0,_,_=>rfl
 |n+1,k,h=>by
  unfold HT;rw[h k (bW _) (by omega)];have:=GZ F n (k+1)<|λj h1 h2=>h j (by omega) (by omega)
  rw[show k+(n+1)=k+1+n by omega];exact this
theorem uc{body:Nat->S->aU S}{m:Nat}{s:S}(F:Nat->S)(hm:m<=4611686018427387904)(hs:F 0=s)
  (h:∀k,k<m->body k (F k)=some (F<|k+1)):jy m body s=some (F m):=by
 subst hs
 simp_all[jy,aH,GZ,gL]
theorem wT{body:S->aU (Fl S R)}(Inv:S->Prop)(μ:S->Nat)(Go:S->Prop)(Rt:R->Prop)
  (h:∀s,Inv s->∃fl,body s=some fl/\match fl with| .nx s'=>Inv s'/\μ s'<μ s| .br s'=>Go s'| .rt r=>Rt r):
  ∀(N:Nat)(s:S),Inv s->μ s<N->∃o,kb body N s=some o/\match o with| .go s'=>Go s'| .rt r=>Rt r
 | 0,s,_,hn=>by omega
 |N+1,s,hi,hn=>by
  obtain⟨fl,hb,hf⟩:=h s hi;unfold kb;rw[hb]
  cases fl with
  |nx s'=>exact wT Inv μ Go Rt h N s' hf.1 (by have:=hf.2;omega)
  |br s'=>exact⟨_,rfl,hf⟩
  |rt r=>exact⟨_,rfl,hf⟩
theorem G0{body:Nat->S->aU (Fl S R)}(Inv:Nat->S->Prop)(Go:S->Prop)(Rt:R->Prop)(m:Nat)
  (h:∀k s,k<m->Inv k s->∃fl,body k s=some fl/\match fl with| .nx s'=>Inv (k+1) s'| .br s'=>Go s'| .rt r=>Rt r) (hg:∀s,Inv m s->Go s):
  ∀(n k:Nat)(s:S),k+n=m->Inv k s->∃o,EP body n k s=some o/\match o with| .go s'=>Go s'| .rt r=>Rt r
 | 0,k,s,hk,hi=>⟨_,rfl,hg s (by rw[<-hk];exact hi)⟩
 |n+1,k,s,hk,hi=>by
  obtain⟨fl,hb,hf⟩:=h k s (by omega) hi;unfold EP;rw[hb]
  cases fl with
  |nx s'=>exact G0 Inv Go Rt m h hg n (k+1) s' (by omega) hf
  |br s'=>exact⟨_,rfl,hf⟩
  |rt r=>exact⟨_,rfl,hf⟩
theorem Oo{body:Nat->S->aU (Fl S R)}{m:Nat}{s:S}(Inv:Nat->S->Prop)(Go:S->Prop)(Rt:R->Prop)(hm:m<=4611686018427387904)(h0:Inv 0 s)
  (h:∀k s,k<m->Inv k s->∃fl,body k s=some fl/\match fl with| .nx s'=>Inv (k+1) s'| .br s'=>Go s'| .rt r=>Rt r) (hg:∀s,Inv m s->Go s):
  ∃o,qp m body s=some o/\match o with| .go s'=>Go s'| .rt r=>Rt r:=by
 unfold qp;rw[aH hm];exact G0 Inv Go Rt m h hg m 0 s (by omega) h0
theorem G1{body:Nat->S->aU S}(Inv:Nat->S->Prop)(m:Nat)(h:∀k s,k<m->Inv k s->∃s',body k s=some s'/\Inv (k+1) s'):
  ∀(n k:Nat)(s:S),k+n=m->Inv k s->∃s',HT body n k s=some s'/\Inv m s'
 | 0,k,s,hk,hi=>⟨_,rfl,by grind⟩
 |n+1,k,s,hk,hi=>by
  obtain⟨s',hb,hf⟩:=h k s (by omega) hi;unfold HT;rw[hb];exact G1 Inv m h n (k+1) s' (by omega) hf
theorem BM{body:Nat->S->aU S}{m:Nat}{s:S}(Inv:Nat->S->Prop)(hm:m<=4611686018427387904)(h0:Inv 0 s)
  (h:∀k s,k<m->Inv k s->∃s',body k s=some s'/\Inv (k+1) s'):∃s',jy m body s=some s'/\Inv m s':=by
 simp_all[jy,aH,G1]
end
section
variable {α β:Type}
theorem aA(x:α)(f:α->aU β):(some x).bind f=f x:=rfl
theorem ji(l:aL α)(k:Nat)(h:k<l.length):idx l (k:Int)=some l[k]:=by
 unfold idx;simp
theorem cG{l:aL α}{k:Nat}{x:α}(h:l[k]? =some x):idx l (k:Int)=some x:=by
 grind [idx,cR]
theorem Mr(s:cN)(k:Nat)(h:k<s.dA.length):Kk s (k:Int)=some s.dA[k]:=by
 unfold Kk;simp
theorem lZ{k:Nat}(h:0<k)(hk:k<=4611686018427387904):wrap .i64 ((k:Int) - 1)=((k - 1:Nat):Int):=by
 grind [fB]
theorem rI(l:aL α)(k:Nat)(h:k<=l.length):xd l 0 (k:Int)=some (l.take k):=by
 unfold xd;grind
theorem zh(l:aL α)(k:Nat)(h:k<=l.length):xd l (k:Int) (l.length:Int)=some (l.drop k):=by
 grind [xd,cR,Option.some.injEq,pK,f9]
theorem gK{b:Nat}{l ys:aL α}(h:(l.length+ys.length)*b<=140737488355328):app b l ys=some (l++ys):=by grind [app]
theorem wU{b:Nat}(z:α){n:Nat}(h:n*b<=140737488355328):mk b z (n:Int)=some (List.replicate n z):=by
 unfold mk
 grind
end
theorem cN.ext'{a b:cN}(h:a.dA=b.dA):a=b:=by cases a;simp_all
theorem ud{a b:cN}:a.u5 b=true↔a=b:=by
 grind [cN.u5,cN.ext']
theorem rj{a b:cN}:a.u5 b=false↔a≠b:=by grind [ud]
theorem AZ:∀(a:aL UInt8),Op.bytesLess a a=false
 | []=>rfl
 |a::l=>by
  unfold Op.bytesLess;rw[AZ l];simp
theorem Cp:∀{a b c:aL UInt8},Op.bytesLess a b=true->Op.bytesLess b c=true->Op.bytesLess a c=true
 | [],[],_,h,_=>by simp[Op.bytesLess]at h
 | [],_::_,[],_,h=>by simp[Op.bytesLess]at h
 | [],_::_,_::_,_,_=>rfl
 |_::_,[],_,h,_=>by simp[Op.bytesLess]at h
 |_::_,_::_,[],_,h=>by simp[Op.bytesLess]at h
 |a::l,b::m,c::n,h1,h2=>by
  unfold Op.bytesLess at h1 h2 ⊢;simp only[ij,dB,dP,beq_iff_eq]at h1 h2 ⊢
  rcases h1 with h1|⟨rfl,h1⟩
  ·rcases h2 with h2|⟨rfl,h2⟩
   ·exact .inl<|UInt8.lt_trans h1 h2
   ·exact .inl h1
  ·rcases h2 with h2|⟨rfl,h2⟩
   ·exact .inl h2
   ·exact .inr ⟨rfl,Cp h1 h2⟩
theorem Cq:∀(a b:aL UInt8),Op.bytesLess a b=true\/a=b\/Op.bytesLess b a=true
 | [],[]=> .inr (.inl rfl)
 | [],_::_=> .inl rfl
 |_::_,[]=> .inr (.inr rfl)
 |a::l,b::m=>by
  unfold Op.bytesLess;simp only[ij,dB,dP,beq_iff_eq]
  by_cases h1:a<b
  ·exact .inl<|.inl h1
  ·by_cases h2:b<a
   ·exact .inr<|.inr<|.inl h2
   ·have e:a=b:=by
     simp only[UInt8.lt_iff_toNat_lt]at h1 h2;exact UInt8.toNat_inj.1 (by omega)
    subst e
    rcases Cq l m with h|h|h
    ·exact .inl<|.inr ⟨rfl,h⟩
    ·exact .inr<|.inl (by rw[h])
    ·exact .inr<|.inr<|.inr ⟨rfl,h⟩
theorem pB:∀(a b:aL UInt8),Lib.compareBytes a b<0↔Op.bytesLess a b=true
 | [],[]=>by simp[Lib.compareBytes,Op.bytesLess]
 | [],_::_=>by simp[Lib.compareBytes,Op.bytesLess]
 |_::_,[]=>by simp[Lib.compareBytes,Op.bytesLess]
 |a::l,b::m=>by
  unfold Lib.compareBytes Op.bytesLess;simp only[ij,dB,dP,beq_iff_eq];split
  ·simp_all
  ·rename_i h1;split
   ·rename_i h2;have h3:a≠b:=λe=>by subst e;exact h1 h2
    simp[h1,h3]
   ·rename_i h2;have e:a=b:=by
     simp only[UInt8.lt_iff_toNat_lt]at h1 h2;exact UInt8.toNat_inj.1 (by omega)
    subst e;rw[pB l m];simp[h1]
theorem nV:∀(a b:aL UInt8),Lib.compareBytes a b=0↔a=b
 | [],[]=>by simp[Lib.compareBytes]
 | [],_::_=>by simp[Lib.compareBytes]
 |_::_,[]=>by simp[Lib.compareBytes]
 |a::l,b::m=>by
  unfold Lib.compareBytes;split
  ·rename_i h1;have h3:a≠b:=λe=>by subst e;exact absurd h1 (by simp)
   simp[h3]
  ·rename_i h1;split
   ·rename_i h2;have h3:a≠b:=λe=>by subst e;exact h1 h2
    simp[h3]
   ·rename_i h2;have e:a=b:=by
     simp only[UInt8.lt_iff_toNat_lt]at h1 h2;exact UInt8.toNat_inj.1 (by omega)
    subst e;rw[nV l m];simp
def cN.lt(a b:cN):Prop:=a.BV b=true
theorem cN.lt_irrefl(a:cN):¬cN.lt a a:=by simp[cN.lt,cN.BV,AZ,decide]
theorem cN.lt_trans{a b c:cN}(h1:cN.lt a b)(h2:cN.lt b c):cN.lt a c:=Cp h1 h2
theorem cN.zi(a b:cN):cN.lt a b\/a=b\/cN.lt b a:=by
 rcases Cq a.dA b.dA with h|h|h
 ·exact .inl h
 ·grind [cN.ext']
 ·exact .inr<|.inr h
theorem cN.Cr{a b:cN}(h:cN.lt a b):a≠b:=by grind [cN.lt_irrefl]
theorem cN.lt_asymm{a b:cN}(h:cN.lt a b):¬cN.lt b a:=by grind [cN.lt_irrefl,cN.lt_trans]
theorem JG{a b:cN}:(a.BV b||a.u5 b)=false↔cN.lt b a:=by
 grind [Bool.or_eq_false_iff,rj,cN.zi,cN.lt,cN.Cr,cN.lt_asymm]
end Go.Gk
namespace Go.Gk
open Go IntKind
class Bk (α:Type)where
 bk:α->Nat
 pos:∀x,1<=bk x
def bk{α:Type}[Bk α](x:α):Nat:=Bk.bk x
theorem Ms{α:Type}[Bk α](x:α):1<=bk x:=Bk.pos x
instance:Bk cN:=⟨λs=>s.dA.length+1,λ_=>by omega⟩
instance:Bk Int:=⟨λ_=>1,λ_=>by omega⟩
instance:Bk Bool:=⟨λ_=>1,λ_=>by omega⟩
instance {α:Type} [Bk α]:Bk (aL α):=⟨λl=>(l.map bk).sum+1,λ_=>by omega⟩
theorem Mt{α:Type}[Bk α]:bk ([]:aL α)=1:=rfl
theorem Fu{α:Type}[Bk α](x:α)(l:aL α):bk (x::l)=bk x+bk l:=by
 rfl
theorem vB{α:Type}[Bk α]:∀{l:aL α}{x:α},x∈l->bk x+1<=bk l
 |y::l,x,h=>by
  rw[Fu]
  rcases eV.1 h with h|h
  ·subst h;have:=Ms l;omega
  ·have:=vB h;omega
theorem Mu{α:Type}[Bk α]{l:aL α}{k:Nat}{x:α}(h:l[k]? =some x):bk x+1<=bk l:=vB<|gA h
theorem pC{α:Type}[Bk α]:∀(l:aL α),l.length+1<=bk l
 | []=>by rw[Mt];simp
 |x::l=>by rw[Fu,fQ];have:=pC l;have:=Ms x;omega
theorem Cs(s:cN):bk s=s.dA.length+1:=rfl
section
variable {α R:Type}
theorem Kz{l:aL α}{e:Nat->aU R}(f:α->aU R)(h:∀k x,l[k]? =some x->e k=f x):l8 l.length e=l.findSome? f:=by
 cases hx:l8 l.length e with
 |none=>
  grind [List.findSome?_eq_none_iff,fA,ki,bN]
 |some r=>
  obtain⟨k,hk,he,hn⟩:=kj.1 hx;refine(List.findSome?_eq_some_iff.2 ⟨l.take k,l[k],l.drop<|k+1,?_,?_,λy hy=>?_⟩).symm
  ·simp
  ·grind
  grind [fA,bN,dD,List.getElem?_take_of_lt]
theorem Fv(l:aL α)(p:α->Bool)(r:R):l.findSome? (λx=>if p x=true then some r else none)=if l.any p=true then some r else none:=by
 induction l with
 |nil=>simp
 |cons x l ih=>
  grind
theorem zj{l:aL α}{body:Nat->Unit->aU (Fl Unit R)}(f:α->aU R)(hl:l.length<=4611686018427387904)
  (h:∀k x,l[k]? =some x->body k ()=some (DE (f x) ())):qp l.length body ()=some (Ft (l.findSome? f) ()):=by
 have h2:=lN (body:=body) (m:=l.length) (λk=>(l[k]?).bind f) hl (λk hk _=>by
  grind)
 grind [Kz]
theorem Oq{l:aL α}{body:Nat->Unit->aU (Fl Unit R)}(p:α->Bool)(r:R)(hl:l.length<=4611686018427387904)
  (h:∀k x,l[k]? =some x->body k ()=some (if p x=true then .rt r else .nx ())):qp l.length body ()=some (if l.any p=true then .rt r else .go ()):=by
 rw[zj (λx=>if p x=true then some r else none) hl (λk x hx=>by rw[h k x hx];cases p x <;> rfl),Fv]
 cases l.any p <;> rfl
end
theorem Ot{β:Type}(b:Bool)(x y:β):(bif b then some x else some y)=some (bif b then x else y):=by grind
section
variable {α β:Type}
def F7(l:aL α)(p:α->Bool):Int:=match l.findIdx? p with|some k=>(k:Int)|none=> -1
theorem Ct{l:aL α}{p:α->Bool}(h:l.any p=false):F7 l p = -1:=by
 unfold F7
 grind
theorem G2{l:aL α}{p:α->Bool}{k:Nat}{x:α}(hk:l[k]? =some x)(hp:p x=true)(hn:∀j y,j<k->l[j]? =some y->p y=false):F7 l p=(k:Int):=by
 unfold F7;have hlt:=(bN.1 hk).1;have:l.findIdx? p=some k:=by
  rw[List.findIdx?_eq_some_iff_getElem]
  grind
 rw[this]
theorem n8(l:aL α)(p:α->Bool):(F7 l p = -1/\∀x∈l,p x=false)\/∃k x,F7 l p=((k:Nat):Int)/\l[k]? =some x/\p x=true/\∀j y,j<k->l[j]? =some y->p y=false:=by
 unfold F7
 cases h:l.findIdx? p with
 |none=>grind
 |some k=>
  grind [List.findIdx?_eq_some_iff_getElem,aM]
theorem Cu(l:aL α)(p:α->Bool):decide (F7 l p>=0)=l.any p:=by
 grind [n8,List.any_eq_false,decide,lq,gA]
def ue(p0:aL α)(p1:α->aU Bool):aU Int:=
 (qp p0.length (λ(k1:Nat)(_:Unit)=>((idx p0 (k1:Int)).bind λx7=>(p1 x7).bind λx10=>bif x10 then some (.rt (k1:Int))else(some<|.nx ()):aU (Fl Unit Int))) ()).bind λo11=>o11.cs (λ(_:Unit)=>some<|-1)<|λr=>some r
theorem sK{l:aL α}{φ:α->aU Bool}(p:α->Bool)(hl:l.length<=4611686018427387904)(h:∀x∈l,φ x=some (p x)):ue l φ=some (F7 l p):=by
 unfold ue
 rw[lN (λk=>(l[k]?).bind λx=>if p x=true then some ((k:Nat):Int)else none) hl (λk hk _=>by
  grind [ji,aA,cS,aM,DE]),aA]
 grind [n8,ki,aM,cS,Ft,Fo.cs,kj,bN]
def nB(p0:aL α)(p1:α->aU Bool):aU Bool:=
 (ue p0 p1).bind λx1=>some<|decide<|x1>=0
theorem mY{l:aL α}{φ:α->aU Bool}(p:α->Bool)(hl:l.length<=4611686018427387904)(h:∀x∈l,φ x=some (p x)):nB l φ=some (l.any p):=by
 simp_all[nB,sK,aA,Cu]
def Mv [DecidableEq α](p0:aL α)(p1:α):aU Int:=
 (qp p0.length (λ(k2:Nat)(_:Unit)=>((idx p0 (k2:Int)).bind λx12=>bif p1=x12 then some (.rt (k2:Int))else(some<|.nx ()):aU (Fl Unit Int))) ()).bind λo18=>o18.cs (λ(_:Unit)=>some<|-1)<|λr=>some r
theorem KA [DecidableEq α]{l:aL α}{a:α}(hl:l.length<=4611686018427387904):Mv l a=some (F7 l<|λx=>decide<|a=x):=by
 have:=sK (l:=l) (φ:=λx=>some<|decide<|a=x) (λx=>decide<|a=x) hl<|λ_ _=>rfl
 rw[<-this];rfl
def Ak [DecidableEq α](p0:aL α)(p1:α):aU Bool:=(Mv p0 p1).bind λx3=>some<|decide<|x3>=0
theorem Fw [DecidableEq α]{l:aL α}{a:α}(hl:l.length<=4611686018427387904):Ak l a=some (decide<|a∈l):=by
 grind [Ak,KA,aA,Cu,Option.some.injEq]
def Ip [DecidableEq α](p0 p1:aL α):aU Bool:=
 bif(p0.length:Int) != (p1.length:Int)then some false else((qp p0.length (λ(k1:Nat)(_:Unit)=>((idx p0 (k1:Int)).bind λx13=>(idx p1 (k1:Int)).bind λx16=>bif(!(decide<|x13=x16))then some (.rt false)else(some<|.nx ()):aU (Fl Unit Bool))) ()).bind λo23=>o23.cs (λ(_:Unit)=>some true)<|λr=>some r)
theorem Ek [DecidableEq α]{l m:aL α}(hl:l.length<=4611686018427387904):Ip l m=some (decide<|l=m):=by
 unfold Ip
 by_cases h:l.length=m.length
 ·have e:((l.length:Int) != (m.length:Int))=false:=by rw[h];simp
  rw[e,aP]
  rw[lN (λk=>if l[k]? =m[k]? then none else some false) hl (λk hk _=>by
   grind [ji,aA,aM,DE]),aA]
  by_cases hx:l=m
  ·grind [ki,Ft,Fo.cs]
  ·have:∃r,l8 l.length (λk=>if l[k]? =m[k]? then none else some false)=some r:=by
    cases hf:l8 l.length (λk=>if l[k]? =m[k]? then none else some false)with
    |some r=>simp
    |none=>
     exfalso;refine hx<|List.ext_getElem? λi=>?_
     grind [ki,List.getElem?_eq_none]
   grind [kj,Ft,Fo.cs]
 ·have e:((l.length:Int) != (m.length:Int))=true:=by simp;omega
  rw[e,aQ,bS<|λh'=>h (by rw[h'])]
def mG(key:α->cN)(l:aL α):Prop:=∀(i j:Nat)(x y:α),i<j->l[i]? =some x->l[j]? =some y->cN.lt (key x) (key y)
theorem KB{key:α->cN}{l:aL α}(h:∀k x y,l[k]? =some x->l[k+1]? =some y->cN.lt (key x) (key y)):mG key l:=by
 intro i j
 induction j with
 |zero=>omega
 |succ j ih=>
  grind [bN,cN.lt_trans,aM]
theorem mG.inj{key:α->cN}{l:aL α}(h:mG key l){i j:Nat}{x y:α}(hx:l[i]? =some x)(hy:l[j]? =some y)(e:key x=key y):i=j:=by
 rcases Nat.lt_trichotomy i j with h1|h1|h1
 ·exact absurd e<|cN.Cr<|h i j x y h1 hx hy
 ·exact h1
 ·exact absurd e.symm<|cN.Cr<|h j i y x h1 hy hx
def nat?(key:α->cN)(l:aL α)(s:cN):Int:=F7 l<|λx=>(key x).u5 s
def DF(N:Nat)(p0:aL α)(p1:β)(p2:α->β->aU Int):aU (Int×Bool):=
 (kb (λ(s2:Int×Int)=>(bif s2.1<s2.2 then((idx p0<|wrap .i64<|Int.fdiv (wrap .u64<|wrap .i64<|s2.1+s2.2) 2).bind λx13=>(p2 x13 p1).bind λx16=>(bif x16<0 then some (wrap .i64<|wrap .i64 (Int.fdiv (wrap .u64<|wrap .i64<|s2.1+s2.2) 2)+1,s2.2)else some (s2.1,wrap .i64<|Int.fdiv (wrap .u64<|wrap .i64<|s2.1+s2.2) 2)).bind λs17=>some<|.nx (s17.1,s17.2))else(some<|.br (s2.1,s2.2)):aU (Fl (Int×Int) Empty))) N (0,(p0.length:Int))).bind λo29=>o29.cs (λ(s2:Int×Int)=>(bif decide (s2.1<(p0.length:Int))then((idx p0 s2.1).bind λx25=>(p2 x25 p1).bind λx28=>some<|x28==0)else some false).bind λs23=>some (s2.1,s23))<|λr=>r.elim
theorem El{a b:Nat}(h:a<b)(hb:b<=4611686018427387904):wrap .i64 (Int.fdiv (wrap .u64<|wrap .i64<|(a:Int)+(b:Int)) 2)=(((a+b) / 2:Nat):Int):=by
 rw[fB (x:=(a:Int)+(b:Int)) (by omega) (by omega)];have e:wrap .u64 ((a:Int)+(b:Int))=((a+b:Nat):Int):=by
  show((a:Int)+b) % 18446744073709551616=_;omega
 grind [Int.fdiv_eq_ediv_of_nonneg,fB]
theorem Fx{N:Nat}{key:α->cN}{l:aL α}{s:cN}{φ:α->cN->aU Int}(hφ:∀x,φ x s=some (Lib.compareBytes (key x).dA s.dA))(hs:mG key l)
  (hl:l.length<=1048576) (hN:4194304<=N):∃r,DF N l s φ=some r/\(bif(!r.2)then some (-1)else some r.1)=some (nat? key l s):=by
 unfold DF;have h:=wT (S:=Int×Int) (R:=Empty)
  (body:=(λ(s2:Int×Int)=>(bif s2.1<s2.2 then((idx l<|wrap .i64<|Int.fdiv (wrap .u64<|wrap .i64<|s2.1+s2.2) 2).bind λx13=>(φ x13 s).bind λx16=>(bif x16<0 then some (wrap .i64<|wrap .i64 (Int.fdiv (wrap .u64<|wrap .i64<|s2.1+s2.2) 2)+1,s2.2)else some (s2.1,wrap .i64<|Int.fdiv (wrap .u64<|wrap .i64<|s2.1+s2.2) 2)).bind λs17=>some<|.nx (s17.1,s17.2))else(some<|.br (s2.1,s2.2)):aU (Fl (Int×Int) Empty))))
  (λst=>∃a b:Nat,st=((a:Int),(b:Int))/\a<=b/\b<=l.length/\(∀j x,j<a->l[j]? =some x->cN.lt (key x) s)/\(∀j x,b<=j->l[j]? =some x->¬cN.lt (key x) s))
  (λst=>(st.2 - st.1).toNat)
  (λst=>∃a:Nat,st.1=(a:Int)/\a<=l.length/\(∀j x,j<a->l[j]? =some x->cN.lt (key x) s)/\(∀j x,a<=j->l[j]? =some x->¬cN.lt (key x) s))
  (λ_=>True) (by
   rintro st⟨a,b,rfl,hab,hb,h1,h2⟩
   by_cases hlt:a<b
   ·have hm:(a+b) / 2<l.length:=by omega
    have hd:decide ((a:Int)<(b:Int))=true:=by grind
    simp only[hd,aQ,El hlt (by omega),ji l _ hm,aA,hφ]
    by_cases hc:Lib.compareBytes (key l[(a+b) / 2]).dA s.dA<0
    ·have hc':cN.lt (key l[(a+b) / 2]) s:=(pB _ _).1 hc;simp only[hc,decide_true,aQ,aA];refine⟨_,rfl,⟨(a+b) / 2+1,b,?_,by omega,hb,λj x hj hx=>?_,h2⟩,?_⟩
     ·grind [fB]
     ·by_cases e:j=(a+b) / 2
      ·grind
      ·exact cN.lt_trans (hs j _ x _ (by omega) hx<|aM hm) hc'
     grind [fB]
    ·have hc':¬cN.lt (key l[(a+b) / 2]) s:=λh=>hc<|(pB _ _).2 h
     simp only[hc,decide_false,aP,aA];refine⟨_,rfl,⟨a,(a+b) / 2,rfl,by omega,by omega,h1,λj x hj hx=>?_⟩,by omega⟩
     by_cases e:j=(a+b) / 2
     ·grind
     ·exact λh3=>hc'<|cN.lt_trans (hs _ j _ x (by omega) (aM hm) hx) h3
   ·have hd:decide ((a:Int)<(b:Int))=false:=by rw[decide_eq_false_iff_not];omega
    simp only[hd,aP]
    exact⟨_,rfl,a,rfl,by omega,h1,λj x hj hx=>h2 j x (by omega) hx⟩)
  N (0,(l.length:Int)) ⟨0,l.length,rfl,by omega,bW _,λj x hj=>by omega,λj x hj hx=>by have:=(bN.1 hx).1;omega⟩ (by simp only;omega)
 obtain⟨o,ho,hc⟩:=h;rw[ho,aA]
 cases o with
 |rt r=>exact r.elim
 |go st=>
  obtain⟨a,ha,hle,h1,h2⟩:=hc;simp only[Fo.cs,ha]
  by_cases hlt:a<l.length
  ·have hd:decide ((a:Int)<(l.length:Int))=true:=by rw[dP];omega
   simp only[hd,aQ,ji l _ hlt,aA,hφ];refine⟨_,rfl,?_⟩
   by_cases he:key l[a]=s
   ·have e0:Lib.compareBytes (key l[a]).dA s.dA=0:=(nV _ _).2 (by rw[he]);simp only[e0,BEq.rfl,ll,aP];unfold nat?;rw[G2 (aM hlt) (ud.2 he) (λj y hj hy=>by rw[rj];exact cN.Cr<|h1 j y hj hy)]
   ·have e0:(Lib.compareBytes (key l[a]).dA s.dA==0)=false:=by
     rw[beq_eq_false_iff_ne];intro h;exact he<|cN.ext'<|(nV _ _).1 h
    simp only[e0,ln,aQ];unfold nat?;rw[Ct];rw[List.any_eq_false];intro x hx;rw[qP,rj];obtain⟨j,hj⟩:=fA hx;intro hk
    by_cases hja:j<a
    ·exact cN.Cr (h1 j x hja hj) hk
    ·by_cases e:j=a
     ·subst e;rw[aM hlt]at hj;injection hj with hj;subst hj;exact he hk
     ·have h3:=hs a j _ x (by omega) (aM hlt) hj;rw[hk]at h3;exact h2 a _ (bW _) (aM hlt) h3
  ·have hd:decide ((a:Int)<(l.length:Int))=false:=by rw[decide_eq_false_iff_not];omega
   simp only[hd,aP,aA];refine⟨_,rfl,?_⟩;simp only[ln,aQ];unfold nat?;rw[Ct];rw[List.any_eq_false];intro x hx;rw[qP,rj];obtain⟨j,hj⟩:=fA hx;have:=(bN.1 hj).1;exact cN.Cr<|h1 j x (by omega) hj
def mH(key:α->cN)(l:aL α)(k:Nat):Bool:=match l[k]?,l[k - 1]? with|some x,some y=>decide (0<k)&&((key x).BV (key y)||(key x).u5 (key y))|_,_=>false
theorem Fy(key:α->cN){l:aL α}{k:Nat}{x:α}(hx:l[k]? =some x)(hl:l.length<=1048576):
  (bif decide ((k:Int)>0)then((idx l<|wrap .i64<|(k:Int) - 1).bind λy=>some<|(key x).BV (key y)||(key x).u5 (key y))else some false)=some (mH key l k):=by
 grind [bN,mH,bU,lZ,ji,aA,aM]
theorem pQ{key:α->cN}{l:aL α}(h:∀k,k<l.length->mH key l k=false):mG key l:=by grind [KB,bN,mH,Nat.add_sub_cancel,decide_true,JG]
end
end Go.Gk
namespace Go.Gk
open Go IntKind Go.ChangeShapes Go.WideShapes Go.RowKit
structure UB (ub:(H:Type)->DataW H->Nat) (ua:(H:Type)->List (DataW H)->Nat):Prop where
 str:∀(H:Type)(b:List UInt8),ub H (.lit<|.string b)=b.length+1
 pos:∀(H:Type)(d:DataW H),1<=ub H d
 sl:∀(H:Type)(e s:List (DataW H)),ub H (.slice e s)=ua H e+ua H s+1
 ag:∀(H:Type)(l:List (DataW H)),ub H (.agg l)=ua H l+1
 nil:∀(H:Type),ua H []=0
 cons:∀(H:Type)(x:DataW H)(l:List (DataW H)),ua H (x::l)=ub H x+ua H l
def Hw(w:aW):dZ:=λb=>w.heap[b]?
structure gY (ub:(H:Type)->DataW H->Nat) (P:Program) (T:TypeId) (α:Type) [GT α] [Bk α]:Prop where
 trod:∀{H:Type}{enc:TypeId×Value->H}{w:World}{base:Nat}{spare:Nat->Bool}{held:Bool}{fuel:Nat}{cs:List Value}{d:DataW H×List MemPlace},
  DataW.trod enc P w base spare held fuel T cs=some d->∃x:α,GT.ok (Hw w) cs x/\bk x<=ub H d.1
 SL:∀{w:World}{r:Reach}{base:Nat}{v:Value},Value.okWide P w r base T v->v=u4 α v.cells.toList
section
variable {ub:(H:Type)->DataW H->Nat}{ua:(H:Type)->List (DataW H)->Nat}{P:Program}{T e:TypeId}
theorem KC(u:UB ub ua)(ht:P.underlying T=some (.int .i64)):gY ub P T Int where
 trod:=λh=>by
  obtain⟨n,rfl,rfl,_⟩:=DataW.trod_int ht h;exact⟨n,rfl,u.pos _ _⟩
 SL:=λh=>by obtain⟨n,rfl⟩:=okWide_int ht h;rfl
theorem Iq(u:UB ub ua)(ht:P.underlying T=some .bool):gY ub P T Bool where
 trod:=λh=>by
  obtain⟨n,rfl,rfl⟩:=DataW.trod_bool ht h;exact⟨n,rfl,u.pos _ _⟩
 SL:=λh=>by obtain⟨n,rfl⟩:=okWide_bool ht h;rfl
theorem KD(u:UB ub ua)(ht:P.underlying T=some .string):gY ub P T cN where
 trod:=λh=>by
  obtain⟨s,rfl,rfl,_⟩:=DataW.trod_string ht h;refine⟨⟨s.data.toList⟩,?_,?_⟩
  ·show [Value.string s]= [Gk.str ⟨s.data.toList⟩]
   cases s;rfl
  ·rw[u.str];exact bW _
 SL:=λh=>by obtain⟨n,rfl⟩:=okWide_string ht h;rfl
theorem A1{α:Type}{R:Nat->α->Prop}:∀(n:Nat),(∀i,i<n->∃x,R i x)->∃l:aL α,l.length=n/\∀i x,l[i]? =some x->R i x
 | 0,_=>⟨[],rfl,λi x h=>by simp at h⟩
 |n+1,h=>by
  obtain⟨l,h1,h2⟩:=A1 n<|λi hi=>h i (by omega)
  obtain⟨x,hx⟩:=h n (by omega);refine⟨l++[x],by simp[h1],λi y hy=>?_⟩
  by_cases hi:i<n
  ·rw[gD (by omega)]at hy;exact h2 i y hy
  ·have:=(bN.1 hy).1;rw[bO]at this;have:i=n:=by simp at this;omega
   subst this;rw[fZ (by omega),h1]at hy;simp at hy;subst hy;exact hx
theorem Em{H α:Type}[Bk α](u:UB ub ua):∀{l:List α}{es:List (DataW H×List MemPlace)},l.length=es.length->
  (∀(i:Nat)(x:α)(y:DataW H×List MemPlace),l[i]? =some x->es[i]? =some y->bk x<=ub H y.1)->bk l<=ua H (es.map (·.1))+1
 | [],[],_,_=>by rw[Mt];omega
 |x::l,y::es,hl,h=>by
  have h1:=h 0 x y rfl rfl;have h2:=Em (H:=H) u (l:=l) (es:=es) (by simpa using hl)<|λi x y hx hy=>h (i+1) x y (by simpa using hx) (by simpa using hy)
  rw[Fu,eZ,u.cons];omega
theorem G3{w:aW}{base:Nat}{a:Addr}{n:Nat}{cs:aL aV}(h:w.cells? base a n=some cs):At (Hw w) a cs:=by
 intro j v hv;obtain⟨_,hlen,hc⟩:=World.cells?_some h;have hj:=(bN.1 hv).1;have h2:=hc j (by omega);rw[hv]at h2;unfold yM Hw;unfold World.cell? at h2;exact h2
theorem kK{α:Type}[GT α][Bk α](u:UB ub ua)(he:gY ub P e α)(ht:P.underlying T=some (.slice e):=by kernel_rfl)(hc:P.cellsOf e=GT.sz α:=by kernel_rfl):gY ub P T (List α)where
 trod:=λ{H enc w base spare held fuel cs d}h=>by
  rcases DataW.trod_slice ht h with⟨rfl,rfl⟩|⟨a,len,cap,elems,rest,n,_,rfl,rfl,_,hlc,hcm,hlen,hel,_⟩
  ·exact⟨[],⟨_,rfl,none,0,0,rfl,rfl,bW _,by simp[maxLen],λi x hx=>by simp at hx⟩,u.pos _ _⟩
  ·have each:∀i,i<len->∃x:α,(∃c y,GT.ok (Hw w) c x/\At (Hw w) (a.add<|i*GT.sz α) c/\elems[i]? =some y/\bk x<=ub H y.1):=by
    intro i hi;have h1:=hel i hi;rw[aM (by omega:i<elems.length),Option.bind_eq_some_iff]at h1;obtain⟨c,h2,h3⟩:=h1;obtain⟨x,h4,h5⟩:=he.trod h3;refine⟨x,c,_,h4,?_,aM (by omega),h5⟩;rw[hc]at h2;exact G3 h2
   obtain⟨l,hl,hr⟩:=A1 len each;refine⟨l,⟨_,rfl,some a,len,cap,rfl,hl.symm,hlc,hcm,λi x hx=>?_⟩,?_⟩
   ·obtain⟨c,y,h1,h2,_⟩:=hr i x hx;exact⟨a,c,rfl,h1,h2⟩
   ·have:=Em (H:=H) u (l:=l) (es:=elems) (by omega) (λi x y hx hy=>by
     obtain⟨c,y',_,_,h3,h4⟩:=hr i x hx
     rw[hy]at h3;injection h3 with h3;subst h3;exact h4)
    rw[u.sl];omega
 SL:=λh=>by obtain⟨a,n,c,rfl⟩:=okWide_slice ht h;rfl
def JH(ub:(H:Type)->DataW H->Nat)(ua:(H:Type)->List (DataW H)->Nat)(P:Program)(off:Nat)(fs:List Field)(β:Type)[GT β](m:β->Nat):Prop:=
 ∀{H:Type}{enc:TypeId×Value->H}{w:World}{base:Nat}{spare:Nat->Bool}{held:Bool}{n:Nat}{cs:List Value}{ys:List (DataW H×List MemPlace)},
  (∀(i:Nat)(f:Field),fs[i]? =some f->DataW.trod enc P w base spare held n f.type ((cs.drop f.offset).take<|P.cellsOf f.type)=ys[i]?)->ys.length=fs.length->
  cs.length=off+GT.sz β->∃x:β,GT.ok (Hw w) (cs.drop off) x/\m x<=ua H (ys.map (·.1))
theorem k8{β:Type}[GT β][Bk β]{off:Nat}{f:Field}(u:UB ub ua)(h:gY ub P f.type β)(ho:f.offset=off:=by exact rfl)(hc:P.cellsOf f.type=GT.sz β:=by kernel_rfl):JH ub ua P off [f] β bk:=by
 intro H enc w base spare held n cs ys hf hl hcs
 match ys,hl with
 | [y],_=>
  have h1:=hf 0 f rfl;rw[ho,hc,pK (by rw[f9];omega)]at h1;obtain⟨x,h2,h3⟩:=h.trod (d:=y) h1;exact⟨x,h2,by rw[eZ,u.cons];omega⟩
theorem eJ{α β:Type}[GT α][GT β][Bk α]{off off':Nat}{f:Field}{fs:aL Field}{m:β->Nat}(u:UB ub ua)(h:gY ub P f.type α)(hr:JH ub ua P off' fs β m)(ho:f.offset=off:=by exact rfl)(hc:P.cellsOf f.type=GT.sz α:=by kernel_rfl)(hoff:off'=off+GT.sz α:=by exact rfl):JH ub ua P off (f::fs) (α×β) (λx=>bk x.1+m x.2):=by
 intro H enc w base spare held n cs ys hf hl hcs;have hsz:GT.sz (α×β)=GT.sz α+GT.sz β:=rfl
 match ys,hl with
 |y::ys,hl=>
  have h1:=hf 0 f rfl;rw[ho,hc]at h1;obtain⟨x,h2,h3⟩:=h.trod (d:=y) h1;obtain⟨x',h4,h5⟩:=hr (n:=n) (cs:=cs) (ys:=ys) (λi g hg=>hf (i+1) g hg) (by simpa using hl) (by omega);refine⟨(x,x'),⟨_,_,?_,h2,h4⟩,?_⟩
  ·rw[hoff,<-List.drop_drop,List.take_append_drop]
  ·rw[eZ,u.cons];show bk x+m x'<=_;omega
theorem iw{γ β:Type}[GT β][Bk γ]{fs:Array Field}{m:β->Nat}(u:UB ub ua)(f:γ->β)(g:β->γ)(hfg:∀b,f (g b)=b)(ht:P.underlying T=some (.struct fs))(h:JH ub ua P 0 fs.toList β m)(hm:∀b,bk (g b)<=m b+1)(hc:P.cellsOf T=GT.sz β:=by kernel_rfl): @gY ub P T γ (GT.via f) _:=
 @gY.mk ub P T γ (GT.via f) _
  (λ{H enc w base spare held fuel cs d}hd=>by
   obtain⟨xs,n,_,rfl,hl,hlen,hf⟩:=DataW.trod_struct ht hd;obtain⟨b,h1,h2⟩:=h (n:=n) (cs:=cs) (ys:=xs) (λi g hg=>hf i g (by rw[<-Array.getElem?_toList];exact hg)) (by rw[hlen];simp) (by omega);refine⟨g b,?_,?_⟩
   ·show GT.ok (Hw w) cs (f<|g b);rw[hfg];exact h1
   ·rw[u.ag];have:=hm b;omega)
  (λhv=>by
   obtain⟨cs,rfl,_⟩:=okWide_struct ht hv
   cases cs;rfl)
theorem gY.arg{H:Type}{enc:TypeId×Value->H}{w:World}{base:Nat}{spare:Nat->Bool}{held:Bool}{r:Reach}{b0:Nat}{v:Value}{d:DataW H}{ps:List MemPlace}{α:Type}[GT α][Bk α](o:gY ub P T α)
  (hv:Value.okWide P w r b0 T v) (hd:DataW.Trod enc P w base spare held T v d ps):∃x:α,xH (Hw w) v x/\bk x<=ub H d:=by
 obtain⟨fuel,hf⟩:=hd;obtain⟨x,h1,h2⟩:=o.trod hf;exact⟨x,⟨_,o.SL hv,h1⟩,h2⟩
theorem gY.Ux{H:Type}{enc:TypeId×Value->H}{w:World}{base:Nat}{spare:Nat->Bool}{held:Bool}{r:Reach}{b0:Nat}{v:Value}{d:DataW H}{ps:List MemPlace}{α:Type}[Sc α][Bk α](o:gY ub P T α)
  (hv:Value.okWide P w r b0 T v) (hd:DataW.Trod enc P w base spare held T v d ps):∃x:α,v=Sc.toV x/\bk x<=ub H d:=by
 obtain⟨x,h1,h2⟩:=o.arg hv hd;exact⟨x,EN.1 h1,h2⟩
end
theorem Calls.fin{P:bP}{f:FuncId}{args:bB aV}{w:aW}{R Q:aV->aW->Prop}(h:Calls P f args w (fG R))(k:∀v w',R v w'->Q v w'):
  Calls P f args w (λe W'=>∃v,e = .returned v/\Q v W'):=Calls.mono h λ_ w'⟨v,e,hr⟩=>⟨v,e,k v w' hr⟩
def lO(W:aW):HP:=⟨λM h=>hle (Hw W) M/\h=rX,λk⟨a,b⟩=>⟨Kg a k,b⟩⟩
theorem Holds.begin(W:aW):Holds W W [lO W]:=by
 refine⟨Hw W,λ_=>rX,⟨rfl,rfl,rfl,bW _,λb o h=>h,λi Pr hq=>?_,λ_ _ _ _ h=>(by cases h),λ_ _ _ _ h=>(by cases h),λ_ _ _ _ _ _ _ h=>(by cases h)⟩⟩
 match i,hq with
 | 0,hq=>simp at hq;subst hq;exact⟨Lz _,rfl⟩
theorem Holds.Mw{α:Type}[GT α]{W:aW}{V:aL HP}{v:aV}{x:α}(h:Holds W W (V++[lO W]))(hv:Gk.xH (Hw W) v x):Holds W W (rd v x::(V++[lO W])):=
 h.BS λM hs g=>by
  have h1:=(g.sat V.length (lO W) (by simp)).1;exact⟨hv.mono h1,rfl⟩
theorem Holds.kept{E W w:aW}{V:aL HP}(h:Holds E w (V++[lO W]))(he:E=W):Below W.heap.size W w:=by
 subst he;obtain⟨M,hs,g⟩:=h;have h1:=(g.sat V.length (lO E) (by simp)).1;have h2:∀k o,E.heap[k]? =some o->w.heap[k]? =some o:=λk o ho=>g.im k o<|h1 k o ho
 refine⟨g.os,g.tape,g.out,?_,λk hk=>?_⟩
 ·by_cases h0:E.heap.size=0
  ·omega
  ·have h3:=h2 (E.heap.size - 1) _<|iI (by omega)
   have:=(Array.getElem?_eq_some_iff.1 h3).1;omega
 ·rw[iI hk];exact h2 k _<|iI hk
section
variable {H:Type}{enc:bR×aV->H}{P:bP}
theorem KE{f:Func}{s:ChangeSpec}{apart fresh handsOn again:Bool}{W W':World}{args:Array Value}{v:Value}{ds gs:List (DataW H)}{before pa pv:List MemPlace}
  (hW:DataW.Whole enc P f.params.toList s.vars apart W args.toList ds gs before)
  (hres:∀(b:Nat)(sp:Nat->Bool)(hd:Bool),DataW.TrodAll enc P W' b sp hd f.resultTypes.toList (v.resultList f.resultTypes.size) (s.fn H<|ds++gs).results [])
  (hargs:∀sp:Nat->Bool,(∀p∈before,sp p.block=true)->DataW.TrodAll enc P W' 0 sp true f.params.toList args.toList (s.fn H<|ds++gs).args pa)
  (hvars:∀sp:Nat->Bool,(∀p∈before,sp p.block=true)->DataW.TrodVars enc P W' sp s.vars (s.fn H<|ds++gs).vars pv)
  (hps:before=pa++pv) (hb:Below W.heap.size W W')
  (hok:∀(j:Nat)(t:TypeId)(r:Value),f.resultTypes[j]? =some t->(v.resultList f.resultTypes.size)[j]? =some r->Value.okWide P W' .any 0 t r):
  s.post enc P f apart fresh handsOn again W args v W':=by
 have hlt:∀p∈before,p.block<W.heap.size:=λp hp=>hW.lt p hp;have hold:∀p∈before,(λb=>decide<|b<W.heap.size) p.block=true:=λp hp=>by simpa using hlt p hp
 refine⟨ds,gs,before,[],pa,pv,hW,hres _ _ _,hargs _ hold,hvars _ hold,World.keptBut_mono (λp hp=>⟨hp,?_⟩)<|hb.frame (· ∈before),λ_=>?_⟩
 ·rw[hps,dJ]at hp;exact Or.inr hp
 ·obtain⟨_,_,_,_,_,hz,hn⟩:=hW;refine⟨hok,_,_,([]++pa)++pv,⟨[]++pa,pv,trodAll_append (hargs _<|λ_ _=>rfl)<|hres _ _ _,hvars _<|λ_ _=>rfl,rfl,?_,?_⟩,?_⟩
  ·intro b off hp;have hin:MemPlace.cell b off∈before:=by rw[hps];simpa using hp
   rw[hb.frozen<|hlt _ hin];exact hz b off hin
  ·intro ha;have:=hn ha;rw[hps]at this;simpa using this
  ·intro p hp _;rw[hps];simpa using hp
theorem xO{W W':World}(hl:laidOutB P=true)(hb:Below W.heap.size W W'){sp:Nat->Bool}:∀{ts:List TypeId}{vs:List Value}{ds:List (DataW H)}{ps:List MemPlace},
  (∀t∈ts,P.readableRec t=true/\t<P.types.size)->DataW.TrodAll enc P W 0 (λ_=>true) true ts vs ds ps->(∀p∈ps,p.block<W.heap.size)->(∀p∈ps,sp p.block=true)->DataW.TrodAll enc P W' 0 sp true ts vs ds ps
 | [],_,_,_,_,h,_,_=>by
  obtain⟨rfl,rfl,rfl⟩:=trodAll_nil h;rfl
 |t::ts,_,_,_,ht,h,hlt,hsp=>by
  obtain⟨v,vs,d,ds,p,q,rfl,rfl,rfl,h1,h2⟩:=trodAll_cons h;refine⟨p,q,?_,xO hl hb (λt h=>ht t (by simp[h])) h2 (λx hx=>hlt x (by simp[hx]))<|λx hx=>hsp x (by simp[hx]),rfl⟩;exact WideElems.Trod_stays hl (ht t (by simp)).1 (ht t (by simp)).2 h1 (λx hx=>hb.same<|hlt x (by simp[hx]))<|λx hx=>hsp x (by simp[hx])
end
end Go.Gk
namespace Go.Gk
open Go IntKind
instance:Bk dG:=⟨λx=>bk x.Name+bk x.Kind+bk x.bM+1,λ_=>by omega⟩
theorem Cv(x:dG):bk x=bk x.Name+bk x.Kind+bk x.bM+1:=rfl
instance:Bk aY:=⟨λx=>bk x.Name+bk x.aZ+1,λ_=>by omega⟩
theorem vC(x:aY):bk x=bk x.Name+bk x.aZ+1:=rfl
instance:Bk Part:=⟨λx=>bk x.Name+bk x.pT+1,λ_=>by omega⟩
theorem JI(x:Part):bk x=bk x.Name+bk x.pT+1:=rfl
instance:Bk bZ:=⟨λx=>bk x.Part+bk x.bZ+1,λ_=>by omega⟩
theorem Ql(x:bZ):bk x=bk x.Part+bk x.bZ+1:=rfl
instance:Bk Net:=⟨λx=>bk x.Name+bk x.aZ+bk x.ux+1,λ_=>by omega⟩
theorem Ir(x:Net):bk x=bk x.Name+bk x.aZ+bk x.ux+1:=rfl
instance:Bk cB:=⟨λx=>bk x.kN+bk x.cF+1,λ_=>by omega⟩
theorem Cw(x:cB):bk x=bk x.kN+bk x.cF+1:=rfl
instance:Bk aK:=⟨λx=>bk x.X0+bk x.Y0+bk x.X1+bk x.Y1+1,λ_=>by omega⟩
theorem Ou(x:aK):bk x=bk x.X0+bk x.Y0+bk x.X1+bk x.Y1+1:=rfl
instance:Bk eR:=⟨λx=>bk x.X+bk x.Y+1,λ_=>by omega⟩
theorem Mx(x:eR):bk x=bk x.X+bk x.Y+1:=rfl
instance:Bk cL:=⟨λx=>bk x.At+bk x.gG+bk x.cQ+bk x.To+bk x.jo+1,λ_=>by omega⟩
theorem Ov(x:cL):bk x=bk x.At+bk x.gG+bk x.cQ+bk x.To+bk x.jo+1:=rfl
instance:Bk cW:=⟨λx=>bk x.Part+bk x.bZ+bk x.dI+bk x.At+1,λ_=>by omega⟩
theorem JJ(x:cW):bk x=bk x.Part+bk x.bZ+bk x.dI+bk x.At+1:=rfl
instance:Bk iE:=⟨λx=>bk x.aS+bk x.dU+bk x.bQ+bk x.bX+1,λ_=>by omega⟩
theorem My(x:iE):bk x=bk x.aS+bk x.dU+bk x.bQ+bk x.bX+1:=rfl
instance:Bk aB:=⟨λx=>bk x.Y0+bk x.Y1+bk x.Xs+1,λ_=>by omega⟩
instance:Bk aI:=⟨λx=>bk x.dI+bk x.Set+bk x.iU+1,λ_=>by omega⟩
instance:Bk bM:=⟨λx=>bk x.oD+bk x.bQ+bk x.aZ+1,λ_=>by omega⟩
instance:Bk fN:=⟨λx=>bk x.cL+bk x.Number+1,λ_=>by omega⟩
instance:Bk aC:=⟨λx=>bk x.B7+bk x.i+bk x.k+1,λ_=>by omega⟩
instance:Bk Test:=⟨λx=>bk x.A+bk x.B+bk x.Joined+1,λ_=>by omega⟩
instance:Bk bA:=⟨λx=>bk x.e0+bk x.e1+1,λ_=>by omega⟩
instance:Bk u6:=⟨λx=>bk x.A+bk x.B+bk x.gz+bk x.cQ+bk x.To+1,λ_=>by omega⟩
instance:Bk mn:=⟨λx=>bk x.Open+bk x.fN+bk x.A+bk x.B+1,λ_=>by omega⟩
end Go.Gk
namespace Go.Gk
open Go IntKind Go.Sort
section
variable {α:Type}
theorem A2{β:Type}(a:bB β){n:Nat}(h:a.size=n):a.extract 0 n=a:=by grind
theorem Qm{φ:α->α->aU Int}{l:aL α}(cf:α->α->Int)(hφ:∀x∈l,∀y∈l,φ x y=some (cf x y))(h1:∀x∈l,¬cf x x<0)
  (h2:∀x∈l,∀y∈l,∀z∈l,cf x y<0->cf y z<0->cf x z<0) (h3:∀x∈l,∀y∈l,∀z∈l,¬cf x y<0->¬cf y z<0->¬cf x z<0):SWO (O1<|HM φ l):=by
 have hm:∀i:Fin l.length,l[i]∈l:=λi=>cS i.isLt;have e:∀i j:Fin l.length,HM φ l i j=cf l[i] l[j]:=λi j=>by grind [HM]
 refine⟨λx=>?_,λx y z=>?_,λx y z=>?_⟩
 all_goals grind [O1,decide_eq_false_iff_not]
theorem zB{φ:α->α->aU Int}{l:aL α}(cf:α->α->Int)(hφ:∀x∈l,∀y∈l,φ x y=some (cf x y))(h1:∀x∈l,¬cf x x<0)
  (h2:∀x∈l,∀y∈l,∀z∈l,cf x y<0->cf y z<0->cf x z<0) (h3:∀x∈l,∀y∈l,∀z∈l,¬cf x y<0->¬cf y z<0->¬cf x z<0) (hl:l.length<4611686018427387904):
  ∃m,r9 φ l=some m/\m.Perm l/\m.Pairwise (λx y=>¬cf y x<0):=by
 have hO:=Qm cf hφ h1 h2 h3;have hm:∀i:Fin l.length,l[i]∈l:=λi=>cS i.isLt;have hc:(∀i j:Fin l.length,∃c,φ l[i] l[j]=some c):=λi j=>⟨_,hφ _ (hm i) _<|hm j⟩;refine⟨Jp φ l,by simp_all[r9,aH],?_⟩;unfold Jp
 by_cases hn:0<l.length
 ·rw[dif_pos hn]
  letI inh:Inhabited (Fin l.length):=⟨⟨0,hn⟩⟩
  have hds:(Array.ofFn λi:Fin l.length=>i).size=l.length:=by simp
  obtain⟨hp,hs⟩:=pdq_sorts (O1<|HM φ l) hO (Array.ofFn λi:Fin l.length=>i) 0 l.length (Lib.bitLen l.length) true true (ox _) (by omega)<|Or.inl rfl
  show(List.map (λi=>l[i]) (pdq (O1<|HM φ l) (Array.ofFn λi:Fin l.length=>i) 0 l.length (Lib.bitLen l.length) true true).toList).Perm l/\_;generalize pdq (O1<|HM φ l) (Array.ofFn λi:Fin l.length=>i) 0 l.length (Lib.bitLen l.length) true true=d' at hp hs;obtain⟨hz,_,hpm⟩:=hp;have hz':d'.size=l.length:=hz.trans hds;rw[A2 d' hz',A2 _ hds]at hpm;have hof:(Array.ofFn λi:Fin l.length=>i).toList.map (λi=>l[i])=l:=by
   rw[Array.toList_ofFn,List.map_ofFn];exact List.ofFn_getElem
  refine⟨(hpm.map<|λi=>l[i]).trans<|List.Perm.of_eq hof,?_⟩;rw[List.pairwise_map,iS];intro i j hi hj hij;rw[Array.length_toList]at hi hj;have:=hs i j (ox _) hij (by omega)
  grind [HM,O1,decide_eq_false_iff_not]
 ·rw[dif_neg hn];have:l= []:=List.length_eq_zero_iff.1 (by omega);subst this;exact⟨List.Perm.refl _,mb⟩
theorem En{φ:α->α->aU Int}{x:α}(h:φ x x=some 0):r9 φ [x]=some [x]:=by
 obtain⟨m,h1,h2,_⟩:=zB (φ:=φ) (l:=[x]) (λ_ _=>0) (λa ha b hb=>by simp at ha hb;rw[ha,hb];exact h) (λ_ _=>by decide) (λ_ _ _ _ _ _ h=>by simp at h) (λ_ _ _ _ _ _ _ _=>by decide) (by simp);rw[h1,List.perm_singleton.1 h2]
theorem DK{l:aL Int}(h:l.Pairwise (λx y=>x<=y))(hl:l.length<4611686018427387904):vn l=some l:=by
 grind [vn,List.mergeSort_of_pairwise]
end
end Go.Gk
namespace Go.Gk
open Go IntKind
def DL(l:aL Int)(x:Int):Nat:=l.countP<|λa=>decide<|a<=x
def o9(l:aL Int)(x:Int):Bool:=DL l x % 2==1
def nX(l:aL Int):Prop:=l.Pairwise (· < ·)
theorem FB(x:Int):DL [] x=0:=rfl
theorem oV(a:Int)(l:aL Int)(x:Int):DL (a::l) x=(if a<=x then 1 else 0)+DL l x:=by
 grind [DL]
theorem CF(l m:aL Int)(x:Int):DL (l++m) x=DL l x+DL m x:=List.countP_append
theorem JK{l:aL Int}{x:Int}(h:∀a∈l,a<=x):DL l x=l.length:=by
 grind [DL,List.countP_eq_length]
theorem CG{l:aL Int}{x:Int}(h:∀a∈l,x<a):DL l x=0:=by
 grind [DL,List.countP_eq_zero]
theorem BN{l:aL Int}{x:Int}:o9 l x=true↔DL l x % 2=1:=by simp[o9]
theorem zC{l:aL Int}{x:Int}(h:∀a∈l,x<a):o9 l x=false:=by grind [o9,CG]
theorem nX.head{a:Int}{l:aL Int}(h:nX (a::l)):∀b∈l,a<b:=(jD.1 h).1
theorem nX.tail{a:Int}{l:aL Int}(h:nX (a::l)):nX l:=(jD.1 h).2
theorem zD{a:Int}{l:aL Int}(h:nX (a::l)):o9 (a::l) a=true:=by
 rw[BN,oV,aH<|Int.le_refl _,CG h.head]
theorem CH:∀{l m:aL Int},nX l->nX m->(∀x,o9 l x=o9 m x)->l=m
 | [],[],_,_,_=>rfl
 | [],b::m,_,hm,h=>by have:=h b;rw[zD hm]at this;cases this
 |a::l,[],hl,_,h=>by have:=h a;rw[zD hl]at this;cases this
 |a::l,b::m,hl,hm,h=>by
  have hab:a=b:=by
   rcases Int.lt_trichotomy a b with h1|h1|h1
   ·have h2:=h a
    rw[zD hl,zC (l:=b::m) (λc hc=>by
     rcases eV.1 hc with rfl|hc
     ·exact h1
     ·have:=hm.head c hc;omega)]at h2
    cases h2
   ·exact h1
   ·have h2:=h b
    rw[zD hm,zC (l:=a::l) (λc hc=>by
     rcases eV.1 hc with rfl|hc
     ·exact h1
     ·have:=hl.head c hc;omega)]at h2
    cases h2
  subst hab;rw[CH hl.tail hm.tail<|λx=>?_]
  by_cases hx:a<=x
  ·have h2:=h x;unfold o9 at h2 ⊢;rw[oV,oV,aH hx]at h2;rw[jE]at h2 ⊢;simp only[beq_iff_eq]at h2 ⊢;omega
  ·rw[zC (λc hc=>by have:=hl.head c hc;omega),zC (λc hc=>by have:=hm.head c hc;omega)]
theorem CI{l:aL Int}{a b:Int}(hl:∀c∈l,c<a)(he:l.length % 2=0)(hab:a<b)(x:Int):o9 (l++[a,b]) x=(o9 l x||(decide (a<=x)&&decide (x<b))):=by
 rw[jE,ij,dB,dP,dP,BN,BN,CF,oV,oV,FB]
 grind [DL,JK]
theorem MB{l:aL Int}{s e a b:Int}(hl:∀c∈l,c<s)(he:l.length % 2=0)(hs:s<e)(h1:s<=a)(h2:a<=e)(hab:a<b)(x:Int):o9 (l++[s,max e b]) x=(o9 (l++[s,e]) x||(decide (a<=x)&&decide (x<b))):=by
 grind [CI]
theorem nX.snoc{l:aL Int}{a b:Int}(h:nX l)(hl:∀c∈l,c<a)(hab:a<b):nX (l++[a,b]):=by
 grind [nX]
structure Bd where
 y0:Int
 y1:Int
 xs:aL Int
def rowAt:aL Bd->Int->aL Int
 | [],_=>[]
 |b::s,y=>if b.y0<=y/\y<b.y1 then b.xs else rowAt s y
theorem mL(b:Bd)(s:aL Bd)(y:Int):rowAt (b::s) y=if b.y0<=y/\y<b.y1 then b.xs else rowAt s y:=rfl
structure fE (s:aL Bd):Prop where
 each:∀b∈s,b.y0<b.y1/\b.xs≠[]/\nX b.xs/\b.xs.length % 2=0
 ord:s.Pairwise (λb c=>b.y1<=c.y0/\(b.y1=c.y0->b.xs≠c.xs))
theorem fE.nil:fE []:=⟨λb h=>by simp at h,mb⟩
theorem fE.tail{b:Bd}{s:aL Bd}(h:fE (b::s)):fE s:=⟨λc hc=>h.each c<|mP _ hc,(jD.1 h.ord).2⟩
theorem lH{s:aL Bd}{y:Int}(h:∀b∈s,y<b.y0\/b.y1<=y):rowAt s y= []:=by
 induction s with
 |nil=>rfl
 |cons b s ih=>
  grind [rowAt,mP]
theorem qY(s t:aL Bd)(y:Int):rowAt (s++t) y=if(∃b∈s,b.y0<=y/\y<b.y1)then rowAt s y else rowAt t y:=by
 induction s with
 |nil=>simp
 |cons b s ih=>
  rw[List.cons_append,mL,mL]
  by_cases h:b.y0<=y/\y<b.y1
  ·simp_all
  ·rw[aF h,ih]
   by_cases h2:∃c∈s,c.y0<=y/\y<c.y1
   ·simp_all[aH,mP,aF]
   grind
theorem fE.mM{b:Bd}{s:aL Bd}{y:Int}(h0:b.y0<=y)(h1:y<b.y1):rowAt (b::s) y=b.xs:=by grind [rowAt]
theorem fE.CJ{b:Bd}{s:aL Bd}(h:fE (b::s)):∀c∈s,b.y1<=c.y0:=λc hc=>((jD.1 h.ord).1 c hc).1
theorem fE.wX{b:Bd}{s:aL Bd}(h:fE (b::s)){y:Int}(hy:y<b.y0):rowAt (b::s) y= []:=lH λc hc=>by
 rcases eV.1 hc with rfl|hc
 ·exact .inl hy
 ·have:=h.CJ c hc;have:=(h.each b (by simp)).1;exact .inl (by omega)
theorem fE.JL{b:Bd}{s:aL Bd}(h:fE (b::s)):rowAt (b::s) b.y1≠b.xs:=by
 rw[mL,aF (by omega)]
 cases s with
 |nil=>exact λe=>(h.each b (by simp)).2.1 e.symm
 |cons c s=>
  have h1:=(jD.1 h.ord).1 c (by simp)
  by_cases e:b.y1=c.y0
  ·rw[fE.mM (by omega) (by have:=(h.tail.each c (by simp)).1;omega)]
   grind
  ·rw[h.tail.wX (by omega)];exact λe=>(h.each b (by simp)).2.1 e.symm
theorem CK:∀{s t:aL Bd},fE s->fE t->(∀y,rowAt s y=rowAt t y)->s=t
 | [],[],_,_,_=>rfl
 | [],c::t,_,ht,h=>by
  have hc:=ht.each c (by simp);have:=h c.y0;rw[fE.mM (Int.le_refl _) hc.1]at this;exact absurd this.symm hc.2.1
 |b::s,[],hs,_,h=>by
  have hb:=hs.each b (by simp);have:=h b.y0;rw[fE.mM (Int.le_refl _) hb.1]at this;exact absurd this hb.2.1
 |b::s,c::t,hs,ht,h=>by
  have hb:=hs.each b (by simp);have hc:=ht.each c (by simp);have e0:b.y0=c.y0:=by
   rcases Int.lt_trichotomy b.y0 c.y0 with h1|h1|h1
   ·have h2:=h b.y0;rw[fE.mM (Int.le_refl _) hb.1,ht.wX h1]at h2;exact absurd h2 hb.2.1
   ·exact h1
   ·have h2:=h c.y0;rw[fE.mM (Int.le_refl _) hc.1,hs.wX h1]at h2;exact absurd h2.symm hc.2.1
  have ex:b.xs=c.xs:=by
   have h2:=h b.y0;rw[fE.mM (Int.le_refl _) hb.1,fE.mM (by omega) (by omega)]at h2;exact h2
  have e1:b.y1=c.y1:=by
   rcases Int.lt_trichotomy b.y1 c.y1 with h1|h1|h1
   ·have h2:=h b.y1;rw[fE.mM (b:=c) (by omega) h1]at h2;exact absurd (h2.trans ex.symm) hs.JL
   ·exact h1
   ·have h2:=h c.y1;rw[fE.mM (b:=b) (by omega) h1]at h2;exact absurd (h2.symm.trans ex) ht.JL
  have ebc:b=c:=by cases b;cases c;simp_all
  subst ebc;rw[CK hs.tail ht.tail<|λy=>?_]
  by_cases hy:b.y1<=y
  ·have h2:=h y;unfold rowAt at h2;rw[aF (by omega),aF (by omega)]at h2;exact h2
  ·rw[lH (λd hd=>by have:=hs.CJ d hd;omega),lH (λd hd=>by have:=ht.CJ d hd;omega)]
def zF(s:aL Bd)(x y:Int):Bool:=o9 (rowAt s y) x
theorem Eo{s:aL Bd}(h:∀b∈s,nX b.xs)(y:Int):nX (rowAt s y):=by
 induction s with
 |nil=>exact mb
 |cons b s ih=>
  grind [rowAt,mP]
theorem CL{s t:aL Bd}(hs:fE s)(ht:fE t)(h:∀x y,zF s x y=zF t x y):s=t:=
 CK hs ht λy=>CH (Eo (λb hb=>(hs.each b hb).2.2.1) y) (Eo (λb hb=>(ht.each b hb).2.2.1) y) λx=>h x y
def oe(s:aL Bd)(b:Bd):aL Bd:=
 if b.xs= []\/b.y1<=b.y0 then s else
  match s.getLast? with
  |some c=>if c.y1=b.y0/\c.xs=b.xs then s.dropLast++[⟨c.y0,b.y1,c.xs⟩]else s++[b]
  |none=>[b]
theorem ui{α:Type}{s:aL α}{c:α}(h:s.getLast? =some c):s=s.dropLast++[c]:=by
 have hne:s≠[]:=λe=>by grind
 grind [List.getLast?_eq_some_getLast,List.dropLast_concat_getLast]
theorem Au{s:aL Bd}{b:Bd}(hs:∀c∈s,c.y1<=b.y0)(hg:∀c∈s,c.y0<c.y1)(hb:b.y1<=b.y0->b.y1=b.y0)(y:Int):rowAt (oe s b) y=if b.y0<=y/\y<b.y1 then b.xs else rowAt s y:=by
 have key:∀(s:aL Bd)(c:Bd),(∀d∈s,d.y1<=c.y0)->rowAt (s++[c]) y=if c.y0<=y/\y<c.y1 then c.xs else rowAt s y:=by
  intro s c h;rw[qY]
  by_cases h1:c.y0<=y/\y<c.y1
  ·grind [fE.mM]
  ·rw[aF h1]
   by_cases h2:∃d∈s,d.y0<=y/\y<d.y1
   all_goals grind [mL,rowAt,lH]
 unfold oe
 by_cases h0:b.xs= []\/b.y1<=b.y0
 ·grind [lH]
 ·rw[aF h0]
  cases hl:s.getLast? with
  |none=>
   have:s= []:=by simp_all
   subst this;rfl
  |some c=>
   dsimp only;have hsp:=ui hl;have hcm:c∈s:=by rw[hsp];simp
   by_cases h1:c.y1=b.y0/\c.xs=b.xs
   ·rw[aH h1];have hd:∀d∈s.dropLast,d.y1<=c.y0\/True:=λ_ _=> .inr trivial;rw[qY];have hrow:rowAt s y=if(∃d∈s.dropLast,d.y0<=y/\y<d.y1)then rowAt s.dropLast y else(if c.y0<=y/\y<c.y1 then c.xs else []):=by
     conv=>lhs;rw[hsp]
     rw[qY];rfl
    rw[hrow];have hcg:=hg c hcm
    by_cases h2:∃d∈s.dropLast,d.y0<=y/\y<d.y1
    ·obtain⟨d,hd,hd2⟩:=h2;have:=hs d<|List.dropLast_subset _ hd
     have he:∃d∈s.dropLast,d.y0<=y/\y<d.y1:=⟨d,hd,hd2⟩;rw[aH he,aH he,aF (by omega)]
    ·rw[aF h2,aF h2];show(if c.y0<=y/\y<b.y1 then c.xs else [])=_
     by_cases h3:b.y0<=y/\y<b.y1
     ·rw[aH h3,aH ⟨by omega,h3.2⟩,h1.2]
     ·rw[aF h3]
      by_cases h4:c.y0<=y/\y<c.y1
      ·rw[aH h4,aH ⟨h4.1,by omega⟩]
      ·rw[aF h4,aF (by omega)]
   ·rw[aF h1];exact key s b hs
theorem Av{s:aL Bd}{b:Bd}(h:fE s)(hs:∀c∈s,c.y1<=b.y0)(hb:nX b.xs)(he:b.xs.length % 2=0):fE (oe s b):=by
 unfold oe
 by_cases h0:b.xs= []\/b.y1<=b.y0
 ·grind
 ·rw[aF h0];have hbg:b.y0<b.y1/\b.xs≠[]/\nX b.xs/\b.xs.length % 2=0:=⟨by omega,λe=>h0<|.inl e,hb,he⟩
  cases hl:s.getLast? with
  |none=>exact⟨λc hc=>by grind,List.pairwise_singleton _ _⟩
  |some c=>
   dsimp only;have hsp:=ui hl;have hcm:c∈s:=by rw[hsp];simp
   have hc:=h.each c hcm;have hord:=h.ord;rw[hsp,eH]at hord
   by_cases h1:c.y1=b.y0/\c.xs=b.xs
   ·rw[aH h1];refine⟨λd hd=>?_,?_⟩
    ·rcases dJ.1 hd with hd|hd
     ·exact h.each d<|List.dropLast_subset _ hd
     grind
    grind
   ·rw[aF h1];refine⟨λd hd=>?_,?_⟩
    ·rcases dJ.1 hd with hd|hd
     ·exact h.each d hd
     ·simp at hd;subst hd;exact hbg
    ·rw[eH];refine⟨h.ord,List.pairwise_singleton _ _,λd hd e he=>?_⟩;simp at he;subst he;refine⟨hs d hd,λe1 e2=>?_⟩;rw[hsp]at hd
     rcases dJ.1 hd with hd|hd
     ·have h2:=(hord.2.2 d hd c (by simp)).1;have:=hs c hcm;omega
     ·simp at hd;subst hd;exact h1 ⟨e1,e2⟩
theorem Aw{s:aL Bd}{b:Bd}(hs:∀c∈s,c.y1<=b.y0)(hb:b.y0<=b.y1):∀c∈oe s b,c.y1<=b.y1:=by
 grind [oe,List.dropLast_subset]
section
variable {N:Nat}
def cH(b:aB):Bd:=⟨b.Y0,b.Y1,b.Xs⟩
def small(a:Int):Prop:= -1099511627776<=a/\a<=1099511627776
structure HN (r:aK):Prop where
 x:r.X0<r.X1
 y:r.Y0<r.Y1
 s1:small r.X0
 s2:small r.X1
 s3:small r.Y0
 s4:small r.Y1
def Iu(l:aL aK)(x:Int):Bool:=l.any<|λr=>decide (r.X0<=x)&&decide (x<r.X1)
def v9(l:aL aK)(x y:Int):Bool:=l.any<|λr=>(decide (r.X0<=x)&&decide (x<r.X1))&&(decide (r.Y0<=y)&&decide (y<r.Y1))
theorem CM{l:aL aK}{x:Int}:Iu l x=true↔∃r∈l,r.X0<=x/\x<r.X1:=by simp[Iu,lq]
theorem m6{l:aL aK}{x y:Int}:v9 l x y=true↔∃r∈l,(r.X0<=x/\x<r.X1)/\r.Y0<=y/\y<r.Y1:=by simp[v9,lq]
theorem wrap_small{a b:Int}(ha:small a)(hb:small b):wrap .i64 (a - b)=a - b:=by grind [small,fB]
theorem G5{n:Nat}(h:0<n)(hn:n<=4611686018427387904):wrap .i64 ((n:Int) - 1)=((n - 1:Nat):Int):=lZ h hn
structure UO (out:aL Int) (m:aL aK) (k:Nat):Prop where
 row:(k=0/\out= [])\/∃A s e,out=A++[s,e]/\nX A/\(∀c∈A,c<s)/\A.length % 2=0/\s<e/\∃j r,j<k/\m[j]? =some r/\s=r.X0
 o9:∀x,o9 out x=Iu (m.take k) x
 len:out.length<=2*k
 mem:∀c∈out,∃r∈m,c=r.X0\/c=r.X1
theorem Ax(l:aL aK)(r:aK)(x:Int):Iu (l++[r]) x=(Iu l x||(decide (r.X0<=x)&&decide (x<r.X1))):=by simp[Iu,List.any_append]
theorem FC{l:aL aK}(hl:l.length<=268435456)(hok:∀r∈l,HN r):∃row l',jr N l=some (row,l')/\l'.Perm l/\nX row/\row.length % 2=0/\(∀x,o9 row x=Iu l x)/\row.length<=2*l.length/\∀c∈row,∃r∈l,c=r.X0\/c=r.X1:=by
 unfold jr
 obtain⟨m,h1,h2,h3⟩:=zB (φ:=gQ N) (l:=l) (λa b=>a.X0 - b.X0) (λa ha b hb=>by
  unfold gQ;rw[wrap_small (hok a ha).s1 (hok b hb).s1]) (λa _=>by omega) (λa _ b _ c _ h1 h2=>by omega) (λa _ b _ c _ h1 h2=>by omega) (by omega)
 have hml:m.length=l.length:=h2.length_eq;have hmok:∀r∈m,HN r:=λr hr=>hok r<|h2.subset hr
 rw[h1,aA];obtain⟨out,a1,a2⟩:=BM (m:=m.length) (s:=([]:aL Int)) (body:=λ(k32:Nat)(s33:aL Int)=>((idx m (k32:Int)).bind λx79=>(bif decide (wrap .i64 ((s33.length:Int) - 1)>=0)then((idx s33<|wrap .i64<|(s33.length:Int) - 1).bind λx86=>some<|decide<|x79.X0<=x86)else some false).bind λs84=>(bif s84 then((idx s33<|wrap .i64<|(s33.length:Int) - 1).bind λx94=>(idx s33<|wrap .i64<|(s33.length:Int) - 1).bind λx95=>some<|s33.set (Int.toNat<|wrap .i64<|(s33.length:Int) - 1) (if x94<x79.X1 then x79.X1 else x94))else((app 8 s33 ([x79.X0,x79.X1]:aL Int)).bind λx97=>some x97)).bind λs92=>some s92:aU (aL Int)))
  (λk out=>UO out m k) (by omega) ⟨.inl ⟨rfl,rfl⟩,λx=>rfl,by simp,λc hc=>by cases hc⟩ (λk out hk⟨i1,i2,i3,i4⟩=>by
   have hx:m[k]? =some m[k]:=aM hk;have hr:=hmok _<|cS hk
   rw[cG hx,aA];have hts:m.take (k+1)=m.take k++[m[k]]:=eO hk
   rcases i1 with⟨rfl,rfl⟩|⟨A,s,e,rfl,hA,hAs,hAe,hse,j,r,hj,hjr,hsr⟩
   ·rw[show decide (wrap .i64 (((([]:aL Int).length:Nat):Int) - 1)>=0)=false by decide,aP,aA,aP,gK (by simp),aA,aA];refine⟨_,rfl, .inr ⟨[],_,_,rfl,mb,λc hc=>by simp at hc,rfl,hr.x,0,m[0],by omega,hx,rfl⟩,λx=>?_,by simp,λc hc=>⟨m[0],cS hk,by grind⟩⟩;rw[hts,Ax,<-i2 x];exact CI (l:=[]) (λc hc=>by simp at hc) rfl hr.x x
   ·have hlen:(A++[s,e]).length=A.length+2:=by simp
    have hwp:wrap .i64 ((((A++[s,e]).length:Nat):Int) - 1)=((A.length+1:Nat):Int):=by grind [G5]
    have hlast:(A++[s,e])[A.length+1]? =some e:=by simp
    have hs:s<=m[k].X0:=by
     grind [iS,bN]
    rw[hwp,bU (by omega),aQ,cG hlast,aA,aA]
    by_cases hc:m[k].X0<=e
    ·rw[bU hc,aQ,aA,aA,aA,cR];have nR:(A++[s,e]).set (A.length+1) (if e<m[k].X1 then m[k].X1 else e)=A++[s,max e m[k].X1]:=by
      rw[List.set_append_right _ _ (by omega)];have:A.length+1 - A.length=1:=by omega
      rw[this,Int.max_def];simp only[List.set_cons_succ,List.set_cons_zero];congr 2;split <;> split <;> simp <;> omega
     rw[nR]
     refine⟨_,rfl, .inr ⟨A,s,_,rfl,hA,hAs,hAe,by omega,j,r,by omega,hjr,hsr⟩,λx=>?_,by simp at i3 ⊢;omega,λc hc=>by
      rcases dJ.1 hc with h|h
      ·exact i4 c<|List.mem_append_left _ h
      ·simp at h
       rcases h with h|h
       ·exact i4 c (by simp[h])
       ·rw[Int.max_def]at h;split at h
        ·exact⟨_,cS hk, .inr h⟩
        ·exact i4 c (by simp[h])⟩
     rw[hts,Ax,<-i2 x];exact MB hAs hAe hse hs hc hr.x x
    ·rw[bS hc,aP,gK (by rw[hlen];simp;omega),aA,aA];have hall:∀c∈A++[s,e],c<m[k].X0:=λc hc'=>by
      rcases dJ.1 hc' with h|h
      ·have:=hAs c h;omega
      ·simp at h;omega
     refine⟨_,rfl, .inr ⟨A++[s,e],_,_,rfl,hA.snoc hAs hse,hall,by rw[hlen];omega,hr.x,k,m[k],by omega,hx,rfl⟩,λx=>?_,by simp at i3 ⊢;omega,λc hc=>by
      rcases dJ.1 hc with h|h
      ·exact i4 c h
      ·exact⟨m[k],cS hk,by simpa using h⟩⟩
     rw[hts,Ax,<-i2 x]
     exact CI hall (by rw[hlen];omega) hr.x x)
 rw[a1,aA];refine⟨out,m,rfl,h2,?_,?_,λx=>?_,by rw[<-hml];exact a2.len,λc hc=>by obtain⟨r,hr,h⟩:=a2.mem c hc;exact⟨r,h2.subset hr,h⟩⟩
 ·rcases a2.row with⟨_,h⟩|⟨A,s,e,rfl,hA,hAs,hAe,hse,_⟩
  ·rw[h];exact mb
  ·exact hA.snoc hAs hse
 ·rcases a2.row with⟨_,h⟩|⟨A,s,e,rfl,hA,hAs,hAe,hse,_⟩
  ·rw[h];rfl
  ·simp;omega
 ·rw[a2.o9 x,g8,jE,CM,CM];constructor
  ·rintro⟨r,hr,h⟩;exact⟨r,h2.subset hr,h⟩
  ·rintro⟨r,hr,h⟩;exact⟨r,h2.symm.subset hr,h⟩
theorem KG{l m:aL Int}(hl:l.length<=4611686018427387904):mT N l m=some (decide<|l=m):=Ek hl
theorem JM{s:aL aB}{b:aB}(hs:s.length<=1048576000)(hx:∀c∈s,c.Xs.length<=1048576000):∃s',iX N s b=some s'/\s'.map cH=oe (s.map cH) (cH b):=by
 unfold iX oe
 by_cases h0:b.Xs= []\/b.Y1<=b.Y0
 ·have e:(((b.Xs.length:Int)==0)||decide (b.Y1<=b.Y0))=true:=by
   grind
  rw[e,aQ,aH (show(cH b).xs= []\/(cH b).y1<=(cH b).y0 from h0)];simp
 ·have e:(((b.Xs.length:Int)==0)||decide (b.Y1<=b.Y0))=false:=by
   simp_all
  rw[e,aP,aF (show ¬((cH b).xs= []\/(cH b).y1<=(cH b).y0)from h0)]
  rcases List.eq_nil_or_concat s with rfl|⟨A,c,hA⟩
  ·rw[show decide (wrap .i64 (((([]:aL aB).length:Nat):Int) - 1)>=0)=false by decide,aP,aA,aP,gK (by simp),aA];simp
  ·rw[List.concat_eq_append]at hA;subst hA;have hlen:(A++[c]).length=A.length+1:=by simp
   have hwp:wrap .i64 ((((A++[c]).length:Nat):Int) - 1)=(A.length:Int):=by grind [G5]
   have hlast:(A++[c])[A.length]? =some c:=by simp
   rw[hwp,bU (by omega),aQ,cG hlast,aA,aA,KG (by grind),aA,aA,cR,gK (by grind),aA];have hl2:((A++[c]).map cH).getLast? =some (cH c):=by simp
   have hd2:((A++[c]).map cH).dropLast=A.map cH:=by simp
   rw[hl2,hd2];dsimp only
   by_cases h1:c.Y1=b.Y0/\c.Xs=b.Xs
   ·grind [cH,bU,aA,List.set_append_right]
   grind [cH]
end
def sq(l:aL (Int×Int)):aL Int:=l.flatMap λs=>[s.1,s.2]
def KH(l:aL (Int×Int))(x:Int):Bool:=l.any λs=>decide (s.1<=x)&&decide (x<s.2)
theorem rR(s:Int×Int)(l:aL (Int×Int)):sq (s::l)=s.1::s.2::sq l:=rfl
theorem KI(l:aL (Int×Int)):(sq l).length=2*l.length:=by
 induction l with
 |nil=>rfl
 |cons s l ih=>grind [rR,fQ]
theorem KJ(s:Int×Int)(l:aL (Int×Int))(x:Int):KH (s::l) x=((decide (s.1<=x)&&decide (x<s.2))||KH l x):=rfl
theorem CN{l:aL (Int×Int)}{x:Int}:KH l x=true↔∃s∈l,s.1<=x/\x<s.2:=by
 simp[KH]
theorem KK{a b:Int}{m:aL Int}(h:nX (a::b::m))(x:Int):o9 (a::b::m) x=((decide (a<=x)&&decide (x<b))||o9 m x):=by
 have hab:a<b:=h.head b (by simp);have hm:=h.tail.head
 grind [BN,oV,CG]
theorem zG:∀{l:aL (Int×Int)},nX (sq l)->∀x,o9 (sq l) x=KH l x
 | [],_,x=>rfl
 |s::l,h,x=>by
  rw[rR]at h ⊢;rw[KK h,KJ,zG h.tail.tail]
def Ok{β:Type}(o:aU β)(P:β->Prop):Prop:=∃r,o=some r/\P r
section
variable {α β S R:Type}{P:α->Prop}{Q:β->Prop}
theorem VV{x:β}(h:Q x):Ok (some x) Q:=⟨x,rfl,h⟩
theorem YS{o:aU β}{x:β}(h:o=some x)(hq:Q x):Ok o Q:=⟨x,h,hq⟩
theorem Ok.mono{o:aU α}{P':α->Prop}(h:Ok o P)(k:∀x,P x->P' x):Ok o P':=by obtain⟨x,h1,h2⟩:=h;exact⟨x,h1,k x h2⟩
theorem V3{o:aU α}{f:α->aU β}(h:Ok o P)(k:∀x,P x->Ok (f x) Q):Ok (o.bind f) Q:=by
 obtain⟨x,h1,h2⟩:=h;grind
theorem VT{o:aU α}{f:α->aU β}{x:α}(h:o=some x)(k:Ok (f x) Q):Ok (o.bind f) Q:=by grind
theorem WE{b:Bool}{x y:aU β}(ht:b=true->Ok x Q)(hf:b=false->Ok y Q):Ok (bif b then x else y) Q:=by
 grind
theorem W9{o:aU β}{x:β}(h:Ok o (λr=>r=x)):o=some x:=by obtain⟨r,h1,h2⟩:=h;rw[h1,h2]
def NL(Go:S->Prop)(Rt:R->Prop):Fo S R->Prop| .go s=>Go s| .rt r=>Rt r
def Pm(Nx Br:S->Prop)(Rt:R->Prop):Fl S R->Prop| .nx s=>Nx s| .br s=>Br s| .rt r=>Rt r
theorem Wz{Nx Br:S->Prop}{Rt:R->Prop}{s:S}(h:Nx s):Ok (some<|Fl.nx s) (Pm Nx Br Rt):=⟨_,rfl,h⟩
theorem WG{Nx Br:S->Prop}{Rt:R->Prop}{s:S}(h:Br s):Ok (some<|Fl.br s) (Pm Nx Br Rt):=⟨_,rfl,h⟩
theorem Xu{Nx Br:S->Prop}{Rt:R->Prop}{r:R}(h:Rt r):Ok (some (Fl.rt r:Fl S R)) (Pm Nx Br Rt):=⟨_,rfl,h⟩
theorem WH{Go:S->Prop}{Rt:R->Prop}{o:Fo S R}{f:S->aU β}{g:R->aU β}(h:NL Go Rt o)(hf:∀s,Go s->Ok (f s) Q)(hg:∀r,Rt r->Ok (g r) Q):Ok (o.cs f g) Q:=by
 cases o with
 |go s=>exact hf s h
 |rt r=>exact hg r h
theorem WK{body:Nat->S->aU S}{m:Nat}{s:S}(Inv:Nat->S->Prop)(hm:m<=4611686018427387904)(h0:Inv 0 s)(h:∀k s,k<m->Inv k s->Ok (body k s) (Inv<|k+1)):Ok (jy m body s) (Inv m):=
 BM Inv hm h0 h
theorem X7{body:Nat->S->aU (Fl S R)}{m:Nat}{s:S}(Inv:Nat->S->Prop){Go:S->Prop}{Rt:R->Prop}(hm:m<=4611686018427387904)(h0:Inv 0 s)
  (h:∀k s,k<m->Inv k s->Ok (body k s) (Pm (Inv<|k+1) Go Rt)) (hg:∀s,Inv m s->Go s):Ok (qp m body s) (NL Go Rt):=by
 obtain⟨o,h1,h2⟩:=Oo (R:=R) Inv Go Rt hm h0 (λk s hk hi=>by
  obtain⟨fl,a1,a2⟩:=h k s hk hi
  exact⟨fl,a1,by cases fl <;> exact a2⟩) hg
 exact⟨o,h1,by cases o <;> exact h2⟩
theorem WS{body:S->aU (Fl S R)}{N:Nat}{s:S}(Inv:S->Prop)(μ:S->Nat){Go:S->Prop}{Rt:R->Prop}
  (h:∀s,Inv s->Ok (body s) (Pm (λs'=>Inv s'/\μ s'<μ s) Go Rt)) (hi:Inv s) (hn:μ s<N):Ok (kb body N s) (NL Go Rt):=by
 obtain⟨o,h1,h2⟩:=wT (R:=R) Inv μ Go Rt (λs hi=>by
  obtain⟨fl,a1,a2⟩:=h s hi
  exact⟨fl,a1,by cases fl <;> exact a2⟩) N s hi hn
 exact⟨o,h1,by cases o <;> exact h2⟩
theorem W3{b:Nat}{l ys:aL α}{f:aL α->aU β}(h:(l.length+ys.length)*b<=140737488355328)(k:Ok (f<|l++ys) Q):Ok ((Go.Gk.app b l ys).bind f) Q:=by grind [gK]
theorem WO{l:aL α}{i:Nat}{f:α->aU β}(h:i<l.length)(k:Ok (f l[i]) Q):Ok ((Go.Gk.idx l (i:Int)).bind f) Q:=by grind [ji]
theorem Wu{l:aL α}{i:Nat}{x:α}{f:α->aU β}(h:l[i]? =some x)(k:Ok (f x) Q):Ok ((Go.Gk.idx l (i:Int)).bind f) Q:=by grind [cG]
end
theorem qj{n:Nat}(h:n<=4611686018427387904):wrap .i64 (n:Int)=(n:Int):=by grind [fB]
theorem wrap_add{n m:Nat}(h:n+m<=4611686018427387904):wrap .i64 ((n:Int)+(m:Int))=((n+m:Nat):Int):=by grind [fB]
theorem eN{n:Nat}(h:n+1<=4611686018427387904):wrap .i64 ((n:Int)+1)=((n+1:Nat):Int):=by grind [fB]
theorem Ep{n:Nat}(h:n+2<=4611686018427387904):wrap .i64 ((n:Int)+2)=((n+2:Nat):Int):=by grind [fB]
theorem fK{α:Type}[DecidableEq α]:∀{l m:aL α},l.Nodup->(∀x∈l,x∈m)->l.length<=m.length
 | [],m,_,_=>ox _
 |a::l,m,hn,hs=>by
  have ha:a∈m:=hs a (by simp);have hn':=List.nodup_cons.1 hn
  have:=fK (l:=l) (m:=m.erase a) hn'.2 (λx hx=>by
   grind)
  rw[List.length_erase_of_mem ha]at this;have:=List.length_pos_of_mem ha;simp;omega
section
variable {α:Type}{N:Nat}
def SV(z:α)(N:Nat)(p0:aL α)(p1:α->aU Bool):aU (aL α):=
 (ue p0 p1).bind λx31=>bif x31==(-1)then some p0 else((kb (λ(s33:aL α×Int×Int)=>(bif decide (s33.2.2<(s33.1.length:Int))then((idx s33.1 s33.2.2).bind λx54=>(p1 x54).bind λx58=>(bif(!x58)then((idx s33.1 s33.2.1).bind λx63=>some (s33.1.set (Int.toNat s33.2.1) x54,wrap .i64<|s33.2.1+1))else some (s33.1,s33.2.1)).bind λs61=>some<|.nx (s61.1,s61.2,wrap .i64<|s33.2.2+1))else(some<|.br (s33.1,s33.2.1,s33.2.2)):aU (Fl (aL α×Int×Int) Empty))) N (p0,x31,wrap .i64<|x31+1)).bind λo67=>o67.cs (λ(s33:aL α×Int×Int)=>(xd s33.1 s33.2.1 (s33.1.length:Int)).bind λx64=>(xd (s33.1.take (Int.toNat s33.2.1)++List.replicate (s33.1.length - Int.toNat s33.2.1) z) 0 s33.2.1).bind λx65=>some x65)<|λr=>r.elim)
theorem MC{z:α}{l:aL α}{φ:α->aU Bool}(p:α->Bool)(hφ:∀x∈l,φ x=some (p x))(hl:l.length<=4611686018427387000)(hN:l.length<N):SV z N l φ=some (l.filter<|λx=> !p x):=by
 unfold SV;rw[sK p (by omega) hφ,aA]
 rcases n8 l p with⟨h1,h2⟩|⟨k,x,h1,h2,h3,h4⟩
 ·grind [List.filter_eq_self]
 ·rw[h1,show((k:Int)== -1)=false by simp,aP];have hk:=(bN.1 h2).1;have hpre:(l.take k).filter (λx=> !p x)=l.take k:=List.filter_eq_self.2 λa ha=>by
   grind [fA,bN,dD,List.getElem?_take_of_lt]
  have hst:l.take (k+1)=l.take k++[x]:=by
   rw[eO hk];grind
  have hk1:wrap .i64 ((k:Int)+1)=((k+1:Nat):Int):=by grind [fB]
  rw[hk1];obtain⟨o,a1,a2⟩:=wT (S:=aL α×Int×Int) (R:=Empty) (body:=λ(s33:aL α×Int×Int)=>(bif decide (s33.2.2<(s33.1.length:Int))then((idx s33.1 s33.2.2).bind λx54=>(φ x54).bind λx58=>(bif(!x58)then((idx s33.1 s33.2.1).bind λx63=>some (s33.1.set (Int.toNat s33.2.1) x54,wrap .i64<|s33.2.1+1))else some (s33.1,s33.2.1)).bind λs61=>some<|.nx (s61.1,s61.2,wrap .i64<|s33.2.2+1))else(some<|.br (s33.1,s33.2.1,s33.2.2)):aU (Fl (aL α×Int×Int) Empty)))
   (λs=>∃i j:Nat,s.2.1=((i:Nat):Int)/\s.2.2=(j:Int)/\i<j/\j<=l.length/\s.1.length=l.length/\s.1.take i=(l.take j).filter (λx=> !p x)/\∀m,j<=m->s.1[m]? =l[m]?)
   (λs=>l.length - s.2.2.toNat) (λs=>∃i:Nat,s.2.1=((i:Nat):Int)/\i<=l.length/\s.1.length=l.length/\s.1.take i=l.filter (λx=> !p x)) (λ_=>True) (λs⟨i,j,e1,e2,hij,hj,hlen,ht,hd⟩=>by
    obtain⟨s,a,b⟩:=s;dsimp only at e1 e2 hlen ht hd ⊢;subst e1;subst e2
    by_cases hlt:j<l.length
    ·rw[bU (by omega),aQ];have hx:s[j]? =some l[j]:=by grind
     have w1:wrap .i64 ((j:Int)+1)=((j+1:Nat):Int):=by grind [fB]
     have w2:wrap .i64 (((i:Nat):Int)+1)=((i+1:Nat):Int):=by grind [fB]
     have hs2:l.take (j+1)=l.take j++[l[j]]:=eO hlt;rw[cG hx,aA,hφ _<|cS hlt,aA,w1]
     cases hp:p l[j]with
     |true=>
      refine⟨.nx (s,((i:Nat):Int),((j+1:Nat):Int)),by rfl,⟨i,j+1,rfl,rfl,by omega,by omega,hlen,?_,λm hm=>hd m (by omega)⟩,?_⟩
      ·grind
      grind
     |false=>
      refine⟨.nx (s.set i l[j],((i+1:Nat):Int),((j+1:Nat):Int)),by rw[ln,aQ,ji _ _ (by omega),aA,cR,w2,aA],⟨i+1,j+1,rfl,rfl,by omega,by omega,by simp[hlen],?_,λm hm=>?_⟩,?_⟩
      ·rw[hs2,List.filter_append,<-ht];have:(s.set i l[j]).take (i+1)=s.take i++[l[j]]:=by
        rw[eO (by simp;omega),List.take_set_of_le<|bW _];simp
       rw[this];simp[hp]
      ·rw[lk,aF (by omega)];exact hd m (by omega)
      ·simp only[cR];omega
    ·rw[bS (by rw[hlen];omega),aP];have hje:j=l.length:=by omega
     subst hje;rw[g8]at ht
     exact⟨.br (s,((i:Nat):Int),((l.length:Nat):Int)),rfl,i,rfl,by omega,hlen,ht⟩)
   N (l,(k:Int),((k+1:Nat):Int)) ⟨k,k+1,rfl,rfl,by omega,by omega,rfl,by rw[hst,List.filter_append,hpre];simp[h3],λ_ _=>rfl⟩ (by simp only[cR];omega)
  rw[a1,aA]
  cases o with
  |rt r=>exact r.elim
  |go s=>
   obtain⟨i,e1,hi,hlen,ht⟩:=a2;obtain⟨s,a,b⟩:=s;dsimp only at e1 hlen ht;subst e1;simp only[Fo.cs];rw[zh _ _ (by omega),aA,cR,rI _ _ (by simp;omega),aA,List.take_append_of_le_length (by simp;omega),List.take_take,Nat.min_self,ht]
end
section
variable {κ ν:Type}[DecidableEq κ]
theorem og(m:aL (κ×ν))(k k':κ)(x z:ν):dE (lf m k x) k' z=if k'=k then x else dE m k' z:=by
 induction m with
 |nil=>grind [lf,dE]
 |cons p m ih=>
  grind [lf,dE,bS,bU]
theorem rk(m:aL (κ×ν))(k k':κ)(x:ν):iD (lf m k x) k'=(decide (k'=k)||iD m k'):=by
 induction m with
 |nil=>rfl
 |cons p m ih=>
  unfold lf
  grind [iD,bS,decide]
def rS(m:aL (κ×ν))(l:aL κ)(x:ν):aL (κ×ν):=l.foldl (λm k=>lf m k x) m
theorem CO(l:aL κ)(x z:ν)(k:κ):∀(m:aL (κ×ν)),dE (rS m l x) k z=if k∈l then x else dE m k z:=by
 induction l with
 |nil=>simp[rS]
 |cons a l ih=>
  intro m;show dE (rS (lf m a x) l x) k z=_
  grind [og]
theorem Iv(l:aL κ)(x:ν)(k:κ):∀(m:aL (κ×ν)),iD (rS m l x) k=(decide (k∈l)||iD m k):=by
 induction l with
 |nil=>simp[rS]
 |cons a l ih=>
  intro m;show iD (rS (lf m a x) l x) k=_
  grind [rk]
theorem Er{l:aL κ}{m:aL (κ×ν)}(x:ν)(hl:l.length<=4611686018427387904):
  jy l.length (λ(k:Nat)(s:aL (κ×ν))=>((idx l ((k:Nat):Int)).bind λy=>some (lf s y x):aU (aL<|κ×ν))) m=some (rS m l x):=by
 rw[uc (s:=m) (λk=>rS m (l.take k) x) hl rfl (λk hk=>by
  grind [ji,aA,rS,eO]),g8]
end
section
variable {N:Nat}
theorem CP(l:aL Int)(a b:Nat)(h:a+b<l.length):HY l (a:Int) (b:Int)=some l[a+b]:=by
 unfold HY;rw[aH (by omega),show(a:Int)+(b:Int)=((a+b:Nat):Int)by omega,ji _ _ h]
theorem nX.MD{l:aL Int}{a:Int}(h:nX l)(hl:∀c∈l,c<a):nX (l++[a]):=by
 grind [nX]
theorem nX.last{l:aL Int}{a:Int}(h:nX l)(hl:l.getLast? =some a):∀c∈l,c<=a:=by
 intro c hc;have hs:=ui hl;rw[hs]at h hc
 rcases dJ.1 hc with h1|h1
 ·have:=(eH.1 h).2.2 c h1 a (by simp);omega
 grind
theorem FD{l:aL Int}(hs:l.Pairwise (λx y=>x<=y))(hl:l.length<=4611686018427387000)(hN:l.length<N):
  Ok (gO N l) (λm=>nX m/\∀c,c∈m↔c∈l):=by
 unfold gO;refine WE (λh2=>VV ⟨?_,λc=>Iff.rfl⟩)<|λh2=>?_
 ·have h2:=of_decide_eq_true h2
  match l,h2 with
  | [],_=>exact mb
  | [a],_=>exact List.pairwise_singleton _ _
  |a::b::l,h2=>grind
 ·have h2:=of_decide_eq_false h2;have le:∀(i j:Nat)(x y:Int),i<j->l[i]? =some x->l[j]? =some y->x<=y:=λi j x y hij hx hy=>by
   grind [iS,bN]
  refine V3 (WS (Go:=λ_=>nX l) (Rt:=λm=>nX m/\∀c,c∈m↔c∈l) (λs=>∃k:Nat,s=(k:Int)/\1<=k/\k<=l.length/\nX (l.take k)) (λs=>l.length - s.toNat) ?_ ⟨1,rfl,bW _,by omega,?_⟩ (by simp;omega)) ?_
  ·rintro s⟨k,rfl,hk1,hkl,hinc⟩;refine WE (λh=>?_)<|λh=>WG ?_
   ·have hk:k<l.length:=by grind
    refine WO hk ?_;rw[lZ hk1 (by omega)];refine WO (by omega) ?_;refine WE (λhe=>?_)<|λhe=>?_
    ·have he:l[k]=l[k - 1]:=by grind
     refine VT (zh l k hkl) ?_
     refine V3 (WS (Go:=λs=>∃i:Nat,s.2.1=((i:Nat):Int)/\i<=l.length/\s.1.length=l.length/\nX (s.1.take i)/\∀c,c∈s.1.take i↔c∈l) (Rt:=λ_=>True)
      (λs=>∃i j:Nat,s.2.1=((i:Nat):Int)/\s.2.2=((j:Nat):Int)/\1<=j/\k+j<=l.length/\i<=k+j - 1/\s.1.length=l.length/\nX (s.1.take i)/\(s.1.take i).getLast? =l[k+j - 1]? /\
       (∀c,c∈s.1.take i↔c∈l.take (k+j))/\∀m,k+j - 1<=m->s.1[m]? =l[m]?) (λs=>l.length - s.2.2.toNat) ?_ ?_ (by simp;omega)) ?_
     ·rintro⟨u,a,b⟩⟨i,j,e1,e2,hj,hjl,hij,hlen,hi,hlast,hmem,hrest⟩;dsimp only at e1 e2 hlen hi hlast hmem hrest ⊢;subst e1;subst e2;rw[cR];refine WE (λh=>?_)<|λh=>WG ?_
      ·have hlt:k+j<l.length:=by have:=of_decide_eq_true h;omega
       have hx:u[k+j]'(by omega)=l[k+j]:=by have:=hrest (k+j) (by omega);rw[aM (by omega),aM hlt]at this;injection this
       have hy:u[k+(j - 1)]'(by omega)=l[k+(j - 1)]:=by have:=hrest (k+(j - 1)) (by omega);rw[aM (by omega),aM (by omega)]at this;injection this
       refine VT (CP u k j (by omega)) ?_;rw[lZ hj (by omega)];refine VT (CP u k (j - 1) (by omega)) ?_;rw[hx,hy];have hts:l.take (k+j+1)=l.take (k+j)++[l[k+j]]:=eO hlt;have hlast':(u.take i).getLast? =some l[k+(j - 1)]:=by rw[hlast,show k+j - 1=k+(j - 1)by omega,aM (by omega)]
       have hxy:l[k+(j - 1)]<=l[k+j]:=le (k+(j - 1)) (k+j) _ _ (by omega) (aM _)<|aM _
       refine V3 (P:=λs'=>s'.1.length=l.length/\∃i':Nat,s'.2=(i':Int)/\i'<=k+j/\nX (s'.1.take i')/\(s'.1.take i').getLast? =l[k+j]? /\(∀c,c∈s'.1.take i'↔c∈l.take (k+j+1))/\∀m,k+j<=m->s'.1[m]? =l[m]?) ?_ ?_
       ·refine WE (λhne=>?_)<|λhne=>VV ?_
        ·have hne:l[k+j]≠l[k+(j - 1)]:=by simpa using hne
         refine VT (CP u k j (by omega)) ?_;rw[hx];refine WO (by omega)<|VV ⟨by simp[hlen],i+1,?_,by omega,?_⟩
         ·rw[eN (by omega)]
         ·dsimp only;rw[cR];have ht:(u.set i l[k+j]).take (i+1)=u.take i++[l[k+j]]:=by
           rw[eO (by simp;omega),List.take_set_of_le<|bW _];simp
          rw[ht];refine⟨hi.MD λc hc=>?_,by simp[aM hlt],λc=>?_,λm hm=>?_⟩
          ·have:=hi.last hlast' c hc;omega
          ·rw[hts,dJ,dJ,hmem]
          ·rw[lk,aF (by omega)];exact hrest m (by omega)
        ·have he:l[k+j]=l[k+(j - 1)]:=by simpa using hne
         refine⟨hlen,i,rfl,by omega,hi,?_,λc=>?_,λm hm=>hrest m (by omega)⟩
         ·dsimp only;rw[hlast',aM hlt,he]
         ·rw[hts,dJ,<-hmem];constructor
          ·exact .inl
          ·rintro(h|h)
           ·exact h
           ·simp at h;subst h;rw[he];exact List.mem_of_getLast? hlast'
       ·rintro⟨v,a⟩⟨g1,i',g2,g3,g4,g5,g6,g7⟩;dsimp only at g1 g2 g4 g5 g6 g7 ⊢;refine Wz ⟨⟨i',j+1,g2,?_,by omega,by omega,by omega,g1,g4,?_,g6,λm hm=>g7 m (by omega)⟩,?_⟩
        ·rw[eN (by omega)]
        ·rw[show k+(j+1) - 1=k+j by omega];exact g5
        ·rw[eN (by omega)];simp only[cR];omega
      ·have hge:k+j=l.length:=by have:=of_decide_eq_false h;omega
       refine⟨i,rfl,by omega,hlen,hi,λc=>?_⟩;rw[hmem,hge,g8]
     ·refine⟨k,1,rfl,rfl,bW _,by omega,by omega,rfl,hinc,?_,λc=>?_,λm _=>rfl⟩
      ·dsimp only;rw[show k+1 - 1=k by omega,aM hk,he,List.getLast?_eq_getElem?,dD,Nat.min_eq_left hkl,List.getElem?_take_of_lt (by omega),aM (by omega)]
      ·dsimp only;rw[eO hk,dJ];constructor
       ·exact .inl
       ·rintro(h|h)
        ·exact h
        ·simp at h;subst h;rw[he];refine gA (i:=k - 1) ?_;rw[List.getElem?_take_of_lt (by omega),aM (by omega)]
     ·rintro o ho;refine WH ho ?_<|λr=>r.elim
      rintro⟨u,a,b⟩⟨i,e1,hi,hlen,hinc',hmem⟩;dsimp only at e1 hlen hinc' hmem ⊢;subst e1;refine VT (zh u i (by omega)) ?_;rw[cR];refine VT (rI _ i (by simp;omega))<|Xu ?_
      rw[List.take_append_of_le_length (by simp;omega),List.take_take,Nat.min_self];exact⟨hinc',hmem⟩
    ·have he:l[k]≠l[k - 1]:=by simpa using he
     refine Wz ⟨⟨k+1,by rw[eN (by omega)],by omega,by omega,?_⟩,by rw[eN (by omega)];simp only[cR];omega⟩;rw[eO hk];refine hinc.MD λc hc=>?_;have hlast:(l.take k).getLast? =some l[k - 1]:=by
      rw[List.getLast?_eq_getElem?,dD,Nat.min_eq_left hkl,List.getElem?_take_of_lt (by omega),aM (by omega)]
     have h3:=hinc.last hlast c hc;have h4:=le (k - 1) k _ _ (by omega) (aM (by omega:k - 1<l.length))<|aM hk
     omega
   ·have hge:k=l.length:=by have:=of_decide_eq_false h;omega
    subst hge;rw[g8]at hinc;exact hinc
  ·match l,h2 with
   | [],h2=>simp at h2
   |a::l,_=>exact List.pairwise_singleton _ _
  ·rintro o ho;exact WH ho (λs h=>VV ⟨h,λc=>Iff.rfl⟩)<|λr h=>VV h
def tx(l:aL aK):aL Int:=l.flatMap λr=>[r.X0,r.X1]
def nF(l:aL aK):aL Int:=l.flatMap λr=>[r.Y0,r.Y1]
theorem tz{l:aL aK}{c:Int}:c∈tx l↔∃r∈l,c=r.X0\/c=r.X1:=by simp[tx,List.mem_flatMap]
theorem nG{l:aL aK}{c:Int}:c∈nF l↔∃r∈l,c=r.Y0\/c=r.Y1:=by simp[nF,List.mem_flatMap]
theorem tA(l:aL aK):(tx l).length=2*l.length:=by
 induction l with
 |nil=>rfl
 |cons r l ih=>grind [tx]
theorem oW(l:aL aK):(nF l).length=2*l.length:=by
 induction l with
 |nil=>rfl
 |cons r l ih=>grind [nF]
def yL(X Y:aL Int)(s:aL Bd):Prop:=∀b∈s,b.y0∈Y/\b.y1∈Y/\∀c∈b.xs,c∈X
theorem yL.push{X Y:aL Int}{s:aL Bd}{b:Bd}(h:yL X Y s)(h0:b.y0∈Y)(h1:b.y1∈Y)(h2:∀c∈b.xs,c∈X):yL X Y (oe s b):=by
 intro c hc;unfold oe at hc;split at hc
 ·exact h c hc
 ·split at hc
  ·rename_i d hd;have hdm:d∈s:=List.mem_of_getLast? hd;split at hc
   ·rcases dJ.1 hc with hc|hc
    ·exact h c<|List.dropLast_subset _ hc
    ·simp at hc;subst hc;exact⟨(h d hdm).1,h1,(h d hdm).2.2⟩
   ·rcases dJ.1 hc with hc|hc
    ·exact h c hc
    grind
  grind
theorem nX.nodup{l:aL Int}(h:nX l):l.Nodup:=List.Pairwise.imp (λh=>by omega) h
theorem yL.row{X Y:aL Int}{s:aL Bd}(h:yL X Y s)(hc:fE s){b:Bd}(hb:b∈s):b.xs.length<=X.length:=fK (hc.each b hb).2.2.1.nodup (h b hb).2.2
theorem yL.len{X Y:aL Int}{s:aL Bd}(h:yL X Y s)(hc:fE s):s.length<=Y.length:=by
 have hn:(s.map Bd.y0).Nodup:=by
  unfold List.Nodup;rw[List.pairwise_map];refine List.Pairwise.imp_of_mem (λ{a b}ha hb hab=>?_) hc.ord;have:=(hc.each a ha).1;omega
 have:=fK hn (m:=Y) (λx hx=>by
  obtain⟨b,hb,rfl⟩:=cX.1 hx
  exact(h b hb).1)
 grind
theorem yL.mono{X Y X' Y':aL Int}{s:aL Bd}(h:yL X Y s)(hx:∀c∈X,c∈X')(hy:∀c∈Y,c∈Y'):yL X' Y' s:=λb hb=>⟨hy _ (h b hb).1,hy _ (h b hb).2.1,λc hc=>hx c<|(h b hb).2.2 c hc⟩
theorem nX.lt{l:aL Int}(h:nX l){i j:Nat}{x y:Int}(hij:i<j)(hx:l[i]? =some x)(hy:l[j]? =some y):x<y:=by
 have:=iS.1 h i j (bN.1 hx).1 (bN.1 hy).1 hij
 grind
theorem nX.next{l:aL Int}(h:nX l){k:Nat}{x y c:Int}(hx:l[k]? =some x)(hy:l[k+1]? =some y)(hc:c∈l)(hxc:x<c):y<=c:=by
 obtain⟨j,hj⟩:=fA hc
 rcases Nat.lt_trichotomy j (k+1)with h1|h1|h1
 ·exfalso
  by_cases e:j=k
  ·grind
  ·have:=h.lt (show j<k by omega) hj hx;omega
 ·grind
 ·have:=h.lt h1 hy hj;omega
theorem yr{l:aL aK}{φ:aK->aU Bool}(p:aK->Bool)(hφ:∀x∈l,φ x=some (p x))(hl:l.length<=4611686018427387000)(hN:l.length<N):ir N l φ=some (l.filter<|λx=> !p x):=
 MC (z:=(⟨0,0,0,0⟩:aK)) p hφ hl hN
theorem DM{l:aL aK}(hl:l.length<=268435456):je N l=some l:=by
 grind [je,gK,aA]
structure SW (l m:aL aK) (ys:aL Int) (k:Nat) (out:aL aB) (now:aL aK) (nx:Nat):Prop where
 can:fE (out.map cH)
 top:∀c∈out,∀y,ys[k]? =some y->c.Y1<=y
 cover:∀x y,zF (out.map cH) x y=(v9 l x y&&decide (∀a,ys[k]? =some a->y<a))
 lim:yL (tx l) (nF l) (out.map cH)
 Vy:∀r∈now,r∈m.take nx
 Vz:∀r∈m.take nx,∀y,ys[k]? =some y->y<r.Y1->r∈now
 len:now.length<=nx
 UP:nx<=m.length
 rest:∀(j:Nat)r y,nx<=j->m[j]? =some r->ys[k]? =some y->y<=r.Y0
 low:∀r∈now,∀y,ys[k]? =some y->r.Y0<=y
structure su (l:aL aK) (s:aL aB):Prop where
 can:fE (s.map cH)
 cover:∀x y,zF (s.map cH) x y=v9 l x y
 lim:yL (tx l) (nF l) (s.map cH)
theorem uj{l:aL aK}(hl:l.length<=134217728)(hok:∀r∈l,HN r)(hN:4294967296<=N):Ok (gS N l) (su l):=by
 unfold gS;refine VT (DM (by omega)) ?_
 obtain⟨m,h1,h2,h3⟩:=zB (φ:=jT N) (l:=l) (λa b=>a.Y0 - b.Y0) (λa ha b hb=>by
  unfold jT;rw[wrap_small (hok a ha).s3 (hok b hb).s3]) (λa _=>by omega) (λa _ b _ c _ h1 h2=>by omega) (λa _ b _ c _ h1 h2=>by omega) (by omega)
 refine VT h1 ?_;have hml:m.length=l.length:=h2.length_eq;have hmem:∀r,r∈m↔r∈l:=λr=>h2.mem_iff;refine V3 (WK (λk s=>s=nF (m.take k)) (by omega) rfl<|λk s hk e=>?_) ?_
 ·grind [WO,W3,VV,oW,eO,nF]
 rintro s rfl;rw[g8];have hgs:vn (nF m)=some ((nF m).mergeSort<|λx y=>decide<|x<=y):=by grind [vn,oW]
 refine VT hgs ?_;have hsp:((nF m).mergeSort<|λx y=>decide<|x<=y).Pairwise (λx y=>x<=y):=by
  grind [List.pairwise_mergeSort,decide,nF,List.Pairwise.imp]
 have hsm:∀c,c∈(nF m).mergeSort (λx y=>decide<|x<=y)↔c∈nF m:=λc=>List.mem_mergeSort;have hsl:((nF m).mergeSort<|λx y=>decide<|x<=y).length=2*m.length:=by rw[List.length_mergeSort,oW]
 generalize (nF m).mergeSort (λx y=>decide<|x<=y)=sy at hsp hsm hsl;refine V3 (FD (N:=N) hsp (by omega) (by omega)) ?_;rintro ys⟨hy,hym⟩;have hyl:ys.length<=2*m.length:=by
  have:=fK hy.nodup (m:=sy)<|λc hc=>(hym c).1 hc
  omega
 have y0m:∀r∈m,r.Y0∈ys:=λr hr=>(hym _).2<|(hsm _).2<|nG.2 ⟨r,hr, .inl rfl⟩
 have y1m:∀r∈m,r.Y1∈ys:=λr hr=>(hym _).2<|(hsm _).2<|nG.2 ⟨r,hr, .inr rfl⟩
 have yml:∀c∈ys,c∈nF l:=λc hc=>by
  grind [nG]
 refine V3 (WS (Go:=λs=>su l s.1) (Rt:=λ_=>True) (λs=>∃k nx:Nat,s.2.2.2=((k:Nat):Int)/\s.2.2.1=(nx:Int)/\(k<ys.length\/k=0)/\SW l m ys k s.1 s.2.1 nx) (λs=>ys.length - s.2.2.2.toNat) ?_ ?_ (by simp;omega)) ?_
 ·rintro⟨out,now,a,b⟩⟨k,nx,e1,e2,hk,I⟩;dsimp only at e1 e2 I ⊢;subst e1;subst e2;rw[eN (by omega)];refine WE (λh=>?_)<|λh=>WG ?_
  ·have hk1:k+1<ys.length:=by grind
   have hyk:ys[k]? =some ys[k]:=aM _;have hyk1:ys[k+1]? =some ys[k+1]:=aM hk1;have hlt:=hy.lt (Nat.lt_succ_self k) hyk hyk1;have hcov:=I.cover;simp only[hyk,Option.some.injEq,forall_eq']at hcov;refine VT (yr (λr=>decide<|r.Y1<=ys[k]) (λr _=>by grind [oF,ji,aA]) (by have:=I.len;have:=I.UP;omega) (by have:=I.len;have:=I.UP;omega)) ?_;have hfl:=me (λr:aK=> !decide (r.Y1<=ys[k])) now;have hIl:=I.len;have hIn:=I.UP
   refine V3 (WS (Go:=λs=>∃nx':Nat,s.2=((nx':Nat):Int)/\nx'<=m.length/\s.1.length<=nx'/\(∀r∈s.1,r∈m.take nx')/\(∀r∈m.take nx',ys[k]<r.Y1->r∈s.1)/\(∀r∈s.1,r.Y0<=ys[k]/\ys[k]<r.Y1)/\(∀(j:Nat)r,nx'<=j->m[j]? =some r->ys[k]<r.Y0)) (Rt:=λ_=>True)
    (λs=>∃nx':Nat,s.2=((nx':Nat):Int)/\nx<=nx'/\nx'<=m.length/\s.1.length<=nx'/\(∀r∈s.1,r∈m.take nx')/\(∀r∈m.take nx',ys[k]<r.Y1->r∈s.1)/\(∀r∈s.1,r.Y0<=ys[k]/\ys[k]<r.Y1)) (λs=>m.length - s.2.toNat) ?_ ?_ (by simp;omega)) ?_
   ·rintro⟨nw,b⟩⟨nx',e1,g0,g1,g2,g3,g4,g5⟩;dsimp only at e1 g2 g3 g4 g5 ⊢;subst e1;refine V3 (P:=λb=>b=true↔∃h:nx'<m.length,m[nx'].Y0<=ys[k]) ?_ ?_
    ·refine WE (λh=>?_)<|λh=>VV ?_
     ·have hlt:nx'<m.length:=by have:=of_decide_eq_true h;omega
      refine WO hlt<|WO (by omega)<|VV ?_
      rw[dP];exact⟨λh=>⟨hlt,h⟩,λ⟨_,h⟩=>h⟩
     ·have:=of_decide_eq_false h;constructor
      ·intro h;cases h
      ·rintro⟨h,_⟩;omega
    ·intro bb hbb;refine WE (λh=>?_)<|λh=>WG ?_
     ·obtain⟨hlt,h0⟩:=hbb.1 h;have hts:m.take (nx'+1)=m.take nx'++[m[nx']]:=eO hlt;refine WO hlt<|W3 (by simp;omega)<|Wz ⟨⟨nx'+1,by rw[eN (by omega)],by omega,by omega,by simp;omega,λr hr=>?_,λr hr hr2=>?_,λr hr=>?_⟩,by rw[eN (by omega)];simp only[cR];omega⟩
      ·rw[hts]
       rcases dJ.1 hr with h|h
       ·exact List.mem_append_left _<|g3 r h
       ·exact List.mem_append_right _ h
      ·rw[hts]at hr
       rcases dJ.1 hr with h|h
       ·exact List.mem_append_left _<|g4 r h hr2
       ·exact List.mem_append_right _ h
      ·rcases dJ.1 hr with h|h
       ·exact g5 r h
       ·simp at h;subst h;refine⟨h0,?_⟩;have:=(hok m[nx']<|(hmem _).1<|cS hlt).y;have:=I.rest nx' _ ys[k] g0 (aM hlt) hyk;omega
     ·refine⟨nx',rfl,g1,g2,g3,g4,g5,λj r hj hr=>?_⟩;have hjl:=(bN.1 hr).1;have hlt:nx'<m.length:=by omega
      have h0:¬m[nx'].Y0<=ys[k]:=λh0=>by rw[hbb.2 ⟨hlt,h0⟩]at h;cases h
      by_cases e:nx'=j
      ·subst e;rw[aM hlt]at hr;injection hr with hr;subst hr;omega
      ·have:=iS.1 h3 nx' j hlt hjl (by omega);have hr':=(bN.1 hr).2;rw[hr']at this;omega
   ·refine⟨nx,rfl,bW _,hIn,by dsimp only;omega,λr hr=>I.Vy r (jC.1 hr).1,λr hr h=>jC.2 ⟨I.Vz r hr ys[k] hyk h,by simpa using h⟩,λr hr=>?_⟩;have hr:=jC.1 hr;have hr2:ys[k]<r.Y1:=by simpa using hr.2
    exact⟨I.low r hr.1 ys[k] hyk,hr2⟩
   ·rintro o ho;refine WH ho ?_<|λr=>r.elim
    rintro⟨nw,b⟩⟨nx',e1,g1,g2,g3,g4,g5,g6⟩;dsimp only at e1 g2 g3 g4 g5 ⊢;subst e1;refine WO (by omega)<|WO hk1 ?_
    have hnm:∀r∈nw,r∈l:=λr hr=>(hmem r).1<|List.take_subset _ _<|g3 r hr
    obtain⟨row,nw',s1,s2,s3,s4,s5,s6,s7⟩:=FC (N:=N) (l:=nw) (by omega)<|λr hr=>hok r<|hnm r hr
    refine VT s1 ?_;have hlimx:∀c∈row,c∈tx l:=λc hc=>by
     obtain⟨r,hr,h⟩:=s7 c hc;exact tz.2 ⟨r,hnm r hr,h⟩
    have hol:out.length<=2*l.length:=by have:=I.lim.len I.can;rw[oW,iM]at this;exact this
    have hox:∀c∈out,c.Xs.length<=2*l.length:=λc hc=>by
     have:=I.lim.row I.can (b:=cH c)<|cX.2 ⟨c,hc,rfl⟩
     rw[tA]at this;exact this
    obtain⟨out',p1,p2⟩:=JM (N:=N) (s:=out) (b:=⟨ys[k],ys[k+1],row⟩) (by omega) (λc hc=>by have:=hox c hc;omega);refine VT p1 ?_;have htop:∀c∈out.map cH,c.y1<=(cH ⟨ys[k],ys[k+1],row⟩).y0:=λc hc=>by
     obtain⟨d,hd,rfl⟩:=cX.1 hc;exact I.top d hd ys[k] hyk
    have hcan:=Av I.can htop s3 s4;refine Wz ⟨⟨k+1,nx',rfl,rfl, .inl hk1,⟨by dsimp only;rw[p2];exact hcan,λc hc y hy1=>?_,λx y=>?_,?_,λr hr=>g3 r<|s2.subset hr,λr hr y hy1 h=>?_,by rw[s2.length_eq];exact g2,g1,λj r y hj hr hy1=>?_,λr hr y hy1=>?_⟩⟩,by simp only[cR];omega⟩
    ·rw[hyk1]at hy1;injection hy1 with hy1;subst hy1
     have hm':cH c∈oe (out.map cH) (cH ⟨ys[k],ys[k+1],row⟩):=by rw[<-p2];exact cX.2 ⟨c,hc,rfl⟩
     exact Aw htop (by show ys[k]<=ys[k+1];omega) _ hm'
    ·simp only[hyk1,Option.some.injEq,forall_eq'];unfold zF;rw[p2,Au htop (λc hc=>(I.can.each c hc).1)<|λh=>absurd h (by show ¬ys[k+1]<=ys[k];omega)]
     by_cases hyy:ys[k]<=y/\y<ys[k+1]
     ·rw[aH (show(cH ⟨ys[k],ys[k+1],row⟩).y0<=y/\y<(cH ⟨ys[k],ys[k+1],row⟩).y1 from hyy),bU hyy.2,Bool.and_true];show o9 row x=_;rw[s5,jE,CM,m6];constructor
      ·rintro⟨r,hr,h⟩;have hrm:=List.take_subset _ _<|g3 r hr
       have h5:=g5 r hr;have:=hy.next hyk hyk1 (y1m r hrm) h5.2;exact⟨r,hnm r hr,h,by omega,by omega⟩
      ·rintro⟨r,hr,h,h7,h8⟩;have hrm:=(hmem r).2 hr;have h9:r.Y0<=ys[k]:=by
        by_cases h10:r.Y0<=ys[k]
        ·exact h10
        ·have:=hy.next hyk hyk1 (y0m r hrm) (by omega);omega
       have h11:r∈m.take nx':=by
        obtain⟨j,hj⟩:=fA hrm
        by_cases h12:j<nx'
        ·exact gA (i:=j) (by rw[List.getElem?_take_of_lt h12];exact hj)
        ·have:=g6 j r (by omega) hj;omega
       exact⟨r,g4 r h11 (by omega),h⟩
     ·rw[aF (show ¬((cH ⟨ys[k],ys[k+1],row⟩).y0<=y/\y<(cH ⟨ys[k],ys[k+1],row⟩).y1)from hyy)];show zF (out.map cH) x y=_;rw[hcov]
      by_cases h1:y<ys[k]
      ·rw[bU h1,bU (show y<ys[k+1]by omega)]
      ·rw[bS h1,bS (show ¬y<ys[k+1]by omega)]
    ·show yL (tx l) (nF l) (out'.map cH);rw[p2];exact I.lim.push (yml _<|cS _) (yml _<|cS _) hlimx
    ·rw[hyk1]at hy1;injection hy1 with hy1;subst hy1
     exact s2.symm.subset<|g4 r hr (by omega)
    ·rw[hyk1]at hy1;injection hy1 with hy1;subst hy1
     exact hy.next hyk hyk1 (y0m r<|gA hr)<|g6 j r hj hr
    ·rw[hyk1]at hy1;injection hy1 with hy1;subst hy1
     have:=(g5 r<|s2.subset hr).1;omega
  ·have hge:¬k+1<ys.length:=by have:=of_decide_eq_false h;omega
   refine⟨I.can,λx y=>?_,I.lim⟩;rw[I.cover]
   by_cases hyn:ys= []
   ·have:v9 l x y=false:=by
     rw[<-qP,m6];rintro⟨r,hr,_⟩;have:=y0m r<|(hmem r).2 hr
     rw[hyn]at this;cases this
    rw[this];rfl
   ·have hkl:k<ys.length:=by
     rcases hk with h|h
     ·exact h
     ·subst h;exact List.length_pos_iff.2 hyn
    rw[aM hkl];simp only[Option.some.injEq,forall_eq']
    cases hc:v9 l x y with
    |false=>rfl
    |true=>
     obtain⟨r,hr,_,h7,h8⟩:=m6.1 hc;have:=y1m r<|(hmem r).2 hr
     obtain⟨j,hj⟩:=fA this;have hjl:=(bN.1 hj).1;have:r.Y1<=ys[k]:=by
      by_cases e:j=k
      ·subst e;rw[aM hkl]at hj;injection hj with hj;omega
      ·have:=hy.lt (show j<k by omega) hj<|aM hkl;omega
     rw[bU (show y<ys[k]by omega)];rfl
 ·refine⟨0,0,rfl,rfl, .inr rfl,?_⟩;show SW l m ys 0 [] [] 0;refine⟨fE.nil,λc hc=>(by cases hc),λx y=>?_,λb hb=>(by cases hb),λr hr=>(by cases hr),λr hr=>(by rw[List.take_zero]at hr;cases hr),bW _,ox _,λj r y _ hr hy0=>?_,λr hr=>(by cases hr)⟩
  ·show false=_;symm;rw[Bool.and_eq_false_iff]
   cases hc:v9 l x y with
   |false=>exact .inl rfl
   |true=>
    right;obtain⟨r,hr,_,h7,h8⟩:=m6.1 hc;have hr0:=y0m r<|(hmem r).2 hr
    have hpos:0<ys.length:=List.length_pos_of_mem hr0;rw[decide_eq_false_iff_not];intro h;have h:=h ys[0]<|aM hpos
    obtain⟨j,hj⟩:=fA hr0
    by_cases e:j=0
    ·subst e;rw[aM hpos]at hj;injection hj with hj;omega
    ·have:=hy.lt (show 0<j by omega) (aM hpos) hj;omega
  ·obtain⟨j',hj'⟩:=fA<|y0m r<|gA hr
   by_cases e:j'=0
   ·subst e;rw[hy0]at hj';injection hj' with hj';omega
   ·have:=hy.lt (show 0<j' by omega) hy0 hj';omega
 ·rintro o ho;refine WH ho (λs h=>VV h)<|λr=>r.elim
end
section
variable {N:Nat}
def Es:aL Int->aL (Int×Int)
 |a::b::l=>(a,b)::Es l
 |_=>[]
theorem BO:∀(xs:aL Int),(Es xs).length=xs.length / 2
 | []=>rfl
 | [a]=>by simp[Es]
 |a::b::l=>by unfold Es;rw[fQ,BO l];simp only[fQ];omega
theorem zH:∀(xs:aL Int)(j:Nat)(h:2*j+1<xs.length),(Es xs)[j]? =some (xs[2*j],xs[2*j+1])
 | [],j,h=>by simp at h
 | [a],j,h=>by simp at h
 |a::b::l,0,h=>rfl
 |a::b::l,j+1,h=>by
  have:=zH l j (by grind);unfold Es;rw[List.getElem?_cons_succ,this];have e1:(a::b::l)[2*(j+1)]=l[2*j]'(by grind):=by simp[show 2*(j+1)=2*j+1+1 by omega]
  have e2:(a::b::l)[2*(j+1)+1]=l[2*j+1]'(by grind):=by simp[show 2*(j+1)+1=2*j+1+1+1 by omega]
  rw[e1,e2]
theorem CQ:∀{xs:aL Int},xs.length % 2=0->sq (Es xs)=xs
 | [],_=>rfl
 | [a],h=>by simp at h
 |a::b::l,h=>by unfold Es;rw[rR,CQ (by grind)]
theorem Oy{xs:aL Int}(h:nX xs)(he:xs.length % 2=0)(x:Int):o9 xs x=KH (Es xs) x:=by
 grind [zG,Es,CQ]
theorem FE{xs:aL Int}:∀p∈Es xs,p.1∈xs/\p.2∈xs:=by
 grind [fA,bN,BO,zH,cS]
theorem Iw{xs:aL Int}(h:nX xs):∀p∈Es xs,p.1<p.2:=by
 intro p hp;obtain⟨j,hj⟩:=fA hp;have hjl:=(bN.1 hj).1;rw[BO]at hjl;rw[zH xs j (by omega)]at hj;injection hj with hj;subst hj
 exact h.lt (show 2*j<2*j+1 by omega) (aM _)<|aM _
def oh(b:aB):aL aK:=(Es b.Xs).map λp=>⟨p.1,b.Y0,p.2,b.Y1⟩
def aT(s:aL aB):aL aK:=s.flatMap oh
theorem oj(b:aB)(s:aL aB):aT (b::s)=oh b++aT s:=rfl
theorem pE(b:aB):(oh b).length=b.Xs.length / 2:=by simp[oh,iM,BO]
theorem nH(s t:aL aB):aT (s++t)=aT s++aT t:=List.flatMap_append
theorem Ay(s:aL aB)(k:Nat):(aT<|s.take k).length<=(aT s).length:=by
 grind [List.take_append_drop,nH,bO]
theorem CR{s:aL aB}{A B:Nat}(h1:s.length<=A)(h2:∀b∈s,b.Xs.length<=B):(aT s).length<=A*B:=by
 induction s generalizing A with
 |nil=>simp[aT]
 |cons b s ih=>
  rw[oj,bO,pE];simp at h1;obtain⟨A',rfl⟩:∃A',A=A'+1:=⟨A - 1,by omega⟩
  grind
theorem CS{s:aL aB}(he:∀b∈s,b.Xs.length % 2=0)(h1:s.length<=1099511627776)(h2:∀b∈s,b.Xs.length<=1099511627776/\b.Xs.length<N)(h3:(aT s).length<=1099511627776):jt N s=some (aT s):=by
 refine W9 ?_;unfold jt;refine V3 (WK (λk t=>t=aT (s.take k)) (by omega) rfl<|λk t hk e=>?_)<|λt e=>VV (by rw[e,g8])
 subst e;refine WO hk ?_;have hm:=cS hk;generalize hb:s[k]=b at hm ⊢;have heb:=he b hm;have hbl:=h2 b hm;have hts:aT (s.take<|k+1)=aT (s.take k)++oh b:=by
  grind [eO,nH,aT]
 have hle:=Ay s<|k+1
 rw[hts,bO,pE]at hle;refine V3 (WS (Go:=λs'=>s'.1=aT (s.take<|k+1)) (Rt:=λ_=>True) (λs'=>∃j:Nat,s'.2=((2*j:Nat):Int)/\2*j<=b.Xs.length/\s'.1=aT (s.take k)++(oh b).take j) (λs'=>b.Xs.length - s'.2.toNat) ?_ ⟨0,rfl,by omega,by simp⟩ (by simp;omega)) ?_
 ·rintro⟨acc,i⟩⟨j,e1,hj,e2⟩;dsimp only at e1 e2 ⊢;subst e1;subst e2;refine WE (λh=>?_)<|λh=>WG ?_
  ·have hlt:2*j+1<b.Xs.length:=by grind
   refine WO (by omega) ?_;rw[eN (by omega)];refine WO hlt<|W3 ?_<|Wz ⟨⟨j+1,?_,by omega,?_⟩,?_⟩
   ·grind
   ·rw[Ep (by omega)];congr 1
   ·rw[dL];congr 1;have hg:(oh b)[j]? =some ⟨b.Xs[2*j],b.Y0,b.Xs[2*j+1],b.Y1⟩:=by
     grind [oh,zH]
    have hjl:=(bN.1 hg).1;rw[eO hjl,(bN.1 hg).2]
   ·rw[Ep (by omega)];simp only[cR];omega
  ·have hge:2*j=b.Xs.length:=by have:=of_decide_eq_false h;omega
   show aT (s.take k)++(oh b).take j=_;rw[hts,pK (l:=oh b) (by rw[pE];omega)]
 ·rintro o ho;exact WH ho (λs' h=>VV h)<|λr=>r.elim
theorem Oz{s:aL aB}(h1:s.length<=1099511627776)(h2:∀b∈s,b.Xs.length<=1099511627776)(h3:(aT s).length<=1099511627776):mB N s=some (((aT s).length:Nat):Int):=by
 refine W9 ?_;unfold mB;refine V3 (WK (λk t=>t=(((aT<|s.take k).length:Nat):Int)) (by omega) rfl<|λk t hk e=>?_)<|λt e=>VV (by rw[e,g8])
 subst e;refine WO hk<|VV ?_
 have hm:=cS hk;have hbl:=h2 _ hm;have hts:aT (s.take<|k+1)=aT (s.take k)++oh s[k]:=by
  grind [eO,nH,aT]
 grind [hle,Ay,bO,pE,Int.tdiv,Int.ofNat_tdiv,qj,wrap_add]
theorem Ix(l m:aL aK)(x y:Int):v9 (l++m) x y=(v9 l x y||v9 m x y):=List.any_append
theorem ME{b:aB}(h:nX b.Xs)(he:b.Xs.length % 2=0)(x y:Int):v9 (oh b) x y=(o9 b.Xs x&&(decide (b.Y0<=y)&&decide (y<b.Y1))):=by
 rw[Oy h he,jE,m6,dB,CN,dB,dP,dP];unfold oh;constructor
 ·grind
 ·rintro⟨⟨p,hp,h1⟩,h2⟩;exact⟨_,cX.2 ⟨p,hp,rfl⟩,h1,h2⟩
theorem tB:∀{s:aL aB},fE (s.map cH)->∀x y,v9 (aT s) x y=zF (s.map cH) x y
 | [],_,x,y=>rfl
 |b::s,h,x,y=>by
  rw[oj,Ix,tB h.tail x y];have hb:=h.each (cH b) (by simp);rw[ME hb.2.2.1 hb.2.2.2];unfold zF;rw[eZ,mL]
  by_cases hy:b.Y0<=y/\y<b.Y1
  ·rw[aH (show(cH b).y0<=y/\y<(cH b).y1 from hy),lH<|λc hc=> .inl (by have:=h.CJ c hc;grind [cH]),bU hy.1,bU hy.2];show(o9 b.Xs x&&true||false)=o9 b.Xs x;simp
  ·rw[aF (show ¬((cH b).y0<=y/\y<(cH b).y1)from hy)];have:(decide (b.Y0<=y)&&decide (y<b.Y1))=false:=by rw[Bool.and_eq_false_iff,decide_eq_false_iff_not,decide_eq_false_iff_not];omega
   rw[this];simp
theorem rl{s:aL aB}{r:aK}(h:r∈aT s):∃b∈s,∃p∈Es b.Xs,r= ⟨p.1,b.Y0,p.2,b.Y1⟩:=by
 unfold aT oh at h
 grind
theorem CT{s:aL aB}{X Y:aL Int}(h:fE (s.map cH))(hl:yL X Y (s.map cH))(hx:∀c∈X,small c)(hy:∀c∈Y,small c):∀r∈aT s,HN r/\(r.X0∈X/\r.X1∈X)/\r.Y0∈Y/\r.Y1∈Y:=by
 intro r hr;obtain⟨b,hb,p,hp,rfl⟩:=rl hr;have hm:cH b∈s.map cH:=cX.2 ⟨b,hb,rfl⟩;have hc:=h.each _ hm;have hll:=hl _ hm;have h1:=FE p hp;have h2:=hll.2.2 p.1 h1.1;have h3:=hll.2.2 p.2 h1.2;exact⟨⟨Iw hc.2.2.1 p hp,hc.1,hx _ h2,hx _ h3,hy _ hll.1,hy _ hll.2.1⟩,⟨h2,h3⟩,hll.1,hll.2.1⟩
theorem yt{l:aL Int}{x:Int}(h:∀c∈l,c<=x):o9 l x=(l.length % 2==1):=by grind [o9,JK]
theorem Az{l:aL Int}{a x:Int}(h:x<a):o9 (l++[a]) x=o9 l x:=by grind [o9,CF,oV,FB]
def KL(l:aL Int):Bool:=l.length % 2==1
theorem CU(l:aL Int)(a:Int):KL (l++[a]) = !KL l:=by
 unfold KL
 grind
structure G6 (lO:Bool->Bool->Bool) (a b a' b' out:aL Int) (inA inB is:Bool) (pa pb:aL Int):Prop where
 ea:a=pa++a'
 eb:b=pb++b'
 oa:inA=KL pa
 ob:inB=KL pb
 oo:is=KL out
 ok:is=lO inA inB
 low:∀c,(c∈pa\/c∈pb\/c∈out)->∀d,(d∈a'\/d∈b')->c<d
 inc:nX out
 SX:∀x,(∀d,(d∈a'\/d∈b')->x<d)->o9 out x=lO (o9 pa x) (o9 pb x)
 mem:∀c∈out,c∈pa\/c∈pb
 len:out.length<=pa.length+pb.length
theorem G6.step{lO:Bool->Bool->Bool}{a b a' b' out:aL Int}{inA inB is:Bool}{pa pb:aL Int}(I:G6 lO a b a' b' out inA inB is pa pb)(ha:nX a)(hb:nX b)(x:Int)(ta tb:aL Int)(wa wb:Bool)
  (h1:a'=(if wa then x::ta else ta)) (h2:b'=(if wb then x::tb else tb)) (hw:wa=true\/wb=true) (hx:∀d,(d∈ta\/d∈tb)->x<d):
  G6 lO a b ta tb (if lO (inA ^^ wa) (inB ^^ wb)=is then out else out++[x]) (inA ^^ wa) (inB ^^ wb) (lO (inA ^^ wa)<|inB ^^ wb) (if wa then pa++[x]else pa) (if wb then pb++[x]else pb):=by
 have hxm:x∈a'\/x∈b':=by
  grind
 have hsub:∀d,(d∈ta\/d∈tb)->d∈a'\/d∈b':=λd hd=>by
  grind
 have hlow:∀c,(c∈pa\/c∈pb\/c∈out)->c<x:=λc hc=>I.low c hc x hxm;have hpa:∀c∈(if wa then pa++[x]else pa),c∈pa\/(wa=true/\c=x):=λc hc=>by
  grind
 have hpb:∀c∈(if wb then pb++[x]else pb),c∈pb\/(wb=true/\c=x):=λc hc=>by
  grind
 have hout:∀c∈(if lO (inA ^^ wa) (inB ^^ wb)=is then out else out++[x]),c∈out\/c=x:=λc hc=>by
  grind
 have ooA:(inA ^^ wa)=KL (if wa then pa++[x]else pa):=by
  rw[I.oa];grind [CU]
 have ooB:(inB ^^ wb)=KL (if wb then pb++[x]else pb):=by
  rw[I.ob];grind [CU]
 have ooO:lO (inA ^^ wa) (inB ^^ wb)=KL (if lO (inA ^^ wa) (inB ^^ wb)=is then out else out++[x]):=by
  split
  ·rename_i h;rw[h];exact I.oo
  ·rename_i h;rw[CU,<-I.oo]
   cases hk:lO (inA ^^ wa) (inB ^^ wb) <;> cases his:is <;> simp_all
 refine⟨?_,?_,ooA,ooB,ooO,rfl,?_,?_,?_,?_,?_⟩
 ·rw[I.ea,h1];grind
 ·rw[I.eb,h2];grind
 ·grind
 ·split
  ·exact I.inc
  ·exact I.inc.MD λc hc=>hlow c<|.inr<|.inr hc
 ·intro y hy
  by_cases hxy:y<x
  ·have e1:o9 (if wa then pa++[x]else pa) y=o9 pa y:=by grind [Az]
   have e2:o9 (if wb then pb++[x]else pb) y=o9 pb y:=by grind [Az]
   have e3:o9 (if lO (inA ^^ wa) (inB ^^ wb)=is then out else out++[x]) y=o9 out y:=by grind [Az]
   rw[e1,e2,e3];refine I.SX y λd hd=>?_
   grind
  ·rw[yt (l:=if wa then pa++[x]else pa),yt (l:=if wb then pb++[x]else pb),yt]
   ·have e1:=ooA;have e2:=ooB;have e3:=ooO;unfold KL at e1 e2 e3;rw[<-e1,<-e2,<-e3]
   ·intro c hc
    rcases hout c hc with h|rfl
    ·have:=hlow c<|.inr<|.inr h;omega
    ·omega
   ·intro c hc
    rcases hpb c hc with h|⟨_,rfl⟩
    ·have:=hlow c<|.inr<|.inl h;omega
    ·omega
   ·intro c hc
    rcases hpa c hc with h|⟨_,rfl⟩
    ·have:=hlow c<|.inl h;omega
    ·omega
 ·intro c hc;have m1:∀c,c∈pa->c∈(if wa then pa++[x]else pa):=λc h=>by split;exact List.mem_append_left _ h;exact h
  have m2:∀c,c∈pb->c∈(if wb then pb++[x]else pb):=λc h=>by split;exact List.mem_append_left _ h;exact h
  rcases hout c hc with h|rfl
  ·rcases I.mem c h with h|h
   ·exact .inl<|m1 c h
   ·exact .inr<|m2 c h
  ·rcases hw with h|h
   ·left;rw[aH h];simp
   ·right;rw[aH h];simp
 ·have:=I.len;have h3:(if wa then pa++[x]else pa).length+(if wb then pb++[x]else pb).length>=pa.length+pb.length+1:=by
   rcases hw with h|h
   ·subst h;cases wb <;> simp <;> omega
   ·subst h;cases wa <;> simp <;> omega
  split
  ·omega
  ·simp at h3 ⊢;omega
end
section
variable {N:Nat}
theorem jB(x:Int)(l:aL Int):idx (x::l) 0=some x:=rfl
theorem tC{α:Type}(x:α)(l:aL α):xd (x::l) 1 (((x::l).length:Nat):Int)=some l:=zh (x::l) 1 (by simp)
theorem kB{α:Type}(x:α)(l:aL α):decide ((((x::l).length:Nat):Int)>0)=true:=bU (by simp)
theorem wY{α:Type}(x:α)(l:aL α):((((x::l).length:Nat):Int)==0)=false:=by rfl
theorem Iy{a b:aL Int}(ha:nX a)(hb:nX b)(h:a≠[]\/b≠[]):∃x ta tb wa wb,a=(if wa then x::ta else ta)/\b=(if wb then x::tb else tb)/\(wa=true\/wb=true)/\(∀d,(d∈ta\/d∈tb)->x<d):=by
 match a,b,ha,hb,h with
 | [],[],_,_,h=>grind
 |x::ta,[],ha,_,_=>exact⟨x,ta,[],true,false,rfl,rfl, .inl rfl,λd hd=>by rcases hd with h|h;exact ha.head d h;cases h⟩
 | [],y::tb,_,hb,_=>exact⟨y,[],tb,false,true,rfl,rfl, .inr rfl,λd hd=>by rcases hd with h|h;cases h;exact hb.head d h⟩
 |x::ta,y::tb,ha,hb,_=>
  rcases Int.lt_trichotomy x y with h|h|h
  ·refine⟨x,ta,y::tb,true,false,rfl,rfl, .inl rfl,λd hd=>?_⟩
   rcases hd with h1|h1
   ·exact ha.head d h1
   ·rcases eV.1 h1 with rfl|h1
    ·exact h
    ·have:=hb.head d h1;omega
  ·subst h;exact⟨x,ta,tb,true,true,rfl,rfl, .inl rfl,λd hd=>by rcases hd with h|h;exact ha.head d h;exact hb.head d h⟩
  ·refine⟨y,x::ta,tb,false,true,rfl,rfl, .inr rfl,λd hd=>?_⟩
   rcases hd with h1|h1
   ·rcases eV.1 h1 with rfl|h1
    ·exact h
    ·have:=ha.head d h1;omega
   ·exact hb.head d h1
theorem KM{φ:Bool->Bool->aU Bool}{lO:Bool->Bool->Bool}(hφ:∀p q,φ p q=some (lO p q))(hk:lO false false=false){a b:aL Int}(ha:nX a)(hb:nX b)(hae:a.length % 2=0)(hbe:b.length % 2=0)
  (tK:a.length<=1099511627776) (hbl:b.length<=1099511627776) (hN:a.length+b.length<N):
  Ok (ru N a b φ) (λm=>nX m/\m.length % 2=0/\(∀x,o9 m x=lO (o9 a x) (o9 b x))/\∀c∈m,c∈a\/c∈b):=by
 unfold ru
 refine V3 (WS (Go:=λs=>nX s.2.2.1/\s.2.2.1.length % 2=0/\(∀x,o9 s.2.2.1 x=lO (o9 a x) (o9 b x))/\∀c∈s.2.2.1,c∈a\/c∈b) (Rt:=λ_=>True)
  (λs=>∃pa pb,G6 lO a b s.1 s.2.1 s.2.2.1 s.2.2.2.1 s.2.2.2.2.1 s.2.2.2.2.2 pa pb) (λs=>s.1.length+s.2.1.length) ?_ ?_ hN) ?_
 ·rintro⟨a',b',out,inA,inB,is⟩⟨pa,pb,I⟩;dsimp only at I ⊢;have ha':nX a':=by have:=ha;rw[I.ea]at this;exact(eH.1 this).2.1
  have hb':nX b':=by have:=hb;rw[I.eb]at this;exact(eH.1 this).2.1
  have hle:pa.length+a'.length=a.length:=by rw[I.ea];simp
  have hlb:pb.length+b'.length=b.length:=by rw[I.eb];simp
  have hlo:=I.len
  by_cases hne:a'≠[]\/b'≠[]
  ·obtain⟨x,ta,tb,wa,wb,h1,h2,hw,hx⟩:=Iy ha' hb' hne;have J:=I.step ha hb x ta tb wa wb h1 h2 hw hx;have fin:∀(sa sb:aL Int×Bool),sa=(ta,inA ^^ wa)->sb=(tb,inB ^^ wb)->
     Ok ((φ sa.2 sb.2).bind λx220=>(bif x220 != is then((app 8 out ([x]:aL Int)).bind λx227=>some (x227,x220))else some (out,is)).bind λs224=>some<|Fl.nx (sa.1,sb.1,s224.1,sa.2,sb.2,s224.2))
      (Pm (λs':aL Int×aL Int×aL Int×Bool×Bool×Bool=>(∃pa pb,G6 lO a b s'.1 s'.2.1 s'.2.2.1 s'.2.2.2.1 s'.2.2.2.2.1 s'.2.2.2.2.2 pa pb)/\s'.1.length+s'.2.1.length<a'.length+b'.length) (λs=>nX s.2.2.1/\s.2.2.1.length % 2=0/\(∀x,o9 s.2.2.1 x=lO (o9 a x) (o9 b x))/\∀c∈s.2.2.1,c∈a\/c∈b) (λ_:Empty=>True)):=by
    rintro _ _ rfl rfl;refine VT (hφ _ _) ?_;have hlt:ta.length+tb.length<a'.length+b'.length:=by
     rw[h1,h2]
     rcases hw with h|h
     ·subst h;cases wb <;> simp <;> omega
     ·subst h;cases wa <;> simp <;> omega
    by_cases he:lO (inA ^^ wa) (inB ^^ wb)=is
    ·rw[aH he]at J;refine VT (x:=(out,is)) (by grind) ?_;rw[he]at J;exact Wz ⟨⟨_,_,J⟩,hlt⟩
    ·rw[aF he]at J;refine VT (x:=(out++[x],lO (inA ^^ wa)<|inB ^^ wb)) (by grind [gK,aA])<|Wz ⟨⟨_,_,J⟩,hlt⟩
   rcases hw with rfl|rfl
   ·rw[aH rfl]at h1;subst h1;refine VT (x:=true) (by rw[kB,aQ]) ?_;rw[aQ];have hle2:(bif(b'.length:Int)==0 then some true else(bif decide ((((x::ta).length:Nat):Int)>0)then((idx (x::ta) 0).bind λDw=>(idx b' 0).bind λx183=>some<|decide<|Dw<=x183)else some false))=some true:=by
     cases b' with
     |nil=>rfl
     |cons y b''=>
      rw[wY,aP,kB,aQ,jB,aA,jB,aA];have:x<=y:=by
       cases wb with
       |true=>grind
       |false=>have:=hx y (.inr (by grind));omega
      rw[bU this]
    refine VT hle2 ?_;rw[aQ];refine VT (x:=x) (by rw[jB,aA]) ?_;refine VT (x:=true) (by simp[kB,aQ,jB,aA]) ?_;refine VT (x:=(ta,!inA)) (by grind [tC,aA]) ?_
    cases wb with
    |true=>
     rw[aH rfl]at h2;subst h2;refine VT (x:=true) (by rw[kB,aQ,jB,aA];simp) ?_;refine VT (x:=(tb,!inB)) (by rw[aQ,tC,aA]) ?_;exact fin _ _ (by simp) (by simp)
    |false=>
     have h2:b'=tb:=h2;subst h2;refine VT (x:=false) ?_ ?_
     ·cases b' with
      |nil=>rfl
      |cons y b''=>
       have:=hx y<|.inr (by simp)
       rw[kB,aQ,jB,aA,show(y==x)=false by rw[beq_eq_false_iff_ne];omega]
     ·refine VT (x:=(b',inB)) (by rw[aP]) ?_;exact fin _ _ (by simp) (by simp)
   ·cases wa with
    |true=>
     rw[aH rfl]at h1 h2;subst h1;subst h2;refine VT (x:=true) (by rw[kB,aQ]) ?_;rw[aQ];refine VT (x:=true) (by rw[wY,aP,kB,aQ,jB,aA,jB,aA];simp) ?_;rw[aQ];refine VT (x:=x) (by rw[jB,aA]) ?_;refine VT (x:=true) (by rw[kB,aQ,jB,aA];simp) ?_;refine VT (x:=(ta,!inA)) (by rw[aQ,tC,aA]) ?_;refine VT (x:=true) (by rw[kB,aQ,jB,aA];simp) ?_;refine VT (x:=(tb,!inB)) (by rw[aQ,tC,aA]) ?_;exact fin _ _ (by simp) (by simp)
    |false=>
     have h1:a'=ta:=h1;rw[aH rfl]at h2;subst h1;subst h2;refine VT (x:=true) (by rw[kB,Ot];simp) ?_;rw[aQ];refine VT (x:=false) ?_ ?_
     ·rw[wY,aP]
      cases a' with
      |nil=>rfl
      |cons y a''=>
       have:=hx y<|.inl (by simp)
       rw[kB,aQ,jB,aA,jB,aA,bS (by omega)]
     ·rw[aP];refine VT (x:=x) (by rw[jB,aA]) ?_;refine VT (x:=false) ?_ ?_
      ·cases a' with
       |nil=>rfl
       |cons y a''=>
        have:=hx y<|.inl (by simp)
        rw[kB,aQ,jB,aA,show(y==x)=false by rw[beq_eq_false_iff_ne];omega]
      ·refine VT (x:=(a',inA)) (by rw[aP]) ?_;refine VT (x:=true) (by rw[kB,aQ,jB,aA];simp) ?_;refine VT (x:=(tb,!inB)) (by rw[aQ,tC,aA]) ?_;exact fin _ _ (by simp) (by simp)
  ·have ea:a'= []:=Classical.byContradiction λh=>hne<|.inl h
   have eb:b'= []:=Classical.byContradiction λh=>hne<|.inr h
   subst ea;subst eb;refine VT (x:=false) rfl ?_;refine WG ⟨I.inc,?_,λx=>?_,λc hc=>?_⟩
   ·have h1:=I.ea;have h2:=I.eb;rw[iR]at h1 h2;have h3:KL out=false:=by
     rw[<-I.oo,I.ok,I.oa,I.ob,<-h1,<-h2];unfold KL;rw[hae,hbe];exact hk
    unfold KL at h3;rw[beq_eq_false_iff_ne]at h3;dsimp only;omega
   ·have:=I.SX x (λd hd=>by rcases hd with h|h <;> cases h);have h1:=I.ea;have h2:=I.eb;rw[iR]at h1 h2;rw[h1,h2];exact this
   ·have h1:=I.ea;have h2:=I.eb;rw[iR]at h1 h2;rw[h1,h2];exact I.mem c hc
 ·exact⟨[],[],rfl,rfl,rfl,rfl,rfl,hk.symm,λc hc=>(by rcases hc with h|h|h <;> cases h),mb,λx _=>hk.symm,λc hc=>(by cases hc),bW _⟩
 ·rintro o ho;exact WH ho (λs h=>VV h)<|λr=>r.elim
theorem fE.app{s t:aL Bd}(h:fE (s++t)):fE t:=⟨λb hb=>h.each b<|List.mem_append_right _ hb,(eH.1 h.ord).2.1⟩
theorem fE.low{b:Bd}{s:aL Bd}(h:fE (b::s)):∀c∈b::s,b.y0<=c.y0:=λc hc=>by
 rcases eV.1 hc with rfl|hc
 ·exact Int.le_refl _
 ·have:=h.CJ c hc;have:=(h.each b (by simp)).1;omega
theorem fE.high{s:aL Bd}{b:Bd}(h:fE (s++[b])):∀c∈s++[b],c.y1<=b.y1:=λc hc=>by
 rcases dJ.1 hc with hc|hc
 ·have:=((eH.1 h.ord).2.2 c hc b (by simp)).1;have:=(h.each b (by simp)).1;omega
 ·simp at hc;subst hc;exact Int.le_refl _
def HO(s:aL aB)(y e:Int):aL Int×Int:=match s with
 | []=>([],e)
 |b::_=>if y<b.Y0 then([],if b.Y0<e then b.Y0 else e)else(b.Xs,if b.Y1<e then b.Y1 else e)
theorem MF{α:Type}(x:α)(l:aL α):idx (x::l) 0=some x:=rfl
theorem Pn(s:aL aB)(y e:Int):mV N s y e=some (HO s y e):=by
 unfold mV HO
 cases s with
 |nil=>rfl
 |cons b s=>
  grind [wY,MF,aA,bU,bS]
theorem JN{s:aL aB}{y e:Int}{X Y:aL Int}(hc:fE (s.map cH))(hl:yL X Y (s.map cH))(hh:∀b t,s=b::t->y<b.Y1)(hy:y<e):
  y<(HO s y e).2/\(HO s y e).2<=e/\(∀y',y<=y'->y'<(HO s y e).2->rowAt (s.map cH) y'=(HO s y e).1)/\nX (HO s y e).1/\(HO s y e).1.length % 2=0/\((HO s y e).2=e\/(HO s y e).2∈Y)/\∀c∈(HO s y e).1,c∈X:=by
 cases s with
 |nil=>exact⟨hy,Int.le_refl _,λy' _ _=>rfl,mb,rfl, .inl rfl,λc hc=>(by cases hc)⟩
 |cons b t=>
  have hb:=hc.each (cH b) (by simp);have hlb:=hl (cH b) (by simp);have h1:=hh b t rfl;unfold HO;dsimp only
  by_cases h:y<b.Y0
  ·rw[aH h];dsimp only;refine⟨by omega,by omega,λy' h2 h3=>?_,mb,rfl,?_,λc hc=>(by cases hc)⟩
   ·exact hc.wX (by show y'<b.Y0;omega)
   ·split
    ·exact .inr hlb.1
    omega
  grind [fE.mM,cH]
theorem Et{y:Int}{a:aL aB}(hN:a.length<N){body:aL aB->aU (Fl (aL aB) Empty)}
  (hb:body=λ(s373:aL aB)=>((bif decide ((s373.length:Int)>0)then((idx s373 0).bind λx407=>some<|decide<|x407.Y1<=y)else some false).bind λs405=>bif s405 then((xd s373 1 (s373.length:Int)).bind λx410=>some<|.nx x410)else(some<|.br s373):aU (Fl (aL aB) Empty))):
  Ok (kb body N a) (NL (λa'=>∃p,a=p++a'/\(∀c∈p,c.Y1<=y)/\∀b t,a'=b::t->y<b.Y1)<|λ_=>True):=by
 subst hb;refine WS (λa'=>∃p,a=p++a'/\∀c∈p,c.Y1<=y) List.length ?_ ⟨[],rfl,λc hc=>(by cases hc)⟩ hN;rintro a'⟨p,e,hp⟩
 cases a' with
 |nil=>simp_all[VT,WG]
 |cons b t=>
  refine VT (x:=decide<|b.Y1<=y) (by rw[kB,aQ,MF,aA]) ?_;refine WE (λh=>?_)<|λh=>WG ⟨p,e,hp,λb' t' h'=>?_⟩
  ·have h:=of_decide_eq_true h;refine VT (tC b t)<|Wz ⟨⟨p++[b],by rw[e];simp,λc hc=>?_⟩,by simp⟩
   grind
  grind
theorem G7{p a':aL Bd}{y y':Int}(hp:∀c∈p,c.y1<=y)(h:y<=y'):rowAt (p++a') y'=rowAt a' y':=by
 grind [qY]
structure FF (lO:Bool->Bool->Bool) (X Y:aL Int) (a b s:aL aB):Prop where
 can:fE (s.map cH)
 cover:∀x y,zF (s.map cH) x y=lO (zF (a.map cH) x y) (zF (b.map cH) x y)
 lim:yL X Y (s.map cH)
theorem CV{s:aL aB}(hs:s≠[])(hl:s.length<=1099511627776)(hc:fE (s.map cH)):∃f l,idx s 0=some f/\idx s (wrap .i64<|((s.length:Nat):Int) - 1)=some l/\f∈s/\l∈s/\∀c∈s,f.Y0<=c.Y0/\c.Y1<=l.Y1:=by
 cases s with
 |nil=>grind
 |cons f t=>
  rw[lZ (by simp) (by omega)];have hlt:(f::t).length - 1<(f::t).length:=by simp
  refine⟨f,(f::t)[(f::t).length - 1],rfl,ji _ _ hlt,by simp,cS _,λc hcm=>⟨?_,?_⟩⟩
  ·exact hc.low (cH c)<|cX.2 ⟨c,hcm,rfl⟩
  ·have e:(f::t)=(f::t).dropLast++[(f::t)[(f::t).length - 1]]:=by
    grind [List.dropLast_concat_getLast]
   generalize (f::t)[(f::t).length - 1]=l at e;have hc2:=hc;rw[e,gC]at hc2;have hm:cH c∈(List.map cH (f::t).dropLast++[cH l]):=by
    grind
   exact fE.high hc2 (cH c) hm
theorem Iz{φ:Bool->Bool->aU Bool}{lO:Bool->Bool->Bool}(hφ:∀p q,φ p q=some (lO p q))(hk:lO false false=false){a b:aL aB}{X Y:aL Int}(ca:fE (a.map cH))(cb:fE (b.map cH))
  (la:yL X Y (a.map cH)) (lb:yL X Y (b.map cH)) (hX:X.length<=1048576000) (hY:Y.length<=1048576000) (hs:∀c∈Y,small c) (hN:nb N):Ok (pU N a b φ) (FF lO X Y a b):=by
 have tK:a.length<=Y.length:=by have:=la.len ca;grind
 have hbl:b.length<=Y.length:=by have:=lb.len cb;grind
 unfold pU;rw[wrap_add (by omega)];refine WE (λh=>VV ?_)<|λh=>?_
 ·have h:a.length+b.length=0:=by grind
  have e1:a= []:=List.eq_nil_of_length_eq_zero (by omega);have e2:b= []:=List.eq_nil_of_length_eq_zero (by omega);subst e1;subst e2;exact⟨fE.nil,λx y=>hk.symm,λc hc=>(by cases hc)⟩
 have h0:a≠[]\/b≠[]:=by
  grind
 refine V3 (WK (λk s=>match k with| 0=>True| 1=>a= []\/((∀c∈a,s.1<=c.Y0/\c.Y1<=s.2)/\s.1∈Y/\s.2∈Y)|_=>(∀c∈a,s.1<=c.Y0/\c.Y1<=s.2)/\(∀c∈b,s.1<=c.Y0/\c.Y1<=s.2)/\s.1∈Y/\s.2∈Y) (by simp) trivial<|λk s hk hI=>?_) ?_
 ·obtain⟨y,e⟩:=s;have hk:k=0\/k=1:=by grind
  rcases hk with rfl|rfl
  ·refine Wu (x:=a) rfl ?_
   by_cases ea:a= []
   ·grind [VT,VV]
   ·obtain⟨f,l,f1,f2,f3,f4,f5⟩:=CV ea (by omega) ca;have hpos:decide (((a.length:Nat):Int)>0)=true:=bU (by grind);refine VT (x:=(f.Y0,l.Y1)) ?_<|VV<|.inr ⟨f5,(la _<|cX.2 ⟨f,f3,rfl⟩).1,(la _<|cX.2 ⟨l,f4,rfl⟩).2.1⟩
    grind
  ·refine Wu (x:=b) rfl ?_;have hI:a= []\/((∀c∈a,y<=c.Y0/\c.Y1<=e)/\y∈Y/\e∈Y):=hI
   by_cases eb:b= []
   ·subst eb;refine VT (x:=(y,e)) rfl<|VV ?_
    rcases hI with h|⟨h1,h2,h3⟩
    ·rcases h0 with h'|h'
     ·exact absurd h h'
     ·exact absurd rfl h'
    ·exact⟨h1,λc hc=>(by cases hc),h2,h3⟩
   ·obtain⟨f,l,f1,f2,f3,f4,f5⟩:=CV eb (by omega) cb;have hpos:decide (((b.length:Nat):Int)>0)=true:=bU (by have:=List.length_pos_iff.2 eb;omega);have g1:f.Y0∈Y:=(lb _<|cX.2 ⟨f,f3,rfl⟩).1;have g2:l.Y1∈Y:=(lb _<|cX.2 ⟨l,f4,rfl⟩).2.1
    by_cases ea:a= []
    ·subst ea;refine VT (x:=(f.Y0,l.Y1)) ?_<|VV ⟨λc hc=>(by cases hc),f5,g1,g2⟩
     rw[hpos,aQ];show((some true).bind _)=_;rw[aA,aQ,f1,aA,f2,aA,aA,aA,aA];simp
    ·obtain⟨h1,h2,h3⟩:=hI.resolve_left ea;refine VT (x:=(if f.Y0<y then f.Y0 else y,if e<l.Y1 then l.Y1 else e)) ?_<|VV ⟨λc hc=>?_,λc hc=>?_,?_,?_⟩
     ·rw[hpos,aQ];have ez:(((a.length:Nat):Int)==0)=false:=by rw[beq_eq_false_iff_ne];have:=List.length_pos_iff.2 ea;omega
      rw[ez];show((some false).bind _)=_;rw[aA,aP,aA,f1,aA,f2,aA]
     ·have:=h1 c hc;dsimp only;split <;> split <;> omega
     ·have:=f5 c hc;dsimp only;split <;> split <;> omega
     ·dsimp only;split
      ·exact g1
      ·exact h2
     ·dsimp only;split
      ·exact g2
      ·exact h3
 ·rintro⟨y0,e0⟩hI;have hI:(∀c∈a,y0<=c.Y0/\c.Y1<=e0)/\(∀c∈b,y0<=c.Y0/\c.Y1<=e0)/\y0∈Y/\e0∈Y:=hI;obtain⟨ia,ib,iy,ie⟩:=hI;have sy:=hs _ iy;have se:=hs _ ie;unfold small at sy se;dsimp only
  refine V3 (WS (Go:=λs=>FF lO X Y a b s.2.2.1) (Rt:=λ_=>True)
   (λs=>∃pa pb,a=pa++s.1/\b=pb++s.2.1/\(∀c∈pa,c.Y1<=s.2.2.2)/\(∀c∈pb,c.Y1<=s.2.2.2)/\y0<=s.2.2.2/\s.2.2.2<=max y0 e0/\s.2.2.2∈Y/\fE (s.2.2.1.map cH)/\yL X Y (s.2.2.1.map cH)/\(∀c∈s.2.2.1,c.Y1<=s.2.2.2)/\
    ∀x y,zF (s.2.2.1.map cH) x y=(lO (zF (a.map cH) x y) (zF (b.map cH) x y)&&decide (y<s.2.2.2)))
   (λs=>(e0 - s.2.2.2).toNat) ?_ ?_ (by dsimp only;omega)) ?_
  ·rintro⟨a',b',out,y⟩⟨pa,pb,ea,eb,hpa,hpb,hy0,hye,hyY,hcan,hlim,htop,hcov⟩;dsimp only at ea eb hpa hpb hy0 hye hyY hcan hlim htop hcov ⊢;refine WE (λh=>?_)<|λh=>WG ?_
   ·have hlt:y<e0:=of_decide_eq_true h;have hsl:∀(p s t:aL aB),t=p++s->s.length<=t.length:=λp s t e=>by rw[e];simp
    have hal':=hsl _ _ _ ea;have hbl':=hsl _ _ _ eb;refine V3 (Et (y:=y) (a:=a') (by omega) rfl)<|λo ho=>WH ho ?_<|λr=>r.elim
    rintro a2⟨qa,ea2,hqa,hha⟩;refine V3 (Et (y:=y) (a:=b') (by omega) rfl)<|λo ho=>WH ho ?_<|λr=>r.elim
    rintro b2⟨qb,eb2,hqb,hhb⟩;have ea3:a=(pa++qa)++a2:=by rw[ea,ea2];simp
    have eb3:b=(pb++qb)++b2:=by rw[eb,eb2];simp
    have hPa:∀c∈pa++qa,c.Y1<=y:=λc hc=>by rcases dJ.1 hc with h|h;exact hpa c h;exact hqa c h
    have hPb:∀c∈pb++qb,c.Y1<=y:=λc hc=>by rcases dJ.1 hc with h|h;exact hpb c h;exact hqb c h
    have ca2:fE (a2.map cH):=by have:=ca;rw[ea3,gC]at this;exact this.app
    have cb2:fE (b2.map cH):=by have:=cb;rw[eb3,gC]at this;exact this.app
    have la2:yL X Y (a2.map cH):=λc hc=>la c (by rw[ea3,gC];exact List.mem_append_right _ hc);have lb2:yL X Y (b2.map cH):=λc hc=>lb c (by rw[eb3,gC];exact List.mem_append_right _ hc);refine VT (Pn a2 y e0)<|VT (Pn b2 y e0) ?_
    obtain⟨a1,a3,a4,a5,a6,a7,a8⟩:=JN ca2 la2 hha hlt;obtain⟨b1,b3,b4,b5,b6,b7,b8⟩:=JN cb2 lb2 hhb hlt;have hal2:(HO a2 y e0).1.length<=X.length:=fK a5.nodup a8;have hbl2:(HO b2 y e0).1.length<=X.length:=fK b5.nodup b8;generalize HO a2 y e0=pa2 at *;generalize HO b2 y e0=pb2 at *;obtain⟨xa,n⟩:=pa2;obtain⟨xb,m⟩:=pb2;dsimp only at *;refine V3 (KM hφ hk a5 b5 a6 b6 (by omega) (by omega) (by omega)) ?_;rintro row⟨r1,r2,r3,r4⟩;have hnx:∃nx,nx=(if m<n then m else n)/\y<nx/\nx<=e0/\nx<=n/\nx<=m/\nx∈Y:=by
     refine⟨_,rfl,by split <;> omega,by split <;> omega,by split <;> omega,by split <;> omega,?_⟩;split
     ·rcases b7 with h|h
      ·rw[h];exact ie
      ·exact h
     ·rcases a7 with h|h
      ·rw[h];exact ie
      ·exact h
    obtain⟨nx,hnx,n1,n2,n3,n4,n5⟩:=hnx;rw[<-hnx];have hol:out.length<=Y.length:=by have:=hlim.len hcan;rwa[iM]at this
    obtain⟨out',p1,p2⟩:=JM (N:=N) (s:=out) (b:=⟨y,nx,row⟩) (by omega) (λc hc=>by
     have:=hlim.row hcan (b:=cH c)<|cX.2 ⟨c,hc,rfl⟩
     have e:(cH c).xs=c.Xs:=rfl
     rw[e]at this;omega)
    refine VT p1 ?_;have htop':∀c∈out.map cH,c.y1<=(cH ⟨y,nx,row⟩).y0:=λc hc=>by
     obtain⟨d,hd,rfl⟩:=cX.1 hc;exact htop d hd
    refine Wz ⟨⟨pa++qa,pb++qb,ea3,eb3,λc hc=>by have:=hPa c hc;dsimp only;omega,λc hc=>by have:=hPb c hc;dsimp only;omega,by dsimp only;omega,by dsimp only;omega,n5,by dsimp only;rw[p2];exact Av hcan htop' r1 r2,?_,λc hc=>?_,λx y'=>?_⟩,by dsimp only;omega⟩
    ·dsimp only;rw[p2];refine hlim.push hyY n5<|λc hc=>?_
     rcases r4 c hc with h|h
     ·exact a8 c h
     ·exact b8 c h
    ·have hm':cH c∈oe (out.map cH) (cH ⟨y,nx,row⟩):=by rw[<-p2];exact cX.2 ⟨c,hc,rfl⟩
     exact Aw htop' (by show y<=nx;omega) _ hm'
    ·show o9 (rowAt (out'.map cH) y') x=_;rw[p2,Au htop' (λc hc=>(hcan.each c hc).1)<|λh=>absurd h (by show ¬nx<=y;omega)]
     by_cases hyy:y<=y'/\y'<nx
     ·rw[aH (show(cH ⟨y,nx,row⟩).y0<=y'/\y'<(cH ⟨y,nx,row⟩).y1 from hyy),bU hyy.2,Bool.and_true];show o9 row x=_;have mp:∀p q:aL aB,(∀c∈p++q,c.Y1<=y)->∀c∈(p++q).map cH,c.y1<=y:=λp q h c hc=>by
       obtain⟨d,hd,rfl⟩:=cX.1 hc;exact h d hd
      have q1:zF (a.map cH) x y'=o9 xa x:=by
       unfold zF;rw[ea3,gC,G7 (mp _ _ hPa) hyy.1,a4 y' hyy.1 (by omega)]
      have q2:zF (b.map cH) x y'=o9 xb x:=by
       unfold zF;rw[eb3,gC,G7 (mp _ _ hPb) hyy.1,b4 y' hyy.1 (by omega)]
      rw[r3,q1,q2]
     ·rw[aF (show ¬((cH ⟨y,nx,row⟩).y0<=y'/\y'<(cH ⟨y,nx,row⟩).y1)from hyy)];show zF (out.map cH) x y'=_;rw[hcov]
      by_cases h1:y'<y
      ·rw[bU h1,bU (show y'<nx by omega)]
      ·rw[bS h1,bS (show ¬y'<nx by omega)]
   ·have hge:e0<=y:=by have:=of_decide_eq_false h;omega
    refine⟨hcan,λx y'=>?_,hlim⟩;dsimp only;rw[hcov]
    by_cases h1:y'<y
    ·rw[bU h1,Bool.and_true]
    ·have z:∀s:aL aB,(∀c∈s,y0<=c.Y0/\c.Y1<=e0)->zF (s.map cH) x y'=false:=λs h=>by
      unfold zF;rw[lH λc hc=>?_]
      ·rfl
      ·obtain⟨d,hd,rfl⟩:=cX.1 hc;exact .inr (by have:=(h d hd).2;show d.Y1<=y';omega)
     rw[z a ia,z b ib,hk];rfl
  ·refine⟨[],[],rfl,rfl,λc hc=>(by cases hc),λc hc=>(by cases hc),Int.le_refl _,by dsimp only;omega,iy,fE.nil,λc hc=>(by cases hc),λc hc=>(by cases hc),λx y=>?_⟩;dsimp only;show false=_
   by_cases h1:y<y0
   ·have z:∀s:aL aB,(∀c∈s,y0<=c.Y0/\c.Y1<=e0)->zF (s.map cH) x y=false:=λs h=>by
     unfold zF;rw[lH λc hc=>?_]
     ·rfl
     ·obtain⟨d,hd,rfl⟩:=cX.1 hc;exact .inl (by have:=(h d hd).1;show y<d.Y0;omega)
    rw[z a ia,z b ib,hk];rfl
   ·rw[bS h1,Bool.and_false]
  ·rintro o ho;exact WH ho (λs h=>VV h)<|λr=>r.elim
theorem KN{a b:aL aB}{X Y:aL Int}(ca:fE (a.map cH))(cb:fE (b.map cH))(la:yL X Y (a.map cH))(lb:yL X Y (b.map cH))(hX:X.length<=1048576000)(hY:Y.length<=1048576000)(hs:∀c∈Y,small c)(hN:nb N):
  Ok (kX N a b) (FF (λp q=>p&& !q) X Y a b):=by
 unfold kX;exact V3 (Iz (lO:=λp q=>p&& !q) (λp q=>rfl) rfl ca cb la lb hX hY hs hN)<|λs h=>VV h
end
section
variable {N:Nat}
structure UF (n:Nat) (up:aL Int) (r:Nat->Nat):Prop where
 len:up.length=n
 rt:∀i,i<n->∃u:Nat,up[i]? =some (u:Int)/\u<=i/\r u=r i/\(u=i↔r i=i)
theorem UF.le{n:Nat}{up:aL Int}{r:Nat->Nat}(h:UF n up r):∀i,i<n->r i<=i:=by
 intro i
 induction i using Nat.strongRecOn with
 |ind i ih=>
  intro hi;obtain⟨u,_,h2,h3,h4⟩:=h.rt i hi
  grind
theorem UF.rr{n:Nat}{up:aL Int}{r:Nat->Nat}(h:UF n up r):∀i,i<n->r (r i)=r i:=by
 intro i
 induction i using Nat.strongRecOn with
 |ind i ih=>
  intro hi;obtain⟨u,_,h2,h3,h4⟩:=h.rt i hi
  grind
theorem oX{l:aL Int}{j:Nat}{v:Int}{i:Nat}(hj:j<l.length):(l.set j v)[i]? =if i=j then some v else l[i]? :=by
 grind
theorem UF.init(n:Nat)(up:aL Int)(h1:up.length=n)(h2:∀i,i<n->up[i]? =some ((i:Nat):Int)):UF n up (λi=>i):=
 ⟨h1,λi hi=>⟨i,h2 i hi,bW _,rfl,by simp⟩⟩
theorem wc{n:Nat}(hn:n<=1048576000):∃up,iN N (n:Int)=some up/\UF n up (λi=>i):=by
 unfold iN;rw[wU 0 (by omega),aA];have h0:(List.replicate n (0:Int)).length=n:=by simp
 obtain⟨s',h1,h2⟩:=BM (m:=(List.replicate n (0:Int)).length) (s:=List.replicate n (0:Int)) (body:=λ(k34:Nat)(s35:aL Int)=>((idx s35 (k34:Int)).bind λx38=>some (s35.set (Int.toNat (k34:Int)) (k34:Int)):aU (aL Int)))
  (λk s=>s.length=n/\∀i,i<k->s[i]? =some ((i:Nat):Int)) (by omega) ⟨h0,λi hi=>by omega⟩ (λk s hk⟨hs,hi⟩=>by
   grind [ji,aA,cR,oX])
 grind [aA,UF.init]
theorem uk{n:Nat}{up:aL Int}{r:Nat->Nat}(h:UF n up r){i:Nat}(hi:i<n)(hn:n<N):∃up',dH N up (i:Int)=some (((r i:Nat):Int),up')/\UF n up' r:=by
 unfold dH;obtain⟨o,h1,h2⟩:=wT (R:=Empty) (body:=λ(s32:aL Int×Int)=>((idx s32.1 s32.2).bind λx43=>bif x43 != s32.2 then((idx s32.1 s32.2).bind λx44=>(idx s32.1 x44).bind λx45=>(idx s32.1 s32.2).bind λx46=>(idx (s32.1.set (Int.toNat s32.2) x45) s32.2).bind λx47=>some<|.nx (s32.1.set (Int.toNat s32.2) x45,x47))else(some<|.br (s32.1,s32.2)):aU (Fl (aL Int×Int) Empty)))
  (λs=>UF n s.1 r/\∃j:Nat,s.2=(j:Int)/\j<n/\r j=r i) (λs=>s.2.toNat) (λs=>s.2=((r i:Nat):Int)/\UF n s.1 r) (λ_=>True) (λs⟨hu,j,hj,hjn,hr⟩=>by
   obtain⟨l,y⟩:=s;dsimp only at hu hj ⊢;subst hj;obtain⟨u,a1,a2,a3,a4⟩:=hu.rt j hjn;rw[cG a1,aA]
   by_cases e:u=j
   ·simp_all
   ·obtain⟨v,b1,b2,b3,b4⟩:=hu.rt u (by omega);have hl:=hu.len
    refine⟨.nx (l.set j (v:Int),(v:Int)),by
     grind [aA,cG,cR,oX],⟨⟨by simp[hl],λk hk=>?_⟩,v,rfl,by omega,?_⟩,?_⟩
    ·rw[oX (by omega)]
     by_cases e2:k=j
     ·grind
     ·rw[aF e2];exact hu.rt k hk
    ·omega
    omega)
  N (up,(i:Int)) ⟨h,i,rfl,hi,rfl⟩ (by omega)
 rw[h1,aA]
 cases o with
 |go s'=>exact⟨s'.1,by rw[<-h2.1];rfl,h2.2⟩
 |rt r=>exact r.elim
def m9(r:Nat->Nat)(a b:Nat):Nat->Nat:=λx=>if r x=max a b then min a b else r x
theorem IA(a b:Nat):(if(a:Int)<(b:Int)then(b:Int)else(a:Int))=((max a b:Nat):Int):=by
 omega
theorem IB(a b:Nat):(if(b:Int)<(a:Int)then(b:Int)else(a:Int))=((min a b:Nat):Int):=by
 omega
theorem JO{n:Nat}{up:aL Int}{r:Nat->Nat}(h:UF n up r){i k:Nat}(hi:i<n)(hk:k<n)(hn:n<N):
  ∃up',dS N up (i:Int) (k:Int)=some up'/\UF n up' (m9 r (r i)<|r k):=by
 obtain⟨u1,a1,a2⟩:=uk h hi hn;obtain⟨u2,b1,b2⟩:=uk a2 hk hn;have hri:=h.le i hi;have hrk:=h.le k hk;have rri:=h.rr i hi;have rrk:=h.rr k hk;unfold dS;rw[a1,aA,b1,aA];dsimp only;rw[IA,IB];have hm:max (r i) (r k)<n:=by omega
 have hl:=b2.len;rw[ji _ _ (by omega),aA,cR];refine⟨_,rfl,by simp[hl],λx hx=>?_⟩;have rmax:r (max (r i)<|r k)=max (r i) (r k):=by grind
 have rmin:r (min (r i)<|r k)=min (r i) (r k):=by grind
 rw[oX (by omega)]
 by_cases e:x=max (r i) (r k)
 ·grind [Min.min,m9]
 ·rw[aF e];obtain⟨u,c1,c2,c3,c4⟩:=b2.rt x hx
  grind [m9,Min.min,Max.max]
def qF(r:Nat->Nat)(E:aL (Nat×Nat)):Prop:=∀p∈E,r p.1=r p.2
def Bt(n:Nat)(r:Nat->Nat)(E:aL (Nat×Nat)):Prop:=∀S:Nat->Prop,(∀p∈E,S p.1↔S p.2)->∀i j,i<n->j<n->r i=r j->S i->S j
theorem qF.join{r:Nat->Nat}{E:aL (Nat×Nat)}(h:qF r E)(i k:Nat)(_h2:r (r i)=r i):qF (m9 r (r i)<|r k) (E++[(i,k)]):=λp hp=>by
 rcases dJ.1 hp with hp|hp
 ·unfold m9;rw[h p hp]
 ·simp at hp;subst hp;unfold m9;dsimp only;split <;> split <;> omega
theorem Bt.join{n:Nat}{r:Nat->Nat}{E:aL (Nat×Nat)}(h:Bt n r E){i k:Nat}(hi:i<n)(hk:k<n):Bt n (m9 r (r i)<|r k) (E++[(i,k)]):=λS hS x y hx hy hr hSx=>by
 have hE:∀p∈E,S p.1↔S p.2:=λp hp=>hS p<|List.mem_append_left _ hp
 have hik:S i↔S k:=hS (i,k) (by simp);have key:=h S hE;unfold m9 at hr
 by_cases h1:r x=r y
 ·exact key x y hx hy h1 hSx
 ·have:(r x=r i/\r y=r k)\/(r x=r k/\r y=r i):=by
   split at hr <;> split at hr <;> omega
  rcases this with⟨e1,e2⟩|⟨e1,e2⟩
  ·exact key k y hk hy e2.symm<|hik.1<|key x i hx hi e1 hSx
  ·exact key i y hi hy e2.symm<|hik.2<|key x k hx hk e1 hSx
theorem Bt.id(n:Nat):Bt n (λi=>i) []:=λS _ i j _ _ h hs=>by
 have h:i=j:=h;subst h;exact hs
theorem qF.id:qF (λi=>i) []:=λp hp=>by simp at hp
def cD(n:Nat)(r:Nat->Nat):aL Nat:=(List.range n).filter<|λk=>decide<|r k=k
def cls(n:Nat)(r:Nat->Nat)(k:Nat):aL Nat:=(List.range n).filter<|λi=>decide<|r i=k
theorem kL(n:Nat)(r:Nat->Nat):cD (n+1) r=if r n=n then cD n r++[n]else cD n r:=by
 grind [cD,List.range_succ]
theorem we(n:Nat)(r:Nat->Nat)(k:Nat):cls (n+1) r k=if r n=k then cls n r k++[n]else cls n r k:=by
 grind [cls,List.range_succ]
theorem pF(n:Nat)(r:Nat->Nat):(cD n r).length<=n:=by
 have:=me (λk=>decide<|r k=k)<|List.range n
 rw[List.length_range]at this;exact this
theorem BP(n:Nat)(r:Nat->Nat)(k:Nat):(cls n r k).length<=n:=by
 have:=me (λi=>decide<|r i=k)<|List.range n
 rw[List.length_range]at this;exact this
theorem jO{n k:Nat}{r:Nat->Nat}:k∈cD n r↔k<n/\r k=k:=by simp[cD]
theorem om(n:Nat)(r:Nat->Nat):(cD n r).Nodup:=List.Nodup.sublist List.filter_sublist List.nodup_range
def rT(n:Nat)(r:Nat->Nat):aL (aL Int):=(cD n r).map<|λk=>(cls n r k).map<|λi=>((i:Nat):Int)
theorem JP{n k:Nat}{r:Nat->Nat}(h:∀i,i<n->r i<=i)(hk:n<=k):cls n r k= []:=by
 grind [cls,List.filter_eq_nil_iff]
theorem wg{α β:Type}(f g:α->β)(l:aL α)(j:Nat)(a:α)(hn:l.Nodup)(hj:l[j]? =some a)(hf:∀b,b∈l->b≠a->f b=g b):(l.map f).set j (g a)=l.map g:=by
 apply List.ext_getElem?;intro i;have hjl:=(bN.1 hj).1;rw[lk,iM,kl,kl]
 grind [bN,List.getElem_inj,gA]
def SY(n:Nat)(r:Nat->Nat)(m:aL (Int×Int)):Prop:=∀(j k:Nat),(cD n r)[j]? =some k->dE m (k:Int) 0=(j:Int)
theorem OA{n:Nat}{up:aL Int}{r:Nat->Nat}(h:UF n up r)(hn:n<N)(hn2:n<=1048576000):∃up',jW N up=some (rT n r,up')/\UF n up' r:=by
 unfold jW;have hlen:=h.len;have hle:=h.le;have hrr:=h.rr;obtain⟨s',h1,h2⟩:=BM (m:=up.length) (s:=(up,([]:aL (aL Int)),([]:aL (Int×Int))))
  (body:=λ(k32:Nat)(s33:aL Int×aL (aL Int)×aL (Int×Int))=>((dH N s33.1 (k32:Int)).bind λx117=>(bif x117.1==(k32:Int)then((app 24 s33.2.1 [([]:aL Int)]).bind λx126=>some (x126,lf s33.2.2 (k32:Int) (s33.2.1.length:Int)))else some (s33.2.1,s33.2.2)).bind λs122=>(idx s122.1<|dE s122.2 x117.1 (0:Int)).bind λx128=>(app 8 x128 ([(k32:Int)]:aL Int)).bind λx134=>(idx s122.1<|dE s122.2 x117.1 (0:Int)).bind λx136=>some (x117.2,s122.1.set (Int.toNat<|dE s122.2 x117.1 (0:Int)) x134,s122.2):aU (aL Int×aL (aL Int)×aL (Int×Int))))
  (λk s=>UF n s.1 r/\s.2.1=rT k r/\SY k r s.2.2) (by omega) ⟨h,rfl,λj k hj=>by grind [cD]⟩ (λk s hk⟨hu,hs,hm⟩=>by
   obtain⟨l,ss,m⟩:=s;dsimp only at hu hs hm ⊢;subst hs;rw[hlen]at hk;obtain⟨u',a1,a2⟩:=uk hu hk hn;rw[a1,aA];dsimp only;have hhl:=pF k r;have hsl:(rT k r).length=(cD k r).length:=by simp[rT]
   have hrk:=hle k hk
   by_cases e:r k=k
   ·
    rw[show(((r k:Nat):Int)==((k:Nat):Int))=true by rw[e];simp,aQ,gK (by grind),aA,aA];dsimp only;rw[e,og,aH rfl,hsl];have hi:(rT k r++[([]:aL Int)])[(cD k r).length]? =some []:=by grind
    rw[cG hi,aA,gK (by simp),aA,aA,cR];refine⟨_,rfl,a2,?_,λj q hj=>?_⟩
    ·dsimp only;rw[<-hsl,List.set_append_right _ _<|bW _,Nat.sub_self];unfold rT;rw[kL,aH e,gC];congr 1
     ·grind [List.map_congr_left,jO,we]
     grind [we,JP,hle]
    ·dsimp only;rw[kL,aH e]at hj;rw[og]
     by_cases e2:j<(cD k r).length
     ·rw[gD e2]at hj;have:=(jO.1<|gA hj).1;rw[aF (by omega)];exact hm j q hj
     ·rw[fZ (by omega)]at hj;have hj0:j -(cD k r).length=0:=by
       have:=(bN.1 hj).1;simp at this;omega
      rw[hj0]at hj;simp at hj;subst hj;rw[aH rfl];congr 1;omega
   ·rw[show(((r k:Nat):Int)==((k:Nat):Int))=false by simp;omega,aP,aA];dsimp only;have hh:r k∈cD k r:=jO.2 ⟨by omega,hrr k hk⟩;obtain⟨j,hj⟩:=fA hh;rw[hm j (r k) hj];have hcl:=BP k r<|r k
    have hi:(rT k r)[j]? =some ((cls k r<|r k).map<|λi=>((i:Nat):Int)):=by unfold rT;rw[kl,hj];rfl
    rw[cG hi,aA,gK (by simp;omega),aA,aA,cR];refine⟨_,rfl,a2,?_,λj' q hj'=>?_⟩
    ·unfold rT;rw[kL,aF e]
     have:=wg (λa=>(cls k r a).map (λi=>((i:Nat):Int))) (λa=>(cls (k+1) r a).map (λi=>((i:Nat):Int))) (cD k r) j (r k) (om k r) hj (λb hb hne=>by
      rw[we,aF (λh=>hne h.symm)])
     rw[we,aH rfl,gC]at this;exact this
    ·rw[kL,aF e]at hj';exact hm j' q hj')
 rw[h1,aA];obtain⟨l,ss,m⟩:=s';dsimp only at h2;rw[hlen]at h2;refine⟨l,?_,h2.1⟩;rw[<-h2.2.1]
end
section
variable {N:Nat}
theorem FG{n:Nat}{up:aL Int}{r:Nat->Nat}(h:UF n up r){i:Nat}(hi:i<n)(hn:n<N):∃up',fD N (i:Int) up=some (((r i:Nat):Int),up')/\UF n up' r:=by
 unfold fD
 have:=V3 (β:=Int×aL Int) (Q:=λx=>x.1=((r i:Nat):Int)/\UF n x.2 r) (WS (body:=λ(s32:Int×(aL Int))=>((idx s32.2 s32.1).bind λx43=>bif(x43 != s32.1)then((idx s32.2 s32.1).bind λx44=>(idx s32.2 x44).bind λx45=>(idx s32.2 s32.1).bind λx46=>(idx (s32.2.set (Int.toNat s32.1) x45) s32.1).bind λx47=>some (.nx (x47,(s32.2.set (Int.toNat s32.1) x45))))else(some (.br (s32.1,s32.2))):aU (Fl (Int×(aL Int)) Empty)))
  (N:=N) (s:=((i:Int),up)) (Go:=λs=>s.1=((r i:Nat):Int)/\UF n s.2 r) (Rt:=λ_=>True) (λs=>UF n s.2 r/\∃j:Nat,s.1=(j:Int)/\j<n/\r j=r i) (λs=>s.1.toNat) (by
   rintro⟨y,l⟩⟨hu,j,hj,hjn,hr⟩;dsimp only at hu hj ⊢;subst hj;obtain⟨u,a1,a2,a3,a4⟩:=hu.rt j hjn;refine Wu a1 ?_
   by_cases e:u=j
   ·grind [WG]
   ·obtain⟨v,b1,b2,b3,b4⟩:=hu.rt u (by omega);have hl:=hu.len;rw[show((u:Int) != (j:Int))=true by simp;omega,aQ];refine Wu a1<|Wu b1<|Wu a1<|Wu (x:=(v:Int)) (by grind)<|Wz ⟨⟨⟨by simp[hl],λk hk=>?_⟩,v,rfl,by omega,?_⟩,?_⟩
    ·rw[cR,oX (by omega)]
     by_cases e2:k=j
     ·grind
     ·rw[aF e2];exact hu.rt k hk
    ·omega
    omega)
  ⟨h,i,rfl,hi,rfl⟩ (by omega))
  (λo ho=>WH (f:=λ(s32:Int×aL Int)=>some (s32.1,s32.2)) (g:=λr:Empty=>r.elim) ho (λs h=>VV h)<|λr=>r.elim)
 obtain⟨⟨x,up'⟩,h1,h2,h3⟩:=this
 grind
theorem MG{n:Nat}{up:aL Int}{r:Nat->Nat}(h:UF n up r){i k:Nat}(hi:i<n)(hk:k<n){f:aL Int->aU (aL Int)}(hn:n<N):
  ∃up',((fD N (i:Int) up).bind λx840=>(fD N (k:Int) x840.2).bind λx842=>(idx x842.2 (if x840.1<x842.1 then x842.1 else x840.1)).bind λx844=>some<|x842.2.set (Int.toNat (if x840.1<x842.1 then x842.1 else x840.1)) (if x842.1<x840.1 then x842.1 else x840.1))=some up'/\UF n up' (m9 r (r i)<|r k):=by
 obtain⟨u1,a1,a2⟩:=FG h hi hn;obtain⟨u2,b1,b2⟩:=FG a2 hk hn;have hri:=h.le i hi;have hrk:=h.le k hk;have rri:=h.rr i hi;have rrk:=h.rr k hk;rw[a1,aA,b1,aA];dsimp only;rw[IA,IB];have hm:max (r i) (r k)<n:=by omega
 have hl:=b2.len;rw[ji _ _ (by omega),aA,cR];refine⟨_,rfl,by simp[hl],λx hx=>?_⟩;have rmax:r (max (r i)<|r k)=max (r i) (r k):=by grind
 have rmin:r (min (r i)<|r k)=min (r i) (r k):=by grind
 rw[oX (by omega)]
 by_cases e:x=max (r i) (r k)
 ·grind [Min.min,m9]
 ·rw[aF e];obtain⟨u,c1,c2,c3,c4⟩:=b2.rt x hx
  grind [m9,Max.max]
def iY(s:aL aB)(k:Nat):Nat:=(aT<|s.take k).length
theorem AA{s:aL aB}{k:Nat}(h:k<s.length):iY s (k+1)=iY s k+s[k].Xs.length / 2:=by
 grind [iY,eO,nH,bO,aT,oh,pE]
theorem AB{s:aL aB}{k m:Nat}(h:k<=m):iY s k<=iY s m:=by
 unfold iY;have:=Ay (s.take m) k
 grind
theorem G8(s:aL aB):iY s s.length=(aT s).length:=by simp[iY,g8]
theorem OB{s:aL aB}{k t:Nat}(h:k<s.length)(ht:2*t+1<s[k].Xs.length):(aT s)[iY s k+t]? =some ⟨s[k].Xs[2*t],s[k].Y0,s[k].Xs[2*t+1],s[k].Y1⟩:=by
 have e:aT s=aT (s.take k)++(oh s[k]++aT (s.drop<|k+1)):=by
  grind [List.take_append_drop,oy,nH,oj]
 grind [iY,fZ,Nat.add_sub_cancel_left,gD,pE,oh,zH]
theorem JQ{s:aL aB}{i:Nat}(h:i<(aT s).length):∃k,k<s.length/\iY s k<=i/\i<iY s (k+1):=by
 have key:∀m,m<=s.length->i<iY s m->∃k,k<m/\iY s k<=i/\i<iY s (k+1):=by
  intro m
  induction m with
  |zero=>simp[iY,aT]
  |succ m ih=>
   grind
 grind [G8]
def Qn(a c:aK):Prop:=a.Y1=c.Y0/\a.X0<c.X1/\c.X0<a.X1
def KO(all:aL aK)(i j:Nat):Prop:=∃a c,all[i]? =some a/\all[j]? =some c/\Qn a c
theorem wZ{s:aL aB}(he:∀b∈s,b.Xs.length % 2=0){k i:Nat}(hk:k<s.length)(h1:iY s k<=i)(h2:i<iY s (k+1)):∃t,i=iY s k+t/\∃h:2*t+1<s[k].Xs.length,(aT s)[i]? =some ⟨s[k].Xs[2*t],s[k].Y0,s[k].Xs[2*t+1],s[k].Y1⟩:=by
 rw[AA hk]at h2;have:=he _<|cS hk
 refine⟨i - iY s k,by omega,by omega,?_⟩;have h3:=OB (t:=i - iY s k) hk (by omega)
 grind
theorem CW{s:aL aB}(hc:fE (s.map cH)){p q:Nat}(hp:p<s.length)(hq:q<s.length)(h:p<q):s[p].Y1<=s[q].Y0:=by
 have:=iS.1 hc.ord p q (by simp;omega) (by simp;omega) h;simp only[List.getElem_map]at this;exact this.1
theorem CX{s:aL aB}(hc:fE (s.map cH)){p:Nat}(hp:p<s.length):s[p].Y0<s[p].Y1:=(hc.each (cH s[p])<|cX.2 ⟨_,cS hp,rfl⟩).1
theorem tD{s:aL aB}(hc:fE (s.map cH)):∀b∈s,b.Xs.length % 2=0:=λb hb=>(hc.each (cH b)<|cX.2 ⟨b,hb,rfl⟩).2.2.2
theorem JR{s:aL aB}(hc:fE (s.map cH)):∀b∈s,nX b.Xs:=λb hb=>(hc.each (cH b)<|cX.2 ⟨b,hb,rfl⟩).2.2.1
theorem G9{s:aL aB}(hc:fE (s.map cH)){i j q:Nat}(hq:q<s.length)(h1:iY s q<=j)(h2:j<iY s (q+1))(ht:KO (aT s) i j):∃hq0:0<q,s[q - 1].Y1=s[q].Y0/\iY s (q - 1)<=i/\i<iY s q:=by
 obtain⟨a,c,ha,hb,e1,e2,e3⟩:=ht;obtain⟨t,e4,ht,hj⟩:=wZ (tD hc) hq h1 h2;rw[hj]at hb;injection hb with hb;subst hb
 have hil:=(bN.1 ha).1;obtain⟨p,hp,p1,p2⟩:=JQ hil;obtain⟨u,e5,hu,hi⟩:=wZ (tD hc) hp p1 p2;rw[hi]at ha;injection ha with ha;subst ha
 have e1:s[p].Y1=s[q].Y0:=e1;have hpp:=CX hc hp;have hqq:=CX hc hq;have hpq:p+1=q:=by
  rcases Nat.lt_trichotomy p q with h|h|h
  ·by_cases h':p+1=q
   ·exact h'
   ·have h3:=CW hc hp (show p+1<s.length by omega) (by omega);have h4:=CW hc (show p+1<s.length by omega) hq (by omega);have h5:=CX hc (show p+1<s.length by omega);omega
  ·grind
  ·have:=CW hc hq hp h;omega
 grind
structure PJ (all:aL aK) (n:Nat) (up:aL Int) (r:Nat->Nat) (E:aL (Nat×Nat)):Prop where
 uf:UF n up r
 co:qF r E
 fi:Bt n r E
 so:∀p∈E,KO all p.1 p.2
theorem PJ.join{all:aL aK}{n:Nat}{up up':aL Int}{r:Nat->Nat}{E:aL (Nat×Nat)}(h:PJ all n up r E){i j:Nat}(hi:i<n)(hj:j<n)(hu:UF n up' (m9 r (r i)<|r j))(ht:KO all i j):PJ all n up' (m9 r (r i)<|r j) (E++[(i,j)]):=
 ⟨hu,h.co.join i j (h.uf.rr i hi),h.fi.join hi hj,λp hp=>by
  rcases dJ.1 hp with hp|hp
  ·exact h.so p hp
  grind⟩
structure Joined (all:aL aK) (r:Nat->Nat):Prop where
 le:∀i,i<all.length->r i<=i
 rr:∀i,i<all.length->r (r i)=r i
 co:∀i j,KO all i j->r i=r j
 fi:∀S:Nat->Prop,(∀i j,KO all i j->(S i↔S j))->∀i j,i<all.length->j<all.length->r i=r j->S i->S j
def nI(all:aL aK)(n:Nat)(r:Nat->Nat)(h:Nat):aL aK:=(cls n r h).filterMap<|λi=>all[i]?
theorem CY(all:aL aK)(n:Nat)(r:Nat->Nat)(h:Nat):(nI all n r h).length<=n:=by
 grind [List.length_filterMap_le,cls,BP,nI]
theorem w3{all:aL aK}{n:Nat}{r:Nat->Nat}(h:Nat){x:aK}(hx:all[n]? =some x):nI all (n+1) r h=if r n=h then nI all n r h++[x]else nI all n r h:=by
 grind [nI,we]
theorem oY{all:aL aK}{n:Nat}{r:Nat->Nat}{h:Nat}{x:aK}:x∈nI all n r h↔∃i,i<n/\r i=h/\all[i]? =some x:=by
 unfold nI cls
 grind
structure um (s:aL aB) (r:Nat->Nat) (ps:aL (aL aB)):Prop where
 join:Joined (aT s) r
 len:ps.length=(cD (aT s).length r).length
 each:∀(j h:Nat)(p:aL aB),(cD (aT s).length r)[j]? =some h->ps[j]? =some p->su (nI (aT s) (aT s).length r h) p
def UQ(n:Nat)(r:Nat->Nat)(m:aL (Int×Int)):Prop:=(∀(j k:Nat),(cD n r)[j]? =some k->dE m (k:Int) 0=(j:Int))/\∀k:Nat,iD m (k:Int)=decide (k∈cD n r)
theorem IC{s:aL aB}{X Y:aL Int}(hc:fE (s.map cH))(hl:yL X Y (s.map cH))(hX:∀c∈X,small c)(hY:∀c∈Y,small c)(h1:s.length<=1073741824)(h2:∀b∈s,b.Xs.length<=1073741824)(h3:(aT s).length<=134217728)(hN:nb N):
  Ok (lL N s) (λps=>∃r,um s r ps):=by
 unfold lL;have hev:=tD hc;have hinc:=JR hc;refine VT (CS hev (by omega) (λb hb=>by grind) (by omega)) ?_;have hok:=CT hc hl hX hY;have hall:iY s s.length=(aT s).length:=G8 s;generalize hn:(aT s).length=n at *;refine VT (wU 0 (by omega)) ?_;rw[show((List.replicate n (0:Int)).length)=n by simp];refine V3 (WK (λk up=>up.length=n/\∀i,i<k->up[i]? =some ((i:Nat):Int)) (by omega) ⟨by simp,λi hi=>by omega⟩<|λk up hk hI=>?_) ?_
 ·grind [WO,VV,cR,oX]
 rintro up0⟨hu1,hu2⟩
 refine V3 (WK (λk st=>st.2.1=((iY s k:Nat):Int)/\(0<k->st.2.2=((iY s (k - 1):Nat):Int))/\∃r E,PJ (aT s) n st.1 r E/\∀q,q<k->∀i j,iY s q<=j->j<iY s (q+1)->KO (aT s) i j->(i,j)∈E) (by omega)
  ⟨rfl,λh=>by omega,_,_,⟨UF.init n up0 hu1 hu2,qF.id,Bt.id n,λp hp=>(by cases hp)⟩,λq hq=>by omega⟩ (λk st hk hI=>?_)) ?_
 ·obtain⟨up,a,b⟩:=st;obtain⟨e1,e2,r,E,hP,hE⟩:=hI;dsimp only at e1 e2 hP ⊢;subst e1;refine WO hk ?_;have hoff:=AA hk;have hoffle:iY s (k+1)<=n:=by rw[<-hall];exact AB hk
  have hkm:=cS hk;have hlen:wrap .i64 (Int.tdiv ((s[k].Xs.length:Nat):Int) 2)=((s[k].Xs.length / 2:Nat):Int):=by
   grind [Int.ofNat_tdiv,qj]
  rw[hlen,wrap_add (by omega),<-hoff];refine V3 (P:=λc=>c=true↔∃h0:0<k,s[k - 1].Y1=s[k].Y0) ?_<|λc hcc=>?_
  ·grind [VV,lZ,WO,of_decide_eq_false]
  refine V3 (P:=λup'=>∃r E,PJ (aT s) n up' r E/\∀q,q<k+1->∀i j,iY s q<=j->j<iY s (q+1)->KO (aT s) i j->(i,j)∈E) ?_<|λup' hI=>VV ⟨rfl,λ_=>rfl,hI⟩
  refine WE (λh=>?_)<|λh=>VV ⟨r,E,hP,λq hq i j q1 q2 ht=>?_⟩
  ·obtain⟨hpos,hyy⟩:=hcc.1 h;rw[e2 hpos];have hoffp:=AA (show k - 1<s.length by omega);rw[show k - 1+1=k by omega]at hoffp
   refine V3 (WS (Go:=λst=>∃r E,PJ (aT s) n st.1 r E/\∀q,q<k+1->∀i j,iY s q<=j->j<iY s (q+1)->KO (aT s) i j->(i,j)∈E) (Rt:=λ_=>True)
    (λst=>∃i j:Nat,st.2.1=((i:Nat):Int)/\st.2.2=((j:Nat):Int)/\iY s (k - 1)<=i/\i<=iY s k/\iY s k<=j/\j<=iY s (k+1)/\∃r E,PJ (aT s) n st.1 r E/\(∀q,q<k->∀i j,iY s q<=j->j<iY s (q+1)->KO (aT s) i j->(i,j)∈E)/\
     ∀i' j',iY s (k - 1)<=i'->i'<iY s k->iY s k<=j'->j'<iY s (k+1)->(i'<i\/j'<j)->KO (aT s) i' j'->(i',j')∈E)
    (λst=>(n - st.2.1.toNat)+(n - st.2.2.toNat)) ?_ ?_ (by simp only[cR];omega)) (λo ho=>WH ho (λst h=>VV h) (λr=>r.elim))
   ·rintro⟨up,a,b⟩⟨i,j,e3,e4,i1,i2,j1,j2,r,E,hP,hE,hE2⟩;dsimp only at e3 e4 hP ⊢;subst e3;subst e4;refine WE (λh=>?_)<|λh=>WG ?_
    ·rw[dB,dP,dP]at h;have hi:i<iY s k:=by omega
     have hj:j<iY s (k+1):=by omega
     obtain⟨t,et,_,hri⟩:=wZ hev (show k - 1<s.length by omega) i1 (by rw[show k - 1+1=k by omega];exact hi);obtain⟨u,eu,_,hrj⟩:=wZ hev hk j1 hj;have xi:=hinc _<|cS (show k - 1<s.length by omega)
     have xj:=hinc _ hkm;have farI:∀i' a,i<i'->i'<iY s k->(aT s)[i']? =some a->s[k - 1].Xs[2*t+1]<a.X0:=λi' a h4 h5 h6=>by
      obtain⟨t',et',ht',hr'⟩:=wZ hev (show k - 1<s.length by omega) (show iY s (k - 1)<=i' by omega) (by rw[show k - 1+1=k by omega];exact h5);rw[hr']at h6;injection h6 with h6;subst h6
      exact xi.lt (show 2*t+1<2*t' by omega) (aM _)<|aM _
     have farJ:∀j' a,j<j'->j'<iY s (k+1)->(aT s)[j']? =some a->s[k].Xs[2*u+1]<a.X0:=λj' a h4 h5 h6=>by
      obtain⟨u',eu',hu',hr'⟩:=wZ hev hk (show iY s k<=j' by omega) h5;rw[hr']at h6;injection h6 with h6;subst h6
      exact xj.lt (show 2*u+1<2*u' by omega) (aM _)<|aM _
     refine V3 (P:=λc=>c=true↔KO (aT s) i j) ?_<|λc hct=>?_
     ·refine Wu hri<|Wu hrj<|WE (λh=>Wu hrj<|Wu hri<|VV ?_)<|λh=>VV ?_
      ·rw[dP]at h ⊢;constructor
       ·intro h';exact⟨_,_,hri,hrj,hyy,h,h'⟩
       ·rintro⟨a,c,ha,hc',_,_,h'⟩;rw[hri]at ha;injection ha with ha;subst ha
        rw[hrj]at hc';injection hc' with hc';subst hc'
        exact h'
      ·constructor
       ·intro h;cases h
       ·rintro⟨a,c,ha,hc',_,h',_⟩;rw[hri]at ha;injection ha with ha;subst ha
        rw[hrj]at hc';injection hc' with hc';subst hc'
        rw[decide_eq_false_iff_not]at h;exact absurd h' h
     refine V3 (P:=λup'=>∃r E',PJ (aT s) n up' r E'/\(∀p∈E,p∈E')/\(KO (aT s) i j->(i,j)∈E')) ?_ ?_
     ·refine WE (λh=>?_)<|λh=>VV ⟨r,E,hP,λp hp=>hp,λht=>by rw[hct.2 ht]at h;cases h⟩
      obtain⟨up',u1,u2⟩:=MG (N:=N) (f:=λx=>some x) hP.uf (i:=i) (k:=j) (by omega) (by omega) (by omega);refine⟨up',u1,_,_,hP.join (by omega) (by omega) u2<|hct.1 h,λp hp=>List.mem_append_left _ hp,λ_=>by simp⟩
     ·rintro up'⟨r',E',hP',hsub,hij⟩;refine Wu hri<|Wu hrj ?_
      dsimp only
      by_cases hx:s[k - 1].Xs[2*t+1]<s[k].Xs[2*u+1]
      ·rw[bU hx,aQ];refine VT (x:=(((i+1:Nat):Int),((j:Nat):Int))) (by rw[eN (by omega)])<|Wz ⟨⟨i+1,j,rfl,rfl,by omega,by omega,j1,j2,r',E',hP',λq hq i j q1 q2 ht=>hsub _<|hE q hq i j q1 q2 ht,λi' j' g1 g2 g3 g4 g5 ht=>?_⟩,by simp only[cR];omega⟩
       by_cases h5:i'<i\/j'<j
       ·exact hsub _<|hE2 i' j' g1 g2 g3 g4 h5 ht
       ·have:i'=i:=by omega
        subst this
        by_cases h6:j'=j
        ·subst h6;exact hij ht
        ·exfalso;obtain⟨a,c,ha,hc',_,_,h'⟩:=ht;rw[hri]at ha;injection ha with ha;subst ha
         have:=farJ j' c (by omega) g4 hc';dsimp only at h';omega
      ·rw[bS hx,aP];refine VT (x:=(((i:Nat):Int),((j+1:Nat):Int))) (by rw[eN (by omega)])<|Wz ⟨⟨i,j+1,rfl,rfl,i1,i2,by omega,by omega,r',E',hP',λq hq i j q1 q2 ht=>hsub _<|hE q hq i j q1 q2 ht,λi' j' g1 g2 g3 g4 g5 ht=>?_⟩,by simp only[cR];omega⟩
       by_cases h5:i'<i\/j'<j
       ·exact hsub _<|hE2 i' j' g1 g2 g3 g4 h5 ht
       ·have:j'=j:=by omega
        subst this
        by_cases h6:i'=i
        ·subst h6;exact hij ht
        ·exfalso;obtain⟨a,c,ha,hc',_,h',_⟩:=ht;rw[hrj]at hc';injection hc' with hc';subst hc'
         have:=farI i' a (by omega) g2 ha;dsimp only at h';omega
    ·refine⟨r,E,hP,λq hq i' j' q1 q2 ht=>?_⟩
     by_cases hqk:q<k
     ·exact hE q hqk i' j' q1 q2 ht
     ·have:q=k:=by omega
      subst this;obtain⟨_,_,g1,g2⟩:=G9 hc hk q1 q2 ht;refine hE2 i' j' g1 g2 q1 q2 ?_ ht;rw[Bool.and_eq_false_iff,decide_eq_false_iff_not,decide_eq_false_iff_not]at h;omega
   ·exact⟨iY s<|k - 1,iY s k,rfl,rfl,bW _,AB (by omega),bW _,AB (by omega),r,E,hP,hE,λi' j' g1 g2 g3 g4 g5=>by omega⟩
  ·by_cases hqk:q<k
   ·exact hE q hqk i j q1 q2 ht
   ·have:q=k:=by omega
    subst this;obtain⟨g0,g1,_⟩:=G9 hc hk q1 q2 ht;rw[hcc.2 ⟨g0,g1⟩]at h;cases h
 ·rintro⟨up,a,b⟩⟨_,_,r,E,hP,hE⟩;dsimp only at hP ⊢;have hEq:∀i j,KO (aT s) i j->(i,j)∈E:=λi j ht=>by
   have hjl:j<(aT s).length:=by obtain⟨a,c,_,hb,_⟩:=ht;exact(bN.1 hb).1
   obtain⟨q,hq,q1,q2⟩:=JQ hjl;exact hE q hq i j q1 q2 ht
  have hJ:Joined (aT s) r:=⟨by rw[hn];exact hP.uf.le,by rw[hn];exact hP.uf.rr,λi j ht=>hP.co (i,j) (hEq i j ht),λS hS i j hi hj=>by
   rw[hn]at hi hj
   exact hP.fi S (λp hp=>hS p.1 p.2 (hP.so p hp)) i j hi hj⟩
  refine V3 (WK (λk st=>UF n st.1 r/\UQ k r st.2.1/\st.2.2=(cD k r).map (nI (aT s) k r)) (by omega) ⟨hP.uf,⟨λj k hj=>by simp[cD]at hj,λk=>rfl⟩,rfl⟩<|λk st hk hI=>?_) ?_
  ·obtain⟨l,m,ls⟩:=st;obtain⟨hu,⟨hm1,hm2⟩,hs⟩:=hI;dsimp only at hu hm1 hm2 hs ⊢;subst hs;have hkx:(aT s)[k]? =some ((aT s)[k]'(by omega)):=aM (by omega);refine Wu hkx ?_;obtain⟨u',a1,a2⟩:=FG (N:=N) hu hk (by omega);refine VT a1 ?_;dsimp only;have hhl:=pF k r;have hrk:=hP.uf.le k hk;have hrr:=hP.uf.rr k hk;have hcl:=CY (aT s) k r<|r k
   have hmap:((cD k r).map<|nI (aT s) k r).length=(cD k r).length:=by simp
   rw[hm2]
   by_cases e:r k=k
   ·have hnot:r k∉cD k r:=λh=>by have:=(jO.1 h).1;omega
    refine VT (x:=(lf m ((r k:Nat):Int) (((cD k r).length:Nat):Int),(cD k r).map (nI (aT s) k r)++[([]:aL aK)],(((cD k r).length:Nat):Int))) ?_ ?_
    ·rw[bS hnot,ln,aQ,gK (by simp;omega),aA,hmap]
    ·dsimp only;have hi:((cD k r).map (nI (aT s) k r)++[([]:aL aK)])[(cD k r).length]? =some []:=by rw[<-hmap,fZ<|bW _,Nat.sub_self];rfl
     refine Wu hi<|W3 (by simp)<|Wu hi<|VV ⟨a2,⟨λj q hj=>?_,λq=>?_⟩,?_⟩
     ·dsimp only;rw[kL,aH e]at hj;rw[og]
      by_cases e2:j<(cD k r).length
      ·rw[gD e2]at hj;have:=(jO.1<|gA hj).1;rw[aF (by omega)];exact hm1 j q hj
      ·rw[fZ (by omega)]at hj;have hj0:j -(cD k r).length=0:=by
        have:=(bN.1 hj).1;simp at this;omega
       rw[hj0]at hj;simp at hj;subst hj;rw[aH (by rw[e])];congr 1;omega
     ·dsimp only;rw[rk,hm2,kL,aH e,jE];rw[ij,dP,dP,dP,dJ,pJ,e];constructor
      ·rintro(h|h)
       ·exact .inr (by omega)
       ·exact .inl h
      ·rintro(h|h)
       ·exact .inr h
       ·exact .inl (by omega)
     ·dsimp only;rw[cR,<-hmap,List.set_append_right _ _<|bW _,Nat.sub_self,kL,aH e,gC];congr 1
      ·apply List.map_congr_left;intro a ha;have:=(jO.1 ha).1;rw[w3 a hkx,aF (by omega)]
      ·simp only[List.set_cons_zero,eZ,List.map_nil,List.nil_append];rw[w3 k hkx,aH e];have:nI (aT s) k r k= []:=by unfold nI;rw[JP (λi hi=>hP.uf.le i (by omega))<|bW _];rfl
       rw[this];rfl
   ·have hh:r k∈cD k r:=jO.2 ⟨by omega,hrr⟩;obtain⟨j,hj⟩:=fA hh;refine VT (x:=(m,(cD k r).map<|nI (aT s) k r,((j:Nat):Int))) ?_ ?_
    ·rw[bU hh,ll,aP,hm1 j (r k) hj]
    ·dsimp only;have hi:((cD k r).map<|nI (aT s) k r)[j]? =some (nI (aT s) k r<|r k):=by rw[kl,hj];rfl
     refine Wu hi<|W3 (by simp;omega)<|Wu hi<|VV ⟨a2,⟨λj' q hj'=>?_,λq=>?_⟩,?_⟩
     ·rw[kL,aF e]at hj';exact hm1 j' q hj'
     ·rw[kL,aF e];exact hm2 q
     ·dsimp only;rw[cR,kL,aF e]
      have:=wg (nI (aT s) k r) (nI (aT s) (k+1) r) (cD k r) j (r k) (om k r) hj (λb hb hne=>by
       rw[w3 b hkx,aF (λh=>hne h.symm)])
      rw[w3 (r k) hkx,aH rfl]at this;exact this
  ·rintro⟨l,m,ls⟩⟨_,_,hs⟩;dsimp only at hs ⊢;subst hs;have hhl:=pF n r;refine V3 (WK (λk ps=>ps.length=k/\∀(j h:Nat)(p:aL aB),j<k->(cD n r)[j]? =some h->ps[j]? =some p->su (nI (aT s) n r h) p) (by simp;omega) ⟨rfl,λj h p hj=>by omega⟩<|λk ps hk hI=>?_) ?_
   ·obtain⟨hp1,hp2⟩:=hI;have hk':k<(cD n r).length:=by simpa using hk
    refine Wu (x:=nI (aT s) n r (cD n r)[k]) (by rw[kl,aM hk'];rfl) ?_;have hcl:=CY (aT s) n r (cD n r)[k];refine V3 (uj (N:=N) (by omega) (λx hx=>?_) (by omega)) ?_
    ·obtain⟨i,_,_,h⟩:=oY.1 hx;exact(hok x<|gA h).1
    ·intro p hp;refine W3 (by rw[hp1];simp;omega)<|VV ⟨by simp[hp1],λj h q hj hh hq=>?_⟩
     by_cases hjk:j<k
     ·rw[gD (by omega)]at hq;exact hp2 j h q hjk hh hq
     ·have:j=k:=by omega
      subst this;rw[fZ (by omega),hp1,Nat.sub_self]at hq;simp at hq;subst hq;rw[aM hk']at hh;injection hh with hh;subst hh
      exact hp
   ·rintro ps⟨hp1,hp2⟩;refine VV ⟨r,hJ,?_,λj h p hh hp=>?_⟩
    ·rw[hp1,hn];simp
    ·rw[hn]at hh ⊢;exact hp2 j h p (by have:=(bN.1 hp).1;omega) hh hp
end
section
variable {N:Nat}
theorem zI{n:Int}(h: -9223372036854775808<=n/\n<=9223372036854775807):wrap .i64 n=n:=by grind [IntKind.wrap_i64]
def jk(n lo hi:Int):Bool:=decide (n>=lo)&&decide (n<=hi)
def uF(n:Int):Bool:=jk n (-1000000) 1000000
def wh(p:eR):Bool:=uF p.X&&uF p.Y
def dR(r:aK):Bool:=uF r.X0&&(uF r.Y0&&(uF r.X1&&uF r.Y1))
theorem Ha(n:Int):lu N n=some (uF n):=rfl
theorem A3(p:eR):jF N p=some (wh p):=by
 unfold jF wh
 grind [Ha,aA]
theorem CZ(r:aK):mS N r=some (dR r):=by
 unfold mS dR
 grind [Ha,aA]
theorem Hb{a b:Int}(h:a≠b):gO (N+4) [a,b]=some [a,b]:=by
 have e:(b==a)=false:=by grind
 have w1:wrap .i64 ((1:Int) - 1)=0:=by decide
 have w2:wrap .i64 ((1:Int)+1)=2:=by decide
 unfold gO;have e1:idx [a,b] 1=some b:=rfl;have e2:idx [a,b] 0=some a:=rfl;have l2:(([a,b]:aL Int).length:Int)=2:=rfl;rw[l2,show decide ((2:Int)<2)=false by decide,aP];rw[kb.eq_def];dsimp only;rw[show decide ((1:Int)<2)=true by decide,aQ,e1,aA,w1,e2,aA,e,aP,aA,w2];dsimp only;rw[kb.eq_def];dsimp only;rw[show decide ((2:Int)<2)=false by decide,aP,aA];rfl
theorem Po(x:Int):wrap .i64 (x - x)=0:=by rw[Int.sub_self];decide
theorem KP{r:aK}(hx:r.X0<r.X1)(hy:r.Y0<r.Y1):gS (N+16) [r]=some [⟨r.Y0,r.Y1,[r.X0,r.X1]⟩]:=by
 have s1:r9 (jT<|N+16) [r]=some [r]:=En (by unfold jT;rw[Po]);have s2:r9 (gQ<|N+16) [r]=some [r]:=En (by unfold gQ;rw[Po]);have s3:vn [r.Y0,r.Y1]=some [r.Y0,r.Y1]:=DK (by simp;omega) (by simp);have c1:je (N+16) [r]=some [r]:=rfl;have f1:∀φ,ir (N+16) [] φ=some []:=λφ=>rfl;have st:jr (N+16) [r]=some ([r.X0,r.X1],[r]):=by
  unfold jr;rw[s2,aA];rfl
 have pu:∀b:aB,b.Xs= [r.X0,r.X1]->b.Y0<b.Y1->iX (N+16) [] b=some [b]:=λb h1 h2=>by
  unfold iX;rw[h1,bS (show ¬b.Y1<=b.Y0 by omega)];rfl
 unfold gS;rw[c1,aA,s1,aA];have ys:jy ([r]:aL aK).length (λ(k35:Nat)(s36:aL Int)=>((idx [r] (k35:Int)).bind λx54=>(app 8 s36 ([x54.Y0,x54.Y1]:aL Int)).bind λx58=>some x58:aU (aL Int))) ([]:aL Int)=some [r.Y0,r.Y1]:=rfl;rw[ys,aA,s3,aA,Hb (N:=N+12) (by omega),aA];have l2:(([r.Y0,r.Y1]:aL Int).length:Int)=2:=rfl;have l1:(([r]:aL aK).length:Int)=1:=rfl;have w1:wrap .i64 ((0:Int)+1)=1:=by decide
 have w2:wrap .i64 ((1:Int)+1)=2:=by decide
 have i0:idx [r.Y0,r.Y1] 0=some r.Y0:=rfl;have i1:idx [r.Y0,r.Y1] 1=some r.Y1:=rfl;have j0:idx [r] 0=some r:=rfl;have a1:app 32 ([]:aL aK) [r]=some [r]:=rfl;rw[l2,l1];rw[kb.eq_def];dsimp only;rw[w1,show decide ((1:Int)<2)=true by decide,aQ,f1,aA];rw[kb.eq_def];dsimp only;rw[show decide ((0:Int)<1)=true by decide,aQ,j0,aA,i0,aA,aA,show decide (r.Y0<=r.Y0)=true by simp,aQ,aA,a1,aA,w1,aA];dsimp only;rw[kb.eq_def];dsimp only;rw[show decide ((1:Int)<1)=false by decide,aP,aA,aP,aA,aA];unfold Fo.cs;dsimp only;rw[aA,i1,aA,st,aA,pu _ rfl hy,aA,aA];dsimp only;rw[kb.eq_def];dsimp only;rw[w2,show decide ((2:Int)<2)=false by decide,aP,aA];rfl
theorem MH{r:aK}(hx:r.X0<r.X1):mA N [⟨r.Y0,r.Y1,[r.X0,r.X1]⟩]=some (dR r):=by
 have ar:mU N [⟨r.Y0,r.Y1,[r.X0,r.X1]⟩]=some r:=by
  have e1:(if r.X0<r.X0 then r.X0 else r.X0)=r.X0:=by split <;> rfl
  have e2:(if r.X1<r.X1 then r.X1 else r.X1)=r.X1:=by split <;> rfl
  show some ({X0:=(if r.X0<r.X0 then r.X0 else r.X0),Y0:=r.Y0,X1:=(if r.X1<r.X1 then r.X1 else r.X1),Y1:=r.Y1}:aK)=some r;rw[e1,e2]
 grind [mA,aA,CZ]
def C0(b:cL):aK:=⟨b.At.X - b.gG / 2,b.At.Y - b.gG / 2,b.At.X - b.gG / 2+b.gG,b.At.Y - b.gG / 2+b.gG⟩
def wi(b:cL):Bool:=jk b.gG 1 10000&&wh b.At
def pR(b:cL):aK×Int:=if wi b&&dR (C0 b)then(C0 b,0)else(⟨0,0,0,0⟩,1)
theorem wj{b:cL}(h:wi b=true):(1<=b.gG/\b.gG<=10000)/\(-1000000<=b.At.X/\b.At.X<=1000000)/\(-1000000<=b.At.Y/\b.At.Y<=1000000):=by
 simp only[wi,jk,wh,uF,dB,decide_eq_true_iff]at h;omega
theorem oq{b:cL}(h:wi b=true):gq N b=some (C0 b):=by
 obtain⟨h1,h2,h3⟩:=wj h;have t:Int.tdiv b.gG 2=b.gG / 2:=Int.tdiv_eq_ediv_of_nonneg (by omega);unfold gq C0
 grind [zI]
theorem AD{b:cL}:lU (N+16) b=some (pR b):=by
 have e0:ig (N+16) b.gG 1 10000=some (jk b.gG 1 10000):=rfl;have e1:(bif(!(jk b.gG 1 10000))then some true else some (!(wh b.At)))=some (!wi b):=by unfold wi;cases jk b.gG 1 10000 <;> rfl
 unfold lU pR;rw[e0,aA,A3,aA,e1,aA]
 cases hf:wi b with
 |false=>rfl
 |true=>
  obtain⟨h1,h2,h3⟩:=wj hf;have hx:(C0 b).X0<(C0 b).X1:=by simp only[C0];omega
  have hy:(C0 b).Y0<(C0 b).Y1:=by simp only[C0];omega
  rw[ll,aP,oq hf,aA,KP hx hy,aA,MH hx,aA]
  cases dR (C0 b) <;> rfl
end
section
variable {N:Nat}
def Qo(c:UInt8):Bool:=
 (((decide ((c.toNat:Int)<65)||decide ((c.toNat:Int)>90))&&(decide ((c.toNat:Int)<97)||decide ((c.toNat:Int)>122)))&&(decide ((c.toNat:Int)<48)||decide ((c.toNat:Int)>57)))&&decide (Lib.indexByte [95,43,45,35] c<0)
def isWord(s:cN):Bool:= !s.dA.any Qo&&(decide (1<=s.dA.length)&&decide (s.dA.length<=40))
theorem zJ(s:cN)(c:UInt8):i9 N s (c.toNat:Int)=some (Lib.indexByte s.dA c):=by
 show some (Lib.indexByte s.dA (Int.toNat (c.toNat:Int)).toUInt8)=_;simp
theorem ID{R:Type}(b1:Bool)(c:UInt8)(r:R):
  ((bif b1 then((i9 N (⟨[95,43,45,35]⟩) (c.toNat:Int)).bind λx14=>some<|decide<|x14<0)else some false).bind λs12=>bif s12 then some (.rt r)else(some<|.nx ()):aU (Fl Unit R))=some (if(b1&&decide (Lib.indexByte [95,43,45,35] c<0))=true then .rt r else .nx ()):=by
 rw[zJ,aA]
 grind
theorem mi{s:cN}(h:s.dA.length<=2097152):gI N s=some (isWord s):=by
 unfold gI
 rw[Oq Qo false (by omega) (λk x hx=>by
  have hk:=(bN.1 hx).1;have e:Kk s ((k:Nat):Int)=some x:=by grind [Mr,aM]
  rw[e,aA]
  exact ID (R:=Bool) _ x false),aA]
 unfold isWord
 grind [Qo,Fo.cs,ln,Bool.false_eq_true,Option.some.injEq]
def cutAt(c:UInt8):aL UInt8->aL (aL UInt8)
 | []=>[[]]
 |b::l=>if b==c then []::cutAt c l else match cutAt c l with|h::t=>(b::h)::t| []=>[[b]]
theorem C1{c:UInt8}:∀{l:aL UInt8},c∉l->cutAt c l= [l]
 | [],_=>rfl
 |b::l,h=>by
  unfold cutAt;have hb:(b==c)=false:=by rw[beq_eq_false_iff_ne];rintro rfl;exact h (by simp)
  rw[hb,C1<|λh'=>h (by simp[h'])];rfl
theorem Hc{c:UInt8}:∀{a b:aL UInt8},c∉a->cutAt c (a++c::b)=a::cutAt c b
 | [],b,_=>by rw[List.nil_append];show(if(c==c)=true then _ else _)=_;simp
 |x::a,b,h=>by
  have hb:(x==c)=false:=by rw[beq_eq_false_iff_ne];rintro rfl;exact h (by simp)
  have ih:=Hc (c:=c) (a:=a) (b:=b)<|λh'=>h (by simp[h'])
  show(if(x==c)=true then []::cutAt c (a++c::b)else match cutAt c (a++c::b)with|h::t=>(x::h)::t| []=>[[x]])=_;rw[hb,ih];rfl
theorem wk:∀(l:aL UInt8)(c:UInt8),(Lib.indexByte l c = -1/\c∉l)\/∃a b,l=a++c::b/\c∉a/\Lib.indexByte l c=((a.length:Nat):Int)
 | [],c=> .inl ⟨rfl,by simp⟩
 |x::l,c=>by
  unfold Lib.indexByte
  by_cases hx:x=c
  ·subst hx;exact .inr ⟨[],l,rfl,by simp,by simp⟩
  ·have hb:(x==c)=false:=by rw[beq_eq_false_iff_ne];exact hx
   rcases wk l c with⟨h1,h2⟩|⟨a,b,h1,h2,h3⟩
   ·left;rw[hb,h1];refine⟨by simp,?_⟩;simp[h2];exact λh=>hx h.symm
   ·right;refine⟨x::a,b,by rw[h1];rfl,by grind,?_⟩;rw[hb,h3];have:(((a.length:Nat):Int)== -1)=false:=by rw[beq_eq_false_iff_ne];omega
    rw[this];simp
theorem MI(s:cN)(c:UInt8):lT N s ⟨[c]⟩=some (Lib.indexByte s.dA c):=by
 show(ko N s ⟨[c]⟩).bind _=_;unfold ko
 by_cases h:cN.u5 ⟨[c]⟩ s=true
 ·grind [ud,Lib.indexByte]
 ·rw[qP]at h;rw[h];show((iL N s (c.toNat:Int)).bind _).bind _=_;have:=zJ (N:=N) s c
  grind [i9]
theorem MJ(s:cN)(c:UInt8):nr N s ⟨[c]⟩=some ((s.dA.count c:Nat):Int):=by
 unfold nr;show(some _:aU Int)=_;simp[Lib.countByte]
theorem KQ{s:cN}{k:Nat}(h:k<=s.dA.length):x9 s 0 (k:Int)=some ⟨s.dA.take k⟩:=by
 unfold x9;grind
theorem KR{s:cN}{k:Nat}(h:k<=s.dA.length):x9 s (k:Int) (s.dA.length:Int)=some ⟨s.dA.drop k⟩:=by
 grind [x9,cR,pK,f9]
def uo(s:cN)(c:UInt8):aL cN:=(cutAt c s.dA).map cN.mk
theorem MK{s:cN}(c:UInt8)(h:s.dA.length<=2097152)(hN:4194304<=N):nu N s ⟨[c]⟩=some (uo s c):=by
 have hc:s.dA.count c<=s.dA.length:=List.count_le_length;unfold nu mR;rw[show((-1:Int)==0)=false by decide,aP,show cN.u5 ⟨[c]⟩ ⟨[]⟩=false by simp[cN.u5],aP,MJ,aA];rw[fB (x:=((s.dA.count c:Nat):Int)+1) (by omega) (by omega),show decide ((-1:Int)<0)=true by decide,aQ,aA];rw[fB (x:=(s.dA.length:Int)+1) (by omega) (by omega)];have e1:(if(s.dA.length:Int)+1<((s.dA.count c:Nat):Int)+1 then(s.dA.length:Int)+1 else((s.dA.count c:Nat):Int)+1)=((s.dA.count c+1:Nat):Int):=by
  omega
 rw[e1,wU _ (by omega),aA];rw[fB (x:=((s.dA.count c+1:Nat):Int) - 1) (by omega) (by omega)];have key:=wT (S:=cN×aL cN×Int) (R:=Empty) (body:=(λ(s7:cN×aL cN×Int)=>(bif decide (s7.2.2<((s.dA.count c+1:Nat):Int) - 1)then((lT N s7.1 ⟨[c]⟩).bind λx23=>bif x23<0 then some (.br (s7.1,s7.2.1,s7.2.2))else((x9 s7.1 0<|wrap .i64<|x23+0).bind λx24=>(idx s7.2.1 s7.2.2).bind λx25=>(x9 s7.1 (wrap .i64<|x23+(((⟨[c]⟩:cN).dA.length:Nat):Int)) ((s7.1.dA.length:Nat):Int)).bind λx27=>some<|.nx (x27,s7.2.1.set (Int.toNat s7.2.2) x24,wrap .i64<|s7.2.2+1)))else(some<|.br (s7.1,s7.2.1,s7.2.2)):aU (Fl (cN×aL cN×Int) Empty))))
  (λst=>∃ws:aL (aL UInt8),st.2.2=(ws.length:Int)/\cutAt c s.dA=ws++cutAt c st.1.dA/\ws.length+st.1.dA.count c=s.dA.count c/\st.1.dA.length<=s.dA.length/\st.2.1=ws.map cN.mk++List.replicate (s.dA.count c+1 - ws.length) ⟨[]⟩)
  (λst=>s.dA.count c+1 - st.2.2.toNat)
  (λst=>∃ws:aL (aL UInt8),st.2.2=(ws.length:Int)/\cutAt c s.dA=ws++[st.1.dA]/\ws.length=s.dA.count c/\st.2.1=ws.map cN.mk++[⟨[]⟩])
  (λ_=>True) (by
   rintro⟨r,arr,i⟩⟨ws,h1,h2,h3,h4,h5⟩;simp only at h1 h2 h3 h4 h5;subst h1 h5
   by_cases hlt:ws.length<s.dA.count c
   ·have hd:decide ((ws.length:Int)<((s.dA.count c+1:Nat):Int) - 1)=true:=by grind
    simp only[hd,aQ,MI,aA]
    rcases wk r.dA c with⟨_,hn⟩|⟨a,b,hr,ha,hi⟩
    ·grind
    ·have hrl:r.dA.length=a.length+(b.length+1):=by rw[hr];simp
     rw[hi,bS (by omega),aP];rw[show(a.length:Int)+0=(a.length:Int)by omega,fB (x:=(a.length:Int)) (by omega) (by omega),KQ (by omega),aA];rw[ji _ _ (by simp;omega),aA];rw[show(a.length:Int)+(((⟨[c]⟩:cN).dA.length:Nat):Int)=((a.length+1:Nat):Int)by simp,fB (x:=((a.length+1:Nat):Int)) (by omega) (by omega),KR (by omega),aA];refine⟨_,rfl,⟨ws++[a],?_,?_,?_,?_,?_⟩,?_⟩
     ·grind [fB]
     ·simp_all[Hc]
     ·simp only;rw[hr]at h3 ⊢;simp[List.count_eq_zero_of_not_mem ha]at h3 ⊢;omega
     ·simp;omega
     ·simp only[cR];rw[List.set_append_right _ _ (by simp)];simp only[iM,Nat.sub_self];obtain⟨d,hd'⟩:∃d,s.dA.count c+1 - ws.length=d+1:=⟨s.dA.count c - ws.length,by omega⟩;rw[hd',List.replicate_succ,List.set_cons_zero,show s.dA.count c+1 -(ws++[a]).length=d by simp;omega];simp[hr]
     ·simp only;rw[fB (by omega) (by omega)];omega
   ·have hd:decide ((ws.length:Int)<((s.dA.count c+1:Nat):Int) - 1)=false:=by rw[decide_eq_false_iff_not];omega
    simp only[hd,aP];refine⟨_,rfl,ws,rfl,?_,by omega,?_⟩
    ·have h0:r.dA.count c=0:=by omega
     rw[h2,C1<|List.count_eq_zero.1 h0]
    ·rw[show s.dA.count c+1 - ws.length=1 by omega];rfl)
  N (s,List.replicate (s.dA.count c+1) ⟨[]⟩,0) ⟨[],rfl,rfl,by simp,bW _,by simp⟩ (by simp only;omega)
 obtain⟨o,ho,hgo⟩:=key;rw[ho,aA]
 cases o with
 |rt r=>exact r.elim
 |go st=>
  obtain⟨r,arr,i⟩:=st;obtain⟨ws,h1,h2,h3,h4⟩:=hgo;simp only at h1 h2 h3 h4;subst h1 h4;simp only[Fo.cs];rw[ji _ _ (by simp),aA,fB (by omega) (by omega)];rw[show(ws.length:Int)+1=((ws.length+1:Nat):Int)by omega,rI _ _ (by simp),aA,aA];unfold uo;rw[h2];rw[cR,List.set_append_right _ _ (by simp),pK (by simp)];simp
def mN(s:cN):Bool:=decide (s.dA.length<=200)&&(uo s 47).all isWord
theorem w4{c:UInt8}:∀{l x:aL UInt8},x∈cutAt c l->x.length<=l.length
 | [],x,h=>by simp[cutAt]at h;subst h;simp
 |b::l,x,h=>by
  unfold cutAt at h;split at h
  ·rcases eV.1 h with h|h
   ·subst h;simp
   ·have:=w4 h;simp;omega
  ·split at h
   ·rename_i t e
    rcases eV.1 h with h|h
    ·subst h;have:=w4 (c:=c) (l:=l) (by rw[e];exact List.mem_cons_self);simp;omega
    ·have:=w4 (c:=c) (l:=l) (by rw[e];exact mP _ h);simp;omega
   ·simp at h;subst h;simp
theorem Eu(c:UInt8):∀(l:aL UInt8),(cutAt c l).length<=l.length+1
 | []=>by simp[cutAt]
 |b::l=>by
  have:=Eu c l;unfold cutAt;split
  ·simp;omega
  ·split
   ·rename_i e;rw[e]at this;simp at this ⊢;omega
   ·simp
theorem KS{s x:cN}{c:UInt8}(h:x∈uo s c):x.dA.length<=s.dA.length:=by
 obtain⟨y,hy,rfl⟩:=cX.1 h;exact w4 hy
theorem KT(s:cN)(c:UInt8):(uo s c).length<=s.dA.length+1:=by simp[uo,iM,Eu]
theorem oZ{s:cN}(h:s.dA.length<=2097152)(hN:4194304<=N):iV N s=some (mN s):=by
 unfold iV mN
 by_cases hl:s.dA.length<=200
 ·rw[bU (by omega),aQ,MK 47 h hN,aA]
  have e:=mY (l:=uo s 47) (φ:=iq N) (λx=> !isWord x) (by have:=KT s 47;omega) (λx hx=>by
   unfold iq
   rw[mi (by have:=KS hx;omega)];rfl)
  have e2:il N (uo s 47) (iq N)=nB (uo s 47) (iq N):=rfl;rw[e2,e,aA,aA,bU hl,Bool.true_and];congr 1;rw[jE];simp
 ·rw[bS (by omega),aP,aA,bS hl,Bool.false_and]
end
end Go.Gk
namespace Go.Gk
open Go IntKind Classical
section
variable {N:Nat}
theorem ML{a b:aB}(h:cH a=cH b):a=b:=by cases a;simp_all[cH]
theorem zK:∀{s t:aL aB},s.map cH=t.map cH->s=t
 | [],[],_=>rfl
 | [],_::_,h=>by cases h
 |_::_,[],h=>by cases h
 |a::s,b::t,h=>by
  rw[eZ,eZ]at h;injection h with h1 h2
  rw[ML h1,zK h2]
theorem Hd{s t:aL aB}(hs:fE (s.map cH))(ht:fE (t.map cH))(h:∀x y,zF (s.map cH) x y=zF (t.map cH) x y):s=t:=zK<|CL hs ht h
theorem su.unique{l:aL aK}{s t:aL aB}(hs:su l s)(ht:su l t):s=t:=Hd hs.can ht.can λx y=>by rw[hs.cover,ht.cover]
theorem su.MM{l:aL aK}{s:aL aB}(h:su l s):s.length<=2*l.length/\(∀b∈s,b.Xs.length<=2*l.length)/\(aT s).length<=2*l.length*(2*l.length):=by
 have h1:s.length<=2*l.length:=by have:=h.lim.len h.can;grind [iM,oW]
 have h2:∀b∈s,b.Xs.length<=2*l.length:=λb hb=>by
  have:=h.lim.row h.can (b:=cH b)<|cX.2 ⟨b,hb,rfl⟩
  rwa[tA]at this
 simp_all[CR]
theorem KU{n:Int}(h:uF n=true): -1000000<=n/\n<=1000000:=by
 unfold uF jk at h
 grind
theorem iG{r:aK}(h:dR r=true):(-1000000<=r.X0/\r.X0<=1000000)/\(-1000000<=r.Y0/\r.Y0<=1000000)/\(-1000000<=r.X1/\r.X1<=1000000)/\(-1000000<=r.Y1/\r.Y1<=1000000):=by
 unfold dR at h
 simp_all[dB,KU]
theorem C2{r:aK}(h:(-1000000<=r.X0/\r.X0<=1000000)/\(-1000000<=r.Y0/\r.Y0<=1000000)/\(-1000000<=r.X1/\r.X1<=1000000)/\(-1000000<=r.Y1/\r.Y1<=1000000)):dR r=true:=by
 unfold dR uF jk
 grind
theorem MN{r:aK}(h:dR r=true)(hx:r.X0<r.X1)(hy:r.Y0<r.Y1):HN r:=by
 have:=iG h;refine⟨hx,hy,?_,?_,?_,?_⟩ <;> unfold small <;> omega
def qZ(r:aK):aU Int:=if dR r=true then(if r.X1<=r.X0\/r.Y1<=r.Y0 then some 13 else none)else some 1
def o4(l:aL aK):Int:=if 2000<l.length then 2 else(l.findSome? qZ).getD 0
theorem DN{l:aL aK}(hl:l.length<=4611686018427387904):kU N l=some (o4 l):=by
 unfold kU o4
 by_cases h:2000<l.length
 ·grind
 ·rw[bS (by omega),aP,aF h,zj qZ hl (λk x hx=>by
   rw[cG hx,aA,CZ,aA];unfold qZ
   cases hr:dR x with
   |false=>rfl
   |true=>
    rw[ll,aP,aH rfl]
    by_cases h2:x.X1<=x.X0\/x.Y1<=x.Y0
    ·rw[aH h2,show(decide (x.X1<=x.X0)||decide (x.Y1<=x.Y0))=true by grind];rfl
    ·rw[aF h2,show(decide (x.X1<=x.X0)||decide (x.Y1<=x.Y0))=false by grind];rfl),aA]
  cases l.findSome? qZ <;> rfl
theorem zL{r:aK}:qZ r=none↔dR r=true/\r.X0<r.X1/\r.Y0<r.Y1:=by
 grind [qZ]
theorem He{r:aK}{e:Int}(h:qZ r=some e):e≠0:=by
 grind [qZ]
theorem xR{l:aL aK}:o4 l=0↔l.length<=2000/\∀r∈l,dR r=true/\r.X0<r.X1/\r.Y0<r.Y1:=by
 unfold o4
 by_cases h:2000<l.length
 ·omega
 ·rw[aF h]
  cases hf:l.findSome? qZ with
  |none=>
   grind [List.findSome?_eq_none_iff,zL]
  |some e=>
   obtain⟨r,hr,he⟩:=List.exists_of_findSome?_eq_some hf
   grind [He,zL]
def Tj(l:aL aK):Prop:=∀(k:Nat)a b,l[k]? =some a->l[k+1]? =some b->¬(b.Y0<a.Y0\/(b.Y0=a.Y0/\b.X0<=a.X0))
def IE(l:aL aK):Prop:=∃s,su l s/\aT s=l
noncomputable def kM(l:aL aK):Int:=if o4 l≠0 then o4 l else if Tj l then(if IE l then 0 else 3)else 8
theorem IF{l:aL aK}(h:o4 l=0):l.length<=2000/\∀r∈l,HN r:=by grind [xR,MN]
theorem IG{l m:aL aK}(hl:l.length<=4611686018427387904):kq N l m=some (decide<|l=m):=by
 have:=Ek (l:=l) (m:=m) hl
 grind [Ip,kq,decide,instDecidableEqList]
theorem wm{l:aL aK}(hl:l.length<=1073741824)(hN:nb N):jf N l=some (kM l):=by
 refine W9 ?_;unfold jf;refine VT (DN (by omega)) ?_;unfold kM;refine WE (λh=>VV ?_)<|λh=>?_
 ·grind
 ·have h0:o4 l=0:=by simpa using h
  rw[aF (by omega)];obtain⟨hlen,hok⟩:=IF h0;refine V3 (WS (Go:=λ_=>Tj l) (Rt:=λr=>r=8/\¬Tj l) (λs=>∃k:Nat,s=(k:Int)/\1<=k/\∀(j:Nat)a b,j+1<k->l[j]? =some a->l[j+1]? =some b->¬(b.Y0<a.Y0\/(b.Y0=a.Y0/\b.X0<=a.X0))) (λs=>l.length - s.toNat) ?_ ⟨1,rfl,bW _,λj a b hj=>by omega⟩ (by simp;omega)) ?_
  ·rintro s⟨k,rfl,hk,hI⟩;refine WE (λh=>?_)<|λh=>WG λj a b ha hb=>hI j a b ?_ ha hb
   ·have hk2:k<l.length:=by grind
    rw[lZ hk (by omega)];refine WO (by omega)<|WO hk2<|WE (λhb=>Xu ⟨rfl,λhu=>?_⟩)<|λhb=>Wz ⟨⟨k+1,by grind [eN],by omega,λj a b hj ha hb'=>?_⟩,by grind [eN,cR]⟩
    ·refine hu (k - 1) l[k - 1] l[k] (aM _) (by grind) ?_
     grind
    grind
   grind
  ·rintro o ho;refine WH ho (λs hu=>?_)<|λr hr=>VV (by grind)
   rw[aH hu];refine V3 (uj (N:=N) (by omega) hok (by omega)) ?_;intro s hs;obtain⟨z1,z2,z3⟩:=hs.MM;have z4:2*l.length*(2*l.length)<=4000*4000:=Nat.mul_le_mul (by omega) (by omega);refine VT (CS (tD hs.can) (by omega) (λb hb=>by grind) (by omega))<|VT (IG (by omega)) ?_
   have hiff:IE l↔aT s=l:=⟨λ⟨t,h1,h2⟩=>by rw[hs.unique h1];exact h2,λh=>⟨s,hs,h⟩⟩
   grind [VV,aT]
theorem sw{l:aL aK}:kM l=0↔o4 l=0/\Tj l/\IE l:=by
 unfold kM
 grind
theorem yu(n lo hi:Int):ig N n lo hi=some (jk n lo hi):=rfl
theorem KW{b:cL}(hN:16<=N):lU N b=some (pR b):=by
 have:=AD (N:=N - 16) (b:=b)
 grind
def sA(n:Nat)(b:cL):aU Int:=if(pR b).2≠0 then some (pR b).2 else if jk b.cQ 0 ((n:Int) - 1)=true/\jk b.To b.cQ ((n:Int) - 1)=true then none else some 1
def nJ(a:iE):Int:=if 500<a.bQ.length then 2 else(a.bQ.findSome?<|sA a.aS.length).getD 0
theorem DO{a:iE}(h1:a.aS.length<=4611686018427387904)(h2:a.bQ.length<=4611686018427387904)(hN:16<=N):ku N a=some (nJ a):=by
 unfold ku nJ
 by_cases h:500<a.bQ.length
 ·grind
 ·have hw:wrap .i64 ((a.aS.length:Int) - 1)=(a.aS.length:Int) - 1:=fB (by omega) (by omega)
  rw[bS (by omega),aP,aF h,zj (sA a.aS.length) h2 (λk x hx=>by
   rw[cG hx,aA,KW hN,aA];unfold sA
   by_cases h0:(pR x).2=0
   ·rw[aF (by omega),h0,show((0:Int) != 0)=false by rfl,aP,hw,yu,aA,yu,aA]
    cases h3:jk x.cQ 0 ((a.aS.length:Int) - 1) <;> cases h4:jk x.To x.cQ ((a.aS.length:Int) - 1) <;> rfl
   ·rw[aH h0,show((pR x).2 != 0)=true by grind];rfl),aA]
  cases a.bQ.findSome? (sA a.aS.length) <;> rfl
theorem Hf{b:cL}(h:(pR b).2=0):wi b=true/\dR (C0 b)=true:=by
 unfold pR at h
 grind
theorem sQ{a:iE}(h:nJ a=0):a.bQ.length<=500/\∀b∈a.bQ,wi b=true/\dR (C0 b)=true/\0<=b.cQ/\b.cQ<=b.To/\b.To<((a.aS.length:Nat):Int):=by
 unfold nJ at h;split at h
 ·omega
 ·refine⟨by omega,λb hb=>?_⟩;have hn:sA a.aS.length b=none:=by
   cases hf:a.bQ.findSome? (sA a.aS.length)with
   |none=>grind
   |some e=>
    rw[hf]at h;obtain⟨c,hc,he⟩:=List.exists_of_findSome?_eq_some hf
    grind [sA]
  unfold sA at hn;split at hn
  ·cases hn
  ·rename_i h0;split at hn
   ·rename_i h1;have h0:(pR b).2=0:=by omega
    have:=Hf h0;unfold jk at h1
    grind
   ·cases hn
theorem SZ{b:cL}(h1:wi b=true)(h2:dR (C0 b)=true):HN (C0 b):=by
 have hf:=wj h1;refine MN h2 ?_ ?_
 ·show b.At.X - b.gG / 2<b.At.X - b.gG / 2+b.gG;omega
 ·show b.At.Y - b.gG / 2<b.At.Y - b.gG / 2+b.gG;omega
def fL(p q:bZ):Int:=if Lib.compareBytes p.Part.dA q.Part.dA≠0 then Lib.compareBytes p.Part.dA q.Part.dA else Lib.compareBytes p.bZ.dA q.bZ.dA
theorem lR(p q:bZ):cO N p q=some (fL p q):=by
 unfold cO fL;show(bif Lib.compareBytes p.Part.dA q.Part.dA != 0 then _ else _)=_
 by_cases h:Lib.compareBytes p.Part.dA q.Part.dA=0
 ·rw[h,aF (by simp)];rfl
 ·rw[aH h,show(Lib.compareBytes p.Part.dA q.Part.dA != 0)=true by simpa using h];rfl
def lI(l:cW):bZ:=⟨l.Part,l.bZ⟩
theorem AE(l:cW):lx N l=some (lI l):=rfl
def o5(a:iE)(k:Nat):aU Int:=(a.bX[k]?).bind λx=>
 if(mN x.Part&&isWord x.bZ)=true then
  if(jk x.dI 0 ((a.aS.length:Int) - 1)&&wh x.At)=true then
   if 0<k/\(∃y,a.bX[k - 1]? =some y/\fL (lI x) (lI y)<=0)then some 8 else none
  else some 1
 else some 5
noncomputable def nK(a:iE):Int:=if 1000<a.bX.length then 2 else(l8 a.bX.length<|o5 a).getD 0
end
section
variable {N:Nat}
def C3(a:iE):Prop:=∀x∈a.bX,x.Part.dA.length<=2097152/\x.bZ.dA.length<=2097152
theorem DQ{a:iE}(h1:a.aS.length<=1073741824)(h2:a.bX.length<=1073741824)(h3:C3 a)(hN:4194304<=N):kx N a=some (nK a):=by
 unfold kx nK
 by_cases h:1000<a.bX.length
 ·grind
 ·have hw:wrap .i64 ((a.aS.length:Int) - 1)=(a.aS.length:Int) - 1:=fB (by omega) (by omega)
  rw[bS (by omega),aP,aF h,lN (o5 a) (by omega) (λk hk _=>by
   have hx:a.bX[k]? =some a.bX[k]:=aM hk;have hs:=h3 _<|cS hk
   rw[cG hx,aA,oZ hs.1 hN,aA]
   have hle:o5 a k=(if(mN a.bX[k].Part&&isWord a.bX[k].bZ)=true then
     if(jk a.bX[k].dI 0 ((a.aS.length:Int) - 1)&&wh a.bX[k].At)=true then
      if 0<k/\(∃y,a.bX[k - 1]? =some y/\fL (lI a.bX[k]) (lI y)<=0)then some 8 else none
     else some 1
    else some 5):=by unfold o5;rw[hx];rfl
   rw[hle];have e1:((bif(!mN a.bX[k].Part)then some true else((gI N a.bX[k].bZ).bind λx225=>some<|!x225)):aU Bool)=some (!(mN a.bX[k].Part&&isWord a.bX[k].bZ)):=by
    grind [mi,aA,mN]
   have e2:((ig N a.bX[k].dI 0<|wrap .i64<|(a.aS.length:Int) - 1).bind λx318=>bif(!x318)then some true else((jF N a.bX[k].At).bind λx321=>some<|!x321))=some (!(jk a.bX[k].dI 0 ((a.aS.length:Int) - 1)&&wh a.bX[k].At)):=by
    grind [yu,aA,A3]
   show((bif(!mN a.bX[k].Part)then some true else((gI N a.bX[k].bZ).bind λx225=>some<|!x225)):aU Bool).bind _=_;rw[e1,aA]
   cases h4:(mN a.bX[k].Part&&isWord a.bX[k].bZ)with
   |false=>rfl
   |true=>
    rw[ll,aP,aH rfl];show(((ig N a.bX[k].dI 0<|wrap .i64<|(a.aS.length:Int) - 1).bind λx318=>bif(!x318)then some true else((jF N a.bX[k].At).bind λx321=>some<|!x321))).bind _=_;rw[e2,aA]
    cases h5:(jk a.bX[k].dI 0 ((a.aS.length:Int) - 1)&&wh a.bX[k].At)with
    |false=>rfl
    |true=>
     rw[ll,aP,aH rfl]
     by_cases h0:0<k
     ·rw[bU (by omega),aQ,lZ h0 (by omega),ji _ _ (by omega)];simp only[AE,aA,lR]
      by_cases h6:fL (lI a.bX[k]) (lI a.bX[k - 1])<=0
      ·rw[bU h6,aH ⟨h0,_,aM (by omega),h6⟩];rfl
      ·rw[bS h6,aF (by
        grind)];rfl
     ·rw[bS (by omega),aF (λh=>h0 h.1)];rfl),aA]
  cases l8 a.bX.length (o5 a) <;> rfl
def nL(b:cL)(k:Int):Bool:=decide (b.cQ<=k)&&decide (k<=b.To)
theorem C4(b:cL)(k:Int):kW N b k=some (nL b k):=rfl
def qM(bs:aL cL)(k:Int):aL aK:=(bs.filter<|λb=>nL b k).map C0
structure pG (bs:aL cL):Prop where
 len:bs.length<=500
 ok:∀b∈bs,wi b=true/\dR (C0 b)=true
structure w5 (r hs:aL aK) (s:aL aB):Prop where
 can:fE (s.map cH)
 cover:∀x y,zF (s.map cH) x y=(v9 r x y&& !v9 hs x y)
 lim:yL (tx r++tx hs) (nF r++nF hs) (s.map cH)
theorem Ev{bs:aL cL}(h:pG bs)(k:Int):(qM bs k).length<=500:=by
 unfold qM;rw[iM];have:=me (λb=>nL b k) bs;have:=h.len;omega
theorem zM{bs:aL cL}(h:pG bs)(k:Int):∀r∈qM bs k,HN r/\dR r=true:=by
 intro r hr;unfold qM at hr;obtain⟨b,hb,rfl⟩:=cX.1 hr;have:=h.ok b (jC.1 hb).1
 grind [SZ]
theorem w5.small{r hs:aL aK}{s:aL aB}(h:w5 r hs s)(h1:∀x∈r,HN x)(h2:∀x∈hs,HN x):(∀c∈tx r++tx hs,small c)/\∀c∈nF r++nF hs,small c:=by
 constructor
 ·intro c hc
  rcases dJ.1 hc with h|h
  ·obtain⟨x,hx,rfl|rfl⟩:=tz.1 h
   ·exact(h1 x hx).s1
   ·exact(h1 x hx).s2
  ·obtain⟨x,hx,rfl|rfl⟩:=tz.1 h
   ·exact(h2 x hx).s1
   ·exact(h2 x hx).s2
 ·intro c hc
  rcases dJ.1 hc with h|h
  ·obtain⟨x,hx,rfl|rfl⟩:=nG.1 h
   ·exact(h1 x hx).s3
   ·exact(h1 x hx).s4
  ·obtain⟨x,hx,rfl|rfl⟩:=nG.1 h
   ·exact(h2 x hx).s3
   ·exact(h2 x hx).s4
theorem AF{s:aL aB}{X Y:aL Int}{A:Nat}(hc:fE (s.map cH))(h:yL X Y (s.map cH))(hX:X.length<=A)(hY:Y.length<=A):s.length<=A/\(∀b∈s,b.Xs.length<=A)/\(aT s).length<=A*A:=by
 have h1:s.length<=A:=by have:=h.len hc;grind
 have h2:∀b∈s,b.Xs.length<=A:=λb hb=>by
  have:=h.row hc (b:=cH b)<|cX.2 ⟨b,hb,rfl⟩
  grind [cH]
 simp_all[CR]
theorem DR{r hs:aL aK}(h1:r.length<=2000)(h2:∀x∈r,HN x)(h3:hs.length<=500)(h4:∀x∈hs,HN x)(hN:nb N){β:Type}{f:aL aB->aU β}{Q:β->Prop}(k:∀s,w5 r hs s->Ok (f s) Q):
  Ok ((gS N r).bind λx378=>(gS N hs).bind λx380=>(kX N x378 x380).bind f) Q:=by
 refine V3 (uj (N:=N) (by omega) h2 (by omega))<|λs hs1=>?_
 refine V3 (uj (N:=N) (by omega) h4 (by omega))<|λt ht=>?_
 have hz:∀c∈nF r++nF hs,small c:=by
  intro c hc
  rcases dJ.1 hc with h|h
  ·obtain⟨x,hx,rfl|rfl⟩:=nG.1 h
   ·exact(h2 x hx).s3
   ·exact(h2 x hx).s4
  ·obtain⟨x,hx,rfl|rfl⟩:=nG.1 h
   ·exact(h4 x hx).s3
   ·exact(h4 x hx).s4
 refine V3 (KN (X:=tx r++tx hs) (Y:=nF r++nF hs) hs1.can ht.can (hs1.lim.mono (λc h=>List.mem_append_left _ h) (λc h=>List.mem_append_left _ h)) (ht.lim.mono (λc h=>List.mem_append_right _ h) (λc h=>List.mem_append_right _ h))
  (by grind [bO,tA]) (by grind [bO,oW]) hz hN) (λu hu=>?_)
 exact k u ⟨hu.can,λx y=>by rw[hu.cover,hs1.cover,ht.cover],hu.lim⟩
def cK:Nat->aL (aL<|aL aB)->aL aI
 |_,[]=>[]
 |k,ps::r=>ps.map (λp=>⟨(k:Int),p,aT p⟩)++cK (k+1) r
theorem yv(ps:aL (aL aB)):∀(r:aL (aL<|aL aB))(k:Nat),cK k (r++[ps])=cK k r++ps.map (λp=>⟨((k+r.length:Nat):Int),p,aT p⟩)
 | [],k=>by unfold cK;simp[cK]
 |q::r,k=>by
  show _++cK (k+1) (r++[ps])=(_++cK (k+1) r)++_;rw[yv ps r<|k+1,dL];congr 3;simp only[fQ];rw[show k+(r.length+1)=k+1+r.length by omega]
theorem C5{s p:aL aB}{ps:aL (aL aB)}{r:Nat->Nat}{X Y:aL Int}(h:um s r ps)(hc:fE (s.map cH))(hl:yL X Y (s.map cH))(hX:∀c∈X,small c)(hY:∀c∈Y,small c)(hp:p∈ps):
  ∃j k:Nat,ps[j]? =some p/\(cD (aT s).length r)[j]? =some k/\su (nI (aT s) (aT s).length r k) p/\yL X Y (p.map cH):=by
 obtain⟨j,hj⟩:=fA hp;have hjl:=(bN.1 hj).1;rw[h.len]at hjl;have hh:(cD (aT s).length r)[j]? =some (cD (aT s).length r)[j]:=aM hjl;have hs:=h.each j _ p hh hj;refine⟨j,_,hj,hh,hs,hs.lim.mono (λc hcx=>?_)<|λc hcx=>?_⟩
 ·obtain⟨x,hx,hxc⟩:=tz.1 hcx;obtain⟨i,_,_,hi⟩:=oY.1 hx;have:=CT hc hl hX hY x<|gA hi
  grind
 ·obtain⟨x,hx,hxc⟩:=nG.1 hcx;obtain⟨i,_,_,hi⟩:=oY.1 hx;have:=CT hc hl hX hY x<|gA hi
  grind
structure yw (cs:aL (aL aK)) (bs:aL cL) (k:Nat) (kC:aL (aL aB)) (eU:aL (aL (aL aB))):Prop where
 len:kC.length=k
 FH:eU.length=k
 dr:∀(i:Nat)r s,i<k->cs[i]? =some r->kC[i]? =some s->w5 r (qM bs (i:Int)) s
 pt:∀(i:Nat)s ps,i<k->kC[i]? =some s->eU[i]? =some ps->∃u,um s u ps
 Ew:(cK 0 eU).length<=k*25000000
theorem um.Ew{s:aL aB}{u:Nat->Nat}{ps:aL (aL aB)}(h:um s u ps):ps.length<=(aT s).length:=by
 rw[h.len];exact pF _ _
theorem IH{cs:aL (aL aK)}{bs:aL cL}(hcs:cs.length<=16)(hc:∀r∈cs,r.length<=2000/\∀x∈r,HN x)(hb:pG bs)(hN:nb N):
  Ok (jU N cs bs [] []) (λx=>∃eU,yw cs bs cs.length x.2.1 eU/\x.2.2=cK 0 eU/\(x.1=true↔(∀s∈x.2.1,(aT s).length<=2000)/\x.2.2.length<=2000)):=by
 unfold jU
 refine V3 (P:=λ(st:aL (aL aB)×aL aI×Bool)=>∃eU,yw cs bs cs.length st.1 eU/\st.2.1=cK 0 eU/\(st.2.2=true↔∀s∈st.1,(aT s).length<=2000)) (WK (λ(k:Nat)(st:aL (aL aB)×aL aI×Bool)=>∃eU,yw cs bs k st.1 eU/\st.2.1=cK 0 eU/\(st.2.2=true↔∀s∈st.1,(aT s).length<=2000)) (by omega)
  ⟨[],⟨rfl,rfl,λi r s hi=>by omega,λi s ps hi=>by omega,by simp[cK]⟩,rfl,by simp⟩ (λk st hk hI=>?_)) ?_
 ·obtain⟨kC,pcs,okk⟩:=st;obtain⟨eU,D,e1,e2⟩:=hI;dsimp only at D e1 e2 ⊢;subst e1;have hkx:cs[k]? =some cs[k]:=aM hk;obtain⟨hr1,hr2⟩:=hc _<|cS hk
  refine Wu hkx ?_;refine V3 (P:=λt=>t=qM bs ((k:Nat):Int)) (Ok.mono (WK (λj t=>t=qM (bs.take j) ((k:Nat):Int)) (by have:=hb.len;omega) rfl<|λj t hj e=>?_) (λt e=>by rw[e,g8]))<|λt e=>?_
  ·subst e;refine WO hj<|VT (C4 _ _) ?_
   have hts:bs.take (j+1)=bs.take j++[bs[j]]:=eO hj;have hgb:=hb.ok _<|cS hj
   have hl:(qM (bs.take j) ((k:Nat):Int)).length<=500:=by
    unfold qM;rw[iM];have:=me (λb=>nL b ((k:Nat):Int))<|bs.take j
    rw[dD]at this;have:=hb.len;omega
   cases ht:nL bs[j] ((k:Nat):Int)with
   |false=>
    grind [VT,VV,qM]
   |true=>
    rw[aQ]
    grind [VT,qM,oq,aA,gK,VV]
  ·subst e;have hho:=zM hb ((k:Nat):Int);have hhl:=Ev hb ((k:Nat):Int);refine DR hr1 hr2 hhl (λx hx=>(hho x hx).1) hN<|λs hs=>?_
   obtain⟨sx,sy⟩:=hs.small hr2<|λx hx=>(hho x hx).1
   obtain⟨z1,z2,z3⟩:=AF (A:=5000) hs.can hs.lim (by grind [bO,tA]) (by grind [bO,oW]);have hmany:=Oz (N:=N) (s:=s) (by omega) (λb hb=>by grind) (by omega);refine VT (x:=(okk&&decide ((aT s).length<=2000),s)) ?_ ?_
   ·grind [aA,decide,aT]
   dsimp only;refine W3 (by rw[D.len];simp;omega) ?_;refine V3 (IC (N:=N) hs.can hs.lim sx sy (by omega) (λb hb=>by grind) (by omega) hN) ?_;rintro ps⟨u,hu⟩;have hfew:=hu.Ew;have hk16:k*25000000<=16*25000000:=Nat.mul_le_mul_right _ (by omega);have hDf:=D.Ew;refine V3 (P:=λt=>t=cK 0 eU++ps.map (λp=>(⟨((k:Nat):Int),p,aT p⟩:aI))) (Ok.mono (WK (λj t=>t=cK 0 eU++(ps.take j).map (λp=>(⟨((k:Nat):Int),p,aT p⟩:aI))) (by omega) (by simp)<|λj t hj e=>?_) (λt e=>by rw[e,g8]))<|λt e=>VV ?_
   ·subst e;have hjx:ps[j]? =some ps[j]:=aM hj;refine Wu hjx ?_;obtain⟨_,_,_,_,nR,hpl⟩:=C5 hu hs.can hs.lim sx sy<|cS hj
    obtain⟨y1,y2,y3⟩:=AF (A:=5000) nR.can hpl (by grind [bO,tA]) (by grind [bO,oW]);refine VT (CS (tD nR.can) (by omega) (λb hb=>by grind) (by omega))<|W3 ?_<|VV ?_
    ·grind
    grind [eO,dL]
   ·subst e;refine⟨eU++[ps],⟨by simp[D.len],by simp[D.FH],λi r s' hi hr hs'=>?_,λi s' ps' hi hs' hps'=>?_,?_⟩,?_,?_⟩
    ·dsimp only at hs'
     by_cases hik:i<k
     ·rw[gD (by rw[D.len];exact hik)]at hs';exact D.dr i r s' hik hr hs'
     ·have:i=k:=by omega
      subst this;rw[fZ (by rw[D.len];omega),D.len,Nat.sub_self]at hs';simp at hs';subst hs';rw[hkx]at hr;injection hr with hr;subst hr
      exact hs
    ·dsimp only at hs'
     by_cases hik:i<k
     ·rw[gD (by rw[D.len];exact hik)]at hs';rw[gD (by rw[D.FH];exact hik)]at hps';exact D.pt i s' ps' hik hs' hps'
     ·have:i=k:=by omega
      subst this;rw[fZ (by rw[D.len];omega),D.len,Nat.sub_self]at hs';rw[fZ (by rw[D.FH];omega),D.FH,Nat.sub_self]at hps';simp at hs' hps';subst hs';subst hps';exact⟨u,hu⟩
    ·rw[yv,bO,iM];omega
    ·dsimp only;rw[yv,D.FH,gL]
    ·dsimp only;rw[dB,e2,dP];constructor
     ·rintro⟨h1,h2⟩s' hs'
      rcases dJ.1 hs' with h|h
      ·exact h1 s' h
      ·simp at h;subst h;exact h2
     ·intro h;exact⟨λs' hs'=>h s'<|List.mem_append_left _ hs',h s (by simp)⟩
 ·rintro⟨kC,pcs,okk⟩⟨eU,D,e1,e2⟩;dsimp only at D e1 e2 ⊢;subst e1;refine V3 (P:=λb=>b=true↔(∀s∈kC,(aT s).length<=2000)/\(cK 0 eU).length<=2000) (WE (λh=>VV ?_)<|λh=>VV ?_)<|λb hb=>VV ⟨eU,D,rfl,hb⟩
  ·rw[dP];constructor
   ·intro h';exact⟨e2.1 h,by omega⟩
   ·rintro⟨_,h'⟩;omega
  ·constructor
   ·intro h';cases h'
   ·rintro⟨h',_⟩;rw[e2.2 h']at h;cases h
end
section
variable {N:Nat}
section
variable {α:Type}
def wo(P:α->Bool)(l:aL α)(n:Nat):aL Nat:=(List.range n).filter<|λk=>(l[k]?).any P
theorem II{P:α->Bool}{l:aL α}{n:Nat}{x:α}(h:l[n]? =some x):wo P l (n+1)=if P x=true then wo P l n++[n]else wo P l n:=by
 grind [wo,List.range_succ]
theorem Ex(P:α->Bool)(l:aL α)(n:Nat):(wo P l n).length<=n:=by
 have:=me (λk=>(l[k]?).any P)<|List.range n
 rw[List.length_range]at this;exact this
theorem KX{P:α->Bool}{l:aL α}{n k:Nat}:k∈wo P l n↔k<n/\(l[k]?).any P=true:=by simp[wo]
theorem zN{β:Type}{l:aL α}(P:α->Bool)(g:Nat->β):l8 l.length (λk=>(l[k]?).bind λx=>if P x=true then some (g k)else none)=(l.findIdx? P).map g:=by
 cases h:l.findIdx? P with
 |none=>
  grind [List.findIdx?_eq_none_iff,ki,aM,cS]
 |some j=>
  obtain⟨hj,hp,hn⟩:=List.findIdx?_eq_some_iff_getElem.1 h;refine kj.2 ⟨j,hj,by grind,λi hi=>?_⟩
  grind
end
def ints(l:aL Nat):aL Int:=l.map λi=>((i:Nat):Int)
theorem wq(l m:aL Nat):ints (l++m)=ints l++ints m:=gC
theorem nM(l:aL Nat):(ints l).length=l.length:=iM _
theorem C6{l:aL Nat}{x:Int}:x∈ints l↔∃i∈l,x=((i:Nat):Int):=by
 grind [ints]
def JS(p0 p1:aK):Bool:=(((decide (p0.X0<p1.X1)&&decide (p1.X0<p0.X1))&&((p0.Y1==p1.Y0)||(p1.Y1==p0.Y0)))||((decide (p0.Y0<p1.Y1)&&decide (p1.Y0<p0.Y1))&&((p0.X1==p1.X0)||(p1.X1==p0.X0))))
def o6(b:cL)(p:aI):Bool:=b.jo&&(nL b p.dI&&p.iU.any (λr=>JS r<|C0 b))
def lj(bs:aL cL)(pcs:aL aI):aL (aL Int):=bs.map λb=>ints<|wo (o6 b) pcs pcs.length
theorem sB{l:aL aK}{φ:aK->aU Bool}(p:aK->Bool)(hl:l.length<=4611686018427387904)(h:∀x∈l,φ x=some (p x)):gJ N l φ=some (l.any p):=
 mY p hl h
theorem MO{bs:aL cL}{pcs:aL aI}(hb:pG bs)(hp:pcs.length<=1073741824)(hr:∀p∈pcs,p.iU.length<=1073741824):jV N bs pcs []=some (lj bs pcs):=by
 refine W9 ?_;have hbl:=hb.len;unfold jV;refine V3 (WK (λk st=>st=lj (bs.take k) pcs) (by omega) rfl<|λk st hk e=>?_)<|λst e=>VV (by rw[e,g8])
 subst e;have hg:=hb.ok _<|cS hk
 refine WO hk ?_;refine V3 (P:=λt=>t=ints (wo (o6 bs[k]) pcs pcs.length)) (WK (λj t=>t=ints (wo (o6 bs[k]) pcs j)) (by omega) rfl<|λj t hj e=>?_)<|λt e=>?_
 ·subst e;have hjx:pcs[j]? =some pcs[j]:=aM hj;have hl:=Ex (o6 bs[k]) pcs j;refine Wu hjx ?_;refine VT (x:=o6 bs[k] pcs[j]) ?_ ?_
  ·unfold o6
   cases bs[k].jo with
   |false=>rfl
   |true=>
    rw[aQ,C4,aA,Bool.true_and]
    cases nL bs[k] pcs[j].dI with
    |false=>rfl
    |true=>
     rw[aQ,sB (λr=>JS r (C0 bs[k])) (by grind) (λr _=>by
      unfold j9;rw[oq hg.1];rfl),aA,Bool.true_and]
  ·rw[II hjx]
   cases ht:o6 bs[k] pcs[j]with
   |false=>simp[aP,aF,VT,VV]
   |true=>
    rw[aQ,aH rfl]
    grind [VT,ints,wo,o6,gK,nM,aA,VV,wq]
 grind [W3,VV,lj,eO]
def Hg(r:aL aK)(p:eR):Bool:=r.any<|λx=>decide (p.X>=x.X0)&&(decide (p.X<x.X1)&&(decide (p.Y>=x.Y0)&&decide (p.Y<x.Y1)))
theorem zO{r:aL aK}{p:eR}(hl:r.length<=4611686018427387904):kh N r p=some (Hg r p):=by
 unfold kh
 rw[sB (λx=>decide (p.X>=x.X0)&&(decide (p.X<x.X1)&&(decide (p.Y>=x.Y0)&&decide (p.Y<x.Y1)))) hl (λx _=>by
  grind [ly,decide])];rfl
def yx(l:cW)(b:cL):Bool:=b.jo&&(nL b l.dI&&Hg [C0 b] l.At)
def zP(l:cW)(p:aI):Bool:=(p.dI==l.dI)&&Hg p.iU l.At
def r7(bs:aL cL)(pcs:aL aI)(l:cW):aU fN:=match bs.findIdx? (yx l)with
 |some k=>some ⟨true,((k:Nat):Int)⟩
 |none=>(pcs.findIdx? (zP l)).map λk=>⟨false,((k:Nat):Int)⟩
theorem MP{bs:aL cL}{pcs:aL aI}(hb:pG bs)(hp:pcs.length<=1073741824)(hr:∀p∈pcs,p.iU.length<=1073741824)(l:cW):
  jX N bs pcs l=some ((r7 bs pcs l).getD ⟨false,0⟩,(r7 bs pcs l).isSome):=by
 have hbl:=hb.len;unfold jX
 rw[lN (λk=>(bs[k]?).bind λx=>if yx l x=true then some ((⟨true,((k:Nat):Int)⟩:fN),true)else none) (by omega) (λk hk _=>by
  have hkx:bs[k]? =some bs[k]:=aM hk;have hg:=hb.ok _<|cS hk
  rw[cG hkx,aA,hkx,oq hg.1,aA,aA,zO (by simp)];unfold yx
  cases bs[k].jo with
  |false=>rfl
  |true=>
   show(((bif nL bs[k] l.dI then _ else _:aU Bool)).bind _)=_
   cases nL bs[k] l.dI with
   |false=>rfl
   |true=>
    cases Hg [C0 bs[k]] l.At <;> rfl),aA,zN (yx l) (λk=>((⟨true,((k:Nat):Int)⟩:fN),true))]
 unfold r7
 cases bs.findIdx? (yx l)with
 |some k=>rfl
 |none=>
  show((qp pcs.length _ ()).bind _)=_
  rw[lN (λk=>(pcs[k]?).bind λx=>if zP l x=true then some ((⟨false,((k:Nat):Int)⟩:fN),true)else none) (by omega) (λk hk _=>by
   have hkx:pcs[k]? =some pcs[k]:=aM hk;rw[cG hkx,aA,hkx,aA,zO (by have:=hr _<|cS hk;omega)];unfold zP
   cases pcs[k].dI==l.dI with
   |false=>rfl
   |true=>cases Hg pcs[k].iU l.At <;> rfl),aA,zN (zP l) (λk=>((⟨false,((k:Nat):Int)⟩:fN),true))]
  cases pcs.findIdx? (zP l) <;> rfl
def Lk(n:Nat)(tch:aL (aL Int))(i j:Nat):Prop:=∃(k:Nat)(l:aL Int),tch[k]? =some l/\(i:Int)∈l/\j=n+k
structure DS (n m:Nat) (tch:aL (aL Int)) (r:Nat->Nat):Prop where
 le:∀i,i<n+m->r i<=i
 rr:∀i,i<n+m->r (r i)=r i
 co:∀i j,Lk n tch i j->r i=r j
 fi:∀S:Nat->Prop,(∀i j,Lk n tch i j->(S i↔S j))->∀i j,i<n+m->j<n+m->r i=r j->S i->S j
theorem Ey{n m:Nat}{tch:aL (aL Int)}(hm:tch.length=m)(ht:∀l∈tch,l.length<=1073741824/\∀x∈l,∃i:Nat,i<n/\x=((i:Nat):Int))(hn:n<=1073741824)(hm2:m<=1073741824){up:aL Int}(hu:UF (n+m) up (λi=>i))(hN:nb N):
  Ok (jy tch.length (λ(k34:Nat)(s35:aL Int)=>((idx tch (k34:Int)).bind λx89=>(jy x89.length (λ(k92:Nat)(s93:aL Int)=>((idx x89 (k92:Int)).bind λx107=>(dS N s93 x107<|wrap .i64<|(n:Int)+(k34:Int)).bind λx109=>some x109:aU (aL Int))) s35).bind λs93=>some s93:aU (aL Int))) up)
   (λup'=>∃r,UF (n+m) up' r/\DS n m tch r):=by
 have base:Ok (jy tch.length (λ(k34:Nat)(s35:aL Int)=>((idx tch (k34:Int)).bind λx89=>(jy x89.length (λ(k92:Nat)(s93:aL Int)=>((idx x89 (k92:Int)).bind λx107=>(dS N s93 x107<|wrap .i64<|(n:Int)+(k34:Int)).bind λx109=>some x109:aU (aL Int))) s35).bind λs93=>some s93:aU (aL Int))) up)
   (λup'=>∃r E,UF (n+m) up' r/\qF r E/\Bt (n+m) r E/\(∀p∈E,Lk n tch p.1 p.2)/\∀(k:Nat)l(i:Nat),k<tch.length->tch[k]? =some l->((i:Nat):Int)∈l->(i,n+k)∈E):=by
  refine WK (λq up'=>∃r E,UF (n+m) up' r/\qF r E/\Bt (n+m) r E/\(∀p∈E,Lk n tch p.1 p.2)/\∀(k:Nat)l(i:Nat),k<q->tch[k]? =some l->((i:Nat):Int)∈l->(i,n+k)∈E) (by omega)
   ⟨_,_,hu,qF.id,Bt.id _,λp hp=>(by cases hp),λk l i hk=>by omega⟩ (λq up' hq hI=>?_)
  obtain⟨r,E,h1,h2,h3,h4,h5⟩:=hI;have hqx:tch[q]? =some tch[q]:=aM hq;obtain⟨hl1,hl2⟩:=ht _<|cS hq
  refine Wu hqx ?_;rw[wrap_add (by omega)]
  refine V3 (WK (λt up'=>∃r E,UF (n+m) up' r/\qF r E/\Bt (n+m) r E/\(∀p∈E,Lk n tch p.1 p.2)/\(∀(k:Nat)l(i:Nat),k<q->tch[k]? =some l->((i:Nat):Int)∈l->(i,n+k)∈E)/\∀i:Nat,((i:Nat):Int)∈tch[q].take t->(i,n+q)∈E) (by omega)
   ⟨r,E,h1,h2,h3,h4,h5,λi hi=>by simp at hi⟩ (λt up' htl hI=>?_)) (λup' hI=>VV ?_)
  ·obtain⟨r,E,h1,h2,h3,h4,h5,h6⟩:=hI;refine WO htl ?_;obtain⟨i,hi,e⟩:=hl2 _<|cS htl
   rw[e];obtain⟨u2,a1,a2⟩:=JO (N:=N) h1 (i:=i) (k:=n+q) (by omega) (by omega) (by omega);refine VT a1<|VV ⟨_,_,a2,h2.join i (n+q)<|h1.rr i (by omega),h3.join (by omega) (by omega),λp hp=>?_,λk l j hk hl hj=>List.mem_append_left _<|h5 k l j hk hl hj,λj hj=>?_⟩
   ·rcases dJ.1 hp with hp|hp
    ·exact h4 p hp
    ·simp at hp;subst hp;exact⟨q,tch[q],hqx,by grind,rfl⟩
   ·rw[eO htl,dJ]at hj
    rcases hj with hj|hj
    ·exact List.mem_append_left _<|h6 j hj
    ·rw[pJ,e]at hj;have:j=i:=by omega
     subst this;simp
  ·obtain⟨r,E,h1,h2,h3,h4,h5,h6⟩:=hI;refine⟨r,E,h1,h2,h3,h4,λk l i hk hl hi=>?_⟩
   by_cases hkq:k<q
   ·exact h5 k l i hkq hl hi
   ·have:k=q:=by omega
    subst this;rw[hqx]at hl;injection hl with hl;subst hl
    exact h6 i (by grind)
 obtain⟨up',e,r,E,h1,h2,h3,h4,h5⟩:=base;have hE:∀i j,Lk n tch i j->(i,j)∈E:=λi j⟨k,l,hl,hi,hj⟩=>by
  grind
 exact⟨up',e,r,h1,h1.le,h1.rr,λi j h=>h2 (i,j)<|hE i j h,λS hS i j hi hj=>h3 S (λp hp=>hS p.1 p.2<|h4 p hp) i j hi hj⟩
def DT(bs:aL cL)(j:Nat):Bool:=(bs[j]?).any<|λb=>b.jo
def gP(n:Nat)(c:aL Nat):aL Nat:=c.filter<|λi=>decide<|i<n
def gB(bs:aL cL)(n:Nat)(c:aL Nat):aL Nat:=(c.filter<|λi=> !decide (i<n)&&DT bs (i - n)).map<|λi=>i - n
def MQ(bs:aL cL)(n:Nat)(c:aL Nat):Bool:=decide<|0<(gP n c).length+(gB bs n c).length
def Vc(bs:aL cL)(n:Nat)(c:aL Nat):bM:=⟨ints<|gP n c,ints<|gB bs n c,[]⟩
theorem JT(n:Nat)(c:aL Nat)(i:Nat):gP n (c++[i])=if i<n then gP n c++[i]else gP n c:=by
 unfold gP;grind
theorem JU(bs:aL cL)(n:Nat)(c:aL Nat)(i:Nat):gB bs n (c++[i])=if i<n then gB bs n c else if DT bs (i - n)=true then gB bs n c++[i - n]else gB bs n c:=by
 unfold gB;grind
theorem IJ(n:Nat)(c:aL Nat):(gP n c).length<=c.length:=me _ _
theorem IK(bs:aL cL)(n:Nat)(c:aL Nat):(gB bs n c).length<=c.length:=by unfold gB;grind
def live(bs:aL cL)(n t:Nat)(r:Nat->Nat)(hs:aL Nat):aL Nat:=hs.filter<|λh=>MQ bs n<|cls t r h
def tE(bs:aL cL)(n t:Nat)(r:Nat->Nat)(hs:aL Nat):aL bM:=(live bs n t r hs).map<|λh=>Vc bs n<|cls t r h
theorem KY(bs:aL cL)(n t:Nat)(r:Nat->Nat)(hs:aL Nat)(h:Nat):live bs n t r (hs++[h])=if MQ bs n (cls t r h)=true then live bs n t r hs++[h]else live bs n t r hs:=by
 grind [live]
theorem wt(bs:aL cL)(n t:Nat)(r:Nat->Nat)(hs:aL Nat):(tE bs n t r hs).length=(live bs n t r hs).length:=by simp[tE,iM]
def gi(bs:aL cL)(n t:Nat)(r:Nat->Nat)(h:Nat):Nat:=(live bs n t r<|(cD t r).takeWhile<|λx=>decide<|x≠h).length
theorem xS{l:aL Nat}(hn:l.Nodup){k h:Nat}(hk:l[k]? =some h):l.takeWhile (λx=>decide<|x≠h)=l.take k:=by
 induction l generalizing k with
 |nil=>simp at hk
 |cons a l ih=>
  cases k with
  |zero=>simp_all
  |succ k=>
   grind [List.nodup_cons,gA,List.takeWhile_cons]
theorem uq(bs:aL cL)(n t:Nat)(r:Nat->Nat)(hs:aL Nat):(live bs n t r hs).length<=hs.length:=me _ _
theorem JV{bs:aL cL}{n t:Nat}{r:Nat->Nat}{h:Nat}(hh:h∈cD t r)(hne:MQ bs n (cls t r h)=true):gi bs n t r h<(live bs n t r<|cD t r).length/\(live bs n t r<|cD t r)[gi bs n t r h]? =some h:=by
 obtain⟨k,hk⟩:=fA hh;have hkl:=(bN.1 hk).1;unfold gi;rw[xS (om t r) hk]
 grind [cD,List.take_append_drop,oy,bN,live]
end
section
variable {N:Nat}
theorem Ez{l:aL Nat}(h:l.Nodup){i j a:Nat}(hi:l[i]? =some a)(hj:l[j]? =some a):i=j:=
 by grind [List.getElem_inj,bN]
theorem w6{n i k:Nat}{r:Nat->Nat}:i∈cls n r k↔i<n/\r i=k:=by simp[cls]
theorem EA(n:Nat)(r:Nat->Nat)(k:Nat):(cls n r k).Nodup:=List.Nodup.sublist List.filter_sublist List.nodup_range
structure S3 (bs:aL cL) (n m:Nat) (r:Nat->Nat) (hs:aL Nat) (ofP ofB:aL Int):Prop where
 lp:ofP.length=n
 lb:ofB.length=m
 pc:∀i,i<n->r i∈hs->ofP[i]? =some ((gi bs n (n+m) r (r i):Nat):Int)
 bo:∀j,j<m->r (n+j)∈hs->ofB[j]? =some (if DT bs j=true then((gi bs n (n+m) r (r<|n+j):Nat):Int)else -1)
theorem Hh{bs:aL cL}{n m:Nat}{r:Nat->Nat}(hm:bs.length=m)(hn:n<=1073741824)(hm2:m<=1073741824){op ob:aL Int}(hop:op.length=n)(hob:ob.length=m)
  {body:Nat->aL bM×aL Int×aL Int->aU (aL bM×aL Int×aL Int)}
  (hbody:body=(λ(k123:Nat)(s124:aL bM×aL Int×aL Int)=>((idx (rT (n+m) r) (k123:Int)).bind λx455=>(jy x455.length (λ(k458:Nat)(s459:aL Int×aL Int×aL Int×aL Int)=>((idx x455 (k458:Int)).bind λx556=>(bif decide (x556<(n:Int))then((idx s459.1 x556).bind λx580=>(app 8 s459.2.2.1 ([x556]:aL Int)).bind λx582=>some (s459.1.set (Int.toNat x556) (s124.1.length:Int),s459.2.1,x582,s459.2.2.2))else((idx bs<|wrap .i64<|x556 -(n:Int)).bind λx584=>(bif x584.jo then((idx s459.2.1<|wrap .i64<|x556 -(n:Int)).bind λx594=>(app 8 s459.2.2.2 ([wrap .i64<|x556 -(n:Int)]:aL Int)).bind λx596=>some (s459.2.1.set (Int.toNat<|wrap .i64<|x556 -(n:Int)) (s124.1.length:Int),x596))else((idx s459.2.1<|wrap .i64<|x556 -(n:Int)).bind λx598=>some (s459.2.1.set (Int.toNat<|wrap .i64<|x556 -(n:Int))<|-1,s459.2.2.2))).bind λs592=>some (s459.1,s592.1,s459.2.2.1,s592.2))).bind λs577=>some (s577.1,s577.2.1,s577.2.2.1,s577.2.2.2):aU (aL Int×aL Int×aL Int×aL Int))) (s124.2.1,s124.2.2,([]:aL Int),([]:aL Int))).bind λs459=>(bif decide (wrap .i64 ((s459.2.2.1.length:Int)+(s459.2.2.2.length:Int))>0)then((app 72 s124.1 [(⟨s459.2.2.1,s459.2.2.2,([]:aL bZ)⟩:bM)]).bind λx610=>some x610)else some s124.1).bind λs606=>some (s606,s459.1,s459.2.1):aU (aL bM×aL Int×aL Int)))):
  Ok (jy (rT (n+m) r).length body ([],op,ob)) (λst=>st.1=tE bs n (n+m) r (cD (n+m) r)/\S3 bs n m r (cD (n+m) r) st.2.1 st.2.2):=by
 subst hbody;have hsl:(rT (n+m) r).length=(cD (n+m) r).length:=by simp[rT]
 have hhl:=pF (n+m) r;refine Ok.mono (WK (λ(k:Nat)(st:aL bM×aL Int×aL Int)=>st.1=tE bs n (n+m) r ((cD (n+m) r).take k)/\S3 bs n m r ((cD (n+m) r).take k) st.2.1 st.2.2) (by omega) ⟨rfl,hop,hob,λi hi h=>by simp at h,λj hj h=>by simp at h⟩<|λk st hk hI=>?_) (λst h=>by grind);obtain⟨gs,ofP,ofB⟩:=st;obtain⟨e1,I⟩:=hI;dsimp only at e1 I ⊢;subst e1;rw[hsl]at hk;have hkx:(cD (n+m) r)[k]? =some (cD (n+m) r)[k]:=aM hk;have hts:(cD (n+m) r).take (k+1)=(cD (n+m) r).take k++[(cD (n+m) r)[k]]:=eO hk;have hgk:gi bs n (n+m) r (cD (n+m) r)[k]=(tE bs n (n+m) r<|(cD (n+m) r).take k).length:=by
  unfold gi;grind [xS,om,wt]
 generalize hh:(cD (n+m) r)[k]=h at *;have hsx:(rT (n+m) r)[k]? =some (ints<|cls (n+m) r h):=by unfold rT;rw[kl,hkx];rfl
 refine Wu hsx ?_;have hcl:=BP (n+m) r h;rw[nM];have hgl:(tE bs n (n+m) r<|(cD (n+m) r).take k).length<=n+m:=by
  grind [wt,uq,cD,dD]
 have hold:∀i∈cls (n+m) r h,∀i',r i'∈(cD (n+m) r).take k->i≠i':=λi hi i' hi' e=>by
  grind [w6,fA,bN,dD,List.getElem?_take_of_lt,Ez,om]
 refine V3 (P:=λs'=>S3 bs n m r ((cD (n+m) r).take (k+1)) s'.1 s'.2.1/\s'.2.2.1=ints (gP n (cls (n+m) r h))/\s'.2.2.2=ints (gB bs n (cls (n+m) r h))) (Ok.mono (WK
  (λ(t:Nat)(s':aL Int×aL Int×aL Int×aL Int)=>S3 bs n m r ((cD (n+m) r).take k) s'.1 s'.2.1/\s'.2.2.1=ints (gP n ((cls (n+m) r h).take t))/\s'.2.2.2=ints (gB bs n ((cls (n+m) r h).take t))/\
   (∀i∈(cls (n+m) r h).take t,i<n->s'.1[i]? =some ((gi bs n (n+m) r h:Nat):Int))/\∀i∈(cls (n+m) r h).take t,¬i<n->s'.2.1[i - n]? =some (if DT bs (i - n)=true then((gi bs n (n+m) r h:Nat):Int)else -1)) (by omega)
   ⟨I,rfl,rfl,λi hi=>by simp at hi,λi hi=>by simp at hi⟩ (λt s' ht hI'=>?_)) ?_) ?_
 ·obtain⟨oP,oB,pp,bb⟩:=s';obtain⟨J,e2,e3,J1,J2⟩:=hI';dsimp only at J e2 e3 J1 J2 ⊢;subst e2;subst e3;have htx:(ints<|cls (n+m) r h)[t]? =some (((cls (n+m) r h)[t]:Nat):Int):=by unfold ints;rw[kl,aM ht];rfl
  refine Wu htx ?_;have htt:(cls (n+m) r h).take (t+1)=(cls (n+m) r h).take t++[(cls (n+m) r h)[t]]:=eO ht;have hcm:=cS ht;have hdist:∀i∈(cls (n+m) r h).take t,i≠(cls (n+m) r h)[t]:=λi hi e=>by
   obtain⟨j,hj⟩:=fA hi;have hjt:j<t:=by have:=(bN.1 hj).1;rw[dD]at this;omega
   rw[List.getElem?_take_of_lt hjt]at hj;have:=Ez (EA (n+m) r h) hj (by rw[e];exact aM ht);omega
  generalize (cls (n+m) r h)[t]=c at *;obtain⟨hc1,hc2⟩:=w6.1 hcm;have hgp:=IJ n<|(cls (n+m) r h).take t
  have hgb:=IK bs n<|(cls (n+m) r h).take t
  rw[dD]at hgp hgb
  by_cases hcn:c<n
  ·rw[bU (by omega:(c:Int)<(n:Int)),aQ];refine V3 (P:=λx=>x=(oP.set c ((gi bs n (n+m) r h:Nat):Int),oB,ints (gP n<|(cls (n+m) r h).take t)++[(c:Int)],ints<|gB bs n<|(cls (n+m) r h).take t)) ?_ ?_
   ·refine WO (by rw[J.lp];exact hcn)<|W3 (by rw[nM];simp;omega)<|VV ?_
    rw[cR,hgk]
   ·rintro _ rfl;refine VV ⟨⟨by simp[J.lp],J.lb,λi hi hr=>?_,J.bo⟩,?_,?_,λi hi hin=>?_,λi hi hin=>?_⟩
    ·dsimp only;rw[oX (by rw[J.lp];exact hcn),aF<|λe=>hold c hcm i hr e.symm];exact J.pc i hi hr
    ·dsimp only;rw[htt,JT,aH hcn,wq];rfl
    ·dsimp only;rw[htt,JU,aH hcn]
    ·dsimp only;rw[oX (by rw[J.lp];exact hcn)];split
     ·rfl
     ·rename_i hne;rw[htt]at hi
      rcases dJ.1 hi with hi|hi
      ·exact J1 i hi hin
      ·exact absurd (by simpa using hi) hne
    ·rw[htt]at hi
     rcases dJ.1 hi with hi|hi
     ·exact J2 i hi hin
     ·have:i=c:=by simpa using hi
      subst this;exact absurd hcn hin
  ·rw[bS (by omega:¬(c:Int)<(n:Int)),aP];have hw:wrap .i64 ((c:Int) -(n:Int))=((c - n:Nat):Int):=by rw[fB (by omega) (by omega)];omega
   have hcm2:c - n<bs.length:=by omega
   have hpl:DT bs (c - n)=bs[c - n].jo:=by unfold DT;rw[aM hcm2];rfl
   rw[hw];refine V3 (P:=λx=>x=(oP,oB.set (c - n) (if DT bs (c - n)=true then((gi bs n (n+m) r h:Nat):Int)else -1),ints<|gP n<|(cls (n+m) r h).take t,ints<|gB bs n<|(cls (n+m) r h).take t++[c])) ?_ ?_
   ·refine WO hcm2 ?_;rw[JU,aF hcn,hpl]
    cases hp:bs[c - n].jo with
    |true=>
     rw[aQ,aH rfl,aH rfl];refine VT (x:=(oB.set (c - n) ((gi bs n (n+m) r h:Nat):Int),ints<|gB bs n ((cls (n+m) r h).take t)++[c - n])) ?_<|VV rfl
     rw[ji _ _ (by rw[J.lb];omega),aA,gK (by rw[nM];simp;omega),aA,cR,hgk,wq];rfl
    |false=>
     rw[aP,aF (by simp),aF (by simp)];refine VT (x:=(oB.set (c - n)<|-1,ints<|gB bs n<|(cls (n+m) r h).take t)) ?_<|VV rfl
     rw[ji _ _ (by rw[J.lb];omega),aA,cR]
   ·rintro _ rfl;refine VV ⟨⟨J.lp,by simp[J.lb],J.pc,λj hj hr=>?_⟩,?_,?_,λi hi hin=>?_,λi hi hin=>?_⟩
    ·dsimp only;rw[oX (by rw[J.lb];omega),aF<|λe=>hold c hcm (n+j) hr (by omega)];exact J.bo j hj hr
    ·dsimp only;rw[htt,JT,aF hcn]
    ·dsimp only;rw[htt]
    ·rw[htt]at hi
     rcases dJ.1 hi with hi|hi
     ·exact J1 i hi hin
     ·have:i=c:=by simpa using hi
      subst this;exact absurd hin hcn
    ·dsimp only;rw[oX (by rw[J.lb];omega)];split
     ·rename_i e;rw[e]
     ·rename_i hne;rw[htt]at hi
      rcases dJ.1 hi with hi|hi
      ·exact J2 i hi hin
      ·exact absurd (by have:i=c:=(by simpa using hi);rw[this]) hne
 ·rintro⟨oP,oB,pp,bb⟩⟨J,e2,e3,J1,J2⟩;dsimp only at J e2 e3 J1 J2 ⊢;rw[g8]at e2 e3 J1 J2;refine⟨⟨J.lp,J.lb,λi hi hr=>?_,λj hj hr=>?_⟩,e2,e3⟩
  ·rw[hts]at hr
   rcases dJ.1 hr with hr|hr
   ·exact J.pc i hi hr
   ·have hr:r i=h:=by simpa using hr
    rw[hr];exact J1 i (w6.2 ⟨by omega,hr⟩) hi
  ·rw[hts]at hr
   rcases dJ.1 hr with hr|hr
   ·exact J.bo j hj hr
   ·have hr:r (n+j)=h:=by simpa using hr
    rw[hr];have:=J2 (n+j) (w6.2 ⟨by omega,hr⟩) (by omega);rwa[Nat.add_sub_cancel_left]at this
 ·rintro⟨oP,oB,pp,bb⟩⟨J,e2,e3⟩;dsimp only at J e2 e3 ⊢;subst e2;subst e3;have hgp:=IJ n<|cls (n+m) r h
  have hgb:=IK bs n<|cls (n+m) r h
  rw[nM,nM,wrap_add (by omega)];have hgs:tE bs n (n+m) r ((cD (n+m) r).take<|k+1)=if MQ bs n (cls (n+m) r h)=true then tE bs n (n+m) r ((cD (n+m) r).take k)++[Vc bs n<|cls (n+m) r h]else tE bs n (n+m) r ((cD (n+m) r).take k):=by
   unfold tE;rw[hts,KY];split
   ·rw[gC];rfl
   ·rfl
  refine V3 (P:=λx=>x=tE bs n (n+m) r ((cD (n+m) r).take<|k+1)) (WE (λhb=>?_)<|λhb=>VV ?_)<|λx e=>VV ⟨e,J⟩
  ·have hne:MQ bs n (cls (n+m) r h)=true:=bU (by have:=of_decide_eq_true hb;omega);refine W3 (by simp;omega)<|VV ?_
   rw[hgs,aH hne];rfl
  ·have hne:¬MQ bs n (cls (n+m) r h)=true:=λh'=>by
    have h1:=of_decide_eq_true h';have h2:=of_decide_eq_false hb;omega
   rw[hgs,aF hne]
end
end Go.Gk
